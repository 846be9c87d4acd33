/-
  Processes' calls in plain words. No program in sight.
  Laws of processes' calls in plain words: what is refused changes nothing; what lies below stays; nobody sees the layers. No program in sight.
  Bounds of what processes' calls keep, in plain words. No program in sight.
  A walk through names, step by step, in plain words. No program in sight.
  Open files changed one after the other, in plain words. No program in sight.
  A clean path leads to itself, in plain words. No program in sight.
  What is open is not lost, in plain words. No program in sight.
-/
import Derived.Test.YtjppfhgkanbemacGreatDoorMB
import Derived.Test.YtjppfhgkanbemacGreatDoorLkPure
namespace Go.Proofs.YtjppfhgkanbemacGreatDoor

/-- A call. -/
structure Ca where
  kind : Int
  owner : Int
  fd : Int
  n : Int
  m : Int
  path : ByteArray
  to : ByteArray
  text : ByteArray
  alone : Bool
/-- An answer. -/
structure An where
  err : Int
  n : Int
  text : ByteArray
  names : List Pt.Bs
/-- A file that is, or was, open: where it is, what it has then, its locks. -/
structure Ob where
  p : ByteArray
  t : ByteArray
  l : List Lk
/-- An open one's: which file, what for, how far, how many numbers. -/
structure De where
  o : Nat
  fl : Int
  at_ : Int
  refs : Int
/-- All: the union, what is seen, the files, those that are open, what leads to them, the owners' numbers. -/
structure St where
  u : Un
  T : List En
  obs : List Ob
  files : List Nat
  des : List De
  fds : List (List (Option Nat))

namespace Ob
def P (o : Ob) : Pt.Bs := o.p.data.toList
end Ob
namespace An
def no (e : Int) : An := ⟨e, 0, ⟨#[]⟩, []⟩
def num (n : Int) : An := ⟨0, n, ⟨#[]⟩, []⟩
def ok : An := no 0
end An

namespace Sy
open Pt Tr

def bit (n : Int) (k : Nat) : Bool := n.toNat.testBit k
def noE : ByteArray := ⟨#[]⟩
def bytesOf (l : Bs) : ByteArray := ⟨l.toArray⟩
def slash (t : ByteArray) : Bool := Lib.hasPrefix t.data.toList [47]
/-- What a link's text leads to: the hops that are left, the names, where from. -/
def hop (go : List Bs → Bs → Bs × Int) (t : ByteArray) (rest : List Bs) (at_ : Bs) : Bs × Int :=
  if (parse t.data.toList).2 ≠ 0 then ([], (parse t.data.toList).2) else go ((parse t.data.toList).1 ++ rest) (if slash t then [] else at_)
def walkN (T : List En) (follow : Bool) (link : ByteArray → List Bs → Bs → Bs × Int) : List Bs → Bs → Bs × Int
  | [], at_ => (at_, 0)
  | n :: rest, at_ =>
    if dirErr T at_ ≠ 0 then ([], dirErr T at_) else
    if n = [46, 46] then walkN T follow link rest (dirOf at_) else
    match get T (join at_ n) with
    | none => if rest ≠ [] then ([], 6) else walkN T follow link rest (join at_ n)
    | some e => if e.k = 3 ∧ (follow = true ∨ rest ≠ []) then link e.t rest at_ else walkN T follow link rest (join at_ n)
/-- Names gone through; h: the hops that are left. -/
def walk (T : List En) (follow : Bool) : Nat → List Bs → Bs → Bs × Int
  | 0 => walkN T follow fun _ _ _ => ([], 12)
  | h + 1 => walkN T follow (hop (walk T follow h))
def find (T : List En) (p : Bs) (follow : Bool) : Bs × Int :=
  if (parse p).2 ≠ 0 then ([], (parse p).2) else
  if (walk T follow 8 (parse p).1 []).2 = 0 ∧ 80 < (walk T follow 8 (parse p).1 []).1.length then ([], 4) else walk T follow 8 (parse p).1 []

/-- A union set, if nothing was wrong. -/
def set (s : St) (r : Un × Int) : St × Int := if r.2 ≠ 0 then (s, r.2) else ({ s with u := r.1, T := (seenU r.1).1 }, (seenU r.1).2)
def fdAt (s : St) (o k : Nat) : Option Nat := ((s.fds.getD o []).getD k none)
def setFd (s : St) (o k : Nat) (v : Option Nat) : St := { s with fds := s.fds.modify o fun r => r.set k v }
/-- The lowest number that is free. -/
def free (s : St) (o : Nat) : Option Nat := (s.fds.getD o []).findIdx? fun x => x.isNone
def obAt (s : St) (i : Nat) : Ob := s.obs.getD i ⟨noE, noE, []⟩
def deAt (s : St) (d : Nat) : De := s.des.getD d ⟨0, 0, 0, 0⟩
def textOf (s : St) (i : Nat) : ByteArray := if (obAt s i).P = [] then (obAt s i).t else match get s.T (obAt s i).P with
  | some e => e.t
  | none => noE
/-- The file at a path: one that is open, or a new one. -/
def opened (s : St) (p : Bs) : St × Nat := match s.files.find? fun i => (obAt s i).P == p with
  | some i => (s, i)
  | none => ({ s with obs := s.obs ++ [⟨bytesOf p, noE, []⟩], files := s.files ++ [s.obs.length] }, s.obs.length)
def fileEn (p : Bs) (t : ByteArray) : En := ⟨bytesOf p, 1, t, false⟩
def badFlags (n : Int) : Bool := decide (n < 1) || decide (63 < n) || (!bit n 0 && !bit n 1) || ((bit n 2 || bit n 5) && !bit n 1) || (bit n 4 && !bit n 3)
/-- What Open does to what is seen. -/
def openSet (s : St) (n : Int) (at_ : Bs) : St × Int := match get s.T at_ with
  | none => if bit n 3 = false then (s, 6) else set s (putU s.u (fileEn at_ noE))
  | some e => if bit n 4 = true then (s, 7) else if e.k = 2 then (s, 9) else if bit n 5 = true ∧ e.t.data.toList ≠ [] then set s (putU s.u (fileEn at_ noE)) else (s, 0)
def callOpen (s : St) (c : Ca) : St × An :=
  if badFlags c.n = true then (s, .no 8) else
  match free s c.owner.toNat with
  | none => (s, .no 5)
  | some k =>
    if (find s.T c.path.data.toList (!bit c.n 4)).2 ≠ 0 then (s, .no (find s.T c.path.data.toList (!bit c.n 4)).2) else
    let at_ := (find s.T c.path.data.toList (!bit c.n 4)).1
    let r := openSet s c.n at_
    if r.2 ≠ 0 then (r.1, .no r.2) else
    let q := opened r.1 at_
    (setFd { q.1 with des := q.1.des ++ [⟨q.2, c.n, 0, 1⟩] } c.owner.toNat k (some q.1.des.length), .num k)
def setOb (s : St) (i : Nat) (f : Ob → Ob) : St := { s with obs := s.obs.modify i f }
def setDe (s : St) (d : Nat) (f : De → De) : St := { s with des := s.des.modify d f }
def write (s : St) (i : Nat) (t : ByteArray) : St × Int :=
  if 100 < t.size then (s, 4) else
  if (obAt s i).P = [] then (setOb s i fun o => { o with t := t }, 0) else
  if t.data.toList = (textOf s i).data.toList then (s, 0) else set s (putU s.u (fileEn (obAt s i).P t))
def sized (t : Bs) (n : Nat) : Bs := t.take n ++ List.replicate (n - t.length) 0
def used (s : St) (i : Nat) : Bool := s.fds.any fun r => r.any fun x => match x with
  | some d => (deAt s d).o == i
  | none => false
def callClose (s : St) (o k d : Nat) : St × An :=
  let s1 := setFd s o k none
  let i := (deAt s d).o
  let s2 := setOb s1 i fun x => { x with l := Lk.leave x.l o }
  let s3 := setDe s2 d fun x => { x with refs := x.refs - 1 }
  (if (deAt s3 d).refs = 0 ∧ used s3 i = false then { s3 with files := s3.files.filter fun j => j != i } else s3, .ok)
def callDup (s : St) (o d : Nat) : St × An := match free s o with
  | none => (s, .no 5)
  | some k => (setDe (setFd s o k (some d)) d fun x => { x with refs := x.refs + 1 }, .num k)
def callSeek (s : St) (d : Nat) (n : Int) : St × An := if n < 0 ∨ 1000 < n then (s, .no 3) else (setDe s d fun x => { x with at_ := n }, .ok)
def callLock (s : St) (c : Ca) (i : Nat) : St × An :=
  let x : Lk := ⟨c.owner, c.n, c.m, c.alone⟩
  let r := if c.kind = 15 then Lk.free (obAt s i).l x else Lk.take (obAt s i).l x
  (if r.2 = 0 then setOb s i fun o => { o with l := r.1 } else s, .no r.2)
def callRead (s : St) (c : Ca) (d : Nat) : St × An :=
  if bit (deAt s d).fl 0 = false then (s, .no 8) else
  if c.n < 0 ∨ 1000 < c.n then (s, .no 3) else
  let t := ((textOf s (deAt s d).o).data.toList.drop (deAt s d).at_.toNat).take c.n.toNat
  (setDe s d fun x => { x with at_ := x.at_ + t.length }, ⟨0, t.length, bytesOf t, []⟩)
def callWrite (s : St) (c : Ca) (d : Nat) : St × An :=
  if bit (deAt s d).fl 1 = false then (s, .no 8) else
  let i := (deAt s d).o
  let t := (textOf s i).data.toList
  if c.kind = 16 then
    if c.n < 0 ∨ 100 < c.n then (s, .no 3) else ((write s i (bytesOf (sized t c.n.toNat))).1, .no (write s i (bytesOf (sized t c.n.toNat))).2)
  else
    let at_ : Nat := if bit (deAt s d).fl 2 = true then t.length else (deAt s d).at_.toNat
    let x := c.text.data.toList
    let end_ := at_ + x.length
    if x = [] then (setDe s d fun y => { y with at_ := at_ }, .ok) else
    if 100 < end_ then (s, .no 4) else
    let long := sized t (max end_ t.length)
    let r := write s i (bytesOf (long.take at_ ++ x ++ long.drop end_))
    if r.2 ≠ 0 then (r.1, .no r.2) else (setDe r.1 d fun y => { y with at_ := end_ }, .num x.length)
def use (s : St) (c : Ca) : St × An :=
  if c.fd < 0 ∨ 8 ≤ c.fd then (s, .no 6) else
  match fdAt s c.owner.toNat c.fd.toNat with
  | none => (s, .no 6)
  | some d =>
    if c.kind = 2 then callClose s c.owner.toNat c.fd.toNat d else
    if c.kind = 13 then callDup s c.owner.toNat d else
    if c.kind = 5 then callSeek s d c.n else
    if c.kind = 14 ∨ c.kind = 15 then callLock s c (deAt s d).o else
    if c.kind = 3 then callRead s c d else callWrite s c d
/-- Open files keep what is there no more. -/
def lose (s : St) (p : Bs) : St :=
  { s with obs := s.obs.mapIdx fun i o => if i ∈ s.files ∧ o.P = p ∧ p ≠ [] then { o with t := textOf s i, p := noE } else o }
def createEn (c : Ca) (at_ : Bs) : En := if c.kind = 10 then ⟨bytesOf at_, 3, c.to, false⟩ else ⟨bytesOf at_, 2, noE, false⟩
def create (s : St) (c : Ca) : St × An :=
  let f := find s.T c.path.data.toList false
  if f.2 ≠ 0 then (s, .no f.2) else
  if (get s.T f.1).isSome = true then (s, .no 7) else
  ((set s (putU s.u (createEn c f.1))).1, .no (set s (putU s.u (createEn c f.1))).2)
def remove (s : St) (c : Ca) : St × An :=
  let f := find s.T c.path.data.toList false
  if f.2 ≠ 0 then (s, .no f.2) else
  match get s.T f.1 with
  | none => (s, .no 6)
  | some e =>
    if c.kind = 7 ∧ e.k ≠ 2 then (s, .no 10) else if c.kind = 8 ∧ e.k = 2 then (s, .no 9) else if f.1 = [] then (s, .no 8) else
    let r := removeU s.u f.1
    if r.2 ≠ 0 then (s, .no r.2) else ((set (lose s f.1) r).1, .no (set (lose s f.1) r).2)
/-- Open files go where they are called now. -/
def follow (s : St) (a b : Bs) : St :=
  { s with obs := s.obs.mapIdx fun i o => if i ∈ s.files ∧ (o.P = a ∨ (under o.P a = true ∧ o.P ≠ [])) then { o with p := bytesOf (b ++ o.P.drop a.length) } else o }
def rename (s : St) (c : Ca) : St × An :=
  let f := find s.T c.path.data.toList false
  if f.2 ≠ 0 then (s, .no f.2) else
  let g := find s.T c.to.data.toList false
  if g.2 ≠ 0 then (s, .no g.2) else
  if f.1 = [] ∨ g.1 = [] then (s, .no 8) else
  let r := moveU s.u f.1 g.1
  if r.2 ≠ 0 then (s, .no r.2) else
  let s1 := follow (if f.1 ≠ g.1 then lose s g.1 else s) f.1 g.1
  ((set s1 r).1, .no (set s1 r).2)
def tell (s : St) (c : Ca) : An :=
  let f := find s.T c.path.data.toList true
  if f.2 ≠ 0 then .no f.2 else
  if c.kind = 11 then ⟨(Tr.list s.T f.1).2, 0, noE, (Tr.list s.T f.1).1⟩ else
  match get s.T f.1 with
  | none => .no 6
  | some e => ⟨0, e.k, e.t, []⟩
def call (s : St) (c : Ca) : St × An :=
  if c.kind < 1 ∨ 16 < c.kind then (s, .no 1) else
  if c.owner < 0 ∨ 4 ≤ c.owner then (s, .no 3) else
  if c.kind = 1 then callOpen s c else
  if c.kind = 6 ∨ c.kind = 10 then create s c else
  if c.kind = 7 ∨ c.kind = 8 then remove s c else
  if c.kind = 9 then rename s c else
  if c.kind = 11 ∨ c.kind = 12 then (s, tell s c) else use s c
def calls : St → List Ca → St × List An
  | s, [] => (s, [])
  | s, c :: r => ((calls (call s c).1 r).1, (call s c).2 :: (calls (call s c).1 r).2)
def start (u : Un) : St := ⟨u, (seenU u).1, [], [], [], List.replicate 4 (List.replicate 8 none)⟩
/-- What all comes to, the answers, and the error. -/
def play (u : Un) (l : List Ca) : (Un × List En × Nat) × List An × Int :=
  if (wrongU u).1 ≠ 0 then ((Un.zero, [], 0), [], (wrongU u).1) else
  if 80 < l.length then ((Un.zero, [], 0), [], 5) else
  (((calls (start u) l).1.u, (calls (start u) l).1.T, (calls (start u) l).1.files.length), (calls (start u) l).2, 0)
end Sy
end Go.Proofs.YtjppfhgkanbemacGreatDoor

namespace Go.Proofs.YtjppfhgkanbemacGreatDoor
namespace Sy
open Pt Tr

/-- The union is fine, and what is told to be seen is seen. -/
def Ok (s : St) : Prop := Fine s.u ∧ seenU s.u = (s.T, 0)
theorem Ok.T {s : St} (h : Ok s) : (seenU s.u).1 = s.T := by rw [h.2]
theorem start_ok {u : Un} (h : (wrongU u).1 = 0) : Ok (start u) := by
  have hf := (fine_iff u).1 h
  refine ⟨hf, ?_⟩
  show seenU u = ((seenU u).1, 0)
  have := (seenU_zero (u := u)).2 hf
  rw [← this]
/-- What comes of a state and an answer: all is fine, what lies below is as it was, and what is refused changes nothing. -/
def Good (s : St) (r : St × Int) : Prop := Ok r.1 ∧ r.1.u.L = s.u.L ∧ (r.2 ≠ 0 → r.1 = s)
theorem set_good {s : St} {r : Un × Int} {t : List En × Int} (h : Ok s) (hr : AsTree s.u r t) : Good s (set s r) ∧ ((set s r).2 ≠ 0 → (set s r).2 = r.2) ∧ (r.2 = 0 → set s r = ({ s with u := r.1, T := t.1 }, 0) ∧ t.2 = 0) := by
  unfold set
  by_cases h0 : r.2 = 0
  · rw [if_neg (by simp [h0])]
    obtain ⟨a, b, c, d⟩ := hr.2 h0
    rw [d]
    exact ⟨⟨⟨a, d⟩, b, fun h => absurd rfl h⟩, fun h => absurd rfl h, fun _ => ⟨rfl, c⟩⟩
  · rw [if_pos h0]
    exact ⟨⟨h, rfl, fun _ => rfl⟩, fun _ => rfl, fun h => absurd h h0⟩
theorem put_good {s : St} (h : Ok s) (e : En) : Good s (set s (putU s.u e)) := (set_good h (putU_tree h.1 e)).1
theorem good_same {s : St} (h : Ok s) (e : Int) : Good s (s, e) := ⟨h, rfl, fun _ => rfl⟩
theorem openSet_good {s : St} (h : Ok s) (n : Int) (p : Bs) : Good s (openSet s n p) := by
  unfold openSet
  split
  · split
    · exact good_same h _
    · exact put_good h _
  · split
    · exact good_same h _
    · split
      · exact good_same h _
      · split
        · exact put_good h _
        · exact good_same h _
/-- Likewise, with an answer. -/
def GoodA (s : St) (r : St × An) : Prop := Ok r.1 ∧ r.1.u.L = s.u.L ∧ (r.2.err ≠ 0 → r.1 = s)
theorem same_a {s : St} (h : Ok s) (a : An) : GoodA s (s, a) := ⟨h, rfl, fun _ => rfl⟩
theorem opened_u (s : St) (p : Bs) : (opened s p).1.u = s.u ∧ (opened s p).1.T = s.T := by
  unfold opened; split <;> exact ⟨rfl, rfl⟩
theorem ok_of {s t : St} (h : Ok s) (h1 : t.u = s.u) (h2 : t.T = s.T) : Ok t := by
  unfold Ok; rw [h1, h2]; exact h
theorem write_good {s : St} (h : Ok s) (i : Nat) (t : ByteArray) : Good s (write s i t) := by
  unfold write
  split
  · exact good_same h _
  · split
    · exact ⟨h, rfl, fun h => absurd rfl h⟩
    · split
      · exact good_same h _
      · exact put_good h _
theorem callOpen_good {s : St} (h : Ok s) (c : Ca) : GoodA s (callOpen s c) := by
  unfold callOpen
  split
  · exact same_a h _
  · split
    · exact same_a h _
    · split
      · exact same_a h _
      · have g := openSet_good h c.n (find s.T c.path.data.toList (!bit c.n 4)).1
        dsimp only
        split
        · rename_i h0
          exact ⟨g.1, g.2.1, fun _ => g.2.2 h0⟩
        · have q := opened_u (openSet s c.n (find s.T c.path.data.toList (!bit c.n 4)).1).1 (find s.T c.path.data.toList (!bit c.n 4)).1
          refine ⟨ok_of g.1 q.1 q.2, ?_, fun h => absurd rfl h⟩
          show (opened _ _).1.u.L = _
          rw [q.1]; exact g.2.1
theorem callWrite_good {s : St} (h : Ok s) (c : Ca) (d : Nat) : GoodA s (callWrite s c d) := by
  unfold callWrite
  split
  · exact same_a h _
  · dsimp only
    split
    · split
      · exact same_a h _
      · have g := write_good h (deAt s d).o (bytesOf (sized (textOf s (deAt s d).o).data.toList c.n.toNat))
        exact ⟨g.1, g.2.1, g.2.2⟩
    · generalize (if bit (deAt s d).fl 2 = true then (textOf s (deAt s d).o).data.toList.length else (deAt s d).at_.toNat) = at_
      split
      · exact ⟨h, rfl, fun h => absurd rfl h⟩
      · split
        · exact same_a h _
        · have g := fun t => write_good h (deAt s d).o t
          split
          · rename_i h0
            exact ⟨(g _).1, (g _).2.1, fun _ => (g _).2.2 h0⟩
          · exact ⟨(g _).1, (g _).2.1, fun h => absurd rfl h⟩
theorem use_good {s : St} (h : Ok s) (c : Ca) : GoodA s (use s c) := by
  unfold use
  split
  · exact same_a h _
  split
  · exact same_a h _
  rename_i d _
  split
  · unfold callClose
    dsimp only
    refine ⟨?_, ?_, fun h => absurd rfl h⟩
    · split <;> exact h
    · split <;> rfl
  split
  · unfold callDup
    split
    · exact same_a h _
    · exact ⟨h, rfl, fun h => absurd rfl h⟩
  split
  · unfold callSeek
    split
    · exact same_a h _
    · exact ⟨h, rfl, fun h => absurd rfl h⟩
  split
  · unfold callLock
    dsimp only
    generalize (if c.kind = 15 then Lk.free (obAt s (deAt s d).o).l ⟨c.owner, c.n, c.m, c.alone⟩ else Lk.take (obAt s (deAt s d).o).l ⟨c.owner, c.n, c.m, c.alone⟩) = r
    by_cases h0 : r.2 = 0
    · rw [if_pos h0]
      exact ⟨h, rfl, fun h => absurd h0 h⟩
    · rw [if_neg h0]
      exact same_a h _
  split
  · unfold callRead
    split
    · exact same_a h _
    split
    · exact same_a h _
    · exact ⟨h, rfl, fun h => absurd rfl h⟩
  · exact callWrite_good h c d
theorem call_good {s : St} (h : Ok s) (c : Ca) : GoodA s (call s c) := by
  unfold call
  split
  · exact same_a h _
  split
  · exact same_a h _
  split
  · exact callOpen_good h c
  split
  · unfold create
    dsimp only
    split
    · exact same_a h _
    split
    · exact same_a h _
    · exact put_good h _
  split
  · unfold remove
    dsimp only
    split
    · exact same_a h _
    split
    · exact same_a h _
    split
    · exact same_a h _
    split
    · exact same_a h _
    split
    · exact same_a h _
    split
    · exact same_a h _
    · rename_i h0
      have h0 : (removeU s.u (find s.T c.path.data.toList false).1).2 = 0 := Classical.not_not.1 h0
      have g := set_good (s := lose s (find s.T c.path.data.toList false).1) (ok_of h rfl rfl) (removeU_tree h.1 (find s.T c.path.data.toList false).1)
      obtain ⟨g1, _⟩ := g.2.2 h0
      exact ⟨g.1.1, g.1.2.1, fun h => absurd (by rw [g1]; rfl) h⟩
  split
  · unfold rename
    dsimp only
    split
    · exact same_a h _
    split
    · exact same_a h _
    split
    · exact same_a h _
    split
    · exact same_a h _
    · rename_i h0
      have h0 : (moveU s.u (find s.T c.path.data.toList false).1 (find s.T c.to.data.toList false).1).2 = 0 := Classical.not_not.1 h0
      have hu : ∀ t : St, t.u = s.u → t.T = s.T → GoodA s ((set t (moveU s.u (find s.T c.path.data.toList false).1 (find s.T c.to.data.toList false).1)).1, .no (set t (moveU s.u (find s.T c.path.data.toList false).1 (find s.T c.to.data.toList false).1)).2) := by
        intro t h1 h2
        have g := set_good (s := t) (ok_of h h1 h2) (by rw [h1]; exact moveU_tree h.1 (find s.T c.path.data.toList false).1 (find s.T c.to.data.toList false).1)
        obtain ⟨g1, _⟩ := g.2.2 h0
        exact ⟨g.1.1, g.1.2.1.trans (by rw [h1]), fun h => absurd (by rw [g1]; rfl) h⟩
      refine hu _ ?_ ?_
      · show (if _ then _ else _ : St).u = _; split <;> rfl
      · show (if _ then _ else _ : St).T = _; split <;> rfl
  split
  · exact same_a h _
  · exact use_good h c

theorem calls_ok : ∀ {l : List Ca} {s : St}, Ok s → Ok (calls s l).1 ∧ (calls s l).1.u.L = s.u.L
  | [], _, h => ⟨h, rfl⟩
  | c :: r, s, h => by
    have g := call_good h c
    obtain ⟨a, b⟩ := calls_ok (l := r) g.1
    exact ⟨a, b.trans g.2.1⟩
theorem calls_len : ∀ (l : List Ca) (s : St), (calls s l).2.length = l.length
  | [], _ => rfl
  | _ :: r, _ => congrArg (· + 1) (calls_len r _)
/-- Calls that leave the state as it is may be left out. -/
def drop (f : Ca → An → Bool) : List Ca → List An → List Ca
  | c :: l, a :: m => if f c a then c :: drop f l m else drop f l m
  | _, _ => []
def dropA (f : Ca → An → Bool) : List Ca → List An → List An
  | c :: l, a :: m => if f c a then a :: dropA f l m else dropA f l m
  | _, _ => []
theorem calls_drop {f : Ca → An → Bool} (hf : ∀ s c, Ok s → f c (call s c).2 = false → (call s c).1 = s) : ∀ (l : List Ca) {s : St}, Ok s → calls s (drop f l (calls s l).2) = ((calls s l).1, dropA f l (calls s l).2)
  | [], _, _ => rfl
  | c :: r, s, h => by
    have g := call_good h c
    have ih := calls_drop hf r g.1
    show calls s (if f c (call s c).2 then c :: drop f r (calls (call s c).1 r).2 else drop f r (calls (call s c).1 r).2) = ((calls (call s c).1 r).1, if f c (call s c).2 then (call s c).2 :: dropA f r (calls (call s c).1 r).2 else dropA f r (calls (call s c).1 r).2)
    rcases hc : f c (call s c).2 with _ | _
    · have e := hf s c h hc
      rw [e] at ih ⊢
      simpa using ih
    · simp only [if_true]
      show ((calls (call s c).1 (drop f r (calls (call s c).1 r).2)).1, (call s c).2 :: (calls (call s c).1 (drop f r (calls (call s c).1 r).2)).2) = _
      rw [ih]
def notRefused (_ : Ca) (a : An) : Bool := a.err == 0
def notAsked (c : Ca) (_ : An) : Bool := c.kind != 11 && c.kind != 12
theorem refused_same (s : St) (c : Ca) (h : Ok s) (hf : notRefused c (call s c).2 = false) : (call s c).1 = s := by
  unfold notRefused at hf
  exact (call_good h c).2.2 (by simpa using hf)
theorem asked_same (s : St) (c : Ca) (_ : Ok s) (hf : notAsked c (call s c).2 = false) : (call s c).1 = s := by
  unfold notAsked at hf
  have hk : c.kind = 11 ∨ c.kind = 12 := by
    rw [Bool.and_eq_false_iff, bne_eq_false_iff_eq, bne_eq_false_iff_eq] at hf; exact hf
  unfold call
  split
  · rfl
  split
  · rfl
  rw [if_neg (by omega), if_neg (by omega), if_neg (by omega), if_neg (by omega)]
/-! ### Which call -/
theorem call_open {s : St} {c : Ca} (hk : c.kind = 1) (h1 : 0 ≤ c.owner) (h2 : c.owner < 4) : call s c = callOpen s c := by
  unfold call; rw [hk, if_neg (by omega), if_neg (by omega), if_pos rfl]
theorem call_create {s : St} {c : Ca} (hk : c.kind = 6 ∨ c.kind = 10) (h1 : 0 ≤ c.owner) (h2 : c.owner < 4) : call s c = create s c := by
  unfold call; rw [if_neg (by omega), if_neg (by omega), if_neg (by omega), if_pos hk]
theorem call_remove {s : St} {c : Ca} (hk : c.kind = 7 ∨ c.kind = 8) (h1 : 0 ≤ c.owner) (h2 : c.owner < 4) : call s c = Sy.remove s c := by
  unfold call; rw [if_neg (by omega), if_neg (by omega), if_neg (by omega), if_neg (by omega), if_pos hk]
theorem call_rename {s : St} {c : Ca} (hk : c.kind = 9) (h1 : 0 ≤ c.owner) (h2 : c.owner < 4) : call s c = rename s c := by
  unfold call; rw [if_neg (by omega), if_neg (by omega), if_neg (by omega), if_neg (by omega), if_neg (by omega), if_pos hk]
theorem call_tell {s : St} {c : Ca} (hk : c.kind = 11 ∨ c.kind = 12) (h1 : 0 ≤ c.owner) (h2 : c.owner < 4) : call s c = (s, tell s c) := by
  unfold call; rw [if_neg (by omega), if_neg (by omega), if_neg (by omega), if_neg (by omega), if_neg (by omega), if_neg (by omega), if_pos hk]
theorem call_use {s : St} {c : Ca} (hk : (2 ≤ c.kind ∧ c.kind ≤ 5) ∨ (13 ≤ c.kind ∧ c.kind ≤ 16)) (h1 : 0 ≤ c.owner) (h2 : c.owner < 4) : call s c = use s c := by
  unfold call; rw [if_neg (by omega), if_neg (by omega), if_neg (by omega), if_neg (by omega), if_neg (by omega), if_neg (by omega), if_neg (by omega)]
theorem use_at {s : St} {c : Ca} {d : Nat} (h1 : 0 ≤ c.fd) (h2 : c.fd < 8) (h : fdAt s c.owner.toNat c.fd.toNat = some d) : use s c =
    if c.kind = 2 then callClose s c.owner.toNat c.fd.toNat d else
    if c.kind = 13 then callDup s c.owner.toNat d else
    if c.kind = 5 then callSeek s d c.n else
    if c.kind = 14 ∨ c.kind = 15 then callLock s c (deAt s d).o else
    if c.kind = 3 then callRead s c d else callWrite s c d := by
  unfold use
  rw [if_neg (by omega), h]
section
variable {s : St} {c : Ca} {d : Nat} (h1 : 0 ≤ c.fd) (h2 : c.fd < 8) (h : fdAt s c.owner.toNat c.fd.toNat = some d)
include h1 h2 h
theorem use_close (hk : c.kind = 2) : use s c = callClose s c.owner.toNat c.fd.toNat d := by rw [use_at h1 h2 h, if_pos hk]
theorem use_dup (hk : c.kind = 13) : use s c = callDup s c.owner.toNat d := by rw [use_at h1 h2 h, if_neg (by omega), if_pos hk]
theorem use_seek (hk : c.kind = 5) : use s c = callSeek s d c.n := by rw [use_at h1 h2 h, if_neg (by omega), if_neg (by omega), if_pos hk]
theorem use_lock (hk : c.kind = 14 ∨ c.kind = 15) : use s c = callLock s c (deAt s d).o := by rw [use_at h1 h2 h, if_neg (by omega), if_neg (by omega), if_neg (by omega), if_pos hk]
theorem use_read (hk : c.kind = 3) : use s c = callRead s c d := by rw [use_at h1 h2 h, if_neg (by omega), if_neg (by omega), if_neg (by omega), if_neg (by omega), if_pos hk]
theorem use_write (hk : c.kind = 4 ∨ c.kind = 16) : use s c = callWrite s c d := by rw [use_at h1 h2 h, if_neg (by omega), if_neg (by omega), if_neg (by omega), if_neg (by omega), if_neg (by omega)]
end
theorem callRead_ok {s : St} {c : Ca} {d : Nat} {t : Bs} (hb : bit (deAt s d).fl 0 = true) (h0 : 0 ≤ c.n) (h1 : c.n ≤ 1000) (ht : (textOf s (deAt s d).o).data.toList = t) :
    callRead s c d = (setDe s d fun x => { x with at_ := x.at_ + ((t.drop (deAt s d).at_.toNat).take c.n.toNat).length }, ⟨0, ((t.drop (deAt s d).at_.toNat).take c.n.toNat).length, bytesOf ((t.drop (deAt s d).at_.toNat).take c.n.toNat), []⟩) := by
  unfold callRead
  rw [if_neg (by rw [hb]; decide), if_neg (by omega)]
  subst ht; rfl
/-- A text with another one written over it from a place on. -/
def over (t : Bs) (a : Nat) (x : Bs) : Bs := (sized t (max (a + x.length) t.length)).take a ++ x ++ (sized t (max (a + x.length) t.length)).drop (a + x.length)
theorem sized_more {t : Bs} {n : Nat} (h : t.length ≤ n) : sized t n = t ++ List.replicate (n - t.length) 0 := by
  unfold sized; rw [List.take_of_length_le h]
theorem over_zero (t x : Bs) : over t 0 x = x ++ t.drop x.length := by
  unfold over
  have h : (List.replicate (max x.length t.length - t.length) (0 : UInt8)).drop (x.length - t.length) = [] := List.drop_eq_nil_of_le (by rw [List.length_replicate]; omega)
  rw [List.take_zero, List.nil_append, Nat.zero_add, sized_more (by omega), List.drop_append, h, List.append_nil]
theorem over_end (t x : Bs) : over t t.length x = t ++ x := by
  unfold over
  rw [sized_more (by omega), List.take_left, List.drop_eq_nil_of_le (by rw [List.length_append, List.length_replicate]; omega), List.append_nil]
theorem callWrite_none {s : St} {c : Ca} {d : Nat} (hk : c.kind = 4) (hb : bit (deAt s d).fl 1 = true) (hx : c.text.data.toList = []) : ∃ a : Int, callWrite s c d = (setDe s d fun y => { y with at_ := a }, .ok) := by
  unfold callWrite
  rw [if_neg (by rw [hb]; decide)]
  dsimp only
  rw [if_neg (by omega), if_pos hx]
  exact ⟨_, rfl⟩
theorem callWrite_at {s : St} {c : Ca} {d a : Nat} {t x : Bs} (hk : c.kind = 4) (hb : bit (deAt s d).fl 1 = true) (ht : (textOf s (deAt s d).o).data.toList = t) (hx : c.text.data.toList = x) (hx0 : x ≠ [])
    (ha : (if bit (deAt s d).fl 2 = true then t.length else (deAt s d).at_.toNat) = a) (he : a + x.length ≤ 100) (hw : (write s (deAt s d).o (bytesOf (over t a x))).2 = 0) :
    callWrite s c d = (setDe (write s (deAt s d).o (bytesOf (over t a x))).1 d fun y => { y with at_ := ((a + x.length : Nat) : Int) }, .num x.length) := by
  unfold callWrite
  rw [if_neg (by rw [hb]; decide)]
  dsimp only
  rw [if_neg (by omega), ht, hx, ha, if_neg hx0, if_neg (by omega)]
  unfold over at hw ⊢
  rw [if_neg (by rw [hw]; decide)]
end Sy
end Go.Proofs.YtjppfhgkanbemacGreatDoor

namespace Go.Proofs.YtjppfhgkanbemacGreatDoor
namespace Sy
open Pt Tr

def ObOk (n : Nat) (o : Ob) : Prop := o.p.size ≤ 80 * (n + 1) ∧ o.t.size ≤ 100 ∧ o.l.length ≤ 40
def DeOk (n m : Nat) (d : De) : Prop := d.o < m ∧ 0 ≤ d.at_ ∧ d.at_ ≤ 1000 ∧ -(n : Int) ≤ d.refs ∧ d.refs ≤ n ∧ 0 ≤ d.fl ∧ d.fl ≤ 63
/-- What is kept, behind n calls. -/
structure In (n : Nat) (s : St) : Prop where
  ol : s.obs.length ≤ n
  fl : s.files.length ≤ n
  dl : s.des.length ≤ n
  fsub : ∀ i ∈ s.files, i < s.obs.length
  fnd : s.files.Nodup
  fdl : s.fds.length = 4
  fdr : ∀ r ∈ s.fds, r.length = 8
  fdd : ∀ r ∈ s.fds, ∀ d, some d ∈ r → d < s.des.length
  ob : ∀ o ∈ s.obs, ObOk n o
  de : ∀ d ∈ s.des, DeOk n s.obs.length d
theorem start_in (u : Un) : In 0 (start u) where
  ol := Nat.le_refl _
  fl := Nat.le_refl _
  dl := Nat.le_refl _
  fsub := fun _ h => nomatch h
  fnd := List.Pairwise.nil
  fdl := rfl
  fdr := fun r h => by rw [List.eq_of_mem_replicate (show r ∈ List.replicate 4 (List.replicate 8 none) from h), List.length_replicate]
  fdd := fun r h d hd => by
    rw [List.eq_of_mem_replicate (show r ∈ List.replicate 4 (List.replicate 8 none) from h)] at hd
    cases List.eq_of_mem_replicate hd
  ob := fun _ h => nomatch h
  de := fun _ h => nomatch h
theorem ObOk.more {n n' : Nat} {o : Ob} (h : ObOk n o) (hn : n ≤ n') : ObOk n' o := ⟨by have := h.1; omega, h.2⟩
theorem DeOk.more {n n' m m' : Nat} {d : De} (h : DeOk n m d) (hn : n ≤ n') (hm : m ≤ m') : DeOk n' m' d := by
  obtain ⟨a, b, c, e, f, g⟩ := h
  exact ⟨by omega, b, c, by omega, by omega, g⟩
theorem In.more {n m : Nat} {s : St} (h : In n s) (hm : n ≤ m) : In m s :=
  ⟨Nat.le_trans h.ol hm, Nat.le_trans h.fl hm, Nat.le_trans h.dl hm, h.fsub, h.fnd, h.fdl, h.fdr, h.fdd, fun o ho => (h.ob o ho).more hm, fun d hd => (h.de d hd).more hm (Nat.le_refl _)⟩
theorem In.set {n : Nat} {s : St} (h : In n s) (r : Un × Int) : In n (set s r).1 := by
  unfold Sy.set
  split
  · exact h
  · exact ⟨h.ol, h.fl, h.dl, h.fsub, h.fnd, h.fdl, h.fdr, h.fdd, h.ob, h.de⟩
theorem In.obs {n : Nat} {s : St} (h : In n s) {l : List Ob} (hl : l.length = s.obs.length) (ho : ∀ o ∈ l, ObOk n o) : In n { s with obs := l } :=
  ⟨by show l.length ≤ n; rw [hl]; exact h.ol, h.fl, h.dl, fun i hi => by show i < l.length; rw [hl]; exact h.fsub i hi, h.fnd, h.fdl, h.fdr, h.fdd, ho, fun d hd => by show DeOk n l.length d; rw [hl]; exact h.de d hd⟩
theorem In.des {n : Nat} {s : St} (h : In n s) {l : List De} (hl : l.length = s.des.length) (ho : ∀ d ∈ l, DeOk n s.obs.length d) : In n { s with des := l } :=
  ⟨h.ol, h.fl, by show l.length ≤ n; rw [hl]; exact h.dl, h.fsub, h.fnd, h.fdl, h.fdr, fun r hr d hd => by show d < l.length; rw [hl]; exact h.fdd r hr d hd, h.ob, ho⟩
theorem In.setFd {n : Nat} {s : St} (h : In n s) (o k : Nat) (v : Option Nat) (hv : ∀ d, v = some d → d < s.des.length) : In n (setFd s o k v) := by
  have key : ∀ r ∈ s.fds.modify o (fun r => r.set k v), r ∈ s.fds ∨ ∃ r0 ∈ s.fds, r = r0.set k v := by
    intro r hr
    obtain ⟨i, hi, rfl⟩ := List.mem_iff_getElem.1 hr
    rw [List.length_modify] at hi
    rw [List.getElem_modify]
    split
    · exact .inr ⟨_, List.getElem_mem hi, rfl⟩
    · exact .inl (List.getElem_mem hi)
  refine ⟨h.ol, h.fl, h.dl, h.fsub, h.fnd, (by show (s.fds.modify o _).length = 4; rw [List.length_modify]; exact h.fdl), ?_, ?_, h.ob, h.de⟩
  · intro r hr
    rcases key r hr with h1 | ⟨r0, h1, rfl⟩
    · exact h.fdr r h1
    · rw [List.length_set]; exact h.fdr r0 h1
  · intro r hr d hd
    rcases key r hr with h1 | ⟨r0, h1, rfl⟩
    · exact h.fdd r h1 d hd
    · rcases List.mem_or_eq_of_mem_set hd with h2 | h2
      · exact h.fdd r0 h1 d h2
      · exact hv d h2.symm
theorem mem_mod {α : Type} {l : List α} {i : Nat} {f : α → α} {x : α} (h : x ∈ l.modify i f) : x ∈ l ∨ ∃ y ∈ l, x = f y := by
  obtain ⟨k, hk, rfl⟩ := List.mem_iff_getElem.1 h
  rw [List.length_modify] at hk
  rw [List.getElem_modify]
  split
  · exact .inr ⟨_, List.getElem_mem hk, rfl⟩
  · exact .inl (List.getElem_mem hk)
theorem In.setOb {n : Nat} {s : St} (h : In n s) (i : Nat) {f : Ob → Ob} (hf : ∀ o, ObOk n o → ObOk n (f o)) : In n (setOb s i f) :=
  h.obs (List.length_modify ..) fun o ho => by
    rcases mem_mod ho with h1 | ⟨y, h1, rfl⟩
    · exact h.ob o h1
    · exact hf y (h.ob y h1)
theorem In.setDe {n : Nat} {s : St} (h : In n s) (i : Nat) {f : De → De} (hf : ∀ d, DeOk n s.obs.length d → DeOk n s.obs.length (f d)) : In n (setDe s i f) :=
  h.des (List.length_modify ..) fun o ho => by
    rcases mem_mod ho with h1 | ⟨y, h1, rfl⟩
    · exact h.de o h1
    · exact hf y (h.de y h1)
theorem bsize (s : ByteArray) : s.data.toList.length = s.size := by simp
theorem bytes_len (l : Bs) : (bytesOf l).size = l.length := rfl
theorem In.opened {n : Nat} {s : St} (h : In n s) {p : Bs} (hp : p.length ≤ 80) : In (n + 1) (opened s p).1 ∧ (opened s p).2 < (opened s p).1.obs.length ∧ (opened s p).1.des = s.des ∧ (opened s p).1.fds = s.fds := by
  unfold Sy.opened
  split
  · rename_i i hi
    exact ⟨h.more (Nat.le_succ n), h.fsub i (List.mem_of_find?_eq_some hi), rfl, rfl⟩
  · refine ⟨⟨?_, ?_, Nat.le_trans h.dl (Nat.le_succ n), ?_, ?_, h.fdl, h.fdr, h.fdd, ?_, ?_⟩, ?_, rfl, rfl⟩
    · show (s.obs ++ [_]).length ≤ n + 1
      rw [List.length_append]; have := h.ol; simp; omega
    · show (s.files ++ [_]).length ≤ n + 1
      rw [List.length_append]; have := h.fl; simp; omega
    · intro i hi
      show i < (s.obs ++ [_]).length
      rw [List.length_append]
      rcases List.mem_append.1 hi with h1 | h1
      · have := h.fsub i h1; simp; omega
      · have := List.mem_singleton.1 h1; simp; omega
    · show (s.files ++ [s.obs.length]).Nodup
      rw [List.nodup_append]
      refine ⟨h.fnd, List.nodup_cons.2 ⟨List.not_mem_nil, List.nodup_nil⟩, fun a ha b hb => ?_⟩
      have := h.fsub a ha
      have := List.mem_singleton.1 hb
      omega
    · intro o ho
      rcases List.mem_append.1 ho with h1 | h1
      · exact (h.ob o h1).more (Nat.le_succ n)
      · rw [List.mem_singleton.1 h1]
        exact ⟨by show (bytesOf p).size ≤ 80 * (n + 1 + 1); rw [bytes_len]; omega, Nat.zero_le _, Nat.zero_le _⟩
    · intro d hd
      exact (h.de d hd).more (Nat.le_succ n) (by show s.obs.length ≤ (s.obs ++ [_]).length; rw [List.length_append]; omega)
    · show s.obs.length < (s.obs ++ [_]).length
      rw [List.length_append]; simp
theorem openSet_in {n : Nat} {s : St} (h : In n s) (k : Int) (p : Bs) : In n (openSet s k p).1 := by
  unfold openSet
  split
  · split
    · exact h
    · exact h.set _
  · split
    · exact h
    · split
      · exact h
      · split
        · exact h.set _
        · exact h
theorem find_le {T : List En} {p : Bs} {b : Bool} (h : (find T p b).2 = 0) : (find T p b).1.length ≤ 80 := by
  unfold find at h ⊢
  split at h
  · rename_i h0; exact absurd h h0
  · rename_i h0
    rw [if_neg h0]
    split at h
    · exact absurd h (by decide)
    · rename_i h1
      rw [if_neg h1]
      have : ¬ 80 < (walk T b 8 (parse p).1 []).1.length := fun h2 => h1 ⟨h, h2⟩
      omega
theorem text_le {T : List En} (hT : Right false T) {p : Bs} (hp : p ≠ []) {e : En} (h : get T p = some e) : e.t.size ≤ 100 :=
  ((entry_zero e false).1 (hT.1 e (get_some hp h).1)).2.2.1
theorem Ok.right {s : St} (h : Ok s) : Right false s.T := by
  obtain ⟨a1, a2, a3, a4, a5, a6, a7, a8⟩ := fine_parts h.1
  rw [h.2] at a5
  rw [show s.T = _ from congrArg Prod.fst a5]
  exact a8
theorem noE_size : noE.size = 0 := rfl
theorem In.obAt {n : Nat} {s : St} (h : In n s) (i : Nat) : ObOk n (obAt s i) := by
  unfold Sy.obAt
  rw [List.getD_eq_getElem?_getD]
  rcases Nat.lt_or_ge i s.obs.length with hi | hi
  · rw [List.getElem?_eq_getElem hi]; exact h.ob _ (List.getElem_mem hi)
  · rw [List.getElem?_eq_none hi]; exact ⟨Nat.zero_le _, Nat.zero_le _, Nat.zero_le _⟩
theorem In.textOf {n : Nat} {s : St} (h : In n s) (ho : Ok s) (i : Nat) : (textOf s i).size ≤ 100 := by
  unfold Sy.textOf
  split
  · exact (h.obAt i).2.1
  · rename_i hp
    split
    · rename_i e he
      exact text_le ho.right hp he
    · exact Nat.zero_le _
theorem In.deAt {n : Nat} {s : St} (h : In n s) {d : Nat} (hd : d < s.des.length) : DeOk n s.obs.length (deAt s d) := by
  unfold Sy.deAt
  rw [List.getD_eq_getElem?_getD, List.getElem?_eq_getElem hd]
  exact h.de _ (List.getElem_mem hd)
theorem In.fdAt {n : Nat} {s : St} (h : In n s) {o k d : Nat} (hd : fdAt s o k = some d) : d < s.des.length := by
  unfold Sy.fdAt at hd
  rw [List.getD_eq_getElem?_getD, List.getD_eq_getElem?_getD] at hd
  rcases Nat.lt_or_ge o s.fds.length with ho | ho
  · rw [List.getElem?_eq_getElem ho, Option.getD_some] at hd
    rcases Nat.lt_or_ge k s.fds[o].length with hk | hk
    · rw [List.getElem?_eq_getElem hk, Option.getD_some] at hd
      exact h.fdd _ (List.getElem_mem ho) d (hd ▸ List.getElem_mem hk)
    · rw [List.getElem?_eq_none hk] at hd; cases hd
  · rw [List.getElem?_eq_none ho] at hd; simp at hd
theorem In.write {n : Nat} {s : St} (h : In n s) (i : Nat) (t : ByteArray) : In n (write s i t).1 := by
  unfold Sy.write
  split
  · exact h
  · rename_i h0
    split
    · exact h.setOb i fun o ho => ⟨ho.1, by show t.size ≤ 100; omega, ho.2.2⟩
    · split
      · exact h
      · exact h.set _
theorem write_des {s : St} (i : Nat) (t : ByteArray) : (write s i t).1.des = s.des ∧ (write s i t).1.obs.length = s.obs.length := by
  unfold Sy.write
  split
  · exact ⟨rfl, rfl⟩
  · split
    · exact ⟨rfl, List.length_modify ..⟩
    · split
      · exact ⟨rfl, rfl⟩
      · unfold Sy.set; split <;> exact ⟨rfl, rfl⟩
theorem In.addDe {n : Nat} {s : St} (h : In n s) {d : De} (hd : DeOk (n + 1) s.obs.length d) : In (n + 1) { s with des := s.des ++ [d] } :=
  ⟨Nat.le_trans h.ol (Nat.le_succ n), Nat.le_trans h.fl (Nat.le_succ n), by
    show (s.des ++ [d]).length ≤ n + 1
    rw [List.length_append]; have := h.dl; simp; omega, h.fsub, h.fnd, h.fdl, h.fdr, fun r hr x hx => by
    show x < (s.des ++ [d]).length
    rw [List.length_append]; have := h.fdd r hr x hx; omega, fun o ho => (h.ob o ho).more (Nat.le_succ n), fun x hx => by
    rcases List.mem_append.1 hx with h1 | h1
    · exact (h.de x h1).more (Nat.le_succ n) (Nat.le_refl _)
    · rw [List.mem_singleton.1 h1]; exact hd⟩
theorem In.callOpen {n : Nat} {s : St} (h : In n s) (c : Ca) : In (n + 1) (callOpen s c).1 := by
  have h1 := h.more (Nat.le_succ n)
  unfold Sy.callOpen
  split
  · exact h1
  · rename_i hbf
    have hfb : 0 ≤ c.n ∧ c.n ≤ 63 := by
      unfold Sy.badFlags at hbf
      simp at hbf
      omega
    clear hbf
    split
    · exact h1
    · split
      · exact h1
      · rename_i hf
        have hfl := find_le (T := s.T) (p := c.path.data.toList) (b := !bit c.n 4) (by simpa using hf)
        dsimp only
        split
        · exact (openSet_in h _ _).more (Nat.le_succ n)
        · have g := openSet_in h c.n (Sy.find s.T c.path.data.toList (!bit c.n 4)).1
          generalize openSet s c.n (Sy.find s.T c.path.data.toList (!bit c.n 4)).1 = r at *
          obtain ⟨q1, q2, q3, q4⟩ := g.opened hfl
          generalize Sy.opened r.1 (Sy.find s.T c.path.data.toList (!bit c.n 4)).1 = q at *
          have g2 : In (n + 1) { q.1 with des := q.1.des ++ [⟨q.2, c.n, 0, 1⟩] } := by
            refine ⟨q1.ol, q1.fl, ?_, q1.fsub, q1.fnd, q1.fdl, q1.fdr, fun r hr x hx => ?_, q1.ob, fun x hx => ?_⟩
            · show (q.1.des ++ [_]).length ≤ n + 1
              rw [List.length_append, q3]; have := g.dl; simp; omega
            · show x < (q.1.des ++ [_]).length
              rw [List.length_append]; have := q1.fdd r hr x hx; omega
            · rcases List.mem_append.1 hx with h1 | h1
              · exact q1.de x h1
              · rw [List.mem_singleton.1 h1]
                exact ⟨q2, Int.le_refl 0, by show (0 : Int) ≤ 1000; decide, by show -((n + 1 : Nat) : Int) ≤ 1; omega, by show (1 : Int) ≤ ((n + 1 : Nat) : Int); omega, hfb⟩
          exact g2.setFd _ _ _ fun d hd => by
            injection hd with hd
            subst hd
            show q.1.des.length < (q.1.des ++ [_]).length
            rw [List.length_append]; simp
theorem leave_le (l : List Lk) (o : Int) : (Lk.leave l o).length ≤ l.length := List.length_filter_le _ _
theorem In.callClose {n : Nat} {s : St} (h : In n s) (o k d : Nat) : In (n + 1) (callClose s o k d).1 := by
  have h1 := (h.more (Nat.le_succ n)).setFd o k none (fun _ h => nomatch h)
  unfold Sy.callClose
  dsimp only
  have h2 := h1.setOb (Sy.deAt s d).o (f := fun x => { x with l := Lk.leave x.l o }) fun x hx => ⟨hx.1, hx.2.1, Nat.le_trans (leave_le _ _) hx.2.2⟩
  have h3 : In (n + 1) (Sy.setDe (Sy.setOb (Sy.setFd s o k none) (Sy.deAt s d).o fun x => { x with l := Lk.leave x.l o }) d fun x => { x with refs := x.refs - 1 }) := by
    refine h2.des (List.length_modify ..) fun x hx => ?_
    rcases mem_mod hx with h4 | ⟨y, h4, rfl⟩
    · exact h2.de x h4
    · have hl : (Sy.setOb (Sy.setFd s o k none) (Sy.deAt s d).o fun x => { x with l := Lk.leave x.l o }).obs.length = s.obs.length := List.length_modify ..
      obtain ⟨e1, e2, e3, e4, e5, e6⟩ := h.de y h4
      exact ⟨by rw [hl]; exact e1, e2, e3, by show -((n + 1 : Nat) : Int) ≤ y.refs - 1; omega, by show y.refs - 1 ≤ ((n + 1 : Nat) : Int); omega, e6⟩
  generalize Sy.setDe (Sy.setOb (Sy.setFd s o k none) (Sy.deAt s d).o fun x => { x with l := Lk.leave x.l o }) d (fun x => { x with refs := x.refs - 1 }) = t at *
  split
  · exact ⟨h3.ol, Nat.le_trans (List.length_filter_le _ _) h3.fl, h3.dl, fun i hi => h3.fsub i (List.mem_filter.1 hi).1, h3.fnd.filter _, h3.fdl, h3.fdr, h3.fdd, h3.ob, h3.de⟩
  · exact h3
theorem In.callDup {n : Nat} {s : St} (h : In n s) (o : Nat) {d : Nat} (hd : d < s.des.length) : In (n + 1) (callDup s o d).1 := by
  unfold Sy.callDup
  split
  · exact h.more (Nat.le_succ n)
  · rename_i k _
    have h1 := (h.more (Nat.le_succ n)).setFd o k (some d) (fun x hx => by injection hx with hx; omega)
    refine h1.des (List.length_modify ..) fun x hx => ?_
    rcases mem_mod hx with h4 | ⟨y, h4, rfl⟩
    · exact h1.de x h4
    · obtain ⟨e1, e2, e3, e4, e5, e6⟩ := h.de y h4
      exact ⟨e1, e2, e3, by show -((n + 1 : Nat) : Int) ≤ y.refs + 1; omega, by show y.refs + 1 ≤ ((n + 1 : Nat) : Int); omega, e6⟩
theorem In.callSeek {n : Nat} {s : St} (h : In n s) (d : Nat) (k : Int) : In n (callSeek s d k).1 := by
  unfold Sy.callSeek
  split
  · exact h
  · rename_i h0
    exact h.setDe d fun x hx => ⟨hx.1, by show 0 ≤ k; omega, by show k ≤ 1000; omega, hx.2.2.2⟩
theorem take_le40 (l : List Lk) (x : Lk) : (Lk.take l x).1.length ≤ 40 := by
  unfold Lk.take
  split
  · exact Nat.zero_le _
  · split
    · exact Nat.zero_le _
    · split
      · exact Nat.zero_le _
      · split
        · exact Nat.zero_le _
        · rename_i h; exact Nat.le_of_not_lt h
theorem free_le40 (l : List Lk) (x : Lk) : (Lk.free l x).1.length ≤ 40 := by
  unfold Lk.free
  split
  · exact Nat.zero_le _
  · split
    · exact Nat.zero_le _
    · split
      · exact Nat.zero_le _
      · rename_i h; exact Nat.le_of_not_lt h
theorem In.callLock {n : Nat} {s : St} (h : In n s) (c : Ca) (i : Nat) : In n (callLock s c i).1 := by
  unfold Sy.callLock
  dsimp only
  have hl : (if c.kind = 15 then Lk.free (Sy.obAt s i).l ⟨c.owner, c.n, c.m, c.alone⟩ else Lk.take (Sy.obAt s i).l ⟨c.owner, c.n, c.m, c.alone⟩).1.length ≤ 40 := by
    split
    · exact free_le40 _ _
    · exact take_le40 _ _
  generalize (if c.kind = 15 then Lk.free (Sy.obAt s i).l ⟨c.owner, c.n, c.m, c.alone⟩ else Lk.take (Sy.obAt s i).l ⟨c.owner, c.n, c.m, c.alone⟩) = r at *
  split
  · exact h.setOb i fun o ho => ⟨ho.1, ho.2.1, hl⟩
  · exact h
theorem In.callRead {n : Nat} {s : St} (h : In n s) (ho : Ok s) (c : Ca) {d : Nat} (hd : d < s.des.length) : In n (callRead s c d).1 := by
  unfold Sy.callRead
  split
  · exact h
  · split
    · exact h
    · rename_i h0
      dsimp only
      have ht := h.textOf ho (Sy.deAt s d).o
      rw [← bsize] at ht
      obtain ⟨e1, e2, e3, e4, e5, e6⟩ := h.deAt hd
      have hl : (((Sy.textOf s (Sy.deAt s d).o).data.toList.drop (Sy.deAt s d).at_.toNat).take c.n.toNat).length ≤ 100 - (Sy.deAt s d).at_.toNat := by
        rw [List.length_take, List.length_drop]
        omega
      generalize ((Sy.textOf s (Sy.deAt s d).o).data.toList.drop (Sy.deAt s d).at_.toNat).take c.n.toNat = t at *
      refine h.des (List.length_modify ..) fun x hx => ?_
      obtain ⟨k, hk, rfl⟩ := List.mem_iff_getElem.1 hx
      rw [List.length_modify] at hk
      rw [List.getElem_modify]
      split
      · rename_i hkd
        subst hkd
        have hq : Sy.deAt s d = s.des[d] := by unfold Sy.deAt; rw [List.getD_eq_getElem?_getD, List.getElem?_eq_getElem hk]; rfl
        rw [hq] at e1 e2 e3 e4 e5 e6 hl
        exact ⟨e1, by show 0 ≤ s.des[d].at_ + (t.length : Int); omega, by show s.des[d].at_ + (t.length : Int) ≤ 1000; omega, e4, e5, e6⟩
      · exact h.de _ (List.getElem_mem hk)
theorem In.callWrite {n : Nat} {s : St} (h : In n s) (ho : Ok s) (c : Ca) {d : Nat} (hd : d < s.des.length) : In n (callWrite s c d).1 := by
  unfold Sy.callWrite
  split
  · exact h
  · dsimp only
    split
    · split
      · exact h
      · exact h.write _ _
    · have ht := h.textOf ho (Sy.deAt s d).o
      rw [← bsize] at ht
      obtain ⟨e1, e2, e3, e4, e5, e6⟩ := h.deAt hd
      have ha : (if bit (Sy.deAt s d).fl 2 = true then (Sy.textOf s (Sy.deAt s d).o).data.toList.length else (Sy.deAt s d).at_.toNat) ≤ 1000 := by
        split <;> omega
      generalize (if bit (Sy.deAt s d).fl 2 = true then (Sy.textOf s (Sy.deAt s d).o).data.toList.length else (Sy.deAt s d).at_.toNat) = at_ at *
      split
      · exact h.setDe d fun x hx => ⟨hx.1, by show (0 : Int) ≤ (at_ : Int); omega, by show (at_ : Int) ≤ 1000; omega, hx.2.2.2⟩
      · split
        · exact h
        · rename_i h100
          split
          · exact h.write _ _
          · exact (h.write _ _).setDe d fun x hx => ⟨hx.1, by show (0 : Int) ≤ ((at_ + _ : Nat) : Int); omega, by show ((at_ + _ : Nat) : Int) ≤ 1000; omega, hx.2.2.2⟩
theorem In.use {n : Nat} {s : St} (h : In n s) (ho : Ok s) (c : Ca) : In (n + 1) (use s c).1 := by
  have h1 := h.more (Nat.le_succ n)
  unfold Sy.use
  split
  · exact h1
  · split
    · exact h1
    · rename_i d hd
      have hdl := h.fdAt hd
      split
      · exact h.callClose _ _ _
      · split
        · exact h.callDup _ hdl
        · split
          · exact (h.callSeek _ _).more (Nat.le_succ n)
          · split
            · exact (h.callLock _ _).more (Nat.le_succ n)
            · split
              · exact (h.callRead ho c hdl).more (Nat.le_succ n)
              · exact (h.callWrite ho c hdl).more (Nat.le_succ n)
theorem In.lose {n : Nat} {s : St} (h : In n s) (ho : Ok s) (p : Bs) : In n (lose s p) :=
  h.obs (List.length_mapIdx ..) fun o hm => by
    obtain ⟨i, hi, rfl⟩ := List.mem_iff_getElem.1 hm
    rw [List.length_mapIdx] at hi
    rw [List.getElem_mapIdx]
    have h0 := h.ob _ (List.getElem_mem hi)
    split
    · exact ⟨by show noE.size ≤ _; rw [noE_size]; omega, h.textOf ho i, h0.2.2⟩
    · exact h0
theorem In.follow {n : Nat} {s : St} (h : In n s) (a : Bs) {b : Bs} (hb : b.length ≤ 80) : In (n + 1) (follow s a b) :=
  (h.more (Nat.le_succ n)).obs (List.length_mapIdx ..) fun o hm => by
    obtain ⟨i, hi, rfl⟩ := List.mem_iff_getElem.1 hm
    rw [List.length_mapIdx] at hi
    rw [List.getElem_mapIdx]
    have h0 := h.ob _ (List.getElem_mem hi)
    split
    · refine ⟨?_, h0.2.1, h0.2.2⟩
      show (bytesOf _).size ≤ _
      rw [bytes_len, List.length_append, List.length_drop]
      have h2 := h0.1
      rw [← bsize] at h2
      show b.length + (s.obs[i].p.data.toList.length - a.length) ≤ 80 * (n + 1 + 1)
      omega
    · exact h0.more (Nat.le_succ n)
theorem In.create {n : Nat} {s : St} (h : In n s) (c : Ca) : In n (create s c).1 := by
  unfold Sy.create
  dsimp only
  split
  · exact h
  · split
    · exact h
    · exact h.set _
theorem In.remove {n : Nat} {s : St} (h : In n s) (ho : Ok s) (c : Ca) : In n (Sy.remove s c).1 := by
  unfold Sy.remove
  dsimp only
  split
  · exact h
  · split
    · exact h
    · split
      · exact h
      · split
        · exact h
        · split
          · exact h
          · split
            · exact h
            · exact (h.lose ho _).set _
theorem In.rename {n : Nat} {s : St} (h : In n s) (ho : Ok s) (c : Ca) : In (n + 1) (rename s c).1 := by
  have h1 := h.more (Nat.le_succ n)
  unfold Sy.rename
  dsimp only
  split
  · exact h1
  · split
    · exact h1
    · rename_i hg
      have hl := find_le (T := s.T) (p := c.to.data.toList) (b := false) (by simpa using hg)
      split
      · exact h1
      · split
        · exact h1
        · refine In.set (In.follow ?_ _ hl) _
          split
          · exact h.lose ho _
          · exact h
theorem In.call {n : Nat} {s : St} (h : In n s) (ho : Ok s) (c : Ca) : In (n + 1) (call s c).1 := by
  have h1 := h.more (Nat.le_succ n)
  unfold Sy.call
  split
  · exact h1
  · split
    · exact h1
    · split
      · exact h.callOpen c
      · split
        · exact (h.create c).more (Nat.le_succ n)
        · split
          · exact (h.remove ho c).more (Nat.le_succ n)
          · split
            · exact h.rename ho c
            · split
              · exact h1
              · exact h.use ho c
end Sy
end Go.Proofs.YtjppfhgkanbemacGreatDoor

namespace Go.Proofs.YtjppfhgkanbemacGreatDoor
namespace Sy
open Pt Tr

/-- How much there is to go through. -/
def tot (l : List Bs) : Nat := (l.map fun n => n.length + 1).sum
theorem tot_cons (n : Bs) (l : List Bs) : tot (n :: l) = n.length + 1 + tot l := by simp [tot]
theorem tot_app (l m : List Bs) : tot (l ++ m) = tot l + tot m := by simp [tot]
theorem tot_len : ∀ l : List Bs, l.length ≤ tot l
  | [] => Nat.zero_le _
  | n :: l => by have := tot_len l; rw [tot_cons, List.length_cons]; omega
theorem tot_glue : ∀ {l : List Bs}, l ≠ [] → (glue l).length + 1 = tot l
  | [], h => absurd rfl h
  | [n], _ => by rw [tot_cons]; rfl
  | n :: m :: r, _ => by
    have := tot_glue (l := m :: r) (by simp)
    rw [glue_cons n (by simp), tot_cons, List.length_append, List.length_cons]
    omega
theorem tot_filter (p : Bs → Bool) : ∀ l : List Bs, tot (l.filter p) ≤ tot l
  | [] => Nat.le_refl _
  | n :: l => by
    have := tot_filter p l
    rw [List.filter_cons]
    split
    · rw [tot_cons, tot_cons]; omega
    · rw [tot_cons]; omega
theorem tot_parse (p : Bs) : tot (parse p).1 ≤ 81 := by
  unfold parse
  split
  · show tot [] ≤ 81; decide
  · split
    · show tot [] ≤ 81; decide
    · split
      · have h1 := tot_filter counts (split p)
        have h2 := tot_glue (split_ne p)
        rw [glue_split] at h2
        show tot ((split p).filter counts) ≤ 81
        omega
      · show tot [] ≤ 81; decide
theorem dir_size (p : Bs) : (dirOf p).length ≤ p.length := by
  by_cases h : p = []
  · subst h; decide
  · exact Nat.le_of_lt (dir_short h)
theorem join_size (d n : Bs) : (join d n).length ≤ d.length + n.length + 1 := by
  unfold join
  split
  · omega
  · rw [List.length_append, List.length_cons]; omega

section
variable {T : List En} {fo : Bool} {h : Nat} {n a : Bs} {r : List Bs}
/-- What a link does, with so many hops left. -/
def linkN (T : List En) (fo : Bool) : Nat → ByteArray → List Bs → Bs → Bs × Int
  | 0 => fun _ _ _ => ([], 12)
  | h + 1 => hop (walk T fo h)
theorem walk_eq : walk T fo h = walkN T fo (linkN T fo h) := by
  cases h <;> rfl
theorem walk_end : walk T fo h [] a = (a, 0) := by rw [walk_eq]; unfold walkN; rfl
theorem dir_none (hg : get T a = none) : dirErr T a = 6 := by unfold dirErr; rw [hg]
theorem dir_not {e : En} (hg : get T a = some e) (hk : e.k ≠ 2) : dirErr T a = 10 := by unfold dirErr; rw [hg]; exact if_pos hk
theorem dir_is {e : En} (hg : get T a = some e) (hk : e.k = 2) : dirErr T a = 0 := by unfold dirErr; rw [hg]; exact if_neg (by simp [hk])
theorem walk_bad {x : Int} (hd : dirErr T a = x) (hx : x ≠ 0) : walk T fo h (n :: r) a = ([], x) := by
  rw [walk_eq]; unfold walkN; rw [hd, if_pos hx]
theorem walk_up (hd : dirErr T a = 0) (hn : n = [46, 46]) : walk T fo h (n :: r) a = walk T fo h r (dirOf a) := by
  rw [walk_eq]; conv => lhs; unfold walkN
  rw [if_neg (by simp [hd]), if_pos hn]
theorem walk_gone (hd : dirErr T a = 0) (hn : n ≠ [46, 46]) (hg : get T (join a n) = none) (hr : r ≠ []) : walk T fo h (n :: r) a = ([], 6) := by
  rw [walk_eq]; conv => lhs; unfold walkN
  rw [if_neg (by simp [hd]), if_neg hn, hg]; exact if_pos hr
theorem walk_new (hd : dirErr T a = 0) (hn : n ≠ [46, 46]) (hg : get T (join a n) = none) (hr : r = []) : walk T fo h (n :: r) a = walk T fo h r (join a n) := by
  rw [walk_eq]; conv => lhs; unfold walkN
  rw [if_neg (by simp [hd]), if_neg hn, hg]; exact if_neg (by simp [hr])
theorem walk_next {e : En} (hd : dirErr T a = 0) (hn : n ≠ [46, 46]) (hg : get T (join a n) = some e) (hk : ¬ (e.k = 3 ∧ (fo = true ∨ r ≠ []))) : walk T fo h (n :: r) a = walk T fo h r (join a n) := by
  rw [walk_eq]; conv => lhs; unfold walkN
  rw [if_neg (by simp [hd]), if_neg hn, hg]; exact if_neg hk
theorem walk_link {e : En} (hd : dirErr T a = 0) (hn : n ≠ [46, 46]) (hg : get T (join a n) = some e) (hk : e.k = 3 ∧ (fo = true ∨ r ≠ [])) : walk T fo h (n :: r) a = linkN T fo h e.t r a := by
  rw [walk_eq]; conv => lhs; unfold walkN
  rw [if_neg (by simp [hd]), if_neg hn, hg]; exact if_pos hk
theorem link_bad {t : ByteArray} {x : Int} (hp : (parse t.data.toList).2 = x) (hx : x ≠ 0) : linkN T fo (h + 1) t r a = ([], x) := by
  show hop _ _ _ _ = _
  unfold hop; rw [if_pos (by rw [hp]; exact hx), hp]
theorem link_good {t : ByteArray} (hp : (parse t.data.toList).2 = 0) : linkN T fo (h + 1) t r a = walk T fo h ((parse t.data.toList).1 ++ r) (if slash t then [] else a) := by
  show hop _ _ _ _ = _
  unfold hop; rw [if_neg (by simp [hp])]
end
end Sy
end Go.Proofs.YtjppfhgkanbemacGreatDoor

namespace Go.Proofs.YtjppfhgkanbemacGreatDoor
namespace Sy
open Pt Tr

/-- Those of fs changed. -/
def part (g : Nat → Ob → Ob) (fs : List Nat) (s : St) : St := { s with obs := s.obs.mapIdx fun i o => if i ∈ fs then g i o else o }
section
variable {g : Nat → Ob → Ob} {fs : List Nat} {s : St} {i : Nat}
theorem part_nil : part g [] s = s := by
  unfold part
  have e : (s.obs.mapIdx fun i o => if i ∈ ([] : List Nat) then g i o else o) = s.obs := by
    refine List.ext_getElem (by simp) fun j h1 h2 => ?_
    simp
  rw [e]
theorem part_len : (part g fs s).obs.length = s.obs.length := List.length_mapIdx ..
theorem part_get (hi : i < s.obs.length) : obAt (part g fs s) i = if i ∈ fs then g i (obAt s i) else obAt s i := by
  unfold obAt part
  simp only [List.getD_eq_getElem?_getD, List.getElem?_mapIdx, List.getElem?_eq_getElem hi, Option.map_some, Option.getD_some]
theorem part_out (hi : i < s.obs.length) (h : i ∉ fs) : obAt (part g fs s) i = obAt s i := by rw [part_get hi, if_neg h]
theorem part_text (hi : i < s.obs.length) (h : i ∉ fs) : textOf (part g fs s) i = textOf s i := by
  unfold textOf
  rw [part_out hi h]
  rfl
theorem part_eq {t : St} (h1 : t.u = s.u) (h2 : t.T = s.T) (h3 : t.files = s.files) (h4 : t.des = s.des) (h5 : t.fds = s.fds) (hl : t.obs.length = s.obs.length) (h : ∀ j, j < s.obs.length → obAt t j = if j ∈ fs then g j (obAt s j) else obAt s j) : t = part g fs s := by
  obtain ⟨u, T, obs, files, des, fds⟩ := t
  dsimp only at h1 h2 h3 h4 h5 hl
  subst h1 h2 h3 h4 h5
  unfold part
  congr 1
  refine List.ext_getElem (by rw [hl, List.length_mapIdx]) fun j a b => ?_
  have hj : j < s.obs.length := by rw [List.length_mapIdx] at b; exact b
  have h9 := h j hj
  rw [List.getElem_mapIdx]
  unfold obAt at h9
  simp only [List.getD_eq_getElem?_getD, List.getElem?_eq_getElem hj, List.getElem?_eq_getElem a, Option.getD_some] at h9
  exact h9
theorem setOb_get {t : St} {f : Ob → Ob} {j : Nat} (hj : j < t.obs.length) : obAt (setOb t i f) j = if j = i then f (obAt t j) else obAt t j := by
  unfold obAt setOb
  simp only [List.getD_eq_getElem?_getD, List.getElem?_modify]
  rw [List.getElem?_eq_getElem hj]
  by_cases h : i = j
  · subst h; simp
  · rw [if_neg (fun e => h e.symm)]; simp [h]
theorem part_hit {f : Ob → Ob} (h : i ∉ fs) (hi : i < s.obs.length) (hf : f (obAt s i) = g i (obAt s i)) : setOb (part g fs s) i f = part g (fs ++ [i]) s := by
  refine part_eq rfl rfl rfl rfl rfl (by unfold setOb; show (List.modify _ _ _).length = _; rw [List.length_modify, part_len]) fun j hj => ?_
  rw [setOb_get (by rw [part_len]; exact hj), part_get hj]
  by_cases e : j = i
  · subst e
    rw [if_pos rfl, if_neg h, if_pos (by simp), hf]
  · rw [if_neg e]
    by_cases hm : j ∈ fs
    · rw [if_pos hm, if_pos (by simp [hm])]
    · rw [if_neg hm, if_neg (by simp [hm, e])]
theorem part_miss (h : i ∉ fs) (hi : i < s.obs.length) (hf : g i (obAt s i) = obAt s i) : part g fs s = part g (fs ++ [i]) s := by
  refine part_eq rfl rfl rfl rfl rfl part_len fun j hj => ?_
  rw [part_get hj]
  by_cases e : j = i
  · subst e
    rw [if_neg h, if_pos (by simp), hf]
  · by_cases hm : j ∈ fs
    · rw [if_pos hm, if_pos (by simp [hm])]
    · rw [if_neg hm, if_neg (by simp [hm, e])]
theorem part_in {n : Nat} (h : In n s) (hg : ∀ j, j < s.obs.length → ObOk n (g j (obAt s j))) : In n (part g fs s) :=
  h.obs (List.length_mapIdx ..) fun o hm => by
    obtain ⟨j, hj, rfl⟩ := List.mem_iff_getElem.1 hm
    rw [List.length_mapIdx] at hj
    rw [List.getElem_mapIdx]
    have h0 := h.ob _ (List.getElem_mem hj)
    have e : obAt s j = s.obs[j] := by unfold obAt; simp [List.getD_eq_getElem?_getD, hj]
    have h1 := hg j hj
    rw [e] at h1
    split
    · exact h1
    · exact h0
theorem part_ok (h : Ok s) : Ok (part g fs s) := ok_of h rfl rfl
end
/-- What is there no more, of one file. -/
def loseG (s : St) (p : Bs) (i : Nat) (o : Ob) : Ob := if o.P = p ∧ p ≠ [] then { o with t := textOf s i, p := noE } else o
theorem lose_eq (s : St) (p : Bs) : lose s p = part (loseG s p) s.files s := by
  unfold lose part loseG
  congr 1
  refine List.ext_getElem (by simp) fun j h1 h2 => ?_
  have hj : j < s.obs.length := by rw [List.length_mapIdx] at h1; exact h1
  simp only [List.getElem_mapIdx]
  by_cases a : j ∈ s.files
  · by_cases b : s.obs[j].P = p ∧ p ≠ []
    · rw [if_pos ⟨a, b⟩, if_pos a, if_pos b]
    · rw [if_neg (fun q => b q.2), if_pos a, if_neg b]
  · rw [if_neg (fun q => a q.1), if_neg a]
theorem loseG_ok {n : Nat} {s : St} (h : In n s) (ho : Ok s) (p : Bs) : ∀ j, j < s.obs.length → ObOk n (loseG s p j (obAt s j)) := fun j _ => by
  have h0 := h.obAt j
  unfold loseG
  split
  · exact ⟨by show noE.size ≤ _; rw [noE_size]; omega, h.textOf ho j, h0.2.2⟩
  · exact h0
/-- Where one file is called now. -/
def followG (a b : Bs) (_ : Nat) (o : Ob) : Ob := if o.P = a ∨ (under o.P a = true ∧ o.P ≠ []) then { o with p := bytesOf (b ++ o.P.drop a.length) } else o
theorem follow_eq (s : St) (a b : Bs) : follow s a b = part (followG a b) s.files s := by
  unfold follow part followG
  congr 1
  refine List.ext_getElem (by simp) fun j h1 h2 => ?_
  have hj : j < s.obs.length := by rw [List.length_mapIdx] at h1; exact h1
  simp only [List.getElem_mapIdx]
  by_cases x : j ∈ s.files
  · by_cases y : s.obs[j].P = a ∨ (under s.obs[j].P a = true ∧ s.obs[j].P ≠ [])
    · rw [if_pos ⟨x, y⟩, if_pos x, if_pos y]
    · rw [if_neg (fun q => y q.2), if_pos x, if_neg y]
  · rw [if_neg (fun q => x q.1), if_neg x]
theorem lose_files (s : St) (p : Bs) : (lose s p).files = s.files := rfl
theorem follow_files (s : St) (a b : Bs) : (follow s a b).files = s.files := rfl
theorem take_in {l : List Nat} {k : Nat} (hn : l.Nodup) (hk : k < l.length) : l[k] ∉ l.take k := fun h => by
  obtain ⟨j, hj, e⟩ := List.mem_iff_getElem.1 h
  rw [List.length_take] at hj
  rw [List.getElem_take] at e
  have := (List.getElem_inj hn).1 e
  omega
end Sy
end Go.Proofs.YtjppfhgkanbemacGreatDoor

namespace Go.Proofs.YtjppfhgkanbemacGreatDoor
namespace Sy
open Pt Tr

theorem named_letters {n : Bs} (h : named n = true) : n ≠ [] ∧ ∀ c ∈ n, letter c = true := by
  refine ⟨named_ne' h, ?_⟩
  unfold named at h
  rw [Bool.and_eq_true, List.all_eq_true] at h
  exact h.2
theorem named_dots {n : Bs} (h : named n = true) : n ≠ [46, 46] ∧ n ≠ [46] := by
  obtain ⟨_, h2⟩ := named_letters h
  constructor
  · rintro rfl; have := h2 46 (by simp); cases this
  · rintro rfl; have := h2 46 (by simp); cases this
theorem parse_clean {p : Bs} (h : clean p = true) : parse p = (split p, 0) := by
  have h1 := clean_len h
  have h2 := clean_names h
  unfold parse
  rw [if_neg (by omega), if_neg (clean_ne h)]
  have e : (split p).filter counts = split p := List.filter_eq_self.2 fun n hn => by
    have := h2 n hn
    unfold counts
    rw [Bool.not_eq_true', Bool.or_eq_false_iff, List.isEmpty_eq_false_iff, beq_eq_false_iff_ne]
    exact ⟨named_ne' this, (named_dots this).2⟩
  rw [e, if_pos]
  rw [List.all_eq_true]
  intro n hn
  unfold fine
  rw [h2 n hn, Bool.or_true]
theorem walkN_down {T : List En} {b : Bool} {link : ByteArray → List Bs → Bs → Bs × Int} {p : Bs} (hT : Right false T) (hp : clean p = true) (hno : ∀ e, get T p = some e → e.k = 3 → b = false)
    (hin : ∀ n, dirOf p = n → n = [] ∨ ∃ d ∈ T, d.P = n ∧ d.k = 2) :
    ∀ (post pre : List Bs), split p = pre ++ post → walkN T b link post (glue pre) = (p, 0)
  | [], pre, e => by
    rw [List.append_nil] at e
    unfold walkN
    rw [← e, glue_split]
  | n :: post, pre, e => by
    have hn : named n = true := clean_names hp n (by rw [e]; simp)
    have hj : join (glue pre) n = glue (pre ++ [n]) := by
      unfold join
      by_cases h0 : pre = []
      · subst h0; rfl
      · rw [if_neg ?_, glue_app h0 (by simp)]
        · rfl
        · cases pre with
          | nil => exact absurd rfl h0
          | cons q r =>
            have hq : named q = true := clean_names hp q (by rw [e]; simp)
            have := named_ne' hq
            intro h
            cases r with
            | nil => exact this h
            | cons a s => rw [glue_cons q (by simp)] at h; exact this (List.append_eq_nil_iff.1 h).1
    have hpre : ∀ ps qs : List Bs, ps ≠ [] → qs ≠ [] → split p = ps ++ qs → glue ps ≠ [] ∧ under p (glue ps) = true := by
      intro ps qs h1 h2 h3
      have hne : glue ps ≠ [] := by
        cases ps with
        | nil => exact absurd rfl h1
        | cons q r =>
          have hq : named q = true := clean_names hp q (by rw [h3]; simp)
          have := named_ne' hq
          intro h
          cases r with
          | nil => exact this h
          | cons a s => rw [glue_cons q (by simp)] at h; exact this (List.append_eq_nil_iff.1 h).1
      refine ⟨hne, (under_iff hne).2 ⟨glue qs, ?_⟩⟩
      rw [← glue_app h1 h2, ← h3, glue_split]
    have up : ∀ (k : Nat) (q : Bs), q.length ≤ k → q ≠ [] → (∃ d ∈ T, d.P = q ∧ d.k = 2) → ∀ r, r ≠ [] → under q r = true → ∃ d ∈ T, d.P = r ∧ d.k = 2 := by
      intro k q _ _ ⟨d, d1, d2, _⟩ r hr hu
      exact under_dir hT hr d1 (by rw [d2]; exact hu)
    have dirs : ∀ ps qs : List Bs, ps ≠ [] → qs ≠ [] → split p = ps ++ qs → ∃ d ∈ T, d.P = glue ps ∧ d.k = 2 := by
      intro ps qs h1 h2 h3
      obtain ⟨a, b⟩ := hpre ps qs h1 h2 h3
      obtain ⟨c1, c2⟩ := under_step a b
      rcases hin _ rfl with h | ⟨d, d1, d2, d3⟩
      · exact absurd h c1
      · rcases c2 with c2 | c2
        · exact ⟨d, d1, d2.trans c2, d3⟩
        · exact up _ (dirOf p) (Nat.le_refl _) c1 ⟨d, d1, d2, d3⟩ _ a c2
    have h0 : dirErr T (glue pre) = 0 := by
      by_cases h0 : pre = []
      · subst h0
        exact dirErr_of hT.2.1 (.inl rfl)
      · exact dirErr_of hT.2.1 (.inr (dirs pre (n :: post) h0 (by simp) e))
    have ih := walkN_down (b := b) (link := link) hT hp hno hin post (pre ++ [n]) (by rw [e]; simp)
    unfold walkN
    rw [if_neg (by simp [h0]), if_neg (named_dots hn).1, hj]
    by_cases hl : post = []
    · subst hl
      have hpp : glue (pre ++ [n]) = p := by rw [← e, glue_split]
      rw [hpp] at ih ⊢
      split
      · rw [if_neg (by simp)]; exact ih
      · rename_i x hx
        rw [if_neg]
        · exact ih
        · rintro ⟨h1, h2⟩
          have := hno x hx h1
          rw [this] at h2
          simp at h2
    · obtain ⟨d, d1, d2, d3⟩ := dirs (pre ++ [n]) post (by simp) hl (by rw [e]; simp)
      have g := get_mem hT.2.1 d1 (right_ne hT d1)
      rw [d2] at g
      rw [g]
      dsimp only
      rw [if_neg (by rw [d3]; intro h; exact absurd h.1 (by decide))]
      exact ih
/-- A clean path, in a directory that is there, leads to itself: no link that must be followed stands there. -/
theorem find_clean {T : List En} {b : Bool} {p : Bs} (hT : Right false T) (hp : clean p = true) (hno : ∀ e, get T p = some e → e.k = 3 → b = false) (hin : dirOf p = [] ∨ ∃ d ∈ T, d.P = dirOf p ∧ d.k = 2) : find T p b = (p, 0) := by
  have key : ∀ link, walkN T b link (split p) [] = (p, 0) := fun link => walkN_down (link := link) hT hp hno (fun n hn => by rw [← hn]; exact hin) (split p) [] rfl
  unfold find
  rw [parse_clean hp]
  dsimp only
  have hw : walk T b 8 (split p) [] = (p, 0) := by
    show walkN T b (hop (walk T b 7)) (split p) [] = _
    exact key _
  rw [hw, if_neg (by simp), if_neg (by simp only; have := clean_len hp; omega)]
theorem find_there {T : List En} {b : Bool} {p : Bs} {e : En} (hT : Right false T) (hp : p ≠ []) (hg : get T p = some e) (hk : e.k ≠ 3 ∨ b = false) : find T p b = (p, 0) := by
  obtain ⟨h1, h2⟩ := get_some hp hg
  refine find_clean hT (by rw [← h2]; exact entry_clean (hT.1 e h1)) (fun x hx hk3 => ?_) (by rw [← h2]; exact hT.2.2 e h1)
  rw [hg] at hx
  injection hx with hx
  subst hx
  rcases hk with hk | hk
  · exact absurd hk3 hk
  · exact hk
end Sy
end Go.Proofs.YtjppfhgkanbemacGreatDoor

namespace Go.Proofs.YtjppfhgkanbemacGreatDoor
namespace Sy
open Pt Tr

def openC (o : Int) (p : ByteArray) : Ca := ⟨1, o, 0, 1, 0, p, noE, noE, false⟩
def unlinkC (p : ByteArray) : Ca := ⟨8, 0, 0, 0, 0, p, noE, noE, false⟩
def readC (o n : Int) : Ca := ⟨3, o, 0, n, 0, noE, noE, noE, false⟩
theorem bytesOf_data (p : ByteArray) : bytesOf p.data.toList = p := bytes_ext (by unfold bytesOf; simp)
theorem noneN (n k : Nat) : (List.replicate n (none : Option Nat)).getD k none = none := by
  rw [List.getD_eq_getElem?_getD, List.getElem?_replicate]
  split <;> rfl
theorem noE_data : noE.data.toList = [] := rfl

/-- One open file, of owner o, first of all. -/
theorem open_first {s : St} {p : ByteArray} {f : En} {o : Nat} (ho : o < 4) (hs : Ok s) (hfree : free s o = some 0) (hfl : s.files = []) (hp : p.data.toList ≠ []) (hg : get s.T p.data.toList = some f) (hk : f.k = 1) :
    call s (openC o p) = (setFd { s with obs := s.obs ++ [⟨p, noE, []⟩], files := [s.obs.length], des := s.des ++ [⟨s.obs.length, 1, 0, 1⟩] } o 0 (some s.des.length), .num 0) := by
  have hT := (fine_parts hs.1).2.2.2.2.2.2.2
  have hTe : overL s.u.U (belowU s.u) = s.T := by
    have := (fine_parts hs.1).2.2.2.2.1
    rw [hs.2] at this
    exact (congrArg Prod.fst this).symm
  rw [hTe] at hT
  have hfd := find_there (b := true) hT hp hg (.inl (by rw [hk]; decide))
  rw [call_open rfl (by show (0 : Int) ≤ o; omega) (by show (o : Int) < 4; omega)]
  unfold callOpen
  rw [if_neg (show ¬ badFlags (openC o p).n = true from show ¬ badFlags 1 = true by decide)]
  have hfree' : free s (openC o p).owner.toNat = some 0 := by
    show free s ((o : Int)).toNat = some 0
    rw [Int.toNat_natCast]; exact hfree
  rw [hfree']
  dsimp only
  have hb : (!bit (openC o p).n 4) = true := show (!bit 1 4) = true by decide
  rw [hb]
  change (if (find s.T p.data.toList true).2 ≠ 0 then _ else _) = _
  have e1 : find s.T (openC o p).path.data.toList true = (p.data.toList, 0) := hfd
  rw [hfd, if_neg (by simp), e1]
  dsimp only
  have e2 : openSet s (openC o p).n p.data.toList = (s, 0) := by
    unfold openSet
    rw [hg]
    dsimp only
    rw [if_neg (show ¬ bit (openC o p).n 4 = true from show ¬ bit 1 4 = true by decide), if_neg (by rw [hk]; decide), if_neg (by rintro ⟨h, _⟩; exact absurd h (show ¬ bit 1 5 = true by decide))]
  rw [e2, if_neg (by simp)]
  have e3 : opened s p.data.toList = ({ s with obs := s.obs ++ [⟨p, noE, []⟩], files := [s.obs.length] }, s.obs.length) := by
    unfold opened
    rw [hfl, bytesOf_data]; rfl
  rw [e3]
  rfl

/-- A lost file of owner 3, which nobody else has. -/
structure Lost (s : St) (t : ByteArray) : Prop where
  ob : s.obs[0]? = some ⟨noE, t, []⟩
  de : s.des[0]? = some ⟨0, 1, 0, 1⟩
  fd : fdAt s 3 0 = some 0
  dn : ∀ d e, 0 < d → s.des[d]? = some e → e.o ≠ 0
  fn : ∀ o k d, o ≠ 3 → fdAt s o k = some d → 0 < d ∧ d < s.des.length
theorem Lost.congr {s s' : St} {t : ByteArray} (h : Lost s t) (h1 : s'.obs = s.obs) (h2 : s'.des = s.des) (h3 : s'.fds = s.fds) : Lost s' t := by
  have e : ∀ o k, fdAt s' o k = fdAt s o k := fun o k => by unfold fdAt; rw [h3]
  exact ⟨by rw [h1]; exact h.ob, by rw [h2]; exact h.de, by rw [e]; exact h.fd, by rw [h2]; exact h.dn, fun o k d => by rw [e, h2]; exact h.fn o k d⟩
theorem set_keeps (s : St) (r : Un × Int) : (set s r).1.obs = s.obs ∧ (set s r).1.des = s.des ∧ (set s r).1.fds = s.fds ∧ (set s r).1.files = s.files := by
  unfold set; split <;> exact ⟨rfl, rfl, rfl, rfl⟩
theorem Lost.set {s : St} {t : ByteArray} (h : Lost s t) (r : Un × Int) : Lost (set s r).1 t := h.congr (set_keeps s r).1 (set_keeps s r).2.1 (set_keeps s r).2.2.1
theorem openSet_keeps (s : St) (n : Int) (p : Bs) : (openSet s n p).1.obs = s.obs ∧ (openSet s n p).1.des = s.des ∧ (openSet s n p).1.fds = s.fds ∧ (openSet s n p).1.files = s.files := by
  unfold openSet
  split
  · split
    · exact ⟨rfl, rfl, rfl, rfl⟩
    · exact set_keeps _ _
  · split
    · exact ⟨rfl, rfl, rfl, rfl⟩
    · split
      · exact ⟨rfl, rfl, rfl, rfl⟩
      · split
        · exact set_keeps _ _
        · exact ⟨rfl, rfl, rfl, rfl⟩
theorem openSet_ne {s : St} {n : Int} {p : Bs} (h : (openSet s n p).2 = 0) : p ≠ [] := by
  rintro rfl
  unfold openSet at h
  rw [get_root] at h
  dsimp only at h
  split at h
  · cases h
  · rw [if_pos (show En.root.k = 2 from rfl)] at h; cases h
theorem fdAt_set (s : St) (o k : Nat) (v : Option Nat) (o' k' : Nat) : fdAt (setFd s o k v) o' k' = fdAt s o' k' ∨ (o' = o ∧ k' = k ∧ fdAt (setFd s o k v) o' k' = v) := by
  unfold fdAt setFd
  dsimp only
  by_cases ho : o' = o
  · subst ho
    by_cases hk : k' = k
    · subst hk
      by_cases hl : o' < s.fds.length
      · by_cases hl2 : k' < s.fds[o'].length
        · right
          refine ⟨rfl, rfl, ?_⟩
          simp [List.getD_eq_getElem?_getD, hl, hl2]
        · left
          simp [List.getD_eq_getElem?_getD, hl, hl2]
      · left
        simp [List.getD_eq_getElem?_getD, hl]
    · left
      by_cases hl : o' < s.fds.length
      · simp [List.getD_eq_getElem?_getD, hl, List.getElem?_set_ne (Ne.symm hk)]
      · simp [List.getD_eq_getElem?_getD, hl]
  · left
    have : ¬ o = o' := fun e => ho e.symm
    simp [List.getD_eq_getElem?_getD, this]
theorem Lost.setFd {s : St} {t : ByteArray} (h : Lost s t) {o k : Nat} {v : Option Nat} (ho : o ≠ 3) (hv : ∀ d, v = some d → 0 < d ∧ d < s.des.length) : Lost (Sy.setFd s o k v) t :=
  ⟨h.ob, h.de, by
    rcases fdAt_set s o k v 3 0 with e | ⟨e, _, _⟩
    · rw [e]; exact h.fd
    · exact absurd e.symm ho, h.dn, fun o' k' d ho' hd => by
    rcases fdAt_set s o k v o' k' with e | ⟨_, _, e⟩
    · rw [e] at hd; exact h.fn o' k' d ho' hd
    · rw [e] at hd; exact hv d hd⟩
theorem Lost.setOb {s : St} {t : ByteArray} (h : Lost s t) {i : Nat} (hi : i ≠ 0) (f : Ob → Ob) : Lost (Sy.setOb s i f) t :=
  ⟨by show (s.obs.modify i f)[0]? = _; rw [List.getElem?_modify, h.ob]; simp [hi], h.de, h.fd, h.dn, h.fn⟩
theorem Lost.setDe {s : St} {t : ByteArray} (h : Lost s t) {i : Nat} (hi : 0 < i) {f : De → De} (hf : ∀ e, (f e).o = e.o) : Lost (Sy.setDe s i f) t :=
  ⟨h.ob, by show (s.des.modify i f)[0]? = _; rw [List.getElem?_modify, h.de]; simp; omega, h.fd, fun d e hd he => by
    have he : (s.des.modify i f)[d]? = some e := he
    rw [List.getElem?_modify] at he
    rcases hx : s.des[d]? with _ | x
    · rw [hx] at he; cases he
    · rw [hx] at he
      have he : some (if i = d then f x else x) = some e := he
      injection he with he
      by_cases hid : i = d
      · rw [if_pos hid] at he
        rw [← he, hf]; exact h.dn d x hd hx
      · rw [if_neg hid] at he
        rw [← he]; exact h.dn d x hd hx, fun o k d ho hd => by
    have := h.fn o k d ho hd
    show _ ∧ d < (s.des.modify i f).length
    rw [List.length_modify]; exact this⟩
theorem lost_ob {s : St} {t : ByteArray} (h : Lost s t) : 0 < s.obs.length ∧ obAt s 0 = ⟨noE, t, []⟩ := by
  have h1 := h.ob
  constructor
  · rcases Nat.eq_zero_or_pos s.obs.length with h0 | h0
    · rw [List.getElem?_eq_none (by omega)] at h1; cases h1
    · exact h0
  · unfold obAt; rw [List.getD_eq_getElem?_getD, h1]; rfl
theorem Lost.write {s : St} {t : ByteArray} (h : Lost s t) {i : Nat} (hi : i ≠ 0) (x : ByteArray) : Lost (Sy.write s i x).1 t := by
  unfold Sy.write
  split
  · exact h
  · split
    · exact h.setOb hi _
    · split
      · exact h
      · exact h.set _
theorem Lost.callOpen {s : St} {t : ByteArray} (h : Lost s t) (c : Ca) (ho : c.owner.toNat ≠ 3) : Lost (Sy.callOpen s c).1 t := by
  unfold Sy.callOpen
  split
  · exact h
  split
  · exact h
  split
  · exact h
  generalize Sy.find s.T c.path.data.toList (!bit c.n 4) = f
  dsimp only
  have hk := openSet_keeps s c.n f.1
  have h1 : Lost (openSet s c.n f.1).1 t := h.congr hk.1 hk.2.1 hk.2.2.1
  split
  · exact h1
  · rename_i h0
    have h0 := openSet_ne (Classical.not_not.1 h0)
    have h2 : Lost (opened (openSet s c.n f.1).1 f.1).1 t ∧ (opened (openSet s c.n f.1).1 f.1).2 ≠ 0 := by
      generalize (openSet s c.n f.1).1 = s1 at h1
      unfold opened
      split
      · rename_i i hi
        refine ⟨h1, ?_⟩
        rintro rfl
        have := List.find?_some hi
        rw [(lost_ob h1).2] at this
        simp only [beq_iff_eq] at this
        exact h0 this.symm
      · have hl := (lost_ob h1).1
        refine ⟨⟨by show (s1.obs ++ _)[0]? = _; rw [List.getElem?_append_left hl]; exact h1.ob, h1.de, h1.fd, h1.dn, h1.fn⟩, by show s1.obs.length ≠ 0; omega⟩
    obtain ⟨h3, h4⟩ := h2
    generalize opened (openSet s c.n f.1).1 f.1 = q at h3 h4
    have hd : 0 < q.1.des.length := by
      rcases Nat.eq_zero_or_pos q.1.des.length with h5 | h5
      · have := h3.de; rw [List.getElem?_eq_none (by omega)] at this; cases this
      · exact h5
    refine Lost.setFd ?_ ho (fun d e => by injection e with e; subst e; show _ ∧ _ < (q.1.des ++ _).length; rw [List.length_append]; exact ⟨hd, Nat.lt_add_of_pos_right (by simp)⟩)
    refine ⟨h3.ob, by show (q.1.des ++ _)[0]? = _; rw [List.getElem?_append_left hd]; exact h3.de, h3.fd, fun d e hd2 he => ?_, fun o k d ho2 hd2 => ?_⟩
    · have he : (q.1.des ++ [⟨q.2, c.n, 0, 1⟩])[d]? = some e := he
      rcases Nat.lt_or_ge d q.1.des.length with h5 | h5
      · rw [List.getElem?_append_left h5] at he; exact h3.dn d e hd2 he
      · rw [List.getElem?_append_right h5] at he
        rcases Nat.eq_zero_or_pos (d - q.1.des.length) with h6 | h6
        · rw [h6] at he; injection he with he; rw [← he]; exact h4
        · rw [List.getElem?_eq_none (by simp; omega)] at he; cases he
    · obtain ⟨a, b⟩ := h3.fn o k d ho2 hd2
      show _ ∧ d < (q.1.des ++ _).length
      rw [List.length_append]; exact ⟨a, by omega⟩
theorem Lost.use {s : St} {t : ByteArray} (h : Lost s t) (c : Ca) (ho : c.owner.toNat ≠ 3) : Lost (Sy.use s c).1 t := by
  unfold Sy.use
  split
  · exact h
  split
  · exact h
  rename_i d hd
  obtain ⟨d0, dl⟩ := h.fn _ _ _ ho hd
  have hi : (deAt s d).o ≠ 0 := by
    refine h.dn d (deAt s d) d0 ?_
    unfold deAt
    rw [List.getD_eq_getElem?_getD, List.getElem?_eq_getElem dl]; rfl
  split
  · unfold Sy.callClose
    dsimp only
    have h1 : Lost (Sy.setDe (Sy.setOb (Sy.setFd s c.owner.toNat c.fd.toNat none) (deAt s d).o fun x => { x with l := Lk.leave x.l c.owner.toNat }) d fun x => { x with refs := x.refs - 1 }) t :=
      ((h.setFd ho (fun _ e => by cases e)).setOb hi _).setDe d0 (fun _ => rfl)
    split
    · exact h1.congr rfl rfl rfl
    · exact h1
  split
  · unfold Sy.callDup
    split
    · exact h
    · exact (h.setFd ho (fun _ e => by injection e with e; subst e; exact ⟨d0, dl⟩)).setDe d0 (fun _ => rfl)
  split
  · unfold Sy.callSeek
    split
    · exact h
    · exact h.setDe d0 (fun _ => rfl)
  split
  · unfold Sy.callLock
    dsimp only
    generalize (if c.kind = 15 then Lk.free (obAt s (deAt s d).o).l ⟨c.owner, c.n, c.m, c.alone⟩ else Lk.take (obAt s (deAt s d).o).l ⟨c.owner, c.n, c.m, c.alone⟩) = r
    split
    · exact h.setOb hi _
    · exact h
  split
  · unfold Sy.callRead
    split
    · exact h
    split
    · exact h
    · exact h.setDe d0 (fun _ => rfl)
  · unfold Sy.callWrite
    split
    · exact h
    dsimp only
    split
    · split
      · exact h
      · exact h.write hi _
    generalize (if bit (deAt s d).fl 2 = true then (textOf s (deAt s d).o).data.toList.length else (deAt s d).at_.toNat) = at_
    split
    · exact h.setDe d0 (fun _ => rfl)
    split
    · exact h
    split
    · exact h.write hi _
    · exact (h.write hi _).setDe d0 (fun _ => rfl)
theorem Lost.lose {s : St} {t : ByteArray} (h : Lost s t) (p : Bs) : Lost (Sy.lose s p) t :=
  ⟨by
    show (s.obs.mapIdx _)[0]? = _
    rw [List.getElem?_mapIdx, h.ob]
    show some (if _ then _ else _) = _
    rw [if_neg]
    rintro ⟨_, h1, h2⟩
    exact h2 h1.symm, h.de, h.fd, h.dn, h.fn⟩
theorem Lost.follow {s : St} {t : ByteArray} (h : Lost s t) {a : Bs} (ha : a ≠ []) (b : Bs) : Lost (Sy.follow s a b) t :=
  ⟨by
    show (s.obs.mapIdx _)[0]? = _
    rw [List.getElem?_mapIdx, h.ob]
    show some (if _ then _ else _) = _
    rw [if_neg]
    rintro ⟨_, h1 | ⟨_, h1⟩⟩
    · exact ha h1.symm
    · exact h1 rfl, h.de, h.fd, h.dn, h.fn⟩
theorem Lost.call {s : St} {t : ByteArray} (h : Lost s t) (c : Ca) (ho : c.owner ≠ 3) : Lost (Sy.call s c).1 t := by
  unfold Sy.call
  split
  · exact h
  split
  · exact h
  have ho2 : c.owner.toNat ≠ 3 := by omega
  split
  · exact h.callOpen c ho2
  split
  · unfold Sy.create
    dsimp only
    split
    · exact h
    split
    · exact h
    · exact h.set _
  split
  · unfold Sy.remove
    dsimp only
    split
    · exact h
    split
    · exact h
    split
    · exact h
    split
    · exact h
    split
    · exact h
    split
    · exact h
    · exact (h.lose _).set _
  split
  · unfold Sy.rename
    dsimp only
    split
    · exact h
    split
    · exact h
    split
    · exact h
    split
    · exact h
    · rename_i h1 _
      have h2 : (Sy.find s.T c.path.data.toList false).1 ≠ [] := fun e => h1 (.inl e)
      refine Lost.set (Lost.follow ?_ h2 _) _
      split
      · exact h.lose _
      · exact h
  split
  · exact h
  · exact h.use c ho2
theorem Lost.calls : ∀ {l : List Ca} {s : St} {t : ByteArray}, Lost s t → (∀ c ∈ l, c.owner ≠ 3) → Lost (Sy.calls s l).1 t
  | [], _, _, h, _ => h
  | c :: r, _, _, h, hl => Lost.calls (l := r) (h.call c (hl c (by simp))) fun x hx => hl x (by simp [hx])
theorem calls_app : ∀ (l m : List Ca) (s : St), calls s (l ++ m) = ((calls (calls s l).1 m).1, (calls s l).2 ++ (calls (calls s l).1 m).2)
  | [], _, _ => rfl
  | c :: r, m, s => by
    show ((calls (call s c).1 (r ++ m)).1, (call s c).2 :: (calls (call s c).1 (r ++ m)).2) = _
    rw [calls_app r m]; rfl
/-- What is open is not lost. -/
theorem orphan {u : Un} (hf : Fine u) {p : ByteArray} {f : En} (hp : p.data.toList ≠ []) (hg : get (seenU u).1 p.data.toList = some f) (hk : f.k = 1) {l : List Ca} (hl : ∀ c ∈ l, c.owner ≠ 3) :
    ∃ a1 a2 as a3, (calls (start u) (openC 3 p :: unlinkC p :: (l ++ [readC 3 100]))).2 = a1 :: a2 :: (as ++ [a3]) ∧ as.length = l.length ∧ a1.err = 0 ∧ (a2.err ≠ 0 ∨ a3.text = f.t) := by
  have ok0 := start_ok ((fine_iff u).2 hf)
  have e1 := open_first (s := start u) (o := 3) (by decide) ok0 rfl rfl hp hg hk
  have e1 : call (start u) (openC 3 p) = _ := e1
  generalize hs1 : (setFd { start u with obs := (start u).obs ++ [⟨p, noE, []⟩], files := [(start u).obs.length], des := (start u).des ++ [⟨(start u).obs.length, 1, 0, 1⟩] } 3 0 (some (start u).des.length)) = s1 at e1
  have q1 : s1.T = (seenU u).1 := by rw [← hs1]; rfl
  have q2 : s1.u = u := by rw [← hs1]; rfl
  have q3 : s1.obs = [⟨p, noE, []⟩] := by rw [← hs1]; rfl
  have q4 : s1.files = [0] := by rw [← hs1]; rfl
  have q5 : s1.des = [⟨0, 1, 0, 1⟩] := by rw [← hs1]; rfl
  have q6 : s1.fds = [List.replicate 8 none, List.replicate 8 none, List.replicate 8 none, some 0 :: List.replicate 7 none] := by rw [← hs1]; rfl
  clear hs1
  have ok1 : Ok s1 := ok_of ok0 q2 q1
  show ∃ a1 a2 as a3, (call (start u) (openC 3 p)).2 :: (call (call (start u) (openC 3 p)).1 (unlinkC p)).2 :: (calls (call (call (start u) (openC 3 p)).1 (unlinkC p)).1 (l ++ [readC 3 100])).2 = _ ∧ _
  rw [e1]
  dsimp only
  rw [calls_app]
  refine ⟨_, _, _, _, rfl, calls_len _ _, rfl, ?_⟩
  by_cases h2 : (call s1 (unlinkC p)).2.err = 0
  · right
    -- removed
    have hT : Right false s1.T := by
      have a := (fine_parts hf).2.2.2.2.1
      have b := (fine_parts hf).2.2.2.2.2.2.2
      rw [q1, a]; exact b
    have hL : Lost (call s1 (unlinkC p)).1 f.t := by
      have hfd := find_there (b := false) hT hp (by rw [q1]; exact hg) (.inr rfl)
      have e2 : call s1 (unlinkC p) = remove s1 (unlinkC p) := rfl
      rw [e2] at h2 ⊢
      unfold remove at h2 ⊢
      have e3 : find s1.T (unlinkC p).path.data.toList false = (p.data.toList, 0) := hfd
      rw [e3] at h2 ⊢
      dsimp only at h2 ⊢
      rw [if_neg (by simp)] at h2 ⊢
      have hg1 : Tr.get s1.T p.data.toList = some f := by rw [q1]; exact hg
      rw [hg1] at h2 ⊢
      dsimp only at h2 ⊢
      rw [if_neg (by rintro ⟨h, _⟩; exact absurd h (show ¬ (8 : Int) = 7 by decide)), if_neg (by rw [hk]; rintro ⟨_, h⟩; exact absurd h (by decide)), if_neg hp] at h2 ⊢
      by_cases h3 : (removeU s1.u p.data.toList).2 = 0
      · rw [if_neg (by simp [h3])] at h2 ⊢
        refine Lost.set ?_ _
        have ht : textOf s1 0 = f.t := by
          unfold textOf obAt
          rw [q3]
          show (if p.data.toList = [] then _ else match Tr.get s1.T p.data.toList with | some e => e.t | none => noE) = f.t
          rw [if_neg hp, hg1]
        have hfds : ∀ o k d, fdAt s1 o k = some d → o = 3 := by
          intro o k d h
          unfold fdAt at h
          rw [q6] at h
          match o, h with
          | 0, h => exact absurd ((noneN 8 k).symm.trans h) (by simp)
          | 1, h => exact absurd ((noneN 8 k).symm.trans h) (by simp)
          | 2, h => exact absurd ((noneN 8 k).symm.trans h) (by simp)
          | 3, _ => rfl
          | o + 4, h => simp [List.getD_eq_getElem?_getD] at h
        refine ⟨?_, by show s1.des[0]? = _; rw [q5]; rfl, by show fdAt s1 3 0 = _; unfold fdAt; rw [q6]; rfl, fun d e hd he => ?_, fun o k d ho hd => absurd (hfds o k d hd) ho⟩
        · show (s1.obs.mapIdx _)[0]? = _
          rw [List.getElem?_mapIdx, q3]
          show some (if _ then _ else _) = _
          rw [if_pos ⟨by rw [q4]; simp, rfl, hp⟩, ht]
        · have he : s1.des[d]? = some e := he
          rw [q5, List.getElem?_eq_none (by simp; omega)] at he; cases he
      · rw [if_pos h3] at h2; exact absurd h2 h3
    have hL2 := hL.calls hl
    generalize (calls (call s1 (unlinkC p)).1 l).1 = s3 at hL2
    have ht : textOf s3 0 = f.t := by
      unfold textOf
      rw [(lost_ob hL2).2]; rfl
    have hde : deAt s3 0 = ⟨0, 1, 0, 1⟩ := by
      unfold deAt
      rw [List.getD_eq_getElem?_getD, hL2.de]; rfl
    have e3 : call s3 (readC 3 100) = use s3 (readC 3 100) := rfl
    have e4 : use s3 (readC 3 100) = callRead s3 (readC 3 100) 0 := by
      unfold use
      rw [if_neg (by decide)]
      have : fdAt s3 (readC 3 100).owner.toNat (readC 3 100).fd.toNat = some 0 := hL2.fd
      rw [this]
      rfl
    show (call s3 (readC 3 100)).2.text = f.t
    rw [e3, e4]
    unfold callRead
    rw [hde, if_neg (by decide), if_neg (by decide)]
    dsimp only
    rw [ht]
    have hsz : f.t.data.toList.length ≤ 100 := by
      have := ((entry_zero f false).1 (hT.1 f (get_some hp (by rw [q1]; exact hg)).1)).2.2.1
      rw [show f.t.data.toList.length = f.t.size by simp]; exact this
    show bytesOf ((f.t.data.toList.drop 0).take 100) = f.t
    rw [List.drop_zero, List.take_of_length_le hsz, bytesOf_data]
  · exact .inl h2
end Sy
end Go.Proofs.YtjppfhgkanbemacGreatDoor
