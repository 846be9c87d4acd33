/-
  Paths in plain words: lists of bytes, their pieces between slashes, and the order of paths. No program in sight.
  Trees and layers in plain words: lists of entries. No program in sight.
  Layers over trees in plain words: what a layer hides, what comes of layers, and its laws. No program in sight.
  What is done with trees, in plain words: List, Put, Remove, and their laws. No program in sight.
  tree.Move in plain words. No program in sight.
  The laws of Move in plain words. No program in sight.
  The document's Move in plain words: what it builds is the moved tree.
  A layer that is changed, over a tree, in plain words: what is set is seen. No program in sight.
  What is set in a layer is seen. No program in sight.
  set, with the directories above. No program in sight.
  A layer without a path and what lies below it. No program in sight.
  A union in plain words: what is wrong with it, what is seen, Put, Remove, Move. No program in sight.
  A union in plain words, and its laws. No program in sight.
-/
import Derived.Lib.SplitLaws
import Derived.Lib.Bytealg
import Derived.Lib.Strings
import Derived.Lib.LastIndexByte
namespace Go.Proofs.YtjppfhgkanbemacGreatDoor.Pt

abbrev Bs := List UInt8

def letter (c : UInt8) : Bool := (decide (97 ≤ c.toNat) && decide (c.toNat ≤ 122)) || (decide (48 ≤ c.toNat) && decide (c.toNat ≤ 57))
def named (l : Bs) : Bool := decide (1 ≤ l.length) && decide (l.length ≤ 12) && l.all letter
/-- A byte put ahead of the first piece. -/
def onto (c : UInt8) : List Bs → List Bs
  | [] => [[c]]
  | p :: ps => (c :: p) :: ps
/-- The pieces between the slashes. -/
def split : Bs → List Bs
  | [] => [[]]
  | c :: r => if c = 47 then [] :: split r else onto c (split r)
/-- The pieces, joined again. -/
def glue : List Bs → Bs
  | [] => []
  | [p] => p
  | p :: q :: r => p ++ 47 :: glue (q :: r)
def clean (l : Bs) : Bool := decide (l.length ≤ 80) && (split l).all named
def dirOf (l : Bs) : Bs := glue ((split l).dropLast)
def nameOf (l : Bs) : Bs := (split l).getLastD []
def join (d n : Bs) : Bs := if d = [] then n else d ++ 47 :: n
def under (s d : Bs) : Bool := if d = [] then !s.isEmpty else Lib.hasPrefix s (d ++ [47])
/-- A piece that counts. -/
def counts (n : Bs) : Bool := !(n.isEmpty || n == [46])
def fine (n : Bs) : Bool := n == [46, 46] || named n
/-- The names of a text, and the number of what is wrong (0: nothing). -/
def parse (l : Bs) : List Bs × Int :=
  if 80 < l.length then ([], 4)
  else if l = [] then ([], 6)
  else if ((split l).filter counts).all fine then ((split l).filter counts, 0) else ([], 7)
/-- Below 0, 0, above 0: pieces by pieces. -/
def cmpP : List Bs → List Bs → Int
  | x :: xs, y :: ys => if Lib.compareBytes x y = 0 then cmpP xs ys else Lib.compareBytes x y
  | xs, ys => (xs.length : Int) - (ys.length : Int)
def cmp (a b : Bs) : Int := cmpP (split a) (split b)

/-! ### Pieces -/
theorem split_ne (l : Bs) : split l ≠ [] := by
  cases l with
  | nil => simp [split]
  | cons c r =>
    unfold split
    split
    · simp
    · unfold onto; split <;> simp
theorem onto_len (c : UInt8) (ps : List Bs) (h : ps ≠ []) : (onto c ps).length = ps.length := by
  cases ps with
  | nil => exact absurd rfl h
  | cons p ps => rfl
theorem split_nil : split [] = [[]] := rfl
theorem split_slash (r : Bs) : split (47 :: r) = [] :: split r := by simp [split]
theorem split_cons {c : UInt8} (h : c ≠ 47) (r : Bs) : split (c :: r) = onto c (split r) := by simp [split, h]
theorem glue_cons (p : Bs) {ps : List Bs} (h : ps ≠ []) : glue (p :: ps) = p ++ 47 :: glue ps := by
  cases ps with
  | nil => exact absurd rfl h
  | cons q r => rfl
theorem glue_onto (c : UInt8) {ps : List Bs} (h : ps ≠ []) : glue (onto c ps) = c :: glue ps := by
  cases ps with
  | nil => exact absurd rfl h
  | cons p r =>
    cases r with
    | nil => rfl
    | cons q r => rfl
theorem glue_split : ∀ l : Bs, glue (split l) = l
  | [] => rfl
  | c :: r => by
    by_cases h : c = 47
    · subst h; rw [split_slash, glue_cons _ (split_ne r), glue_split r]; rfl
    · rw [split_cons h, glue_onto c (split_ne r), glue_split r]
/-- A piece without a slash in front. -/
theorem split_piece : ∀ {p : Bs}, (∀ c ∈ p, c ≠ 47) → ∀ r : Bs, split (p ++ 47 :: r) = p :: split r
  | [], _, r => split_slash r
  | c :: p, h, r => by
    rw [List.cons_append, split_cons (h c (by simp)), split_piece (fun d hd => h d (by simp [hd])) r]
    rfl
theorem split_one : ∀ {p : Bs}, (∀ c ∈ p, c ≠ 47) → split p = [p]
  | [], _ => rfl
  | c :: p, h => by
    rw [split_cons (h c (by simp)), split_one (fun d hd => h d (by simp [hd]))]
    rfl
theorem onto_noslash {c : UInt8} (hc : c ≠ 47) {ps : List Bs} (h : ∀ p ∈ ps, ∀ d ∈ p, d ≠ 47) : ∀ p ∈ onto c ps, ∀ d ∈ p, d ≠ 47 := by
  cases ps with
  | nil => intro p hp d hd; simp [onto] at hp; subst hp; simp at hd; subst hd; exact hc
  | cons q r =>
    intro p hp d hd
    simp only [onto, List.mem_cons] at hp
    rcases hp with rfl | hp
    · simp only [List.mem_cons] at hd
      rcases hd with rfl | hd
      · exact hc
      · exact h q (by simp) d hd
    · exact h p (by simp [hp]) d hd
theorem split_noslash : ∀ l : Bs, ∀ p ∈ split l, ∀ d ∈ p, d ≠ 47
  | [] => by intro p hp d hd; simp [split] at hp; subst hp; cases hd
  | c :: r => by
    by_cases h : c = 47
    · subst h
      rw [split_slash]
      intro p hp d hd
      simp only [List.mem_cons] at hp
      rcases hp with rfl | hp
      · cases hd
      · exact split_noslash r p hp d hd
    · rw [split_cons h]; exact onto_noslash h (split_noslash r)
theorem split_glue : ∀ {ps : List Bs}, ps ≠ [] → (∀ p ∈ ps, ∀ d ∈ p, d ≠ 47) → split (glue ps) = ps
  | [], h, _ => absurd rfl h
  | [p], _, h => split_one (h p (by simp))
  | p :: q :: r, _, h => by
    rw [glue_cons p (by simp), split_piece (h p (by simp)), split_glue (by simp) (fun x hx => h x (by simp [hx]))]
theorem split_inj {a b : Bs} (h : split a = split b) : a = b := by rw [← glue_split a, h, glue_split b]
/-- What stands ahead of a slash, and behind it. -/
theorem split_app : ∀ (d r : Bs), split (d ++ 47 :: r) = split d ++ split r
  | [], r => split_slash r
  | c :: d, r => by
    by_cases h : c = 47
    · subst h; rw [List.cons_append, split_slash, split_slash, split_app d r]; rfl
    · rw [List.cons_append, split_cons h, split_cons h, split_app d r]
      cases hs : split d with
      | nil => exact absurd hs (split_ne d)
      | cons p ps => rfl
theorem glue_app {ps qs : List Bs} (hp : ps ≠ []) (hq : qs ≠ []) : glue (ps ++ qs) = glue ps ++ 47 :: glue qs := by
  induction ps with
  | nil => exact absurd rfl hp
  | cons p ps ih =>
    cases ps with
    | nil => rw [List.singleton_append, glue_cons p hq]; rfl
    | cons q r =>
      rw [List.cons_append, glue_cons p (by simp), ih (by simp), glue_cons p (by simp)]
      simp

/-! ### The order -/
theorem cb_self : ∀ a : Bs, Lib.compareBytes a a = 0
  | [] => rfl
  | c :: r => by unfold Lib.compareBytes; simp [UInt8.lt_irrefl, cb_self r]
theorem cb_zero : ∀ {a b : Bs}, Lib.compareBytes a b = 0 → a = b
  | [], [], _ => rfl
  | [], _ :: _, h => by simp [Lib.compareBytes] at h
  | _ :: _, [], h => by simp [Lib.compareBytes] at h
  | x :: a, y :: b, h => by
    unfold Lib.compareBytes at h
    by_cases h1 : x < y
    · simp [h1] at h
    · by_cases h2 : y < x
      · simp [h1, h2] at h
      · simp [h1, h2] at h
        have : x = y := UInt8.le_antisymm (UInt8.not_lt.1 h2) (UInt8.not_lt.1 h1)
        rw [this, cb_zero h]
theorem cb_neg : ∀ a b : Bs, Lib.compareBytes b a = - Lib.compareBytes a b
  | [], [] => rfl
  | [], _ :: _ => rfl
  | _ :: _, [] => rfl
  | x :: a, y :: b => by
    unfold Lib.compareBytes
    by_cases h1 : x < y
    · have h2 : ¬ y < x := fun h => UInt8.lt_irrefl _ (UInt8.lt_trans h1 h)
      simp [h1, h2]
    · by_cases h2 : y < x
      · simp [h1, h2]
      · simp [h1, h2, cb_neg a b]
theorem cb_trans : ∀ {a b c : Bs}, Lib.compareBytes a b < 0 → Lib.compareBytes b c < 0 → Lib.compareBytes a c < 0
  | [], [], _, h, _ => by simp [Lib.compareBytes] at h
  | [], _ :: _, [], _, h => by simp [Lib.compareBytes] at h
  | [], _ :: _, _ :: _, _, _ => by simp [Lib.compareBytes]
  | _ :: _, [], _, h, _ => by simp [Lib.compareBytes] at h
  | _ :: _, _ :: _, [], _, h => by simp [Lib.compareBytes] at h
  | x :: a, y :: b, z :: c, h, k => by
    unfold Lib.compareBytes at h k ⊢
    by_cases h1 : x < y
    · by_cases k1 : y < z
      · simp [UInt8.lt_trans h1 k1]
      · by_cases k2 : z < y
        · simp [k1, k2] at k
        · have : y = z := UInt8.le_antisymm (UInt8.not_lt.1 k2) (UInt8.not_lt.1 k1)
          subst this
          simp [h1]
    · by_cases h2 : y < x
      · simp [h1, h2] at h
      · have : x = y := UInt8.le_antisymm (UInt8.not_lt.1 h2) (UInt8.not_lt.1 h1)
        subst this
        simp [h1] at h
        by_cases k1 : x < z
        · simp [k1]
        · by_cases k2 : z < x
          · simp [k1, k2] at k
          · simp [k1, k2] at k ⊢
            exact cb_trans h k
theorem cmpP_cons (x y : Bs) (a b : List Bs) : cmpP (x :: a) (y :: b) = if Lib.compareBytes x y = 0 then cmpP a b else Lib.compareBytes x y := rfl
theorem cmpP_nil_l (b : List Bs) : cmpP [] b = - (b.length : Int) := by cases b <;> simp [cmpP]
theorem cmpP_nil_r (a : List Bs) : cmpP a [] = (a.length : Int) := by cases a <;> simp [cmpP]
theorem cmpP_neg : ∀ a b : List Bs, cmpP b a = - cmpP a b
  | [], b => by rw [cmpP_nil_l, cmpP_nil_r]; omega
  | _ :: _, [] => by rw [cmpP_nil_l, cmpP_nil_r]
  | x :: a, y :: b => by
    rw [cmpP_cons, cmpP_cons, cb_neg x y]
    by_cases h : Lib.compareBytes x y = 0
    · rw [if_pos h, if_pos (by omega), cmpP_neg a b]
    · rw [if_neg h, if_neg (by omega)]
theorem cmpP_self : ∀ a : List Bs, cmpP a a = 0
  | [] => rfl
  | x :: a => by rw [cmpP_cons, if_pos (cb_self x), cmpP_self a]
theorem cmpP_zero : ∀ {a b : List Bs}, cmpP a b = 0 → a = b
  | [], b, h => by rw [cmpP_nil_l] at h; cases b with
    | nil => rfl
    | cons y b => simp at h; omega
  | x :: a, [], h => by rw [cmpP_nil_r] at h; simp at h; omega
  | x :: a, y :: b, h => by
    rw [cmpP_cons] at h
    by_cases e : Lib.compareBytes x y = 0
    · rw [if_pos e] at h; rw [cb_zero e, cmpP_zero h]
    · rw [if_neg e] at h; exact absurd h e
theorem cmpP_trans : ∀ {a b c : List Bs}, cmpP a b < 0 → cmpP b c < 0 → cmpP a c < 0
  | [], b, c, h, k => by
    rw [cmpP_nil_l] at h ⊢
    cases b with
    | nil => simp at h
    | cons y b =>
      cases c with
      | nil => rw [cmpP_nil_r] at k; simp at k; omega
      | cons z c => simp
  | x :: a, [], c, h, k => by rw [cmpP_nil_r] at h; simp at h; omega
  | x :: a, y :: b, [], h, k => by rw [cmpP_nil_r] at k; simp at k; omega
  | x :: a, y :: b, z :: c, h, k => by
    rw [cmpP_cons] at h k ⊢
    by_cases e1 : Lib.compareBytes x y = 0
    · have := cb_zero e1; subst this
      rw [if_pos e1] at h
      by_cases e2 : Lib.compareBytes x z = 0
      · rw [if_pos e2] at k ⊢; exact cmpP_trans h k
      · rw [if_neg e2] at k ⊢; exact k
    · rw [if_neg e1] at h
      by_cases e2 : Lib.compareBytes y z = 0
      · have := cb_zero e2; subst this
        rw [if_neg e1]; exact h
      · rw [if_neg e2] at k
        have := cb_trans h k
        rw [if_neg (by omega)]; exact this
theorem cmp_neg (a b : Bs) : cmp b a = - cmp a b := cmpP_neg _ _
theorem cmp_self (a : Bs) : cmp a a = 0 := cmpP_self _
theorem cmp_zero {a b : Bs} (h : cmp a b = 0) : a = b := split_inj (cmpP_zero h)
theorem cmp_trans {a b c : Bs} (h : cmp a b < 0) (k : cmp b c < 0) : cmp a c < 0 := cmpP_trans h k
theorem cmp_eq_zero (a b : Bs) : cmp a b = 0 ↔ a = b := ⟨cmp_zero, fun h => by rw [h, cmp_self]⟩
/-- A list comes ahead of what goes on behind it. -/
theorem cmpP_pre : ∀ (a r : List Bs), cmpP a (a ++ r) = - (r.length : Int)
  | [], r => cmpP_nil_l r
  | x :: a, r => by rw [List.cons_append, cmpP_cons, if_pos (cb_self x), cmpP_pre a r]
/-- What is no longer one of a list is ahead of it, or behind all that goes on behind it. -/
theorem cmpP_beside : ∀ (c a r : List Bs), ¬ a <+: c → cmpP c a < 0 ∨ cmpP c (a ++ r) > 0
  | c, [], r, h => absurd (List.nil_prefix) h
  | [], y :: a, r, _ => by left; rw [cmpP_nil_l]; simp
  | x :: c, y :: a, r, h => by
    rw [List.cons_append, cmpP_cons, cmpP_cons]
    by_cases e : Lib.compareBytes x y = 0
    · rw [if_pos e, if_pos e]
      have := cb_zero e; subst this
      exact cmpP_beside c a r fun hp => h (List.cons_prefix_cons.2 ⟨rfl, hp⟩)
    · rw [if_neg e, if_neg e]; omega

/-! ### Below a directory -/
theorem under_iff {s d : Bs} (hd : d ≠ []) : under s d = true ↔ ∃ r, s = d ++ 47 :: r := by
  unfold under Lib.hasPrefix
  rw [if_neg hd, List.isPrefixOf_iff_prefix]
  constructor
  · rintro ⟨r, rfl⟩; exact ⟨r, by simp⟩
  · rintro ⟨r, rfl⟩; exact ⟨r, by simp⟩
theorem under_split {s d : Bs} (hd : d ≠ []) : under s d = true ↔ ∃ r, r ≠ [] ∧ split s = split d ++ r := by
  rw [under_iff hd]
  constructor
  · rintro ⟨r, rfl⟩; exact ⟨split r, split_ne r, split_app d r⟩
  · rintro ⟨r, hr, e⟩
    refine ⟨glue r, ?_⟩
    rw [← glue_split s, e, glue_app (split_ne d) hr, glue_split d]
theorem order {a b c : Bs} (ha : a ≠ []) (hu : under b a = true) : cmp a b < 0 ∧ (c = a ∨ under c a = true ∨ cmp c a < 0 ∨ cmp c b > 0) := by
  obtain ⟨r, hr, e⟩ := (under_split ha).1 hu
  unfold cmp
  rw [e]
  refine ⟨?_, ?_⟩
  · rw [cmpP_pre]
    cases r with
    | nil => exact absurd rfl hr
    | cons y r => simp
  · by_cases hp : split a <+: split c
    · obtain ⟨t, ht⟩ := hp
      cases t with
      | nil => left; exact split_inj (by rw [← ht]; simp)
      | cons y t => right; left; exact (under_split ha).2 ⟨y :: t, by simp, ht.symm⟩
    · right; right; exact cmpP_beside _ _ _ hp
end Go.Proofs.YtjppfhgkanbemacGreatDoor.Pt

namespace Go.Proofs.YtjppfhgkanbemacGreatDoor

/-- An entry: path, kind, text, opaque. -/
structure En where
  p : ByteArray
  k : Int
  t : ByteArray
  o : Bool

namespace En
def P (e : En) : Pt.Bs := e.p.data.toList
def beq (x y : En) : Bool := x.p.data.toList == y.p.data.toList && x.k == y.k && x.t.data.toList == y.t.data.toList && x.o == y.o
end En
theorem bytes_ext {a b : ByteArray} (h : a.data.toList = b.data.toList) : a = b := by
  obtain ⟨⟨a⟩⟩ := a
  obtain ⟨⟨b⟩⟩ := b
  have h' : a = b := h
  rw [h']
namespace En
theorem beq_iff (x y : En) : beq x y = true ↔ x = y := by
  unfold beq
  rw [Bool.and_eq_true, Bool.and_eq_true, Bool.and_eq_true, beq_iff_eq, beq_iff_eq, beq_iff_eq, beq_iff_eq]
  constructor
  · rintro ⟨⟨⟨h1, h2⟩, h3⟩, h4⟩
    obtain ⟨a, b, c, d⟩ := x
    obtain ⟨a', b', c', d'⟩ := y
    have h1 := bytes_ext h1
    have h3 := bytes_ext h3
    cases h1; cases h3
    have h2 : b = b' := h2
    have h4 : d = d' := h4
    rw [h2, h4]
  · rintro rfl; exact ⟨⟨⟨rfl, rfl⟩, rfl⟩, rfl⟩
instance : DecidableEq En := fun x y => if h : beq x y = true then .isTrue ((beq_iff x y).1 h) else .isFalse fun e => h ((beq_iff x y).2 e)
/-- The directory of all. -/
def root : En := ⟨⟨#[]⟩, 2, ⟨#[]⟩, false⟩
def zero : En := ⟨⟨#[]⟩, 0, ⟨#[]⟩, false⟩
def clear (e : En) : En := ⟨e.p, e.k, e.t, false⟩
end En

namespace Tr
open Pt

def get (l : List En) (p : Bs) : Option En := if p = [] then some En.root else l.find? fun e => e.P == p
def badKind (e : En) (b : Bool) : Bool := decide (e.k < 1) || decide ((bif b then 4 else 3) < e.k)
def badFit (e : En) (b : Bool) : Bool := (e.t.size != 0 && e.k != 1 && e.k != 3) || (e.k == 3 && e.t.size == 0) || (e.o && (!b || e.k != 2))
/-- What is wrong with an entry (0: nothing). -/
def entry (e : En) (b : Bool) : Int :=
  if badKind e b = true then 1 else if clean e.P = false then 7 else if 100 < e.t.size then 4 else if badFit e b = true then 8 else 0
def ahead (y x : En) : Bool := decide (cmp y.P x.P < 0)
def dirBad (p : List En) (d : Bs) : Bool := match get p d with
  | some e => e.k != 2
  | none => true
def badAt (p : List En) (x : En) (b : Bool) : Int :=
  if entry x b ≠ 0 then entry x b else
  if (p.getLast?.any fun y => !ahead y x) then 2 else
  if dirBad p (dirOf x.P) then 10 else 0
def wrongFrom (b : Bool) : List En → List En → Int × Int
  | _, [] => (0, 0)
  | p, x :: r => if badAt p x b = 0 then wrongFrom b (p ++ [x]) r else (badAt p x b, p.length)
def wrong (l : List En) (b : Bool) : Int × Int := if 80 < l.length then (5, 0) else wrongFrom b [] l

def Srt (l : List En) : Prop := l.Pairwise fun a b => cmp a.P b.P < 0
def Right (b : Bool) (l : List En) : Prop := (∀ e ∈ l, entry e b = 0) ∧ Srt l ∧ ∀ e ∈ l, dirOf e.P = [] ∨ ∃ d ∈ l, d.P = dirOf e.P ∧ d.k = 2

/-! ### Directories of paths -/
theorem split_snoc' (l : Bs) : ∃ ps n, split l = ps ++ [n] ∧ dirOf l = glue ps ∧ nameOf l = n := by
  refine ⟨(split l).dropLast, (split l).getLast (split_ne l), (List.dropLast_concat_getLast _).symm, rfl, ?_⟩
  unfold nameOf
  rw [List.getLastD_eq_getLast?, List.getLast?_eq_some_getLast (split_ne l)]; rfl
theorem dir_app (l : Bs) : dirOf l = [] ∨ l = dirOf l ++ 47 :: nameOf l := by
  obtain ⟨ps, n, hs, hd, hn⟩ := split_snoc' l
  by_cases e : ps = []
  · subst e; left; rw [hd]; rfl
  · right
    have hg := glue_split l
    rw [hs, glue_app e (by simp)] at hg
    rw [hd, hn]; exact hg.symm
theorem dir_under {l : Bs} (h : dirOf l ≠ []) : under l (dirOf l) = true := by
  rcases dir_app l with e | e
  · exact absurd e h
  · exact (under_iff h).2 ⟨_, e⟩
theorem dir_lt {l : Bs} (h : dirOf l ≠ []) : cmp (dirOf l) l < 0 := (order (c := []) h (dir_under h)).1
theorem dir_short {l : Bs} (h : l ≠ []) : (dirOf l).length < l.length := by
  rcases dir_app l with e | e
  · rw [e]; cases l with
    | nil => exact absurd rfl h
    | cons _ _ => simp
  · have := congrArg List.length e
    rw [List.length_append, List.length_cons] at this
    omega
theorem dir_nil : dirOf [] = [] := rfl
theorem named_ne' {p : Bs} (h : named p = true) : p ≠ [] := by
  intro e; subst e; cases h
theorem clean_ne {l : Bs} (h : clean l = true) : l ≠ [] := by
  intro e; subst e; cases h
theorem clean_len {l : Bs} (h : clean l = true) : l.length ≤ 80 := by
  unfold clean at h
  rw [Bool.and_eq_true, decide_eq_true_eq] at h
  exact h.1
theorem clean_names {l : Bs} (h : clean l = true) : ∀ p ∈ split l, named p = true := by
  unfold clean at h
  rw [Bool.and_eq_true, List.all_eq_true] at h
  exact h.2
theorem clean_dir {l : Bs} (h : clean l = true) (hd : dirOf l ≠ []) : clean (dirOf l) = true := by
  have hn := clean_names h
  obtain ⟨ps, n, hs, hd', _⟩ := split_snoc' l
  have hp : ps ≠ [] := by intro e; subst e; exact hd (by rw [hd']; rfl)
  have hsp : split (glue ps) = ps := split_glue hp fun q hq d hd2 => split_noslash l q (by rw [hs]; exact List.mem_append_left _ hq) d hd2
  unfold clean
  rw [Bool.and_eq_true, decide_eq_true_eq, List.all_eq_true]
  refine ⟨Nat.le_trans (Nat.le_of_lt (dir_short (clean_ne h))) (clean_len h), ?_⟩
  rw [hd', hsp]
  intro q hq
  exact hn q (by rw [hs]; exact List.mem_append_left _ hq)

/-! ### Sorted lists -/
theorem srt_head {a : En} {l : List En} (h : Srt (a :: l)) : ∀ b ∈ l, cmp a.P b.P < 0 := (List.pairwise_cons.1 h).1
theorem srt_tail {a : En} {l : List En} (h : Srt (a :: l)) : Srt l := (List.pairwise_cons.1 h).2
theorem srt_nil : Srt [] := List.Pairwise.nil
theorem lt_irrefl (a : Bs) : ¬ cmp a a < 0 := by rw [cmp_self]; omega
theorem lt_asymm {a b : Bs} (h : cmp a b < 0) : ¬ cmp b a < 0 := by rw [cmp_neg a b]; omega
theorem srt_ext : ∀ {l m : List En}, Srt l → Srt m → (∀ e, e ∈ l ↔ e ∈ m) → l = m
  | [], [], _, _, _ => rfl
  | [], b :: m, _, _, h => absurd ((h b).2 (by simp)) (by simp)
  | a :: l, [], _, _, h => absurd ((h a).1 (by simp)) (by simp)
  | a :: l, b :: m, hl, hm, h => by
    have e : a = b := by
      have h1 := (h a).1 (by simp)
      have h2 := (h b).2 (by simp)
      rcases List.mem_cons.1 h1 with e | h1
      · exact e
      rcases List.mem_cons.1 h2 with e | h2
      · exact e.symm
      exact absurd (srt_head hl b h2) (lt_asymm (srt_head hm a h1))
    subst e
    refine congrArg _ (srt_ext (srt_tail hl) (srt_tail hm) fun e => ?_)
    have h3 := h e
    rw [List.mem_cons, List.mem_cons] at h3
    constructor
    · intro he
      rcases h3.1 (.inr he) with e' | h4
      · subst e'; exact absurd (srt_head hl e he) (lt_irrefl _)
      · exact h4
    · intro he
      rcases h3.2 (.inr he) with e' | h4
      · subst e'; exact absurd (srt_head hm e he) (lt_irrefl _)
      · exact h4
theorem srt_same : ∀ {l : List En}, Srt l → ∀ {a b : En}, a ∈ l → b ∈ l → a.P = b.P → a = b
  | [], _, _, _, h, _, _ => nomatch h
  | x :: l, hs, a, b, ha, hb, e => by
    rcases List.mem_cons.1 ha with e1 | h1
    · rcases List.mem_cons.1 hb with e2 | h2
      · rw [e1, e2]
      · have := srt_head hs b h2; rw [← e, e1, cmp_self] at this; omega
    · rcases List.mem_cons.1 hb with e2 | h2
      · have := srt_head hs a h1; rw [e, e2, cmp_self] at this; omega
      · exact srt_same (srt_tail hs) h1 h2 e
theorem get_some {l : List En} {p : Bs} {e : En} (hp : p ≠ []) (h : get l p = some e) : e ∈ l ∧ e.P = p := by
  unfold get at h
  rw [if_neg hp] at h
  exact ⟨List.mem_of_find?_eq_some h, by simpa using List.find?_some h⟩
theorem get_none {l : List En} {p : Bs} (hp : p ≠ []) : get l p = none ↔ ∀ e ∈ l, e.P ≠ p := by
  unfold get
  rw [if_neg hp, List.find?_eq_none]
  simp
theorem get_mem {l : List En} (hs : Srt l) {e : En} (he : e ∈ l) (hp : e.P ≠ []) : get l e.P = some e := by
  rcases h : get l e.P with _ | x
  · exact absurd rfl ((get_none hp).1 h e he)
  · obtain ⟨h1, h2⟩ := get_some hp h
    rw [srt_same hs h1 he h2]
theorem get_root (l : List En) : get l [] = some En.root := by unfold get; rw [if_pos rfl]
theorem get_iff {l : List En} (hs : Srt l) {p : Bs} (hp : p ≠ []) {e : En} : get l p = some e ↔ e ∈ l ∧ e.P = p := by
  constructor
  · exact get_some hp
  · rintro ⟨h1, rfl⟩; exact get_mem hs h1 hp

/-! ### What is right -/
theorem entry_zero (e : En) (b : Bool) : entry e b = 0 ↔ badKind e b = false ∧ clean e.P = true ∧ e.t.size ≤ 100 ∧ badFit e b = false := by
  unfold entry
  rcases h1 : badKind e b with _ | _
  · rcases h2 : clean e.P with _ | _
    · simp
    · by_cases h3 : 100 < e.t.size
      · rw [if_neg (by simp), if_neg (by simp), if_pos h3]; simp; omega
      · rcases h4 : badFit e b with _ | _
        · simp [h3]; omega
        · simp [h3]
  · simp
theorem entry_clean {e : En} {b : Bool} (h : entry e b = 0) : clean e.P = true := ((entry_zero e b).1 h).2.1
theorem entry_kind {e : En} {b : Bool} (h : entry e b = 0) : 1 ≤ e.k ∧ e.k ≤ 4 ∧ (b = false → e.k ≤ 3) := by
  have h := ((entry_zero e b).1 h).1
  unfold badKind at h
  rw [Bool.or_eq_false_iff, decide_eq_false_iff_not, decide_eq_false_iff_not] at h
  cases b
  · have h2 := h.2; simp only [cond_false] at h2; exact ⟨by omega, by omega, fun _ => by omega⟩
  · have h2 := h.2; simp only [cond_true] at h2; exact ⟨by omega, by omega, fun e => by cases e⟩
theorem entry_opaque {e : En} (h : entry e false = 0) : e.o = false := by
  have h := ((entry_zero e false).1 h).2.2.2
  unfold badFit at h
  rcases ho : e.o with _ | _
  · rfl
  · rw [ho] at h; simp at h
theorem entry_dirOpaque {e : En} {b : Bool} (h : entry e b = 0) (ho : e.o = true) : e.k = 2 := by
  have h := ((entry_zero e b).1 h).2.2.2
  unfold badFit at h
  rw [ho] at h
  simp only [Bool.true_and, Bool.or_eq_false_iff, bne_eq_false_iff_eq] at h
  exact h.2.2
theorem kind_of {e : En} {b : Bool} (h1 : 1 ≤ e.k) (h2 : e.k ≤ (bif b then 4 else 3)) : badKind e b = false := by
  unfold badKind
  rw [Bool.or_eq_false_iff, decide_eq_false_iff_not, decide_eq_false_iff_not]
  exact ⟨by omega, by omega⟩
theorem entry_layer {e : En} (h : entry e false = 0) : entry e true = 0 := by
  have hk := entry_kind h
  have ho := entry_opaque h
  obtain ⟨h1, h2, h3, h4⟩ := (entry_zero e false).1 h
  refine (entry_zero e true).2 ⟨kind_of hk.1 hk.2.1, h2, h3, ?_⟩
  unfold badFit at h4 ⊢
  rw [ho] at h4 ⊢
  simpa using h4
/-- What isn't white is one of a tree, once it isn't opaque. -/
theorem entry_shown {e : En} (h : entry e true = 0) (hk : e.k ≠ 4) : entry e.clear false = 0 := by
  have hk2 := entry_kind h
  obtain ⟨h1, h2, h3, h4⟩ := (entry_zero e true).1 h
  refine (entry_zero e.clear false).2 ⟨kind_of hk2.1 (show e.k ≤ 3 by omega), h2, h3, ?_⟩
  unfold badFit at h4 ⊢
  rw [Bool.or_eq_false_iff] at h4
  rw [Bool.or_eq_false_iff]
  exact ⟨h4.1, rfl⟩
theorem right_ne {b : Bool} {l : List En} (h : Right b l) {e : En} (he : e ∈ l) : e.P ≠ [] := clean_ne (entry_clean (h.1 e he))
theorem right_nil (b : Bool) : Right b [] := ⟨fun _ h => (nomatch h), srt_nil, fun _ h => (nomatch h)⟩
theorem right_layer {l : List En} (h : Right false l) : Right true l := ⟨fun e he => entry_layer (h.1 e he), h.2⟩

theorem dirBad_iff {p : List En} (hs : Srt p) (d : Bs) : dirBad p d = false ↔ d = [] ∨ ∃ e ∈ p, e.P = d ∧ e.k = 2 := by
  unfold dirBad
  by_cases hd : d = []
  · subst hd; rw [get_root]; simp [En.root]
  · rcases h : get p d with _ | e
    · simp only [hd, false_or]
      constructor
      · intro h'; cases h'
      · rintro ⟨e, he, h1, _⟩; exact absurd h1 ((get_none hd).1 h e he)
    · obtain ⟨h1, h2⟩ := get_some hd h
      simp only [hd, false_or, bne_eq_false_iff_eq]
      constructor
      · intro h3; exact ⟨e, h1, h2, h3⟩
      · rintro ⟨x, hx, h3, h4⟩; rw [srt_same hs h1 hx (h2.trans h3.symm)]; exact h4
theorem badAt_zero {p : List En} {x : En} {b : Bool} : badAt p x b = 0 ↔ entry x b = 0 ∧ (p.getLast?.any fun y => !ahead y x) = false ∧ dirBad p (dirOf x.P) = false := by
  unfold badAt
  by_cases h1 : entry x b = 0
  · rw [if_neg (by simp [h1])]
    rcases h2 : (p.getLast?.any fun y => !ahead y x) with _ | _
    · rcases h3 : dirBad p (dirOf x.P) with _ | _ <;> simp [h1]
    · simp
  · rw [if_pos h1]; simp [h1]
theorem srt_snoc {p : List En} {x : En} : Srt (p ++ [x]) ↔ Srt p ∧ (p.getLast?.any fun y => !ahead y x) = false := by
  unfold Srt
  rw [List.pairwise_append]
  simp only [List.pairwise_singleton, List.mem_singleton, forall_eq, true_and]
  rcases List.eq_nil_or_concat p with rfl | ⟨q, y, rfl⟩
  · simp
  · simp only [List.concat_eq_append, List.getLast?_append, List.getLast?_singleton, Option.some_or, Option.any_some, ahead, Bool.not_eq_false', decide_eq_true_eq]
    constructor
    · rintro ⟨h1, h2⟩; exact ⟨h1, h2 y (by simp)⟩
    · rintro ⟨h1, h2⟩
      refine ⟨h1, fun z hz => ?_⟩
      rw [List.mem_append, List.mem_singleton] at hz
      rcases hz with hz | rfl
      · exact cmp_trans ((List.pairwise_append.1 h1).2.2 z hz y (by simp)) h2
      · exact h2
theorem right_snoc {p : List En} {x : En} {b : Bool} : Right b (p ++ [x]) ↔ Right b p ∧ badAt p x b = 0 := by
  rw [badAt_zero]
  constructor
  · rintro ⟨h1, h2, h3⟩
    have hs := srt_snoc.1 h2
    have hx : ∀ y ∈ p, cmp y.P x.P < 0 := fun y hy => (List.pairwise_append.1 h2).2.2 y hy x (by simp)
    refine ⟨⟨fun e he => h1 e (List.mem_append_left _ he), hs.1, fun e he => ?_⟩, h1 x (by simp), hs.2, ?_⟩
    · rcases h3 e (List.mem_append_left _ he) with h | ⟨d, hd, h4, h5⟩
      · exact .inl h
      · rw [List.mem_append, List.mem_singleton] at hd
        rcases hd with hd | rfl
        · exact .inr ⟨d, hd, h4, h5⟩
        · by_cases hn : dirOf e.P = []
          · exact .inl hn
          · have := dir_lt hn
            rw [← h4] at this
            exact absurd this (lt_asymm (hx e he))
    · rw [dirBad_iff hs.1]
      rcases h3 x (by simp) with h | ⟨d, hd, h4, h5⟩
      · exact .inl h
      · rw [List.mem_append, List.mem_singleton] at hd
        rcases hd with hd | rfl
        · exact .inr ⟨d, hd, h4, h5⟩
        · by_cases hn : dirOf d.P = []
          · exact .inl hn
          · have := dir_lt hn
            rw [← h4] at this
            exact absurd this (lt_irrefl _)
  · rintro ⟨⟨h1, h2, h3⟩, h4, h5, h6⟩
    refine ⟨fun e he => ?_, srt_snoc.2 ⟨h2, h5⟩, fun e he => ?_⟩
    · rw [List.mem_append, List.mem_singleton] at he
      rcases he with he | rfl
      · exact h1 e he
      · exact h4
    · rw [List.mem_append, List.mem_singleton] at he
      rcases he with he | rfl
      · rcases h3 e he with h | ⟨d, hd, h7⟩
        · exact .inl h
        · exact .inr ⟨d, List.mem_append_left _ hd, h7⟩
      · rcases (dirBad_iff h2 _).1 h6 with h | ⟨d, hd, h7⟩
        · exact .inl h
        · exact .inr ⟨d, List.mem_append_left _ hd, h7⟩
theorem right_pre {p q : List En} {b : Bool} (h : Right b (p ++ q)) : Right b p := by
  induction q generalizing p with
  | nil => simpa using h
  | cons x q ih =>
    have e : p ++ x :: q = (p ++ [x]) ++ q := by simp
    rw [e] at h
    exact (right_snoc.1 (ih h)).1
theorem wrongFrom_right (b : Bool) : ∀ (r p : List En), Right b p → ((wrongFrom b p r).1 = 0 ↔ Right b (p ++ r))
  | [], p, hp => by simp [wrongFrom, hp]
  | x :: r, p, hp => by
    have e : p ++ x :: r = (p ++ [x]) ++ r := by simp
    rw [wrongFrom]
    by_cases hb : badAt p x b = 0
    · rw [if_pos hb, wrongFrom_right b r (p ++ [x]) (right_snoc.2 ⟨hp, hb⟩), e]
    · rw [if_neg hb]
      refine ⟨fun h => absurd h hb, fun h => ?_⟩
      exfalso
      rw [e] at h
      exact hb (right_snoc.1 (right_pre h)).2
theorem wrong_zero (l : List En) (b : Bool) : (wrong l b).1 = 0 ↔ l.length ≤ 80 ∧ Right b l := by
  unfold wrong
  by_cases h : 80 < l.length
  · rw [if_pos h]; simp; omega
  · rw [if_neg h, wrongFrom_right b l [] (right_nil b)]
    simp
    omega

/-! ### Check, step by step -/
theorem wrongFrom_bad {l : List En} {b : Bool} {k : Nat} {x : En} {e : Int} (hk : k < l.length) (hx : l[k] = x) (hb : badAt (l.take k) x b = e) (he : e ≠ 0) : wrongFrom b (l.take k) (l.drop k) = (e, (k : Int)) := by
  rw [List.drop_eq_getElem_cons hk, hx, wrongFrom, hb, if_neg he]
  simp
  omega
theorem wrongFrom_ok {l : List En} {b : Bool} {k : Nat} {x : En} (hk : k < l.length) (hx : l[k] = x) (hb : badAt (l.take k) x b = 0) : wrongFrom b (l.take k) (l.drop k) = wrongFrom b (l.take (k + 1)) (l.drop (k + 1)) := by
  rw [List.drop_eq_getElem_cons hk, hx, wrongFrom, if_pos hb, List.take_succ_eq_append_getElem hk, hx]
end Tr
end Go.Proofs.YtjppfhgkanbemacGreatDoor

namespace Go.Proofs.YtjppfhgkanbemacGreatDoor
namespace Tr
open Pt

def bad (l : List En) (q : Bs) : Bool := match get l q with
  | some e => e.k != 2 || e.o
  | none => false
def own (l : List En) (q : Bs) : Bool := match get l q with
  | some e => e.k != 2
  | none => false
def hidUp (l : List En) : Nat → Bs → Bool
  | 0, _ => false
  | n + 1, q => if q = [] then false else bad l q || hidUp l n (dirOf q)
def hidAll (l : List En) (q : Bs) : Bool := hidUp l q.length q
/-- Is what lies below a layer not seen at a path? -/
def hides (l : List En) (p : Bs) : Bool := own l p || hidAll l (dirOf p)

theorem hidUp_fuel (l : List En) : ∀ (n m : Nat) (q : Bs), q.length ≤ n → q.length ≤ m → hidUp l n q = hidUp l m q
  | 0, 0, _, _, _ => rfl
  | 0, m + 1, q, h, _ => by
    have : q = [] := List.length_eq_zero_iff.1 (by omega)
    subst this; simp [hidUp]
  | n + 1, 0, q, _, h => by
    have : q = [] := List.length_eq_zero_iff.1 (by omega)
    subst this; simp [hidUp]
  | n + 1, m + 1, q, h1, h2 => by
    unfold hidUp
    by_cases hq : q = []
    · rw [if_pos hq, if_pos hq]
    · have := dir_short hq
      rw [if_neg hq, if_neg hq, hidUp_fuel l n m (dirOf q) (by omega) (by omega)]
theorem hidAll_nil (l : List En) : hidAll l [] = false := rfl
theorem hidAll_cons (l : List En) {q : Bs} (h : q ≠ []) : hidAll l q = (bad l q || hidAll l (dirOf q)) := by
  have h1 := dir_short h
  unfold hidAll
  cases hn : q.length with
  | zero => exact absurd (List.length_eq_zero_iff.1 hn) h
  | succ n =>
    rw [hidUp, if_neg h, hidUp_fuel l n (dirOf q).length (dirOf q) (by omega) (Nat.le_refl _)]
theorem own_nil (l : List En) : own l [] = false := by unfold own; rw [get_root]; rfl
theorem hides_nil (l : List En) : hides l [] = false := by unfold hides; rw [own_nil, dir_nil, hidAll_nil]; rfl
theorem own_bad {l : List En} {q : Bs} (h : bad l q = false) : own l q = false := by
  unfold bad at h; unfold own
  rcases g : get l q with _ | e
  · rfl
  · rw [g] at h; simp only [Bool.or_eq_false_iff] at h; exact h.1
theorem bad_not {l : List En} {q : Bs} (h : bad l q = false) {e : En} (g : get l q = some e) : e.k = 2 ∧ e.o = false := by
  unfold bad at h
  rw [g] at h
  simp only [Bool.or_eq_false_iff, bne_eq_false_iff_eq] at h
  exact h
/-- What isn't hidden lies in a directory that isn't. -/
theorem hides_dir {l : List En} {p : Bs} (h : hides l p = false) : hides l (dirOf p) = false ∧ (dirOf p ≠ [] → bad l (dirOf p) = false) := by
  unfold hides at h
  rw [Bool.or_eq_false_iff] at h
  by_cases hd : dirOf p = []
  · rw [hd]; exact ⟨hides_nil l, fun h => absurd rfl h⟩
  · have h2 := h.2
    rw [hidAll_cons l hd, Bool.or_eq_false_iff] at h2
    refine ⟨?_, fun _ => h2.1⟩
    unfold hides
    rw [own_bad h2.1, h2.2]; rfl

/-! ### Insertion -/
def ins (x : En) : List En → List En
  | [] => [x]
  | y :: r => if cmp y.P x.P < 0 then y :: ins x r else if y.P = x.P then x :: r else x :: y :: r
theorem mem_ins {x : En} : ∀ {l : List En}, Srt l → ∀ e, e ∈ ins x l ↔ e = x ∨ (e ∈ l ∧ e.P ≠ x.P)
  | [], _, e => by simp [ins]
  | y :: r, h, e => by
    unfold ins
    by_cases h1 : cmp y.P x.P < 0
    · have hne : y.P ≠ x.P := fun e => by rw [e, cmp_self] at h1; omega
      rw [if_pos h1, List.mem_cons, mem_ins (srt_tail h), List.mem_cons]
      constructor
      · rintro (rfl | h2 | ⟨h2, h3⟩)
        · exact .inr ⟨.inl rfl, hne⟩
        · exact .inl h2
        · exact .inr ⟨.inr h2, h3⟩
      · rintro (h2 | ⟨rfl | h2, h3⟩)
        · exact .inr (.inl h2)
        · exact .inl rfl
        · exact .inr (.inr ⟨h2, h3⟩)
    · rw [if_neg h1]
      have far : ∀ z ∈ r, z.P ≠ x.P := fun z hz e => h1 (e ▸ srt_head h z hz)
      by_cases h2 : y.P = x.P
      · rw [if_pos h2, List.mem_cons, List.mem_cons]
        constructor
        · rintro (h3 | h3)
          · exact .inl h3
          · exact .inr ⟨.inr h3, far e h3⟩
        · rintro (h3 | ⟨rfl | h3, h4⟩)
          · exact .inl h3
          · exact absurd h2 h4
          · exact .inr h3
      · rw [if_neg h2, List.mem_cons, List.mem_cons]
        constructor
        · rintro (h3 | rfl | h3)
          · exact .inl h3
          · exact .inr ⟨.inl rfl, h2⟩
          · exact .inr ⟨.inr h3, far e h3⟩
        · rintro (h3 | ⟨h3, _⟩)
          · exact .inl h3
          · exact .inr h3
theorem lt_tri {a b : Bs} (h1 : ¬ cmp a b < 0) (h2 : a ≠ b) : cmp b a < 0 := by
  rw [cmp_neg a b]
  have : cmp a b ≠ 0 := fun e => h2 (cmp_zero e)
  omega
theorem srt_ins {x : En} : ∀ {l : List En}, Srt l → Srt (ins x l)
  | [], _ => List.pairwise_singleton _ _
  | y :: r, h => by
    unfold ins
    by_cases h1 : cmp y.P x.P < 0
    · rw [if_pos h1]
      refine List.pairwise_cons.2 ⟨fun z hz => ?_, srt_ins (srt_tail h)⟩
      rcases (mem_ins (srt_tail h) z).1 hz with rfl | ⟨hz, _⟩
      · exact h1
      · exact srt_head h z hz
    · rw [if_neg h1]
      by_cases h2 : y.P = x.P
      · rw [if_pos h2]
        exact List.pairwise_cons.2 ⟨fun z hz => h2 ▸ srt_head h z hz, srt_tail h⟩
      · rw [if_neg h2]
        have h3 := lt_tri h1 h2
        refine List.pairwise_cons.2 ⟨fun z hz => ?_, h⟩
        rcases List.mem_cons.1 hz with rfl | hz
        · exact h3
        · exact cmp_trans h3 (srt_head h z hz)
def insAll (xs a : List En) : List En := xs.foldl (fun a x => ins x a) a
theorem srt_insAll : ∀ {xs a : List En}, Srt a → Srt (insAll xs a)
  | [], _, h => h
  | _ :: xs, _, h => srt_insAll (xs := xs) (srt_ins h)
theorem mem_insAll : ∀ {xs a : List En}, Srt xs → Srt a → ∀ e, e ∈ insAll xs a ↔ e ∈ xs ∨ (e ∈ a ∧ ∀ y ∈ xs, y.P ≠ e.P)
  | [], a, _, _, e => by simp [insAll]
  | x :: xs, a, hx, ha, e => by
    have h := mem_insAll (srt_tail hx) (srt_ins (x := x) ha) e
    show e ∈ insAll xs (ins x a) ↔ _
    rw [h, mem_ins ha, List.mem_cons]
    constructor
    · rintro (h1 | ⟨rfl | ⟨h1, h2⟩, h3⟩)
      · exact .inl (.inr h1)
      · exact .inl (.inl rfl)
      · refine .inr ⟨h1, fun y hy => ?_⟩
        rcases List.mem_cons.1 hy with rfl | hy
        · exact fun e => h2 e.symm
        · exact h3 y hy
    · rintro ((rfl | h1) | ⟨h1, h2⟩)
      · exact .inr ⟨.inl rfl, fun y hy e' => by have := srt_head hx y hy; rw [e', cmp_self] at this; omega⟩
      · exact .inl h1
      · exact .inr ⟨.inr ⟨h1, fun e' => h2 x (by simp) e'.symm⟩, fun y hy => h2 y (by simp [hy])⟩

/-! ### A layer over a tree -/
def shown (l : List En) : List En := (l.filter fun e => e.k != 4).map En.clear
def keepR (l t : List En) : List En := t.filter fun e => !hides l e.P
def keep (l t : List En) : List En := t.filter fun e => (get l e.P).isNone && !hides l e.P
def overL (l t : List En) : List En := insAll (shown l) (keepR l t)
def over (l t : List En) : List En × Int :=
  if (wrong l true).1 ≠ 0 then ([], (wrong l true).1) else if (wrong t false).1 ≠ 0 then ([], (wrong t false).1) else
  if 80 < (overL l t).length then ([], 5) else (overL l t, 0)

theorem mem_shown {l : List En} {e : En} : e ∈ shown l ↔ ∃ x ∈ l, x.k ≠ 4 ∧ e = x.clear := by
  unfold shown
  simp only [List.mem_map, List.mem_filter, bne_iff_ne]
  constructor
  · rintro ⟨x, ⟨h1, h2⟩, h3⟩; exact ⟨x, h1, h2, h3.symm⟩
  · rintro ⟨x, h1, h2, h3⟩; exact ⟨x, ⟨h1, h2⟩, h3.symm⟩
theorem srt_shown {l : List En} (h : Srt l) : Srt (shown l) := by
  unfold shown Srt
  rw [List.pairwise_map]
  exact List.Pairwise.filter _ h
theorem srt_filter {l : List En} (h : Srt l) (f : En → Bool) : Srt (l.filter f) := List.Pairwise.filter _ h
theorem srt_overL {l t : List En} (ht : Srt t) : Srt (overL l t) := srt_insAll (srt_filter ht _)
theorem mem_keep {l t : List En} {e : En} : e ∈ keep l t ↔ e ∈ t ∧ get l e.P = none ∧ hides l e.P = false := by
  unfold keep
  simp only [List.mem_filter, Bool.and_eq_true, Option.isNone_iff_eq_none, Bool.not_eq_true']
theorem mem_overL {l t : List En} (hl : Right true l) (ht : Right false t) {e : En} : e ∈ overL l t ↔ e ∈ keep l t ∨ e ∈ shown l := by
  unfold overL keepR
  rw [mem_insAll (srt_shown hl.2.1) (srt_filter ht.2.1 _), mem_keep]
  simp only [List.mem_filter, Bool.not_eq_true']
  constructor
  · rintro (h | ⟨⟨h1, h2⟩, h3⟩)
    · exact .inr h
    · refine .inl ⟨h1, ?_, h2⟩
      have hp := right_ne ht h1
      rcases g : get l e.P with _ | x
      · rfl
      · exfalso
        obtain ⟨g1, g2⟩ := get_some hp g
        unfold hides own at h2
        rw [g, Bool.or_eq_false_iff, bne_eq_false_iff_eq] at h2
        exact h3 x.clear (mem_shown.2 ⟨x, g1, by omega, rfl⟩) g2
  · rintro (⟨h1, h2, h3⟩ | h)
    · have hp := right_ne ht h1
      refine .inr ⟨⟨h1, h3⟩, fun y hy e' => ?_⟩
      obtain ⟨x, hx, _, rfl⟩ := mem_shown.1 hy
      exact (get_none hp).1 h2 x hx e'
    · exact .inl h
theorem get_shown_dir {l : List En} {q : Bs} {d : En} (hd : d ∈ l) (hq : d.P = q) (hk : d.k = 2) : ∃ x ∈ shown l, x.P = q ∧ x.k = 2 :=
  ⟨d.clear, mem_shown.2 ⟨d, hd, by omega, rfl⟩, hq, hk⟩
theorem over_right {l t : List En} (hl : Right true l) (ht : Right false t) : Right false (overL l t) := by
  refine ⟨fun e he => ?_, srt_overL ht.2.1, fun e he => ?_⟩
  · rcases (mem_overL hl ht).1 he with h | h
    · exact ht.1 e (mem_keep.1 h).1
    · obtain ⟨x, hx, hk, rfl⟩ := mem_shown.1 h
      exact entry_shown (hl.1 x hx) hk
  · by_cases hd : dirOf e.P = []
    · exact .inl hd
    right
    rcases (mem_overL hl ht).1 he with h | h
    · obtain ⟨h1, h2, h3⟩ := mem_keep.1 h
      obtain ⟨h4, h5⟩ := hides_dir h3
      have h5 := h5 hd
      rcases ht.2.2 e h1 with h6 | ⟨d, hdt, h6, h7⟩
      · exact absurd h6 hd
      rcases g : get l (dirOf e.P) with _ | x
      · refine ⟨d, (mem_overL hl ht).2 (.inl (mem_keep.2 ⟨hdt, ?_, ?_⟩)), h6, h7⟩
        · rw [h6]; exact g
        · rw [h6]; exact h4
      · obtain ⟨g1, g2⟩ := get_some hd g
        obtain ⟨y, hy, hy2⟩ := get_shown_dir g1 g2 (bad_not h5 g).1
        exact ⟨y, (mem_overL hl ht).2 (.inr hy), hy2⟩
    · obtain ⟨x, hx, _, rfl⟩ := mem_shown.1 h
      rcases hl.2.2 x hx with h6 | ⟨d, hdl, h6, h7⟩
      · exact absurd h6 hd
      · obtain ⟨y, hy, hy2⟩ := get_shown_dir hdl h6 h7
        exact ⟨y, (mem_overL hl ht).2 (.inr hy), hy2⟩
/-- The sort of what is kept and shown is the layer over the tree. -/
theorem over_sorted {l t m : List En} (hl : Right true l) (ht : Right false t) (hp : m.Perm (keep l t ++ shown l)) (hs : m.Pairwise fun x y => ¬ cmp y.P x.P < 0) : m = overL l t := by
  have hne : (keep l t ++ shown l).Pairwise fun x y => x.P ≠ y.P := by
    have ne_of : ∀ {l : List En}, Srt l → l.Pairwise fun x y => x.P ≠ y.P := fun h => List.Pairwise.imp (fun h e => by rw [e, cmp_self] at h; omega) h
    refine List.pairwise_append.2 ⟨ne_of (srt_filter ht.2.1 _), ne_of (srt_shown hl.2.1), fun a ha b hb e => ?_⟩
    obtain ⟨h1, h2, _⟩ := mem_keep.1 ha
    obtain ⟨x, hx, _, rfl⟩ := mem_shown.1 hb
    exact (get_none (right_ne ht h1)).1 h2 x hx e.symm
  have hne2 : m.Pairwise fun x y => x.P ≠ y.P := (hp.symm.pairwise_iff (fun h e => h e.symm)).1 hne
  refine srt_ext (List.Pairwise.imp₂ (fun {a b} (h1 : ¬ cmp b.P a.P < 0) (h2 : a.P ≠ b.P) => lt_tri h1 (Ne.symm h2)) hs hne2) (srt_overL ht.2.1) fun e => ?_
  rw [hp.mem_iff, List.mem_append, mem_overL hl ht]

/-! ### What is seen -/
theorem seen_own {l t : List En} (hl : Right true l) (ht : Right false t) {p : Bs} (hp : p ≠ []) {y : En} (hy : y ∈ l) (e : y.P = p) : get (overL l t) p = if y.k = 4 then none else some y.clear := by
  by_cases hk : y.k = 4
  · rw [if_pos hk, get_none hp]
    intro x hx e'
    rcases (mem_overL hl ht).1 hx with h | h
    · obtain ⟨h1, h2, _⟩ := mem_keep.1 h
      exact (get_none (right_ne ht h1)).1 h2 y hy (e.trans e'.symm)
    · obtain ⟨z, hz, hk2, rfl⟩ := mem_shown.1 h
      have : y = z := srt_same hl.2.1 hy hz (e.trans e'.symm)
      subst this; exact hk2 hk
  · rw [if_neg hk, get_iff (srt_overL ht.2.1) hp]
    exact ⟨(mem_overL hl ht).2 (.inr (mem_shown.2 ⟨y, hy, hk, rfl⟩)), e⟩
theorem seen_low {l t : List En} (hl : Right true l) (ht : Right false t) {p : Bs} (hp : p ≠ []) (hno : ∀ y ∈ l, y.P ≠ p) : get (overL l t) p = if hides l p then none else get t p := by
  have hn : get l p = none := (get_none hp).2 hno
  have key : ∀ e, e.P = p → (e ∈ overL l t ↔ e ∈ t ∧ hides l p = false) := by
    intro e he
    rw [mem_overL hl ht, mem_keep, he]
    constructor
    · rintro (⟨h1, _, h2⟩ | h)
      · exact ⟨h1, h2⟩
      · obtain ⟨z, hz, _, rfl⟩ := mem_shown.1 h
        exact absurd he (hno z hz)
    · rintro ⟨h1, h2⟩; exact .inl ⟨h1, hn, h2⟩
  rcases hh : hides l p with _ | _
  · rw [if_neg (by simp)]
    rcases g : get t p with _ | e
    · rw [get_none hp]
      intro e he h2
      exact (get_none hp).1 g e ((key e h2).1 he).1 h2
    · obtain ⟨g1, g2⟩ := get_some hp g
      rw [get_iff (srt_overL ht.2.1) hp]
      exact ⟨(key e g2).2 ⟨g1, hh⟩, g2⟩
  · rw [if_pos rfl, get_none hp]
    intro e he h2
    have := ((key e h2).1 he).2
    rw [hh] at this; cases this

/-! ### Layers over layers -/
def mergeL : List (List En) → List En × Int
  | [] => ([], 0)
  | x :: r => if (mergeL r).2 ≠ 0 then ([], (mergeL r).2) else over x (mergeL r).1
def merge (ls : List (List En)) : List En × Int := if 5 < ls.length then ([], 5) else mergeL ls

theorem over_ok {l t : List En} (h : (over l t).2 = 0) : l.length ≤ 80 ∧ Right true l ∧ t.length ≤ 80 ∧ Right false t ∧ (overL l t).length ≤ 80 ∧ over l t = (overL l t, 0) := by
  unfold over at h ⊢
  by_cases h1 : (wrong l true).1 = 0
  · by_cases h2 : (wrong t false).1 = 0
    · obtain ⟨a1, a2⟩ := (wrong_zero l true).1 h1
      obtain ⟨b1, b2⟩ := (wrong_zero t false).1 h2
      rw [if_neg (by simp [h1]), if_neg (by simp [h2])] at h ⊢
      by_cases h3 : 80 < (overL l t).length
      · rw [if_pos h3] at h; cases h
      · exact ⟨a1, a2, b1, b2, by omega, if_neg h3⟩
    · rw [if_neg (by simp [h1]), if_pos h2] at h; exact absurd h h2
  · rw [if_pos h1] at h; exact absurd h h1
theorem over_is {l t : List En} (h1 : l.length ≤ 80) (h2 : Right true l) (h3 : t.length ≤ 80) (h4 : Right false t) (h5 : (overL l t).length ≤ 80) : over l t = (overL l t, 0) := by
  have w1 := (wrong_zero l true).2 ⟨h1, h2⟩
  have w2 := (wrong_zero t false).2 ⟨h3, h4⟩
  unfold over
  rw [if_neg (by simp [w1]), if_neg (by simp [w2]), if_neg (by omega)]
theorem over_none {l t : List En} (h : (over l t).2 ≠ 0) : (over l t).1 = [] := by
  unfold over at h ⊢
  split
  · rfl
  · split
    · rfl
    · split
      · rfl
      · rename_i a b c; rw [if_neg a, if_neg b, if_neg c] at h; exact absurd rfl h
theorem mergeL_none : ∀ {ls : List (List En)}, (mergeL ls).2 ≠ 0 → (mergeL ls).1 = []
  | [], h => absurd rfl h
  | x :: r, h => by
    unfold mergeL at h ⊢
    split
    · rfl
    · rename_i a; rw [if_neg a] at h; exact over_none h
theorem mergeL_right : ∀ {ls : List (List En)}, (mergeL ls).2 = 0 → (mergeL ls).1.length ≤ 80 ∧ Right false (mergeL ls).1
  | [], _ => ⟨by decide, right_nil _⟩
  | x :: r, h => by
    unfold mergeL at h ⊢
    split
    · rename_i a; rw [if_pos a] at h; exact absurd h a
    · rename_i a
      rw [if_neg a] at h
      obtain ⟨_, h2, _, h4, h5, h6⟩ := over_ok h
      rw [h6]; exact ⟨h5, over_right h2 h4⟩
theorem mergeL_tail {x : List En} {r : List (List En)} (h : (mergeL (x :: r)).2 = 0) : (mergeL r).2 = 0 ∧ mergeL (x :: r) = over x (mergeL r).1 := by
  rw [mergeL] at h ⊢
  by_cases a : (mergeL r).2 = 0
  · exact ⟨a, if_neg fun h => h a⟩
  · rw [if_pos a] at h; exact absurd h a
theorem mergeL_cons {x : List En} {r : List (List En)} (h : (mergeL r).2 = 0) : mergeL (x :: r) = over x (mergeL r).1 := by
  rw [mergeL, if_neg (by simp [h])]
theorem hides_none (p : Bs) : hides [] p = false := by
  have hb : ∀ q : Bs, q ≠ [] → bad [] q = false := fun q hq => by
    unfold bad; rw [(get_none (l := []) hq).2 (fun _ h => nomatch h)]
  have ha : ∀ n (q : Bs), hidUp [] n q = false := by
    intro n
    induction n with
    | zero => intro q; rfl
    | succ n ih =>
      intro q
      unfold hidUp
      by_cases hq : q = []
      · rw [if_pos hq]
      · rw [if_neg hq, hb q hq, ih]; rfl
  unfold hides hidAll
  rw [ha]
  by_cases hp : p = []
  · subst hp; rw [own_nil]; rfl
  · rw [own_bad (hb p hp)]; rfl
/-- A clear layer over a tree. -/
theorem overL_clear (t : List En) : overL [] t = t := by
  unfold overL keepR
  show t.filter _ = t
  rw [List.filter_eq_self]
  intro e _
  rw [hides_none]; rfl
/-- A tree as a layer over nothing. -/
theorem shown_tree {t : List En} (h : Right false t) : shown t = t := by
  unfold shown
  rw [List.filter_eq_self.2 (fun e he => by have := entry_kind (h.1 e he); simp only [bne_iff_ne]; have := this.2.2 rfl; omega)]
  have : t.map En.clear = t.map id := List.map_congr_left fun e he => by
    have := entry_opaque (h.1 e he)
    obtain ⟨a, b, c, d⟩ := e
    show En.mk a b c false = En.mk a b c d
    have h : d = false := this
    rw [h]
  rw [this, List.map_id]
theorem overL_nil {t : List En} (h : Right false t) : overL t [] = t := by
  have hs : Srt (keepR t []) := srt_nil
  refine srt_ext (srt_insAll hs) h.2.1 fun e => ?_
  unfold overL
  rw [mem_insAll (srt_shown h.2.1) hs, shown_tree h]
  simp [keepR]
theorem merge_clear : ∀ {ls : List (List En)} {n : Nat}, (mergeL ls).2 = 0 → mergeL (ls.take n ++ [] :: ls.drop n) = mergeL ls
  | ls, 0, h => by
    obtain ⟨h1, h2⟩ := mergeL_right h
    rw [List.take_zero, List.drop_zero, List.nil_append, mergeL_cons h, over_is (by decide) (right_nil _) h1 h2 (by rw [overL_clear]; exact h1), overL_clear, ← h]
  | [], n + 1, _ => by
    rw [List.take_nil, List.drop_nil, List.nil_append, mergeL_cons rfl]
    exact over_is (by decide) (right_nil _) (by decide) (right_nil _) (by decide)
  | x :: r, n + 1, h => by
    obtain ⟨h1, h2⟩ := mergeL_tail h
    have ih := merge_clear (ls := r) (n := n) h1
    rw [List.take_succ_cons, List.drop_succ_cons, List.cons_append, mergeL_cons (by rw [ih]; exact h1), ih, h2]
theorem merge_drop : ∀ {ls : List (List En)} {n : Nat}, (mergeL ls).2 = 0 → (mergeL (ls.drop n)).2 = 0
  | ls, 0, h => h
  | [], n + 1, h => by rw [List.drop_nil]; exact h
  | x :: r, n + 1, h => by rw [List.drop_succ_cons]; exact merge_drop (mergeL_tail h).1
theorem merge_parts : ∀ {ls : List (List En)} {n : Nat}, (mergeL ls).2 = 0 → mergeL (ls.take n ++ [(mergeL (ls.drop n)).1]) = mergeL ls
  | ls, 0, h => by
    obtain ⟨h1, h2⟩ := mergeL_right h
    rw [List.take_zero, List.drop_zero, List.nil_append, mergeL_cons rfl]
    show over (mergeL ls).1 [] = _
    rw [over_is h1 (right_layer h2) (by decide) (right_nil _) (by rw [overL_nil h2]; exact h1), overL_nil h2, ← h]
  | [], n + 1, _ => by
    rw [List.take_nil, List.drop_nil, List.nil_append, mergeL_cons rfl]
    exact over_is (by decide) (right_nil _) (by decide) (right_nil _) (by decide)
  | x :: r, n + 1, h => by
    obtain ⟨h1, h2⟩ := mergeL_tail h
    have ih := merge_parts (ls := r) (n := n) h1
    rw [List.take_succ_cons, List.drop_succ_cons, List.cons_append, mergeL_cons (by rw [ih]; exact h1), ih, h2]
end Tr
end Go.Proofs.YtjppfhgkanbemacGreatDoor

namespace Go.Proofs.YtjppfhgkanbemacGreatDoor
namespace Tr
open Pt

def dirErr (t : List En) (d : Bs) : Int := match get t d with
  | none => 6
  | some x => if x.k ≠ 2 then 10 else 0
def kindErr (t : List En) (e : En) : Int := match get t e.P with
  | some x => if (x.k == 2) ≠ (e.k == 2) then 7 else 0
  | none => if t.length = 80 then 5 else 0
def putErr (t : List En) (e : En) : Int :=
  if (wrong t false).1 ≠ 0 then (wrong t false).1 else if entry e false ≠ 0 then entry e false else
  if dirErr t (dirOf e.P) ≠ 0 then dirErr t (dirOf e.P) else kindErr t e
def put (t : List En) (e : En) : List En × Int := if putErr t e ≠ 0 then ([], putErr t e) else (ins e t, 0)
def names (t : List En) (p : Bs) : List Bs := (t.filter fun e => dirOf e.P == p).map fun e => nameOf e.P
def list (t : List En) (p : Bs) : List Bs × Int := if dirErr t p ≠ 0 then ([], dirErr t p) else (names t p, 0)
def without (t : List En) (p : Bs) : List En := t.filter fun e => e.P != p
def full (t : List En) (p : Bs) : Bool := t.any fun e => under e.P p
def removeErr (t : List En) (p : Bs) : Int :=
  if (wrong t false).1 ≠ 0 then (wrong t false).1 else if p = [] ∨ get t p = none then 6 else if full t p = true then 11 else 0
def remove (t : List En) (p : Bs) : List En × Int := if removeErr t p ≠ 0 then ([], removeErr t p) else (without t p, 0)

theorem under_len {s d : Bs} (hd : d ≠ []) (h : under s d = true) : d.length < s.length := by
  obtain ⟨r, rfl⟩ := (under_iff hd).1 h
  simp
/-- What lies below a directory lies in it, or its own directory lies below it. -/
theorem under_step {s d : Bs} (hd : d ≠ []) (h : under s d = true) : dirOf s ≠ [] ∧ (dirOf s = d ∨ under (dirOf s) d = true) := by
  obtain ⟨r, hr, e⟩ := (under_split hd).1 h
  obtain ⟨q, n, hrq⟩ : ∃ q n, r = q ++ [n] := by
    rcases List.eq_nil_or_concat r with h | ⟨q, n, h⟩
    · exact absurd h hr
    · exact ⟨q, n, by rw [h, List.concat_eq_append]⟩
  subst hrq
  have hds : dirOf s = glue (split d ++ q) := by
    unfold dirOf; rw [e, ← List.append_assoc, List.dropLast_concat]
  by_cases hq : q = []
  · subst hq
    rw [List.append_nil, glue_split] at hds
    exact ⟨by rw [hds]; exact hd, .inl hds⟩
  · rw [glue_app (split_ne d) hq, glue_split] at hds
    refine ⟨by rw [hds]; simp, .inr ?_⟩
    rw [hds]; exact (under_iff hd).2 ⟨_, rfl⟩
theorem child_under {s d : Bs} (hd : d ≠ []) (h : dirOf s = d) : under s d = true := by
  subst h; exact dir_under hd
theorem under_dirs {b : Bool} {t : List En} (h : Right b t) {q : Bs} (hq : q ≠ []) : ∀ (n : Nat) {x : En}, x ∈ t → x.P.length ≤ n → under x.P q = true → (∃ d ∈ t, d.P = q ∧ d.k = 2) ∧ ∃ c ∈ t, dirOf c.P = q
  | 0, x, _, hn, hu => by have := under_len hq hu; omega
  | n + 1, x, hx, hn, hu => by
    obtain ⟨h1, h2⟩ := under_step hq hu
    have hs := dir_short (right_ne h hx)
    rcases h.2.2 x hx with h3 | ⟨d, hd, h3, h4⟩
    · exact absurd h3 h1
    · rcases h2 with h2 | h2
      · exact ⟨⟨d, hd, h3.trans h2, h4⟩, x, hx, h2⟩
      · exact under_dirs h hq n hd (by rw [h3]; omega) (by rw [h3]; exact h2)
theorem under_dir {b : Bool} {t : List En} (h : Right b t) {q : Bs} (hq : q ≠ []) {x : En} (hx : x ∈ t) (hu : under x.P q = true) : ∃ d ∈ t, d.P = q ∧ d.k = 2 := (under_dirs h hq _ hx (Nat.le_refl _) hu).1
theorem full_names {t : List En} (h : Right false t) {p : Bs} (hp : p ≠ []) : full t p = !(names t p).isEmpty := by
  unfold full names
  rw [Bool.eq_iff_iff, List.any_eq_true, Bool.not_eq_true', Bool.eq_false_iff, Ne, List.isEmpty_iff, List.map_eq_nil_iff]
  constructor
  · rintro ⟨x, hx, hu⟩ hn
    obtain ⟨c, hc, h2⟩ := (under_dirs h hp _ hx (Nat.le_refl _) hu).2
    have := List.filter_eq_nil_iff.1 hn c hc
    rw [h2, beq_self_eq_true] at this
    exact this rfl
  · intro hn
    obtain ⟨x, r, hr⟩ := List.exists_cons_of_ne_nil hn
    have hx : x ∈ t.filter fun e => dirOf e.P == p := by rw [hr]; simp
    obtain ⟨h1, h2⟩ := List.mem_filter.1 hx
    exact ⟨x, h1, child_under hp (by simpa using h2)⟩
/-- Behind a directory stands what lies below it, if anything does. -/
theorem full_next {t : List En} (h : Srt t) {k : Nat} (hk : k < t.length) (hp : t[k].P ≠ []) : full t t[k].P = if h : k + 1 < t.length then under t[k + 1].P t[k].P else false := by
  unfold full
  rw [Bool.eq_iff_iff, List.any_eq_true]
  have srt : ∀ {i j : Nat} (hj : j < t.length) (hij : i < j), cmp (t[i]'(by omega)).P t[j].P < 0 := fun {i j} hj hij => List.pairwise_iff_getElem.1 h i j _ hj hij
  constructor
  · rintro ⟨x, hx, hu⟩
    obtain ⟨j, hj, rfl⟩ := List.getElem_of_mem hx
    have h1 := (order (c := []) hp hu).1
    have hkj : k < j := by
      rcases Nat.lt_trichotomy k j with h2 | h2 | h2
      · exact h2
      · subst h2; rw [cmp_self] at h1; omega
      · exact absurd (srt hk h2) (lt_asymm h1)
    rw [dif_pos (by omega)]
    rcases Nat.eq_or_lt_of_le (show k + 1 ≤ j from hkj) with e | h2
    · subst e; exact hu
    · have h3 := srt (i := k) (j := k + 1) (by omega) (by omega)
      have h4 := srt hj h2
      rcases (order (c := t[k + 1].P) hp hu).2 with h5 | h5 | h5 | h5
      · rw [h5, cmp_self] at h3; omega
      · exact h5
      · exact absurd h3 (lt_asymm h5)
      · omega
  · intro hu
    split at hu
    · rename_i h2; exact ⟨_, List.getElem_mem h2, hu⟩
    · cases hu

/-! ### Put -/
theorem put_ok {t : List En} {e : En} (h : putErr t e = 0) : t.length ≤ 80 ∧ Right false t ∧ entry e false = 0 ∧ (dirOf e.P = [] ∨ ∃ d ∈ t, d.P = dirOf e.P ∧ d.k = 2) ∧ (∀ x ∈ t, x.P = e.P → (x.k = 2 ↔ e.k = 2)) ∧ ((∀ x ∈ t, x.P ≠ e.P) → t.length < 80) := by
  unfold putErr at h
  by_cases h1 : (wrong t false).1 = 0
  · rw [if_neg (by simp [h1])] at h
    obtain ⟨a1, a2⟩ := (wrong_zero t false).1 h1
    by_cases h2 : entry e false = 0
    · rw [if_neg (by simp [h2])] at h
      have hp := clean_ne (entry_clean h2)
      by_cases h3 : dirErr t (dirOf e.P) = 0
      · rw [if_neg (by simp [h3])] at h
        refine ⟨a1, a2, h2, ?_, fun x hx hxe => ?_, fun hno => ?_⟩
        · by_cases hd : dirOf e.P = []
          · exact .inl hd
          · unfold dirErr at h3
            rcases g : get t (dirOf e.P) with _ | d
            · rw [g] at h3; cases h3
            · rw [g] at h3
              dsimp only at h3
              by_cases hk : d.k = 2
              · exact .inr ⟨d, (get_some hd g).1, (get_some hd g).2, hk⟩
              · rw [if_pos hk] at h3; cases h3
        · unfold kindErr at h
          have g := get_mem a2.2.1 hx (right_ne a2 hx)
          rw [hxe] at g
          rw [g] at h
          dsimp only at h
          by_cases hk : (x.k == 2) = (e.k == 2)
          · rw [Bool.eq_iff_iff, beq_iff_eq, beq_iff_eq] at hk; exact hk
          · rw [if_pos hk] at h; cases h
        · unfold kindErr at h
          rw [(get_none hp).2 hno] at h
          dsimp only at h
          by_cases hl : t.length = 80
          · rw [if_pos hl] at h; cases h
          · omega
      · rw [if_pos h3] at h; exact absurd h h3
    · rw [if_pos h2] at h; exact absurd h h2
  · rw [if_pos h1] at h; exact absurd h h1
theorem put_right {t : List En} {e : En} (h : putErr t e = 0) : Right false (ins e t) := by
  obtain ⟨_, a2, h2, h3, h4, _⟩ := put_ok h
  have hm := mem_ins (x := e) a2.2.1
  refine ⟨fun x hx => ?_, srt_ins a2.2.1, fun x hx => ?_⟩
  · rcases (hm x).1 hx with rfl | ⟨hx, _⟩
    · exact h2
    · exact a2.1 x hx
  · have key : ∀ d ∈ t, d.k = 2 → ∃ d' ∈ ins e t, d'.P = d.P ∧ d'.k = 2 := fun d hd hk => by
      by_cases hde : d.P = e.P
      · exact ⟨e, (hm e).2 (.inl rfl), hde.symm, (h4 d hd hde).1 hk⟩
      · exact ⟨d, (hm d).2 (.inr ⟨hd, hde⟩), rfl, hk⟩
    rcases (hm x).1 hx with rfl | ⟨hx, _⟩
    · rcases h3 with h3 | ⟨d, hd, h5, h6⟩
      · exact .inl h3
      · obtain ⟨d', h7, h8, h9⟩ := key d hd h6
        exact .inr ⟨d', h7, h8.trans h5, h9⟩
    · rcases a2.2.2 x hx with h3 | ⟨d, hd, h5, h6⟩
      · exact .inl h3
      · obtain ⟨d', h7, h8, h9⟩ := key d hd h6
        exact .inr ⟨d', h7, h8.trans h5, h9⟩
theorem ins_len_new {e : En} : ∀ {t : List En}, Srt t → (∀ x ∈ t, x.P ≠ e.P) → (ins e t).length = t.length + 1
  | [], _, _ => rfl
  | y :: r, hs, h => by
    unfold ins
    split
    · rw [List.length_cons, ins_len_new (srt_tail hs) (fun x hx => h x (by simp [hx])), List.length_cons]
    · rw [if_neg (h y (by simp))]; rfl
theorem ins_len_old {e : En} : ∀ {t : List En}, Srt t → (∃ x ∈ t, x.P = e.P) → (ins e t).length = t.length
  | [], _, h => by obtain ⟨x, hx, _⟩ := h; cases hx
  | y :: r, hs, h => by
    unfold ins
    split
    · rename_i h1
      have : ∃ x ∈ r, x.P = e.P := by
        obtain ⟨x, hx, h2⟩ := h
        rcases List.mem_cons.1 hx with rfl | hx
        · rw [h2, cmp_self] at h1; omega
        · exact ⟨x, hx, h2⟩
      rw [List.length_cons, ins_len_old (srt_tail hs) this, List.length_cons]
    · rename_i h1
      by_cases h2 : y.P = e.P
      · rw [if_pos h2]; rfl
      · exfalso
        obtain ⟨x, hx, h3⟩ := h
        rcases List.mem_cons.1 hx with rfl | hx
        · exact h2 h3
        · exact h1 (h3 ▸ srt_head hs x hx)
theorem put_len {t : List En} {e : En} (h : putErr t e = 0) : (ins e t).length ≤ 80 := by
  obtain ⟨h1, a2, _, _, _, h5⟩ := put_ok h
  by_cases hx : ∃ x ∈ t, x.P = e.P
  · rw [ins_len_old a2.2.1 hx]; exact h1
  · have hn : ∀ x ∈ t, x.P ≠ e.P := fun x h2 h3 => hx ⟨x, h2, h3⟩
    rw [ins_len_new a2.2.1 hn]; have := h5 hn; omega
theorem get_ins_same {t : List En} {e : En} (h : Srt t) (hp : e.P ≠ []) : get (ins e t) e.P = some e := (get_iff (srt_ins h) hp).2 ⟨(mem_ins h e).2 (.inl rfl), rfl⟩
theorem get_ins_other {t : List En} {e : En} (h : Srt t) {q : Bs} (hq : q ≠ e.P) : get (ins e t) q = get t q := by
  by_cases hq0 : q = []
  · subst hq0; rw [get_root, get_root]
  · rcases g : get t q with _ | x
    · rw [get_none hq0]
      intro x hx
      rcases (mem_ins h x).1 hx with rfl | ⟨hx, _⟩
      · exact fun e => hq e.symm
      · exact (get_none hq0).1 g x hx
    · obtain ⟨g1, g2⟩ := get_some hq0 g
      exact (get_iff (srt_ins h) hq0).2 ⟨(mem_ins h x).2 (.inr ⟨g1, by rw [g2]; exact hq⟩), g2⟩

/-! ### Remove -/
theorem remove_ok {t : List En} {p : Bs} (h : removeErr t p = 0) : t.length ≤ 80 ∧ Right false t ∧ p ≠ [] ∧ get t p ≠ none ∧ full t p = false := by
  unfold removeErr at h
  by_cases h1 : (wrong t false).1 = 0
  · rw [if_neg (by simp [h1])] at h
    obtain ⟨a1, a2⟩ := (wrong_zero t false).1 h1
    by_cases h2 : p = [] ∨ get t p = none
    · rw [if_pos h2] at h; cases h
    · rw [if_neg h2] at h
      rcases hf : full t p with _ | _
      · exact ⟨a1, a2, fun e => h2 (.inl e), fun e => h2 (.inr e), rfl⟩
      · rw [hf] at h; cases h
  · rw [if_pos h1] at h; exact absurd h h1
theorem mem_without {t : List En} {p : Bs} {e : En} : e ∈ without t p ↔ e ∈ t ∧ e.P ≠ p := by
  unfold without; simp
theorem remove_right {t : List En} {p : Bs} (h : removeErr t p = 0) : Right false (without t p) := by
  obtain ⟨_, a2, hp, _, hf⟩ := remove_ok h
  refine ⟨fun x hx => a2.1 x (mem_without.1 hx).1, srt_filter a2.2.1 _, fun x hx => ?_⟩
  obtain ⟨h1, _⟩ := mem_without.1 hx
  rcases a2.2.2 x h1 with h3 | ⟨d, hd, h5, h6⟩
  · exact .inl h3
  · by_cases hde : d.P = p
    · exfalso
      unfold full at hf
      rw [List.any_eq_false] at hf
      exact hf x h1 (child_under hp (h5.symm.trans hde))
    · exact .inr ⟨d, mem_without.2 ⟨hd, hde⟩, h5, h6⟩
theorem get_without_same {t : List En} {p : Bs} (hp : p ≠ []) : get (without t p) p = none := (get_none hp).2 fun _ h => (mem_without.1 h).2
theorem get_without_other {t : List En} (h : Srt t) {p q : Bs} (hq : q ≠ p) : get (without t p) q = get t q := by
  by_cases hq0 : q = []
  · subst hq0; rw [get_root, get_root]
  · rcases g : get t q with _ | x
    · rw [get_none hq0]
      exact fun x hx => (get_none hq0).1 g x (mem_without.1 hx).1
    · obtain ⟨g1, g2⟩ := get_some hq0 g
      exact (get_iff (srt_filter h _) hq0).2 ⟨mem_without.2 ⟨g1, by rw [g2]; exact hq⟩, g2⟩
theorem without_len (t : List En) (p : Bs) : (without t p).length ≤ t.length := List.length_filter_le _ _
/-- Put, and removed. -/
theorem back {t : List En} {e : En} (h : putErr t e = 0) (hn : get t e.P = none) : remove (ins e t) e.P = (t, 0) := by
  obtain ⟨_, a2, h2, _, _, _⟩ := put_ok h
  have hp := clean_ne (entry_clean h2)
  have hno := (get_none hp).1 hn
  have hw : (wrong (ins e t) false).1 = 0 := (wrong_zero _ _).2 ⟨put_len h, put_right h⟩
  have hf : full (ins e t) e.P = false := by
    unfold full
    rw [List.any_eq_false]
    intro x hx hu
    rcases (mem_ins a2.2.1 x).1 hx with rfl | ⟨hx, _⟩
    · have := under_len hp hu; omega
    · obtain ⟨d, hd, h3, _⟩ := under_dir a2 hp hx hu
      exact hno d hd h3
  have hr : removeErr (ins e t) e.P = 0 := by
    unfold removeErr
    rw [if_neg (by simp [hw]), if_neg, hf]
    · rfl
    · rintro (h | h)
      · exact hp h
      · rw [get_ins_same a2.2.1 hp] at h; cases h
  unfold remove
  rw [if_neg (by simp [hr])]
  have : without (ins e t) e.P = t := srt_ext (srt_filter (srt_ins a2.2.1) _) a2.2.1 fun x => by
    rw [mem_without, mem_ins a2.2.1]
    constructor
    · rintro ⟨rfl | ⟨h, _⟩, h3⟩
      · exact absurd rfl h3
      · exact h
    · exact fun h => ⟨.inr ⟨h, hno x h⟩, hno x h⟩
  rw [this]
end Tr
/-- What is neither at a path nor below it. -/
def Tr.outside (l : List En) (p : Pt.Bs) : List En := l.filter fun e => e.P != p && !Pt.under e.P p
theorem outside_yes {l : List En} {p : Pt.Bs} {k : Nat} (hk : k < l.length) (h1 : l[k].P ≠ p) (h2 : Pt.under l[k].P p = false) : Tr.outside (l.take (k + 1)) p = Tr.outside (l.take k) p ++ [l[k]] := by
  unfold Tr.outside
  rw [List.take_succ_eq_append_getElem hk, List.filter_append]; simp [h1, h2]
theorem outside_no {l : List En} {p : Pt.Bs} {k : Nat} (hk : k < l.length) (h : l[k].P = p ∨ Pt.under l[k].P p = true) : Tr.outside (l.take (k + 1)) p = Tr.outside (l.take k) p := by
  unfold Tr.outside
  rw [List.take_succ_eq_append_getElem hk, List.filter_append]
  have : (l[k].P != p && !Pt.under l[k].P p) = false := by
    rcases h with h | h
    · rw [h]; simp
    · rw [h]; simp
  simp [this]
theorem outside_le (l : List En) (p : Pt.Bs) : (Tr.outside l p).length ≤ l.length := List.length_filter_le _ _
theorem outside_without {l : List En} {p : Pt.Bs} (h : Tr.full l p = false) : Tr.outside l p = Tr.without l p := by
  unfold Tr.outside Tr.without
  refine List.filter_congr fun e he => ?_
  unfold Tr.full at h
  rw [List.any_eq_false] at h
  have := h e he
  rw [Bool.not_eq_true] at this
  rw [this]; simp

end Go.Proofs.YtjppfhgkanbemacGreatDoor

namespace Go.Proofs.YtjppfhgkanbemacGreatDoor
namespace Tr
open Pt

/-- What is wrong with a move onto what stands there. -/
def destErr (t : List En) (x : En) (d : Bs) : Int := match get t d with
  | none => 0
  | some y => if x.k ≠ 2 ∧ y.k = 2 then 9 else if x.k = 2 ∧ y.k ≠ 2 then 10 else if (list t d).2 = 0 ∧ (list t d).1 ≠ [] then 11 else 0
def movesErr (t : List En) (s d : Bs) : Int :=
  if get t s = none ∨ s = [] then 6 else if clean d = false then 7 else if s = d then 0 else if under d s = true then 8 else
  if dirErr t (dirOf d) ≠ 0 then dirErr t (dirOf d) else destErr t ((get t s).getD En.zero) d
def ren (s d q : Bs) : Bs := if q = s then d else if under q s = true then d ++ q.drop s.length else q
def renE (s d : Bs) (e : En) : En := if e.P = s then ⟨⟨d.toArray⟩, e.k, e.t, e.o⟩ else if under e.P s = true then ⟨⟨(d ++ e.P.drop s.length).toArray⟩, e.k, e.t, e.o⟩ else e
theorem renE_P (s d : Bs) (e : En) : (renE s d e).P = ren s d e.P := by
  unfold renE ren
  split
  · rfl
  · split <;> rfl
def stays (s d : Bs) (e : En) : Bool := e.P == s || under e.P s || e.P != d
def movedL (t : List En) (s d : Bs) : List En := (t.filter (stays s d)).map (renE s d)
def sortL (l : List En) : List En := insAll l []
def moveErr (t : List En) (s d : Bs) : Int :=
  if (wrong t false).1 ≠ 0 then (wrong t false).1 else if movesErr t s d ≠ 0 then movesErr t s d else if (movedL t s d).any (fun e => !clean e.P) = true then 4 else 0
def move (t : List En) (s d : Bs) : List En × Int := if moveErr t s d ≠ 0 then ([], moveErr t s d) else (sortL (movedL t s d), 0)

/-- Either the path itself or a path below. -/
def mv (s q : Bs) : Prop := q = s ∨ under q s = true
instance (s q : Bs) : Decidable (mv s q) := inferInstanceAs (Decidable (_ ∨ _))
theorem mv_split {s q : Bs} (hs : s ≠ []) (h : mv s q) : ∃ r, q = s ++ r ∧ (r = [] ∨ ∃ r', r = 47 :: r') := by
  rcases h with h | h
  · exact ⟨[], by rw [h, List.append_nil], .inl rfl⟩
  · obtain ⟨r, e⟩ := (under_iff hs).1 h
    exact ⟨47 :: r, e, .inr ⟨r, rfl⟩⟩
theorem mv_of {s r : Bs} (hs : s ≠ []) (h : r = [] ∨ ∃ r', r = 47 :: r') : mv s (s ++ r) := by
  rcases h with rfl | ⟨r', rfl⟩
  · exact .inl (List.append_nil s)
  · exact .inr ((under_iff hs).2 ⟨r', rfl⟩)
theorem ren_mv {s d q : Bs} (h : mv s q) : ren s d q = d ++ q.drop s.length := by
  unfold ren
  by_cases e : q = s
  · rw [if_pos e, e, List.drop_length, List.append_nil]
  · rw [if_neg e, if_pos (h.resolve_left e)]
theorem ren_app {s d r : Bs} (hs : s ≠ []) (h : r = [] ∨ ∃ r', r = 47 :: r') : ren s d (s ++ r) = d ++ r := by
  rw [ren_mv (mv_of hs h), List.drop_left]
theorem ren_not {s d q : Bs} (h : ¬ mv s q) : ren s d q = q := by
  unfold ren
  rw [if_neg (fun e => h (.inl e)), if_neg (fun e => h (.inr e))]
theorem ren_self {s q : Bs} (hs : s ≠ []) : ren s s q = q := by
  by_cases h : mv s q
  · obtain ⟨r, rfl, hr⟩ := mv_split hs h
    exact ren_app hs hr
  · exact ren_not h
theorem stays_iff {s d : Bs} {e : En} : stays s d e = true ↔ mv s e.P ∨ e.P ≠ d := by
  unfold stays mv
  rw [Bool.or_eq_true, Bool.or_eq_true, beq_iff_eq, bne_iff_ne]
/-- What a move that is allowed says. -/
theorem moves_ok {t : List En} {s d : Bs} (h : movesErr t s d = 0) : ∃ x, get t s = some x ∧ s ≠ [] ∧ clean d = true ∧ (s = d ∨ (under d s = false ∧ dirErr t (dirOf d) = 0 ∧ destErr t x d = 0)) := by
  unfold movesErr at h
  by_cases h1 : get t s = none ∨ s = []
  · rw [if_pos h1] at h; cases h
  rw [if_neg h1] at h
  rcases hg : get t s with _ | x
  · exact absurd (.inl hg) h1
  rw [hg] at h
  by_cases h2 : clean d = false
  · rw [if_pos h2] at h; cases h
  rw [if_neg h2] at h
  refine ⟨x, rfl, fun e => h1 (.inr e), by simpa using h2, ?_⟩
  by_cases h3 : s = d
  · exact .inl h3
  rw [if_neg h3] at h
  by_cases h4 : under d s = true
  · rw [if_pos h4] at h; cases h
  rw [if_neg h4] at h
  by_cases h5 : dirErr t (dirOf d) = 0
  · rw [if_neg (by simp [h5])] at h
    exact .inr ⟨by simpa using h4, h5, h⟩
  · rw [if_pos h5] at h; exact absurd h h5
theorem dest_free {t : List En} {x : En} {d : Bs} (ht : Right false t) (hd : d ≠ []) (h : destErr t x d = 0) : ∀ y ∈ t, under y.P d = false := by
  intro y hy
  rcases hu : under y.P d with _ | _
  · rfl
  exfalso
  obtain ⟨⟨e, he, he1, he2⟩, c, hc, hc1⟩ := under_dirs ht hd _ hy (Nat.le_refl _) hu
  have hg : get t d = some e := (get_iff ht.2.1 hd).2 ⟨he, he1⟩
  have hl : list t d = (names t d, 0) := by
    unfold list dirErr
    rw [hg]
    simp [he2]
  unfold destErr at h
  rw [hg, hl] at h
  dsimp only at h
  have hn : names t d ≠ [] := by
    unfold names
    intro hn
    rw [List.map_eq_nil_iff] at hn
    have := List.filter_eq_nil_iff.1 hn c hc
    rw [hc1, beq_self_eq_true] at this
    exact this rfl
  rw [he2] at h
  by_cases hx : x.k = 2
  · rw [if_neg (fun h => h.1 hx), if_neg (fun h => h.2 rfl), if_pos ⟨rfl, hn⟩] at h; cases h
  · rw [if_pos ⟨hx, rfl⟩] at h; cases h
/-- No two paths fall together. -/
theorem ren_inj {t : List En} {s d : Bs} (ht : Right false t) (h : movesErr t s d = 0) {x y : En} (hx : x ∈ t) (hy : y ∈ t) (hxs : stays s d x = true) (hys : stays s d y = true) (he : ren s d x.P = ren s d y.P) : x.P = y.P := by
  obtain ⟨z, _, hs, hc, h1⟩ := moves_ok h
  rcases h1 with rfl | ⟨_, _, hde⟩
  · rw [ren_self hs, ren_self hs] at he; exact he
  have hfree := dest_free ht (clean_ne hc) hde
  have key : ∀ {x y : En}, y ∈ t → mv s x.P → ¬ mv s y.P → stays s d y = true → ren s d x.P = ren s d y.P → False := by
    intro x y hy hm hn hst he
    obtain ⟨r, e, hr⟩ := mv_split hs hm
    rw [e, ren_app hs hr, ren_not hn] at he
    rcases hr with rfl | ⟨r', rfl⟩
    · rw [List.append_nil] at he
      exact ((stays_iff.1 hst).resolve_left hn) he.symm
    · have := hfree y hy
      rw [(under_iff (clean_ne hc)).2 ⟨r', he.symm⟩] at this
      cases this
  by_cases mx : mv s x.P <;> by_cases my : mv s y.P
  · obtain ⟨r, e, hr⟩ := mv_split hs mx
    obtain ⟨r', e', hr'⟩ := mv_split hs my
    rw [e, e', ren_app hs hr, ren_app hs hr'] at he
    rw [e, e', List.append_cancel_left he]
  · exact (key hy mx my hys he).elim
  · exact (key hx my mx hxs he.symm).elim
  · rwa [ren_not mx, ren_not my] at he
theorem srt_ne {l : List En} (h : Srt l) : l.Pairwise fun x y => x.P ≠ y.P := List.Pairwise.imp (fun h e => by rw [e, cmp_self] at h; omega) h
theorem moved_ne {t : List En} {s d : Bs} (ht : Right false t) (h : movesErr t s d = 0) : (movedL t s d).Pairwise fun x y => x.P ≠ y.P := by
  unfold movedL
  rw [List.pairwise_map]
  refine List.Pairwise.imp_of_mem (fun {a b} ha hb hne he => ?_) (List.Pairwise.filter _ (srt_ne ht.2.1))
  rw [renE_P, renE_P] at he
  obtain ⟨a1, a2⟩ := List.mem_filter.1 ha
  obtain ⟨b1, b2⟩ := List.mem_filter.1 hb
  exact hne (ren_inj ht h a1 b1 a2 b2 he)
theorem mem_insNe : ∀ {xs a : List En}, (xs.Pairwise fun x y => x.P ≠ y.P) → Srt a → (∀ x ∈ xs, ∀ y ∈ a, x.P ≠ y.P) → ∀ e, e ∈ insAll xs a ↔ e ∈ xs ∨ e ∈ a
  | [], a, _, _, _, e => by simp [insAll]
  | x :: xs, a, hx, ha, hd, e => by
    obtain ⟨hx1, hx2⟩ := List.pairwise_cons.1 hx
    have h := mem_insNe hx2 (srt_ins (x := x) ha) (fun y hy z hz => by
      rcases (mem_ins ha z).1 hz with rfl | ⟨hz, _⟩
      · exact fun e => hx1 y hy e.symm
      · exact hd y (by simp [hy]) z hz) e
    show e ∈ insAll xs (ins x a) ↔ _
    rw [h, mem_ins ha, List.mem_cons]
    constructor
    · rintro (h1 | rfl | ⟨h1, _⟩)
      · exact .inl (.inr h1)
      · exact .inl (.inl rfl)
      · exact .inr h1
    · rintro ((rfl | h1) | h1)
      · exact .inr (.inl rfl)
      · exact .inl h1
      · exact .inr (.inr ⟨h1, fun e' => hd x (by simp) e h1 e'.symm⟩)
theorem mem_sortL {l : List En} (h : l.Pairwise fun x y => x.P ≠ y.P) (e : En) : e ∈ sortL l ↔ e ∈ l := by
  unfold sortL
  rw [mem_insNe h srt_nil (fun _ _ _ h => (nomatch h))]
  simp
theorem srt_sortL (l : List En) : Srt (sortL l) := srt_insAll srt_nil
theorem sort_uniq {l m : List En} (hne : l.Pairwise fun x y => x.P ≠ y.P) (hp : m.Perm l) (hs : m.Pairwise fun x y => ¬ cmp y.P x.P < 0) : m = sortL l := by
  have hne2 : m.Pairwise fun x y => x.P ≠ y.P := (hp.symm.pairwise_iff (fun h e => h e.symm)).1 hne
  refine srt_ext (List.Pairwise.imp₂ (fun {a b} (h1 : ¬ cmp b.P a.P < 0) (h2 : a.P ≠ b.P) => lt_tri h1 (Ne.symm h2)) hs hne2) (srt_sortL l) fun e => ?_
  rw [hp.mem_iff, mem_sortL hne]
end Tr
end Go.Proofs.YtjppfhgkanbemacGreatDoor

namespace Go.Proofs.YtjppfhgkanbemacGreatDoor
namespace Tr
open Pt

theorem en_ext {x y : En} (h : x.P = y.P) (hk : x.k = y.k) (ht : x.t = y.t) (ho : x.o = y.o) : x = y := by
  obtain ⟨a, b, c, d⟩ := x
  obtain ⟨a', b', c', d'⟩ := y
  have h1 : a = a' := bytes_ext h
  have h2 : b = b' := hk
  have h3 : c = c' := ht
  have h4 : d = d' := ho
  subst h1 h2 h3 h4; rfl
theorem renE_k (s d : Bs) (e : En) : (renE s d e).k = e.k := by
  unfold renE
  split
  · rfl
  · split <;> rfl
theorem renE_t (s d : Bs) (e : En) : (renE s d e).t = e.t := by
  unfold renE
  split
  · rfl
  · split <;> rfl
theorem renE_o (s d : Bs) (e : En) : (renE s d e).o = e.o := by
  unfold renE
  split
  · rfl
  · split <;> rfl
theorem renE_eq {s d : Bs} {e e' : En} (hP : e'.P = ren s d e.P) (hk : e'.k = e.k) (ht : e'.t = e.t) (ho : e'.o = e.o) : renE s d e = e' :=
  en_ext (by rw [renE_P, hP]) (by rw [renE_k, hk]) (by rw [renE_t, ht]) (by rw [renE_o, ho])
theorem renE_same {s d : Bs} {e : En} (h : ren s d e.P = e.P) : renE s d e = e := renE_eq h.symm rfl rfl rfl
theorem mem_moved {t : List En} {s d : Bs} {e : En} : e ∈ movedL t s d ↔ ∃ x ∈ t, stays s d x = true ∧ renE s d x = e := by
  unfold movedL
  rw [List.mem_map]
  constructor
  · rintro ⟨x, hx, h⟩
    obtain ⟨h1, h2⟩ := List.mem_filter.1 hx
    exact ⟨x, h1, h2, h⟩
  · rintro ⟨x, h1, h2, h⟩
    exact ⟨x, List.mem_filter.2 ⟨h1, h2⟩, h⟩
theorem mem_move {t : List En} {s d : Bs} (ht : Right false t) (h : movesErr t s d = 0) {e : En} : e ∈ sortL (movedL t s d) ↔ ∃ x ∈ t, stays s d x = true ∧ renE s d x = e := by
  rw [mem_sortL (moved_ne ht h), mem_moved]
theorem ins_le' (x : En) : ∀ l : List En, (ins x l).length ≤ l.length + 1
  | [] => by simp [ins]
  | y :: r => by
    unfold ins
    have := ins_le' x r
    split
    · simp only [List.length_cons]; omega
    · split <;> simp
theorem insAll_le : ∀ (xs a : List En), (insAll xs a).length ≤ xs.length + a.length
  | [], a => by simp [insAll]
  | x :: xs, a => by
    have h1 := insAll_le xs (ins x a)
    have h2 := ins_le' x a
    show (insAll xs (ins x a)).length ≤ _
    rw [List.length_cons]; omega
theorem move_len (t : List En) (s d : Bs) : (sortL (movedL t s d)).length ≤ t.length := by
  have h := insAll_le (movedL t s d) []
  have h2 : (movedL t s d).length ≤ t.length := by unfold movedL; rw [List.length_map]; exact List.length_filter_le _ _
  unfold sortL
  simp only [List.length_nil] at h
  omega
theorem move_ok {t : List En} {s d : Bs} (h : moveErr t s d = 0) : t.length ≤ 80 ∧ Right false t ∧ movesErr t s d = 0 ∧ (∀ e ∈ movedL t s d, clean e.P = true) ∧ move t s d = (sortL (movedL t s d), 0) := by
  have hm : move t s d = (sortL (movedL t s d), 0) := by unfold move; rw [if_neg (by simp [h])]
  unfold moveErr at h
  by_cases h1 : (wrong t false).1 = 0
  · rw [if_neg (by simp [h1])] at h
    obtain ⟨a1, a2⟩ := (wrong_zero t false).1 h1
    by_cases h2 : movesErr t s d = 0
    · rw [if_neg (by simp [h2])] at h
      refine ⟨a1, a2, h2, fun e he => ?_, hm⟩
      rcases hc : clean e.P with _ | _
      · rw [if_pos (List.any_eq_true.2 ⟨e, he, by rw [hc]; rfl⟩)] at h; cases h
      · rfl
    · rw [if_pos h2] at h; exact absurd h h2
  · rw [if_pos h1] at h; exact absurd h h1
theorem move_none {t : List En} {s d : Bs} (h : (move t s d).2 ≠ 0) : (move t s d).1 = [] := by
  unfold move at h ⊢
  split
  · rfl
  · rename_i h1; rw [if_neg h1] at h; exact absurd rfl h
/-- A parent goes along. -/
theorem dir_along {s d r : Bs} : ∃ r', (r' = [] ∨ ∃ q, r' = 47 :: q) ∧ dirOf (s ++ 47 :: r) = s ++ r' ∧ dirOf (d ++ 47 :: r) = d ++ r' := by
  have key : ∀ x : Bs, dirOf (x ++ 47 :: r) = glue (split x ++ (split r).dropLast) := fun x => by
    unfold dirOf
    rw [split_app, List.dropLast_append_of_ne_nil (split_ne r)]
  by_cases h : (split r).dropLast = []
  · refine ⟨[], .inl rfl, ?_, ?_⟩
    · rw [key, h, List.append_nil, glue_split, List.append_nil]
    · rw [key, h, List.append_nil, glue_split, List.append_nil]
  · refine ⟨47 :: glue (split r).dropLast, .inr ⟨_, rfl⟩, ?_, ?_⟩
    · rw [key, glue_app (split_ne s) h, glue_split]
    · rw [key, glue_app (split_ne d) h, glue_split]
theorem under_trans_dir {q s : Bs} (hs : s ≠ []) (hd : dirOf q ≠ []) (h : mv s (dirOf q)) : under q s = true := by
  have h1 := dir_under hd
  obtain ⟨r, e⟩ := (under_iff hd).1 h1
  obtain ⟨r2, e2, hr⟩ := mv_split hs h
  rw [under_iff hs]
  rcases hr with rfl | ⟨r3, rfl⟩
  · exact ⟨r, by rw [e, e2, List.append_nil]⟩
  · exact ⟨r3 ++ 47 :: r, by rw [e, e2]; simp⟩
theorem dirErr_dir {t : List En} {d : Bs} (h : dirErr t d = 0) : d = [] ∨ ∃ x ∈ t, x.P = d ∧ x.k = 2 := by
  by_cases hd : d = []
  · exact .inl hd
  unfold dirErr at h
  rcases g : get t d with _ | x
  · rw [g] at h; cases h
  · rw [g] at h
    dsimp only at h
    by_cases hk : x.k = 2
    · exact .inr ⟨x, (get_some hd g).1, (get_some hd g).2, hk⟩
    · rw [if_pos hk] at h; cases h
theorem dirErr_of {t : List En} {d : Bs} (ht : Srt t) (h : d = [] ∨ ∃ x ∈ t, x.P = d ∧ x.k = 2) : dirErr t d = 0 := by
  unfold dirErr
  rcases h with rfl | ⟨x, hx, rfl, hk⟩
  · rw [get_root]; rfl
  · by_cases hd : x.P = []
    · rw [hd, get_root]; rfl
    · rw [get_mem ht hx hd]; dsimp only; rw [if_neg (by simp [hk])]
theorem move_self {t : List En} {s : Bs} (ht : Right false t) (h : movesErr t s s = 0) : sortL (movedL t s s) = t := by
  obtain ⟨_, _, hs, _, _⟩ := moves_ok h
  refine srt_ext (srt_sortL _) ht.2.1 fun e => ?_
  rw [mem_move ht h]
  constructor
  · rintro ⟨x, hx, _, rfl⟩
    rw [renE_same (ren_self hs)]; exact hx
  · intro he
    refine ⟨e, he, stays_iff.2 ?_, renE_same (ren_self hs)⟩
    by_cases h1 : e.P = s
    · exact .inl (.inl h1)
    · exact .inr h1
/-- A tree that is moved in is right. -/
theorem move_right {t : List En} {s d : Bs} (h : moveErr t s d = 0) : Right false (sortL (movedL t s d)) := by
  obtain ⟨_, ht, hm, hcl, _⟩ := move_ok h
  obtain ⟨z, hz, hs, hc, h1⟩ := moves_ok hm
  rcases h1 with rfl | ⟨hu, hde, hdest⟩
  · rw [move_self ht hm]; exact ht
  have hfree := dest_free ht (clean_ne hc) hdest
  refine ⟨fun e he => ?_, srt_sortL _, fun e he => ?_⟩
  · obtain ⟨x, hx, hst, rfl⟩ := (mem_move ht hm).1 he
    obtain ⟨a1, _, a3, a4⟩ := (entry_zero x false).1 (ht.1 x hx)
    refine (entry_zero _ _).2 ⟨?_, hcl _ (mem_moved.2 ⟨x, hx, hst, rfl⟩), ?_, ?_⟩
    · unfold badKind at a1 ⊢; rw [renE_k]; exact a1
    · rw [renE_t]; exact a3
    · unfold badFit at a4 ⊢; rw [renE_k, renE_t, renE_o]; exact a4
  · obtain ⟨x, hx, hst, rfl⟩ := (mem_move ht hm).1 he
    rw [renE_P]
    -- an entry that stays where it is
    have stay : ∀ y ∈ t, ¬ mv s y.P → y.P ≠ d → y ∈ sortL (movedL t s d) := fun y hy hn hd =>
      (mem_move ht hm).2 ⟨y, hy, stays_iff.2 (.inr hd), renE_same (ren_not hn)⟩
    by_cases hmx : mv s x.P
    · obtain ⟨r, e, hr⟩ := mv_split hs hmx
      rcases hr with rfl | ⟨r', rfl⟩
      · rw [e, ren_app hs (.inl rfl), List.append_nil]
        rcases dirErr_dir hde with h0 | ⟨y, hy, hyP, hyk⟩
        · exact .inl h0
        · have hd0 : dirOf d ≠ [] := by rw [← hyP]; exact right_ne ht hy
          refine .inr ⟨y, stay y hy (fun hmv => ?_) (fun e' => ?_), hyP, hyk⟩
          · rw [hyP] at hmv
            rw [under_trans_dir hs hd0 hmv] at hu; cases hu
          · have := dir_short (clean_ne hc)
            rw [← hyP, e'] at this; omega
      · obtain ⟨r2, hr2, e1, e2⟩ := dir_along (s := s) (d := d) (r := r')
        rw [e, ren_app hs (.inr ⟨r', rfl⟩), e2]
        have hp : dirOf x.P = s ++ r2 := by rw [e, e1]
        rcases ht.2.2 x hx with h0 | ⟨y, hy, hyP, hyk⟩
        · rw [hp] at h0
          exact absurd (List.append_eq_nil_iff.1 h0).1 hs
        · rw [hp] at hyP
          refine .inr ⟨renE s d y, (mem_move ht hm).2 ⟨y, hy, stays_iff.2 (.inl (by rw [hyP]; exact mv_of hs hr2)), rfl⟩, ?_, by rw [renE_k]; exact hyk⟩
          rw [renE_P, hyP, ren_app hs hr2]
    · have hxd := (stays_iff.1 hst).resolve_left hmx
      rw [ren_not hmx]
      rcases ht.2.2 x hx with h0 | ⟨y, hy, hyP, hyk⟩
      · exact .inl h0
      · have hd0 : dirOf x.P ≠ [] := by rw [← hyP]; exact right_ne ht hy
        refine .inr ⟨y, stay y hy (fun hmv => ?_) (fun e' => ?_), hyP, hyk⟩
        · rw [hyP] at hmv
          exact hmx (.inr (under_trans_dir hs hd0 hmv))
        · have := hfree x hx
          rw [← e', hyP, dir_under hd0] at this; cases this
/-- What stood at a path stands where the path has gone. -/
theorem move_get {t : List En} {s d q : Bs} (h : moveErr t s d = 0) (hq : ¬ (q = d ∧ s ≠ d)) {e : En} (he : get t q = some e) : get (sortL (movedL t s d)) (ren s d q) = some (if mv s q then ⟨⟨(ren s d q).toArray⟩, e.k, e.t, e.o⟩ else e) := by
  obtain ⟨_, ht, hm, _, _⟩ := move_ok h
  obtain ⟨z, hz, hs, hc, h1⟩ := moves_ok hm
  have hR := move_right h
  by_cases hq0 : q = []
  · subst hq0
    have hn : ¬ mv s [] := by
      intro hmv
      obtain ⟨r, e, _⟩ := mv_split hs hmv
      exact hs (List.append_eq_nil_iff.1 e.symm).1
    rw [ren_not hn, if_neg hn, get_root, ← he, get_root]
  · obtain ⟨e1, e2⟩ := get_some hq0 he
    have hst : stays s d e = true := stays_iff.2 (by
      by_cases h2 : q = d
      · have : s = d := by
          by_cases h3 : s = d
          · exact h3
          · exact absurd ⟨h2, h3⟩ hq
        exact .inl (.inl (by rw [e2, h2, this]))
      · exact .inr (by rw [e2]; exact h2))
    have hmem := (mem_move ht hm).2 ⟨e, e1, hst, rfl⟩
    have hP : (renE s d e).P = ren s d q := by rw [renE_P, e2]
    have hg : get (sortL (movedL t s d)) (ren s d q) = some (renE s d e) := (get_iff hR.2.1 (by rw [← hP]; exact right_ne hR hmem)).2 ⟨hmem, hP⟩
    rw [hg]
    congr 1
    split
    · exact renE_eq (by rw [e2]; rfl) rfl rfl rfl
    · rename_i hn
      exact renE_same (by rw [e2]; exact ren_not hn)
/-- Moved, and moved back. -/
theorem move_back {t : List En} {s d : Bs} (h : moveErr t s d = 0) (hn : get t d = none) : move (sortL (movedL t s d)) d s = (t, 0) := by
  obtain ⟨hl, ht, hm, _, _⟩ := move_ok h
  obtain ⟨z, hz, hs, hc, h1⟩ := moves_ok hm
  have hR := move_right h
  have hd := clean_ne hc
  have hsd : s ≠ d := fun e => by rw [e, hn] at hz; cases hz
  obtain ⟨hu, hde, hdest⟩ := h1.resolve_left hsd
  have hfree := dest_free ht hd hdest
  have hnd := (get_none hd).1 hn
  obtain ⟨z1, z2⟩ := get_some hs hz
  have hst : ∀ y ∈ t, stays s d y = true := fun y hy => stays_iff.2 (.inr (hnd y hy))
  have hnmv : ∀ y ∈ t, ¬ mv d y.P := fun y hy hmv => by
    rcases hmv with h2 | h2
    · exact hnd y hy h2
    · rw [hfree y hy] at h2; cases h2
  have hback : ∀ y ∈ t, ren d s (ren s d y.P) = y.P := fun y hy => by
    by_cases hmv : mv s y.P
    · obtain ⟨r, e, hr⟩ := mv_split hs hmv
      rw [e, ren_app hs hr, ren_app hd hr]
    · rw [ren_not hmv, ren_not (hnmv y hy)]
  have hbackE : ∀ y ∈ t, renE d s (renE s d y) = y := fun y hy => renE_eq (by rw [renE_P, hback y hy]) (renE_k s d y).symm (renE_t s d y).symm (renE_o s d y).symm
  have hns : ∀ y ∈ t, ren s d y.P ≠ s := fun y hy e => by
    have h2 := hback y hy
    rw [e] at h2
    by_cases hmv : mv s y.P
    · obtain ⟨r, e2, hr⟩ := mv_split hs hmv
      rw [e2, ren_app hs hr] at e
      rcases hr with rfl | ⟨r', rfl⟩
      · rw [List.append_nil] at e; exact hsd e.symm
      · have := hfree z z1
        rw [z2, (under_iff hd).2 ⟨r', e.symm⟩] at this; cases this
    · rw [ren_not hmv] at e
      exact hmv (.inl e)
  have hgd : get (sortL (movedL t s d)) d ≠ none := by
    have h2 := move_get h (q := s) (fun h => hsd h.1) hz
    rw [ren_mv (.inl rfl), List.drop_length, List.append_nil] at h2
    rw [h2]; simp
  have hgs : get (sortL (movedL t s d)) s = none := (get_none hs).2 fun y hy => by
    obtain ⟨x, hx, _, rfl⟩ := (mem_move ht hm).1 hy
    rw [renE_P]; exact hns x hx
  have hsu : under s d = false := by have := hfree z z1; rw [z2] at this; exact this
  have hsdir : dirErr (sortL (movedL t s d)) (dirOf s) = 0 := dirErr_of hR.2.1 (by
    rcases ht.2.2 z z1 with h0 | ⟨y, hy, hyP, hyk⟩
    · rw [z2] at h0; exact .inl h0
    · rw [z2] at hyP
      have hd0 : dirOf s ≠ [] := by rw [← hyP]; exact right_ne ht hy
      refine .inr ⟨y, (mem_move ht hm).2 ⟨y, hy, hst y hy, renE_same (ren_not fun hmv => ?_)⟩, hyP, hyk⟩
      rw [hyP] at hmv
      have := under_len hs (under_trans_dir hs hd0 hmv)
      omega)
  have hme : movesErr (sortL (movedL t s d)) d s = 0 := by
    unfold movesErr
    rw [if_neg (fun h => h.elim hgd hd), if_neg (by rw [← z2, entry_clean (ht.1 z z1)]; simp), if_neg (fun e => hsd e.symm), if_neg (by rw [hsu]; simp), if_neg (by simp [hsdir])]
    unfold destErr
    rw [hgs]
  have hw : (wrong (sortL (movedL t s d)) false).1 = 0 := (wrong_zero _ _).2 ⟨Nat.le_trans (move_len t s d) hl, hR⟩
  have hmem : ∀ e, e ∈ movedL (sortL (movedL t s d)) d s ↔ e ∈ t := fun e => by
    rw [mem_moved]
    constructor
    · rintro ⟨y, hy, _, rfl⟩
      obtain ⟨x, hx, _, rfl⟩ := (mem_move ht hm).1 hy
      rw [hbackE x hx]; exact hx
    · intro he
      refine ⟨renE s d e, (mem_move ht hm).2 ⟨e, he, hst e he, rfl⟩, stays_iff.2 (.inr (by rw [renE_P]; exact hns e he)), hbackE e he⟩
  have herr : moveErr (sortL (movedL t s d)) d s = 0 := by
    unfold moveErr
    rw [if_neg (by simp [hw]), if_neg (by simp [hme]), if_neg]
    intro h2
    obtain ⟨e, he, h3⟩ := List.any_eq_true.1 h2
    rw [entry_clean (ht.1 e ((hmem e).1 he))] at h3; cases h3
  unfold move
  rw [if_neg (by simp [herr])]
  have : sortL (movedL (sortL (movedL t s d)) d s) = t := srt_ext (srt_sortL _) ht.2.1 fun e => by
    rw [mem_sortL (moved_ne hR hme), hmem]
  rw [this]
end Tr
end Go.Proofs.YtjppfhgkanbemacGreatDoor

namespace Go.Proofs.YtjppfhgkanbemacGreatDoor
namespace Tr
open Pt

def movedO (l : List En) (s d : Bs) : List En := (l.filter fun e => decide (mv s e.P)).map (renE s d)
theorem mem_movedO {l : List En} {s d : Bs} {e : En} : e ∈ movedO l s d ↔ ∃ x ∈ l, mv s x.P ∧ renE s d x = e := by
  unfold movedO
  rw [List.mem_map]
  constructor
  · rintro ⟨x, hx, h⟩
    obtain ⟨h1, h2⟩ := List.mem_filter.1 hx
    exact ⟨x, h1, of_decide_eq_true h2, h⟩
  · rintro ⟨x, h1, h2, h⟩
    exact ⟨x, List.mem_filter.2 ⟨h1, decide_eq_true h2⟩, h⟩
theorem mem_outside {l : List En} {p : Bs} {e : En} : e ∈ outside l p ↔ e ∈ l ∧ ¬ mv p e.P := by
  unfold outside mv
  rw [List.mem_filter, Bool.and_eq_true, bne_iff_ne, Bool.not_eq_true', ← Bool.not_eq_true, not_or]
theorem movedO_yes {l : List En} {s d : Bs} {k : Nat} (hk : k < l.length) (h : mv s l[k].P) : movedO (l.take (k + 1)) s d = movedO (l.take k) s d ++ [renE s d l[k]] := by
  unfold movedO
  rw [List.take_succ_eq_append_getElem hk, List.filter_append, List.map_append]; simp [h]
theorem movedO_no {l : List En} {s d : Bs} {k : Nat} (hk : k < l.length) (h : ¬ mv s l[k].P) : movedO (l.take (k + 1)) s d = movedO (l.take k) s d := by
  unfold movedO
  rw [List.take_succ_eq_append_getElem hk, List.filter_append, List.map_append]; simp [h]
theorem insAll_snoc (xs : List En) (x : En) (a : List En) : insAll (xs ++ [x]) a = ins x (insAll xs a) := by
  unfold insAll; rw [List.foldl_append]; rfl
theorem movedO_le (l : List En) (s d : Bs) : (movedO l s d).length ≤ l.length := by
  unfold movedO; rw [List.length_map]; exact List.length_filter_le _ _
theorem mem_ins_or {x : En} : ∀ {l : List En} {e : En}, e ∈ ins x l → e = x ∨ e ∈ l
  | [], e, h => by simpa [ins] using h
  | y :: r, e, h => by
    unfold ins at h
    split at h
    · rcases List.mem_cons.1 h with rfl | h
      · exact .inr (by simp)
      · rcases mem_ins_or h with h | h
        · exact .inl h
        · exact .inr (by simp [h])
    · split at h
      · rcases List.mem_cons.1 h with rfl | h
        · exact .inl rfl
        · exact .inr (by simp [h])
      · rcases List.mem_cons.1 h with rfl | h
        · exact .inl rfl
        · exact .inr h
theorem mem_insAll_or : ∀ {xs a : List En} {e : En}, e ∈ insAll xs a → e ∈ xs ∨ e ∈ a
  | [], _, _, h => .inr h
  | x :: xs, a, e, h => by
    rcases mem_insAll_or (xs := xs) (a := ins x a) h with h | h
    · exact .inl (by simp [h])
    · rcases mem_ins_or h with rfl | h
      · exact .inl (by simp)
      · exact .inr h
theorem move_same {l : List En} {s : Bs} (hw : (wrong l false).1 = 0) (h : movesErr l s s = 0) : move l s s = (l, 0) := by
  obtain ⟨_, ht⟩ := (wrong_zero l false).1 hw
  obtain ⟨_, _, hs, _, _⟩ := moves_ok h
  have he : moveErr l s s = 0 := by
    unfold moveErr
    rw [if_neg (by simp [hw]), if_neg (by simp [h]), if_neg]
    intro h2
    obtain ⟨e, he, h3⟩ := List.any_eq_true.1 h2
    obtain ⟨x, hx, _, rfl⟩ := mem_moved.1 he
    rw [renE_same (ren_self hs), entry_clean (ht.1 x hx)] at h3; cases h3
  unfold move
  rw [if_neg (by simp [he]), move_self ht h]
theorem refMove_bad {l : List En} {s d : Bs} (hw : (wrong l false).1 = 0) (h : movesErr l s d = 0) {x : En} (hx : x ∈ l) (hm : mv s x.P) (hc : clean (renE s d x).P = false) : move l s d = ([], 4) := by
  have he : moveErr l s d = 4 := by
    unfold moveErr
    rw [if_neg (by simp [hw]), if_neg (by simp [h]), if_pos]
    exact List.any_eq_true.2 ⟨_, mem_moved.2 ⟨x, hx, stays_iff.2 (.inl hm), rfl⟩, by rw [hc]; rfl⟩
  unfold move
  rw [he]; rfl
theorem refMove_good {l : List En} {s d : Bs} (hw : (wrong l false).1 = 0) (h : movesErr l s d = 0) (hsd : s ≠ d) (hc : ∀ e ∈ movedO l s d, clean e.P = true) : move l s d = (insAll (movedO l s d) (outside (outside l s) d), 0) := by
  obtain ⟨_, ht⟩ := (wrong_zero l false).1 hw
  obtain ⟨z, hz, hs, hcd, h1⟩ := moves_ok h
  obtain ⟨hu, hde, hdest⟩ := h1.resolve_left hsd
  have hfree := dest_free ht (clean_ne hcd) hdest
  have hrest : ∀ e, e ∈ outside (outside l s) d ↔ e ∈ l ∧ ¬ mv s e.P ∧ e.P ≠ d := fun e => by
    rw [mem_outside, mem_outside]
    constructor
    · rintro ⟨⟨h1, h2⟩, h3⟩; exact ⟨h1, h2, fun e => h3 (.inl e)⟩
    · rintro ⟨h1, h2, h3⟩
      refine ⟨⟨h1, h2⟩, fun h4 => ?_⟩
      rcases h4 with h4 | h4
      · exact h3 h4
      · rw [hfree e h1] at h4; cases h4
  have hmem : ∀ e, e ∈ movedL l s d ↔ e ∈ movedO l s d ∨ e ∈ outside (outside l s) d := fun e => by
    rw [mem_moved, mem_movedO, hrest]
    constructor
    · rintro ⟨x, hx, hst, rfl⟩
      by_cases hm : mv s x.P
      · exact .inl ⟨x, hx, hm, rfl⟩
      · rw [renE_same (ren_not hm)]
        exact .inr ⟨hx, hm, (stays_iff.1 hst).resolve_left hm⟩
    · rintro (⟨x, hx, hm, rfl⟩ | ⟨hx, hm, hd⟩)
      · exact ⟨x, hx, stays_iff.2 (.inl hm), rfl⟩
      · exact ⟨e, hx, stays_iff.2 (.inr hd), renE_same (ren_not hm)⟩
  have hne : (movedO l s d).Pairwise fun x y => x.P ≠ y.P := by
    unfold movedO
    rw [List.pairwise_map]
    refine List.Pairwise.imp_of_mem (fun {a b} ha hb hne he => ?_) (List.Pairwise.filter _ (srt_ne ht.2.1))
    rw [renE_P, renE_P] at he
    obtain ⟨a1, a2⟩ := List.mem_filter.1 ha
    obtain ⟨b1, b2⟩ := List.mem_filter.1 hb
    exact hne (ren_inj ht h a1 b1 (stays_iff.2 (.inl (of_decide_eq_true a2))) (stays_iff.2 (.inl (of_decide_eq_true b2))) he)
  have hsr : Srt (outside (outside l s) d) := srt_filter (srt_filter ht.2.1 _) _
  have hdis : ∀ x ∈ movedO l s d, ∀ y ∈ outside (outside l s) d, x.P ≠ y.P := fun x hx y hy e => by
    obtain ⟨x', hx', hm, rfl⟩ := mem_movedO.1 hx
    obtain ⟨y1, y2, y3⟩ := (hrest y).1 hy
    rw [renE_P] at e
    have h2 : ren s d x'.P = ren s d y.P := by rw [e, ren_not y2]
    have h3 := ren_inj ht h hx' y1 (stays_iff.2 (.inl hm)) (stays_iff.2 (.inr y3)) h2
    rw [h3] at hm; exact y2 hm
  have he : moveErr l s d = 0 := by
    unfold moveErr
    rw [if_neg (by simp [hw]), if_neg (by simp [h]), if_neg]
    intro h2
    obtain ⟨e, he, h3⟩ := List.any_eq_true.1 h2
    rcases (hmem e).1 he with h4 | h4
    · rw [hc e h4] at h3; cases h3
    · rw [entry_clean (ht.1 e ((hrest e).1 h4).1)] at h3; cases h3
  unfold move
  rw [if_neg (by simp [he])]
  have : sortL (movedL l s d) = insAll (movedO l s d) (outside (outside l s) d) := srt_ext (srt_sortL _) (srt_insAll hsr) fun e => by
    rw [mem_sortL (moved_ne ht h), hmem, mem_insNe hne hsr hdis]
  rw [this]
/-- The names below a place, and its list. -/
theorem list_names {l : List En} (ht : Right false l) {d : Bs} (hd : d ≠ []) {y : En} (hg : get l d = some y) : ((list l d).2 = 0 ∧ (list l d).1 ≠ []) ↔ names l d ≠ [] := by
  by_cases hk : y.k = 2
  · have hl : list l d = (names l d, 0) := by
      unfold list dirErr
      rw [hg]
      simp [hk]
    rw [hl]
    exact ⟨fun h => h.2, fun h => ⟨rfl, h⟩⟩
  · have hl : list l d = ([], 10) := by
      unfold list dirErr
      rw [hg]
      simp [hk]
    rw [hl]
    constructor
    · rintro ⟨h, _⟩; cases h
    · intro hn
      exfalso
      obtain ⟨x, r, hr⟩ := List.exists_cons_of_ne_nil hn
      have hx : x ∈ names l d := by rw [hr]; simp
      unfold names at hx
      obtain ⟨c, hc, _⟩ := List.mem_map.1 hx
      obtain ⟨c1, c2⟩ := List.mem_filter.1 hc
      have c3 : dirOf c.P = d := by simpa using c2
      rcases ht.2.2 c c1 with h | ⟨z, hz, hzP, hzk⟩
      · exact hd (c3.symm.trans h)
      · rw [c3] at hzP
        have := (get_iff ht.2.1 hd).2 ⟨hz, hzP⟩
        rw [hg] at this
        injection this with this
        rw [this] at hk; exact hk hzk
end Tr
end Go.Proofs.YtjppfhgkanbemacGreatDoor

namespace Go.Proofs.YtjppfhgkanbemacGreatDoor
namespace Tr
open Pt

theorem get_ext {l m : List En} (hl : Srt l) (hm : Srt m) (nl : ∀ e ∈ l, e.P ≠ []) (nm : ∀ e ∈ m, e.P ≠ []) (h : ∀ p, p ≠ [] → get l p = get m p) : l = m :=
  srt_ext hl hm fun e => by
    constructor
    · intro he
      have h1 := h e.P (nl e he)
      rw [get_mem hl he (nl e he)] at h1
      exact (get_some (nl e he) h1.symm).1
    · intro he
      have h1 := h e.P (nm e he)
      rw [get_mem hm he (nm e he)] at h1
      exact (get_some (nm e he) h1).1
theorem hidAll_congr {l m : List En} (h : ∀ q, q ≠ [] → bad l q = bad m q) : ∀ (n : Nat) (q : Bs), q.length ≤ n → hidAll l q = hidAll m q
  | 0, q, hq => by
    have : q = [] := List.length_eq_zero_iff.1 (Nat.le_zero.1 hq)
    subst this; rfl
  | n + 1, q, hq => by
    by_cases h0 : q = []
    · subst h0; rfl
    · have := dir_short h0
      rw [hidAll_cons l h0, hidAll_cons m h0, h q h0, hidAll_congr h n (dirOf q) (by omega)]
theorem mv_dir {s q : Bs} (hs : s ≠ []) (h : mv s (dirOf q)) : mv s q := by
  by_cases hd : dirOf q = []
  · rw [hd] at h
    obtain ⟨r, e, _⟩ := mv_split hs h
    exact absurd (List.append_eq_nil_iff.1 e.symm).1 hs
  · exact .inr (under_trans_dir hs hd h)
/-- Apart from a path, and what lies below it, nothing else is hidden. -/
theorem hidAll_other {l m : List En} {s : Bs} (hs : s ≠ []) (h : ∀ q, q ≠ s → bad l q = bad m q) : ∀ (n : Nat) (q : Bs), q.length ≤ n → ¬ mv s q → hidAll l q = hidAll m q
  | 0, q, hq, _ => by
    have : q = [] := List.length_eq_zero_iff.1 (Nat.le_zero.1 hq)
    subst this; rfl
  | n + 1, q, hq, hm => by
    by_cases h0 : q = []
    · subst h0; rfl
    · have := dir_short h0
      rw [hidAll_cons l h0, hidAll_cons m h0, h q (fun e => hm (.inl e)), hidAll_other hs h n (dirOf q) (by omega) (fun e => hm (mv_dir hs e))]
/-- What lies at, or below, a path that hides is hidden. -/
theorem hidAll_below {l : List En} {s : Bs} (hs : s ≠ []) (hb : bad l s = true) : ∀ (n : Nat) (q : Bs), q.length ≤ n → mv s q → hidAll l q = true
  | 0, q, hq, hm => by
    have : q = [] := List.length_eq_zero_iff.1 (Nat.le_zero.1 hq)
    subst this
    obtain ⟨r, e, _⟩ := mv_split hs hm
    exact absurd (List.append_eq_nil_iff.1 e.symm).1 hs
  | n + 1, q, hq, hm => by
    have h0 : q ≠ [] := by
      rintro rfl
      obtain ⟨r, e, _⟩ := mv_split hs hm
      exact hs (List.append_eq_nil_iff.1 e.symm).1
    have hd := dir_short h0
    rw [hidAll_cons l h0]
    by_cases e : q = s
    · rw [e, hb]; rfl
    · have hu := hm.resolve_left e
      obtain ⟨h1, h2⟩ := under_step hs hu
      have h3 : mv s (dirOf q) := h2
      rw [hidAll_below hs hb n (dirOf q) (by omega) h3, Bool.or_true]
/-- An entry set in a layer: a directory stays opaque, or becomes so where something white stood. -/
def adj (U : List En) (e : En) : En := match get U e.P with
  | some y => if e.k = 2 then ⟨e.p, e.k, e.t, y.o || y.k == 4⟩ else e
  | none => e
def set1 (U : List En) (e : En) : List En := ins (adj U e) U
theorem adj_P (U : List En) (e : En) : (adj U e).P = e.P := by
  unfold adj
  split
  · split <;> rfl
  · rfl
theorem adj_k (U : List En) (e : En) : (adj U e).k = e.k := by
  unfold adj
  split
  · split <;> rfl
  · rfl
theorem adj_t (U : List En) (e : En) : (adj U e).t = e.t := by
  unfold adj
  split
  · split <;> rfl
  · rfl
theorem adj_clear {U : List En} {e : En} (ho : e.o = false) : (adj U e).clear = e := by
  unfold adj
  split
  · split
    · exact en_ext rfl rfl rfl ho.symm
    · exact en_ext rfl rfl rfl ho.symm
  · exact en_ext rfl rfl rfl ho.symm
theorem adj_entry {U : List En} {e : En} (he : entry e false = 0) : entry (adj U e) true = 0 := by
  have h1 := entry_layer he
  unfold adj
  split
  · split
    · rename_i hk
      obtain ⟨a1, a2, a3, a4⟩ := (entry_zero e true).1 h1
      refine (entry_zero _ _).2 ⟨a1, a2, a3, ?_⟩
      unfold badFit at a4 ⊢
      rw [Bool.or_eq_false_iff, Bool.or_eq_false_iff] at a4
      dsimp only
      rw [a4.1.1, a4.1.2, hk]
      simp
    · exact h1
  · exact h1
/-- A layer in which an entry is set is right. -/
theorem set1_right {U B : List En} {e : En} (hU : Right true U) (hB : Right false B) (he : entry e false = 0) (hdir : dirOf e.P = [] ∨ ∃ d ∈ U, d.P = dirOf e.P ∧ d.k = 2) (hkind : ∀ y, get (overL U B) e.P = some y → (y.k = 2 ↔ e.k = 2)) : Right true (set1 U e) := by
  have hp := clean_ne (entry_clean he)
  have hmem := mem_ins (x := adj U e) hU.2.1
  rw [adj_P] at hmem
  have key : ∀ d ∈ U, d.k = 2 → ∃ d' ∈ set1 U e, d'.P = d.P ∧ d'.k = 2 := fun d hd hk => by
    by_cases hde : d.P = e.P
    · have h2 := seen_own hU hB hp hd hde
      rw [if_neg (by rw [hk]; decide)] at h2
      exact ⟨adj U e, (hmem _).2 (.inl rfl), by rw [adj_P, hde], by rw [adj_k]; exact (hkind _ h2).1 hk⟩
    · exact ⟨d, (hmem d).2 (.inr ⟨hd, hde⟩), rfl, hk⟩
  refine ⟨fun x hx => ?_, srt_ins hU.2.1, fun x hx => ?_⟩
  · rcases (hmem x).1 hx with rfl | ⟨hx, _⟩
    · exact adj_entry he
    · exact hU.1 x hx
  · rcases (hmem x).1 hx with rfl | ⟨hx, _⟩
    · rw [adj_P]
      rcases hdir with h | ⟨d, hd, h1, h2⟩
      · exact .inl h
      · obtain ⟨d', h3, h4, h5⟩ := key d hd h2
        exact .inr ⟨d', h3, h4.trans h1, h5⟩
    · rcases hU.2.2 x hx with h | ⟨d, hd, h1, h2⟩
      · exact .inl h
      · obtain ⟨d', h3, h4, h5⟩ := key d hd h2
        exact .inr ⟨d', h3, h4.trans h1, h5⟩
end Tr
end Go.Proofs.YtjppfhgkanbemacGreatDoor

namespace Go.Proofs.YtjppfhgkanbemacGreatDoor
namespace Tr
open Pt

theorem bad_of {l : List En} {q : Bs} {y : En} (h : get l q = some y) : bad l q = (y.k != 2 || y.o) := by unfold bad; rw [h]
theorem bad_none {l : List En} {q : Bs} (h : get l q = none) : bad l q = false := by unfold bad; rw [h]
theorem own_of {l : List En} {q : Bs} (h : get l q = none) : own l q = false := by unfold own; rw [h]
theorem set1_seen {U B : List En} {e : En} (hU : Right true U) (hB : Right false B) (he : entry e false = 0) (hdir : dirOf e.P = [] ∨ ∃ d ∈ U, d.P = dirOf e.P ∧ d.k = 2) (hkind : ∀ y, get (overL U B) e.P = some y → (y.k = 2 ↔ e.k = 2)) :
    overL (set1 U e) B = ins e (overL U B) := by
  have hp := clean_ne (entry_clean he)
  have hR := set1_right hU hB he hdir hkind
  have hS := over_right hU hB
  have hS' := over_right hR hB
  have ho := entry_opaque he
  have hs1 : Srt (set1 U e) := hR.2.1
  have gsame : get (set1 U e) e.P = some (adj U e) := by
    have h := get_ins_same (e := adj U e) hU.2.1 (by rw [adj_P]; exact hp)
    rw [adj_P] at h; exact h
  have gother : ∀ q, q ≠ e.P → get (set1 U e) q = get U q := fun q hq => get_ins_other (e := adj U e) hU.2.1 (by rw [adj_P]; exact hq)
  have bother : ∀ q, q ≠ e.P → bad (set1 U e) q = bad U q := fun q hq => by unfold bad; rw [gother q hq]
  have hi := mem_ins (x := e) hS.2.1
  refine get_ext hS'.2.1 (srt_ins hS.2.1) (fun x hx => right_ne hS' hx) (fun x hx => by
    rcases (hi x).1 hx with rfl | ⟨hx, _⟩
    · exact hp
    · exact right_ne hS hx) fun p hp0 => ?_
  by_cases hpe : p = e.P
  · subst hpe
    rw [get_ins_same hS.2.1 hp]
    have hm : adj U e ∈ set1 U e := (get_some hp gsame).1
    have h2 := seen_own hR hB hp hm (adj_P U e)
    have hk4 : e.k ≠ 4 := by have := (entry_kind he).2.2 rfl; omega
    rw [h2, if_neg (by rw [adj_k]; exact hk4), adj_clear ho]
  · rw [get_ins_other hS.2.1 hpe]
    rcases g : get U p with _ | y
    · have g' : get (set1 U e) p = none := by rw [gother p hpe, g]
      have n1 := (get_none hp0).1 g
      have n2 := (get_none hp0).1 g'
      rw [seen_low hU hB hp0 n1, seen_low hR hB hp0 n2]
      have e1 : own (set1 U e) p = own U p := by rw [own_of g, own_of g']
      by_cases hbb : bad (set1 U e) e.P = bad U e.P
      · have hall : ∀ q, q ≠ [] → bad (set1 U e) q = bad U q := fun q _ => by
          by_cases h : q = e.P
          · rw [h]; exact hbb
          · exact bother q h
        unfold hides
        rw [e1, hidAll_congr hall _ _ (Nat.le_refl _)]
      · -- nothing stood there, and what is set is no directory
        have hn : get U e.P = none := by
          rcases gu : get U e.P with _ | y
          · rfl
          · exfalso
            apply hbb
            rw [bad_of gsame, bad_of gu, adj_k]
            obtain ⟨y1, y2⟩ := get_some hp gu
            by_cases hk : e.k = 2
            · have ha : adj U e = ⟨e.p, e.k, e.t, y.o || y.k == 4⟩ := by unfold adj; rw [gu]; exact if_pos hk
              rw [ha, hk]
              by_cases hy4 : y.k = 4
              · rw [hy4]; simp
              · have h3 := seen_own hU hB hp y1 y2
                rw [if_neg hy4] at h3
                have h4 : y.k = 2 := (hkind _ h3).2 hk
                rw [h4]; simp
            · have h5 : y.k ≠ 2 := fun h => by
                have h3 := seen_own hU hB hp y1 y2
                rw [if_neg (by rw [h]; decide)] at h3
                exact hk ((hkind _ h3).1 h)
              rw [bne_iff_ne.2 hk, bne_iff_ne.2 h5, Bool.true_or, Bool.true_or]
        have ha : adj U e = e := by unfold adj; rw [hn]
        have hk : e.k ≠ 2 := fun h => hbb (by rw [bad_of gsame, bad_none hn, ha, h, ho]; rfl)
        have hbad : bad (set1 U e) e.P = true := by rw [bad_of gsame, ha]; simp [hk]
        by_cases hm : mv e.P p
        · have hu := hm.resolve_left hpe
          have h1 : hides (set1 U e) p = true := by
            unfold hides
            rw [hidAll_below hp hbad _ (dirOf p) (Nat.le_refl _) (under_step hp hu).2, Bool.or_true]
          rw [h1, if_pos rfl]
          have h2 : get (overL U B) p = none := by
            rcases h3 : get (overL U B) p with _ | z
            · rfl
            · exfalso
              obtain ⟨z1, z2⟩ := get_some hp0 h3
              obtain ⟨d, d1, d2, d3⟩ := under_dir hS hp z1 (by rw [z2]; exact hu)
              have h4 := get_mem hS.2.1 d1 (by rw [d2]; exact hp)
              rw [d2] at h4
              exact hk ((hkind _ h4).1 d3)
          rw [← seen_low hU hB hp0 n1, h2]
        · have hd : ¬ mv e.P (dirOf p) := fun h => hm (mv_dir hp h)
          unfold hides
          rw [e1, hidAll_other hp bother _ (dirOf p) (Nat.le_refl _) hd]
    · obtain ⟨y1, y2⟩ := get_some hp0 g
      have g' : get (set1 U e) p = some y := by rw [gother p hpe, g]
      obtain ⟨y3, _⟩ := get_some hp0 g'
      rw [seen_own hU hB hp0 y1 y2, seen_own hR hB hp0 y3 y2]
end Tr
end Go.Proofs.YtjppfhgkanbemacGreatDoor

namespace Go.Proofs.YtjppfhgkanbemacGreatDoor
namespace Tr
open Pt

def dirIn (U : List En) (d : Bs) : Bool := match get U d with
  | some y => y.k == 2
  | none => false
def dirEn (d : Bs) : En := ⟨⟨d.toArray⟩, 2, ⟨#[]⟩, false⟩
theorem dirEn_P (d : Bs) : (dirEn d).P = d := rfl
def setE : Nat → List En → En → List En
  | 0, U, e => set1 U e
  | n + 1, U, e => set1 (if dirOf e.P ≠ [] ∧ dirIn U (dirOf e.P) = false then setE n U (dirEn (dirOf e.P)) else U) e
theorem ins_mem {e : En} {l : List En} (h : Srt l) (he : e ∈ l) : ins e l = l := srt_ext (srt_ins h) h fun x => by
  rw [mem_ins h]
  constructor
  · rintro (rfl | ⟨h1, _⟩)
    · exact he
    · exact h1
  · intro hx
    by_cases hP : x.P = e.P
    · exact .inl (srt_same h hx he hP)
    · exact .inr ⟨hx, hP⟩
theorem dir_plain {d : En} (h : entry d false = 0) (hk : d.k = 2) : d = dirEn d.P := by
  obtain ⟨_, _, _, h4⟩ := (entry_zero d false).1 h
  refine en_ext rfl hk ?_ (entry_opaque h)
  unfold badFit at h4
  rw [hk] at h4
  have ht : d.t.size = 0 := by
    rcases hz : (d.t.size != 0) with _ | _
    · simpa using hz
    · rw [hz] at h4; simp at h4
  refine bytes_ext ?_
  have : d.t.data.toList.length = 0 := by simpa using ht
  rw [List.length_eq_zero_iff.1 this]; rfl
theorem dirIn_iff {U : List En} {d : Bs} (hd : d ≠ []) (h : dirIn U d = true) : ∃ y ∈ U, y.P = d ∧ y.k = 2 := by
  unfold dirIn at h
  rcases g : get U d with _ | y
  · rw [g] at h; cases h
  · rw [g] at h
    obtain ⟨g1, g2⟩ := get_some hd g
    exact ⟨y, g1, g2, by simpa using h⟩
theorem setE_seen {B : List En} (hB : Right false B) : ∀ (n : Nat) {U : List En} {e : En}, e.P.length ≤ n → Right true U → entry e false = 0 → (dirOf e.P = [] ∨ ∃ d ∈ overL U B, d.P = dirOf e.P ∧ d.k = 2) → (∀ y, get (overL U B) e.P = some y → (y.k = 2 ↔ e.k = 2)) →
    Right true (setE n U e) ∧ overL (setE n U e) B = ins e (overL U B) ∧ ∃ y ∈ setE n U e, y.P = e.P ∧ y.k = e.k
  | 0, U, e, hn, _, he, _, _ => absurd (List.length_eq_zero_iff.1 (Nat.le_zero.1 hn)) (clean_ne (entry_clean he))
  | n + 1, U, e, hn, hU, he, hdir, hkind => by
    have hS := over_right hU hB
    have hp := clean_ne (entry_clean he)
    have hadj : ∀ X, Srt X → ∃ y ∈ set1 X e, y.P = e.P ∧ y.k = e.k := fun X hX => ⟨adj X e, (mem_ins hX _).2 (.inl rfl), adj_P X e, adj_k X e⟩
    unfold setE
    by_cases hc : dirOf e.P ≠ [] ∧ dirIn U (dirOf e.P) = false
    · rw [if_pos hc]
      obtain ⟨d, d1, d2, d3⟩ := hdir.resolve_left hc.1
      have hde := dir_plain (hS.1 d d1) d3
      rw [d2] at hde
      have hsh := dir_short hp
      have hk2 : ∀ y, get (overL U B) (dirEn (dirOf e.P)).P = some y → (y.k = 2 ↔ (dirEn (dirOf e.P)).k = 2) := fun y hy => by
        rw [← hde] at hy ⊢
        have := get_mem hS.2.1 d1 (right_ne hS d1)
        rw [this] at hy
        injection hy with hy
        rw [hy]
      obtain ⟨r1, r2, r3⟩ := setE_seen hB n (U := U) (e := dirEn (dirOf e.P)) (by rw [dirEn_P]; omega) hU (by rw [← hde]; exact hS.1 d d1) (by
        rw [← hde]; exact hS.2.2 d d1) hk2
      rw [← hde, ins_mem hS.2.1 d1] at r2
      rw [← hde] at r1 r3
      rw [← hde]
      have hin : ∃ y ∈ setE n U d, y.P = dirOf e.P ∧ y.k = 2 := by
        obtain ⟨y, y1, y2, y3⟩ := r3
        exact ⟨y, y1, y2.trans d2, y3.trans d3⟩
      have hk3 : ∀ y, get (overL (setE n U d) B) e.P = some y → (y.k = 2 ↔ e.k = 2) := fun y hy => by rw [r2] at hy; exact hkind y hy
      exact ⟨set1_right r1 hB he (.inr hin) hk3, by rw [set1_seen r1 hB he (.inr hin) hk3, r2], hadj _ r1.2.1⟩
    · rw [if_neg hc]
      have hin : dirOf e.P = [] ∨ ∃ y ∈ U, y.P = dirOf e.P ∧ y.k = 2 := by
        by_cases h0 : dirOf e.P = []
        · exact .inl h0
        · rcases h1 : dirIn U (dirOf e.P) with _ | _
          · exact absurd ⟨h0, h1⟩ hc
          · exact .inr (dirIn_iff h0 h1)
      exact ⟨set1_right hU hB he hin hkind, set1_seen hU hB he hin hkind, hadj _ hU.2.1⟩
end Tr
end Go.Proofs.YtjppfhgkanbemacGreatDoor

namespace Go.Proofs.YtjppfhgkanbemacGreatDoor
namespace Tr
open Pt

theorem hidAll_far {l m : List En} {s : Bs} (hs : s ≠ []) (h : ∀ q, ¬ mv s q → bad l q = bad m q) : ∀ (n : Nat) (q : Bs), q.length ≤ n → ¬ mv s q → hidAll l q = hidAll m q
  | 0, q, hq, _ => by
    have : q = [] := List.length_eq_zero_iff.1 (Nat.le_zero.1 hq)
    subst this; rfl
  | n + 1, q, hq, hm => by
    by_cases h0 : q = []
    · subst h0; rfl
    · have := dir_short h0
      rw [hidAll_cons l h0, hidAll_cons m h0, h q hm, hidAll_far hs h n (dirOf q) (by omega) (fun e => hm (mv_dir hs e))]
theorem hidAll_up {l : List En} {s : Bs} (hs : s ≠ []) (hb : hidAll l s = true) : ∀ (n : Nat) (q : Bs), q.length ≤ n → mv s q → hidAll l q = true
  | 0, q, hq, hm => by
    have : q = [] := List.length_eq_zero_iff.1 (Nat.le_zero.1 hq)
    subst this
    obtain ⟨r, e, _⟩ := mv_split hs hm
    exact absurd (List.append_eq_nil_iff.1 e.symm).1 hs
  | n + 1, q, hq, hm => by
    by_cases e : q = s
    · rw [e]; exact hb
    · have h0 : q ≠ [] := by
        rintro rfl
        obtain ⟨r, e, _⟩ := mv_split hs hm
        exact hs (List.append_eq_nil_iff.1 e.symm).1
      have hd := dir_short h0
      rw [hidAll_cons l h0, hidAll_up hs hb n (dirOf q) (by omega) (under_step hs (hm.resolve_left e)).2, Bool.or_true]
theorem get_outside_not {l : List En} (h : Srt l) {p q : Bs} (hq : q ≠ []) (hm : ¬ mv p q) : get (outside l p) q = get l q := by
  rcases g : get l q with _ | x
  · rw [get_none hq]
    exact fun x hx => (get_none hq).1 g x (mem_outside.1 hx).1
  · obtain ⟨g1, g2⟩ := get_some hq g
    exact (get_iff (srt_filter h _) hq).2 ⟨mem_outside.2 ⟨g1, by rw [g2]; exact hm⟩, g2⟩
theorem get_outside_mv {l : List En} {p q : Bs} (hq : q ≠ []) (hm : mv p q) : get (outside l p) q = none :=
  (get_none hq).2 fun x hx e => (mem_outside.1 hx).2 (by rw [e]; exact hm)
theorem right_outside {b : Bool} {l : List En} (h : Right b l) {p : Bs} (hp : p ≠ []) : Right b (outside l p) := by
  refine ⟨fun x hx => h.1 x (mem_outside.1 hx).1, srt_filter h.2.1 _, fun x hx => ?_⟩
  obtain ⟨h1, h2⟩ := mem_outside.1 hx
  rcases h.2.2 x h1 with h3 | ⟨d, hd, h5, h6⟩
  · exact .inl h3
  · exact .inr ⟨d, mem_outside.2 ⟨hd, fun hm => h2 (mv_dir hp (by rw [← h5]; exact hm))⟩, h5, h6⟩
theorem bad_outside {l : List En} (h : Srt l) {p q : Bs} (hq : ¬ mv p q) : bad (outside l p) q = bad l q := by
  by_cases h0 : q = []
  · subst h0; unfold bad; rw [get_root, get_root]
  · unfold bad; rw [get_outside_not h h0 hq]
/-- What isn't at a path, nor below it, is seen as before. -/
theorem seen_far {U V B : List En} {p q : Bs} (hU : Right true U) (hV : Right true V) (hB : Right false B) (hp : p ≠ []) (hq : q ≠ []) (hm : ¬ mv p q) (hg : ∀ r, r ≠ [] → ¬ mv p r → get V r = get U r) : get (overL V B) q = get (overL U B) q := by
  have hb : ∀ r, ¬ mv p r → bad V r = bad U r := fun r hr => by
    by_cases h0 : r = []
    · subst h0; unfold bad; rw [get_root, get_root]
    · unfold bad; rw [hg r h0 hr]
  have hd : ¬ mv p (dirOf q) := fun h => hm (mv_dir hp h)
  rcases g : get U q with _ | y
  · have g' : get V q = none := by rw [hg q hq hm, g]
    rw [seen_low hU hB hq ((get_none hq).1 g), seen_low hV hB hq ((get_none hq).1 g')]
    unfold hides
    rw [own_of g, own_of g', hidAll_far hp hb _ (dirOf q) (Nat.le_refl _) hd]
  · have g' : get V q = some y := by rw [hg q hq hm, g]
    obtain ⟨y1, y2⟩ := get_some hq g
    rw [seen_own hU hB hq y1 y2, seen_own hV hB hq (get_some hq g').1 y2]
theorem mv_len {s q : Bs} (hs : s ≠ []) (h : mv s q) : s.length ≤ q.length := by
  obtain ⟨r, e, _⟩ := mv_split hs h
  rw [e, List.length_append]; omega
/-- What set lays in a layer stands at its path, or above. -/
theorem setE_mem : ∀ (n : Nat) {U : List En} {e : En}, Srt U → (∀ x ∈ U, x.P ≠ []) → e.P ≠ [] → Srt (setE n U e) ∧ ∀ x ∈ setE n U e, x ∈ U ∨ (x.P ≠ [] ∧ mv x.P e.P)
  | 0, U, e, hU, _, he => ⟨srt_ins hU, fun x hx => by
    rcases (mem_ins hU x).1 hx with rfl | ⟨h, _⟩
    · rw [adj_P]; exact .inr ⟨he, .inl rfl⟩
    · exact .inl h⟩
  | n + 1, U, e, hU, hn, he => by
    unfold setE
    by_cases hc : dirOf e.P ≠ [] ∧ dirIn U (dirOf e.P) = false
    · rw [if_pos hc]
      obtain ⟨h1, h2⟩ := setE_mem n (U := U) (e := dirEn (dirOf e.P)) hU hn (by rw [dirEn_P]; exact hc.1)
      refine ⟨srt_ins h1, fun x hx => ?_⟩
      rcases (mem_ins h1 x).1 hx with rfl | ⟨h, _⟩
      · rw [adj_P]; exact .inr ⟨he, .inl rfl⟩
      · rcases h2 x h with h | ⟨h3, h4⟩
        · exact .inl h
        · rw [dirEn_P] at h4
          exact .inr ⟨h3, mv_dir h3 h4⟩
    · rw [if_neg hc]
      refine ⟨srt_ins hU, fun x hx => ?_⟩
      rcases (mem_ins hU x).1 hx with rfl | ⟨h, _⟩
      · rw [adj_P]; exact .inr ⟨he, .inl rfl⟩
      · exact .inl h
def whiteEn (p : Bs) : En := ⟨⟨p.toArray⟩, 4, ⟨#[]⟩, false⟩
theorem whiteEn_P (p : Bs) : (whiteEn p).P = p := rfl
theorem white_entry {p : Bs} (h : clean p = true) : entry (whiteEn p) true = 0 := (entry_zero _ _).2 ⟨rfl, h, show (0 : Nat) ≤ 100 by omega, rfl⟩
theorem set1_white (U : List En) (p : Bs) : set1 U (whiteEn p) = ins (whiteEn p) U := by
  unfold set1 adj
  split
  · rw [if_neg (show ¬ (whiteEn p).k = 2 from show ¬ (4 : Int) = 2 by decide)]
  · rfl
/-- A white entry where the layer has nothing hides what lies at it and below. -/
theorem white_seen {U B : List En} {p : Bs} (hU : Right true U) (hB : Right false B) (hp : clean p = true) (hno : ∀ x ∈ U, ¬ mv p x.P) (hdir : dirOf p = [] ∨ ∃ d ∈ U, d.P = dirOf p ∧ d.k = 2) :
    Right true (ins (whiteEn p) U) ∧ overL (ins (whiteEn p) U) B = outside (overL U B) p := by
  have hp0 := clean_ne hp
  have hmem := mem_ins (x := whiteEn p) hU.2.1
  have hne : ∀ x ∈ U, x.P ≠ (whiteEn p).P := fun x hx e => hno x hx (.inl e)
  have hR : Right true (ins (whiteEn p) U) := by
    refine ⟨fun x hx => ?_, srt_ins hU.2.1, fun x hx => ?_⟩
    · rcases (hmem x).1 hx with rfl | ⟨hx, _⟩
      · exact white_entry hp
      · exact hU.1 x hx
    · rcases (hmem x).1 hx with rfl | ⟨hx, _⟩
      · rw [whiteEn_P]
        rcases hdir with h | ⟨d, hd, h1, h2⟩
        · exact .inl h
        · exact .inr ⟨d, (hmem d).2 (.inr ⟨hd, hne d hd⟩), h1, h2⟩
      · rcases hU.2.2 x hx with h | ⟨d, hd, h1, h2⟩
        · exact .inl h
        · exact .inr ⟨d, (hmem d).2 (.inr ⟨hd, hne d hd⟩), h1, h2⟩
  refine ⟨hR, ?_⟩
  have hS := over_right hU hB
  have hS' := over_right hR hB
  have gsame : get (ins (whiteEn p) U) p = some (whiteEn p) := get_ins_same (e := whiteEn p) hU.2.1 hp0
  have gother : ∀ q, q ≠ p → get (ins (whiteEn p) U) q = get U q := fun q hq => get_ins_other (e := whiteEn p) hU.2.1 hq
  refine get_ext hS'.2.1 (srt_filter hS.2.1 _) (fun x hx => right_ne hS' hx) (fun x hx => right_ne hS (mem_outside.1 hx).1) fun q hq => ?_
  by_cases hm : mv p q
  · rw [get_outside_mv hq hm]
    by_cases hqe : q = p
    · subst hqe
      rw [seen_own hR hB hq (get_some hq gsame).1 rfl]; rfl
    · have g' : get (ins (whiteEn p) U) q = none := by
        rw [gother q hqe]
        exact (get_none hq).2 fun x hx e => hno x hx (by rw [e]; exact hm)
      rw [seen_low hR hB hq ((get_none hq).1 g')]
      have hb : bad (ins (whiteEn p) U) p = true := bad_of gsame
      have : hides (ins (whiteEn p) U) q = true := by
        unfold hides
        rw [hidAll_below hp0 hb _ (dirOf q) (Nat.le_refl _) (under_step hp0 (hm.resolve_left hqe)).2, Bool.or_true]
      rw [this]; rfl
  · rw [get_outside_not hS.2.1 hq hm]
    exact seen_far hU hR hB hp0 hq hm fun r _ hr => gother r (fun e => hr (.inl e))
/-- A layer without a path and what lies below it; where the lower one still shows it, a white entry stands. -/
def dropE (B U : List En) (p : Bs) : List En :=
  if (get B p).isSome = true ∧ hides (outside U p) p = false then setE p.length (outside U p) (whiteEn p) else outside U p
theorem drop_seen {U B : List En} {p : Bs} (hU : Right true U) (hB : Right false B) (hp : p ≠ []) : Right true (dropE B U p) ∧ overL (dropE B U p) B = outside (overL U B) p := by
  have hR := right_outside hU hp
  have hS := over_right hU hB
  have hS' := over_right hR hB
  have hno : ∀ x ∈ outside U p, ¬ mv p x.P := fun x hx => (mem_outside.1 hx).2
  have far : ∀ q, q ≠ [] → ¬ mv p q → get (overL (outside U p) B) q = get (overL U B) q := fun q hq hm => seen_far hU hR hB hp hq hm fun r h0 hr => get_outside_not hU.2.1 h0 hr
  have low : ∀ q, q ≠ [] → mv p q → get (overL (outside U p) B) q = if hides (outside U p) q then none else get B q := fun q hq hm => seen_low hR hB hq ((get_none hq).1 (get_outside_mv hq hm))
  have same : (∀ q, q ≠ [] → mv p q → get (overL (outside U p) B) q = none) → overL (outside U p) B = outside (overL U B) p := fun h =>
    get_ext hS'.2.1 (srt_filter hS.2.1 _) (fun x hx => right_ne hS' hx) (fun x hx => right_ne hS (mem_outside.1 hx).1) fun q hq => by
      by_cases hm : mv p q
      · rw [get_outside_mv hq hm, h q hq hm]
      · rw [get_outside_not hS.2.1 hq hm, far q hq hm]
  unfold dropE
  by_cases hc : (get B p).isSome = true ∧ hides (outside U p) p = false
  · rw [if_pos hc]
    obtain ⟨hg, hh⟩ := hc
    rcases g : get B p with _ | b
    · rw [g] at hg; cases hg
    obtain ⟨b1, b2⟩ := get_some hp g
    have hcl : clean p = true := by rw [← b2]; exact entry_clean (hB.1 b b1)
    -- the path is seen, and so is its directory
    have hs : get (overL (outside U p) B) p = some b := by rw [low p hp (.inl rfl), hh, if_neg (by decide), g]
    have hdir := hS'.2.2 b (get_some hp hs).1
    rw [b2] at hdir
    have out2 : outside (overL (outside U p) B) p = outside (overL U B) p :=
      get_ext (srt_filter hS'.2.1 _) (srt_filter hS.2.1 _) (fun x hx => right_ne hS' (mem_outside.1 hx).1) (fun x hx => right_ne hS (mem_outside.1 hx).1) fun q hq => by
        by_cases hm : mv p q
        · rw [get_outside_mv hq hm, get_outside_mv hq hm]
        · rw [get_outside_not hS.2.1 hq hm, get_outside_not hS'.2.1 hq hm, far q hq hm]
    have hlen := dir_short hp
    cases hn : p.length with
    | zero => exact absurd (List.length_eq_zero_iff.1 hn) hp
    | succ n =>
      unfold setE
      rw [set1_white, whiteEn_P]
      by_cases hc2 : dirOf p ≠ [] ∧ dirIn (outside U p) (dirOf p) = false
      · rw [if_pos hc2]
        obtain ⟨d, d1, d2, d3⟩ := hdir.resolve_left hc2.1
        have hde := dir_plain (hS'.1 d d1) d3
        rw [d2] at hde
        obtain ⟨r1, r2, y, y1, y2, y3⟩ := setE_seen hB n (U := outside U p) (e := d) (by rw [d2]; omega) hR (hS'.1 d d1) (hS'.2.2 d d1) (fun y hy => by
          have := get_mem hS'.2.1 d1 (right_ne hS' d1)
          rw [this] at hy
          injection hy with hy
          rw [hy])
        rw [ins_mem hS'.2.1 d1] at r2
        rw [hde] at r1 r2 y1
        have hno2 : ∀ x ∈ setE n (outside U p) (dirEn (dirOf p)), ¬ mv p x.P := fun x hx hm => by
          rcases (setE_mem n (e := dirEn (dirOf p)) hR.2.1 (fun x hx => right_ne hR hx) hc2.1).2 x hx with h | ⟨h1, h2⟩
          · exact hno x h hm
          · have := mv_len hp hm
            have := mv_len h1 h2
            rw [dirEn_P] at this; omega
        obtain ⟨q1, q2⟩ := white_seen r1 hB hcl hno2 (.inr ⟨y, y1, y2.trans d2, y3.trans d3⟩)
        exact ⟨q1, by rw [q2, r2, out2]⟩
      · rw [if_neg hc2]
        obtain ⟨q1, q2⟩ := white_seen hR hB hcl hno (by
          by_cases h0 : dirOf p = []
          · exact .inl h0
          · rcases h1 : dirIn (outside U p) (dirOf p) with _ | _
            · exact absurd ⟨h0, h1⟩ hc2
            · exact .inr (dirIn_iff h0 h1))
        exact ⟨q1, by rw [q2, out2]⟩
  · rw [if_neg hc]
    refine ⟨hR, same fun q hq hm => ?_⟩
    rw [low q hq hm]
    rcases hh : hides (outside U p) p with _ | _
    · -- nothing lies below at the path
      have hg : get B p = none := by
        rcases g : get B p with _ | b
        · rfl
        · exact absurd ⟨by rw [g]; rfl, hh⟩ hc
      have : get B q = none := by
        rcases g : get B q with _ | b
        · rfl
        · exfalso
          obtain ⟨b1, b2⟩ := get_some hq g
          rcases hm with e | hu
          · rw [e, hg] at g; cases g
          · obtain ⟨d, d1, d2, _⟩ := under_dir hB hp b1 (by rw [b2]; exact hu)
            exact (get_none hp).1 hg d d1 d2
      rw [this, ite_self]
    · have h1 : hidAll (outside U p) (dirOf p) = true := by
        unfold hides at hh
        rw [own_of (get_outside_mv hp (.inl rfl)), Bool.false_or] at hh
        exact hh
      have h2 : hidAll (outside U p) p = true := by rw [hidAll_cons _ hp, h1, Bool.or_true]
      have : hides (outside U p) q = true := by
        unfold hides
        by_cases e : q = p
        · rw [e, h1, Bool.or_true]
        · rw [hidAll_up hp h2 _ (dirOf q) (Nat.le_refl _) (under_step hp (hm.resolve_left e)).2, Bool.or_true]
      rw [this]; rfl
end Tr
end Go.Proofs.YtjppfhgkanbemacGreatDoor

namespace Go.Proofs.YtjppfhgkanbemacGreatDoor
namespace Tr
open Pt

theorem setE_fuel : ∀ (n m : Nat) (U : List En) (e : En), e.P.length ≤ n → e.P.length ≤ m → setE n U e = setE m U e
  | 0, 0, _, _, _, _ => rfl
  | 0, m + 1, U, e, h, _ => by
    have : e.P = [] := List.length_eq_zero_iff.1 (by omega)
    rw [setE, setE, if_neg (by rw [this]; exact fun h => h.1 rfl)]
  | n + 1, 0, U, e, _, h => by
    have : e.P = [] := List.length_eq_zero_iff.1 (by omega)
    rw [setE, setE, if_neg (by rw [this]; exact fun h => h.1 rfl)]
  | n + 1, m + 1, U, e, h1, h2 => by
    rw [setE, setE]
    by_cases hc : dirOf e.P ≠ [] ∧ dirIn U (dirOf e.P) = false
    · have : e.P ≠ [] := fun h => hc.1 (by rw [h]; rfl)
      have := dir_short this
      rw [if_pos hc, if_pos hc, setE_fuel n m U (dirEn (dirOf e.P)) (by rw [dirEn_P]; omega) (by rw [dirEn_P]; omega)]
    · rw [if_neg hc, if_neg hc]
def setP (U : List En) (e : En) : List En := setE e.P.length U e
theorem setP_eq (U : List En) (e : En) : setP U e = set1 (if dirOf e.P ≠ [] ∧ dirIn U (dirOf e.P) = false then setP U (dirEn (dirOf e.P)) else U) e := by
  unfold setP
  rw [setE_fuel e.P.length (e.P.length + 1) U e (Nat.le_refl _) (by omega), setE]
  by_cases hc : dirOf e.P ≠ [] ∧ dirIn U (dirOf e.P) = false
  · have : e.P ≠ [] := fun h => hc.1 (by rw [h]; rfl)
    have := dir_short this
    rw [if_pos hc, if_pos hc, setE_fuel e.P.length (dirEn (dirOf e.P)).P.length _ _ (by rw [dirEn_P]; omega) (Nat.le_refl _)]
  · rw [if_neg hc, if_neg hc]
theorem set1_le (U : List En) (e : En) : (set1 U e).length ≤ U.length + 1 := ins_le' _ _
theorem setE_le : ∀ (n : Nat) (U : List En) (e : En), (setE n U e).length ≤ U.length + n + 1
  | 0, U, e => set1_le U e
  | n + 1, U, e => by
    unfold setE
    have h := set1_le (if dirOf e.P ≠ [] ∧ dirIn U (dirOf e.P) = false then setE n U (dirEn (dirOf e.P)) else U) e
    split
    · rename_i hc
      rw [if_pos hc] at h
      have := setE_le n U (dirEn (dirOf e.P))
      omega
    · rename_i hc
      rw [if_neg hc] at h
      omega
theorem setP_le (U : List En) (e : En) : (setP U e).length ≤ U.length + e.P.length + 1 := setE_le _ _ _
theorem setP_mem {U : List En} {e : En} (hU : Srt U) (hn : ∀ x ∈ U, x.P ≠ []) (he : e.P ≠ []) : Srt (setP U e) ∧ ∀ x ∈ setP U e, x.P ≠ [] :=
  have h := setE_mem e.P.length hU hn he
  ⟨h.1, fun x hx => by
    rcases h.2 x hx with h | h
    · exact hn x h
    · exact h.1⟩
def setAll (U xs : List En) : List En := xs.foldl setP U
theorem setAll_snoc (U xs : List En) (x : En) : setAll U (xs ++ [x]) = setP (setAll U xs) x := by
  unfold setAll; rw [List.foldl_append]; rfl
/-- What may be set in a tree. -/
def Fits (S : List En) (e : En) : Prop := entry e false = 0 ∧ (dirOf e.P = [] ∨ ∃ d ∈ S, d.P = dirOf e.P ∧ d.k = 2) ∧ ∀ y, get S e.P = some y → (y.k = 2 ↔ e.k = 2)
theorem setP_seen {U B : List En} {e : En} (hU : Right true U) (hB : Right false B) (h : Fits (overL U B) e) : Right true (setP U e) ∧ overL (setP U e) B = ins e (overL U B) :=
  have h1 := setE_seen hB e.P.length (Nat.le_refl _) hU h.1 h.2.1 h.2.2
  ⟨h1.1, h1.2.1⟩
theorem setAll_seen {B : List En} (hB : Right false B) : ∀ {xs U : List En}, Right true U → (∀ k (hk : k < xs.length), Fits (insAll (xs.take k) (overL U B)) xs[k]) → Right true (setAll U xs) ∧ overL (setAll U xs) B = insAll xs (overL U B)
  | [], _, hU, _ => ⟨hU, rfl⟩
  | x :: xs, U, hU, h => by
    have h0 : Fits (overL U B) x := h 0 (by simp)
    obtain ⟨r1, r2⟩ := setP_seen hU hB h0
    have := setAll_seen hB (xs := xs) r1 (fun k hk => by
      have := h (k + 1) (by simpa using hk)
      rw [r2]
      simpa [List.take_succ_cons, insAll] using this)
    rw [r2] at this
    exact this
theorem put_fits {t : List En} {e : En} (h : putErr t e = 0) : Fits t e := by
  obtain ⟨_, ht, he, hd, hk, _⟩ := put_ok h
  exact ⟨he, hd, fun y hy => by
    obtain ⟨y1, y2⟩ := get_some (clean_ne (entry_clean he)) hy
    exact hk y y1 y2⟩
theorem outside_none {b : Bool} {t : List En} (ht : Right b t) {p : Bs} (hp : p ≠ []) (h : get t p = none) : outside t p = t := by
  unfold outside
  rw [List.filter_eq_self]
  intro x hx
  have h1 : x.P ≠ p := (get_none hp).1 h x hx
  have h2 : under x.P p = false := by
    rcases hu : under x.P p with _ | _
    · rfl
    · obtain ⟨d, d1, d2, _⟩ := under_dir ht hp hx hu
      exact absurd d2 ((get_none hp).1 h d d1)
  rw [h2]; simp [h1]
theorem outside_comm (t : List En) (p q : Bs) : outside (outside t p) q = outside (outside t q) p := by
  unfold outside
  rw [List.filter_filter, List.filter_filter]
  exact List.filter_congr fun x _ => Bool.and_comm _ _
/-- A moved tree: entries put one by one where they go. -/
theorem moved_fits {S : List En} {s d : Bs} (h : moveErr S s d = 0) (hsd : s ≠ d) (k : Nat) (hk : k < (movedO S s d).length) : Fits (insAll ((movedO S s d).take k) (outside (outside S s) d)) (movedO S s d)[k] := by
  obtain ⟨_, ht, hm, hc, _⟩ := move_ok h
  obtain ⟨x0, _, hs0, hcd, hrest⟩ := moves_ok hm
  obtain ⟨hund, hdir, hdest⟩ := hrest.resolve_left hsd
  have hd0 := clean_ne hcd
  -- the moved ones, apart by pairs
  have hpw : (movedO S s d).Pairwise fun x y => x.P ≠ y.P := by
    unfold movedO
    rw [List.pairwise_map]
    refine List.Pairwise.imp_of_mem ?_ (srt_ne (srt_filter ht.2.1 _))
    intro x y hx hy hne e
    obtain ⟨hx1, hx2⟩ := List.mem_filter.1 hx
    obtain ⟨hy1, hy2⟩ := List.mem_filter.1 hy
    rw [renE_P, renE_P] at e
    exact hne (ren_inj ht hm hx1 hy1 (stays_iff.2 (.inl (of_decide_eq_true hx2))) (stays_iff.2 (.inl (of_decide_eq_true hy2))) e)
  have hmv : ∀ x ∈ movedO S s d, mv d x.P := fun x hx => by
    obtain ⟨y, _, hy, rfl⟩ := mem_movedO.1 hx
    rw [renE_P]
    obtain ⟨r, e, hr⟩ := mv_split hs0 hy
    rw [e, ren_app hs0 hr]
    exact mv_of hd0 hr
  have hout : ∀ y ∈ outside (outside S s) d, ¬ mv d y.P := fun y hy => (mem_outside.1 hy).2
  have hsrt : Srt (outside (outside S s) d) := srt_filter (srt_filter ht.2.1 _) _
  have hmem : ∀ e, e ∈ insAll ((movedO S s d).take k) (outside (outside S s) d) ↔ e ∈ (movedO S s d).take k ∨ e ∈ outside (outside S s) d := mem_insNe (hpw.sublist (List.take_sublist _ _)) hsrt fun x hx y hy e => hout y hy (by rw [← e]; exact hmv x (List.mem_of_mem_take hx))
  have hin := List.getElem_mem hk
  obtain ⟨x, hx, hxm, hxe⟩ := mem_movedO.1 hin
  have hent : entry (movedO S s d)[k] false = 0 := by
    obtain ⟨a1, a2, a3, a4⟩ := (entry_zero x false).1 (ht.1 x hx)
    have hcl := hc _ (mem_moved.2 ⟨x, hx, stays_iff.2 (.inl hxm), hxe⟩)
    refine (entry_zero _ _).2 ⟨?_, hcl, ?_, ?_⟩
    · rw [← hxe]; unfold badKind at a1 ⊢; rw [renE_k]; exact a1
    · rw [← hxe, renE_t]; exact a3
    · rw [← hxe]; unfold badFit at a4 ⊢; rw [renE_k, renE_t, renE_o]; exact a4
  refine ⟨hent, ?_, fun y hy => ?_⟩
  · by_cases hxs : x.P = s
    · have hP : (movedO S s d)[k].P = d := by
        rw [← hxe, renE_P, hxs]; unfold ren; rw [if_pos rfl]
      rw [hP]
      rcases dirErr_dir hdir with h0 | ⟨y, y1, y2, y3⟩
      · exact .inl h0
      · by_cases h0 : dirOf d = []
        · exact .inl h0
        refine .inr ⟨y, (hmem y).2 (.inr (mem_outside.2 ⟨mem_outside.2 ⟨y1, ?_⟩, ?_⟩)), y2, y3⟩
        · rw [y2]
          intro hm2
          rcases mv_dir hs0 hm2 with e | e
          · exact hsd e.symm
          · rw [hund] at e; cases e
        · rw [y2]
          intro hm2
          have := mv_len hd0 hm2
          have := dir_short hd0
          omega
    · right
      have hu := hxm.resolve_left hxs
      obtain ⟨h1, h2⟩ := under_step hs0 hu
      have h3 : mv s (dirOf x.P) := h2
      rcases ht.2.2 x hx with h4 | ⟨z, z1, z2, z3⟩
      · exact absurd h4 h1
      obtain ⟨r, e, hr⟩ := mv_split hs0 hxm
      have hr2 : ∃ q, r = 47 :: q := by
        rcases hr with h5 | h5
        · rw [h5, List.append_nil] at e; exact absurd e hxs
        · exact h5
      obtain ⟨q, hq⟩ := hr2
      obtain ⟨r', hr', da, db⟩ := dir_along (s := s) (d := d) (r := q)
      have hz : renE s d z ∈ movedO S s d := mem_movedO.2 ⟨z, z1, by rw [z2]; exact h3, rfl⟩
      have hzP : (renE s d z).P = dirOf (movedO S s d)[k].P := by
        rw [renE_P, z2, e, hq, da, ren_app hs0 hr', ← hxe, renE_P, e, hq, ren_app hs0 (.inr ⟨q, rfl⟩), db]
      refine ⟨renE s d z, (hmem _).2 (.inl ?_), hzP, by rw [renE_k]; exact z3⟩
      -- it stands ahead
      obtain ⟨j, hj, hje⟩ := List.getElem_of_mem hz
      have hjk : j < k := by
        rcases Nat.lt_or_ge j k with h6 | h6
        · exact h6
        exfalso
        have hsr : (movedO S s d).Pairwise fun a b => ∃ u v, u ∈ S ∧ v ∈ S ∧ mv s u.P ∧ mv s v.P ∧ a = renE s d u ∧ b = renE s d v ∧ cmp u.P v.P < 0 := by
          unfold movedO
          rw [List.pairwise_map]
          refine List.Pairwise.imp_of_mem ?_ (srt_filter ht.2.1 _)
          intro a b ha hb hab
          obtain ⟨a1, a2⟩ := List.mem_filter.1 ha
          obtain ⟨b1, b2⟩ := List.mem_filter.1 hb
          exact ⟨a, b, a1, b1, of_decide_eq_true a2, of_decide_eq_true b2, rfl, rfl, hab⟩
        have inj : ∀ u v, u ∈ S → v ∈ S → mv s u.P → mv s v.P → renE s d u = renE s d v → u.P = v.P := fun u v hu hv hmu hmv e2 => by
          have := congrArg En.P e2
          rw [renE_P, renE_P] at this
          exact ren_inj ht hm hu hv (stays_iff.2 (.inl hmu)) (stays_iff.2 (.inl hmv)) this
        rcases Nat.eq_or_lt_of_le h6 with h7 | h7
        · subst h7
          rw [← hxe] at hje
          have := inj x z hx z1 hxm (by rw [z2]; exact h3) hje
          rw [z2] at this
          have h8 := dir_short (clean_ne (entry_clean (ht.1 x hx)))
          rw [← this] at h8; omega
        · obtain ⟨u, v, hu, hv, mu, mw, e1, e2, hlt⟩ := List.pairwise_iff_getElem.1 hsr k j hk hj h7
          rw [hje] at e2
          rw [← hxe] at e1
          rw [← inj x u hx hu hxm mu e1, ← inj z v z1 hv (by rw [z2]; exact h3) mw e2, z2] at hlt
          exact lt_asymm (dir_lt h1) hlt
      rw [← hje]
      exact List.mem_take_iff_getElem.2 ⟨j, by omega, by rfl⟩
  · exfalso
    have hp := clean_ne (entry_clean hent)
    obtain ⟨y1, y2⟩ := get_some hp hy
    rcases (hmem y).1 y1 with h1 | h1
    · obtain ⟨j, hj, hje⟩ := List.mem_take_iff_getElem.1 h1
      have := List.pairwise_iff_getElem.1 hpw j k (by omega) hk (by omega)
      rw [hje] at this
      exact this y2
    · exact hout y h1 (by rw [y2]; exact hmv _ hin)
end Tr
end Go.Proofs.YtjppfhgkanbemacGreatDoor

namespace Go.Proofs.YtjppfhgkanbemacGreatDoor
/-- A union: the upper layer, and the lower ones. -/
structure Un where
  U : List En
  L : List (List En)
namespace Un
def all (u : Un) : List (List En) := u.U :: u.L
def zero : Un := ⟨[], []⟩
end Un
namespace Tr
open Pt

/-- The first layer with which something is wrong. -/
def wrongLs : List (List En) → Nat → Int × Int
  | [], _ => (0, 0)
  | l :: r, i => if (wrong l true).1 ≠ 0 then ((wrong l true).1, (i : Int)) else wrongLs r (i + 1)
def wrongU (u : Un) : Int × Int :=
  if 4 < u.L.length then (5, 0) else if (wrongLs u.all 0).1 ≠ 0 then wrongLs u.all 0 else ((mergeL u.all).2, 0)
def seenU (u : Un) : List En × Int := if (wrongU u).1 ≠ 0 then ([], (wrongU u).1) else mergeL u.all
def belowU (u : Un) : List En := (mergeL u.L).1
/-- Nothing is wrong. -/
def Fine (u : Un) : Prop := u.L.length ≤ 4 ∧ (mergeL u.all).2 = 0

theorem mergeL_layers : ∀ {ls : List (List En)}, (mergeL ls).2 = 0 → ∀ l ∈ ls, l.length ≤ 80 ∧ Right true l
  | [], _, l, hl => nomatch hl
  | x :: r, h, l, hl => by
    obtain ⟨h1, h2⟩ := mergeL_tail h
    rcases List.mem_cons.1 hl with rfl | hl
    · rw [h2] at h
      have := over_ok h
      exact ⟨this.1, this.2.1⟩
    · exact mergeL_layers h1 l hl
theorem wrongLs_zero : ∀ {ls : List (List En)} (i : Nat), (wrongLs ls i).1 = 0 ↔ ∀ l ∈ ls, (wrong l true).1 = 0
  | [], i => by simp [wrongLs]
  | x :: r, i => by
    unfold wrongLs
    by_cases h : (wrong x true).1 = 0
    · rw [if_neg (by simp [h]), wrongLs_zero (i + 1)]; simp [h]
    · rw [if_pos h]; simp [h]
theorem fine_iff (u : Un) : (wrongU u).1 = 0 ↔ Fine u := by
  unfold wrongU Fine
  by_cases h : 4 < u.L.length
  · rw [if_pos h]; simp; omega
  · rw [if_neg h]
    by_cases h2 : (wrongLs u.all 0).1 = 0
    · rw [if_neg (by simp [h2])]; simp; omega
    · rw [if_pos h2]
      refine ⟨fun h3 => absurd h3 h2, fun h3 => absurd ?_ h2⟩
      refine (wrongLs_zero 0).2 fun l hl => ?_
      exact (wrong_zero l true).2 (mergeL_layers h3.2 l hl)
theorem fine_at {u : Un} (h : Fine u) : wrongU u = (0, 0) := by
  have h1 := (fine_iff u).2 h
  unfold wrongU at h1 ⊢
  rw [if_neg (by have := h.1; omega)] at h1 ⊢
  by_cases h2 : (wrongLs u.all 0).1 = 0
  · rw [if_neg (by simp [h2])] at h1 ⊢
    rw [h.2]
  · rw [if_pos h2] at h1; exact absurd h1 h2
theorem seenU_fine {u : Un} (h : Fine u) : seenU u = mergeL u.all := by
  unfold seenU; rw [if_neg (by simp [(fine_iff u).2 h])]
theorem seenU_zero {u : Un} : (seenU u).2 = 0 ↔ Fine u := by
  constructor
  · intro h
    unfold seenU at h
    by_cases h2 : (wrongU u).1 = 0
    · exact (fine_iff u).1 h2
    · rw [if_pos h2] at h; exact absurd h h2
  · intro h; rw [seenU_fine h]; exact h.2
theorem seenU_none {u : Un} (h : (seenU u).2 ≠ 0) : (seenU u).1 = [] := by
  unfold seenU at h ⊢
  by_cases h2 : (wrongU u).1 = 0
  · rw [if_neg (by simp [h2])] at h ⊢; exact mergeL_none h
  · rw [if_pos h2]
theorem seenU_err (u : Un) : (seenU u).2 = (wrongU u).1 := by
  by_cases h : Fine u
  · rw [seenU_zero.2 h, (fine_iff u).2 h]
  · unfold seenU
    rw [if_pos (fun h2 => h ((fine_iff u).1 h2))]
/-- What a fine union is. -/
theorem fine_parts {u : Un} (h : Fine u) : u.U.length ≤ 80 ∧ Right true u.U ∧ (belowU u).length ≤ 80 ∧ Right false (belowU u) ∧ seenU u = (overL u.U (belowU u), 0) ∧ (overL u.U (belowU u)).length ≤ 80 ∧ (mergeL u.L).2 = 0 ∧ Right false (overL u.U (belowU u)) := by
  have h2 := h.2
  obtain ⟨a, b⟩ := mergeL_tail (x := u.U) (r := u.L) h2
  have hs := seenU_fine h
  change mergeL u.all = _ at b
  rw [b] at hs h2
  obtain ⟨c1, c2, c3, c4, c5, c6⟩ := over_ok h2
  exact ⟨c1, c2, c3, c4, by rw [hs, c6]; rfl, c5, a, over_right c2 c4⟩
/-- Another upper layer that is right, and with which not too much is seen. -/
theorem fine_new {u : Un} (h : Fine u) {V : List En} (h1 : V.length ≤ 80) (h2 : Right true V) (h3 : (overL V (belowU u)).length ≤ 80) : Fine ⟨V, u.L⟩ ∧ seenU ⟨V, u.L⟩ = (overL V (belowU u), 0) := by
  obtain ⟨_, _, b1, b2, _, _, m, _⟩ := fine_parts h
  have e : mergeL (⟨V, u.L⟩ : Un).all = (overL V (belowU u), 0) := by
    show mergeL (V :: u.L) = _
    rw [mergeL_cons m]
    exact over_is h1 h2 b1 b2 h3
  have hf : Fine ⟨V, u.L⟩ := ⟨h.1, by rw [e]⟩
  exact ⟨hf, by rw [seenU_fine hf, e]⟩

/-! ### Put, Remove, Move -/
def fin (u : Un) (V : List En) : Un × Int := if 80 < V.length then (Un.zero, 5) else (⟨V, u.L⟩, 0)
def putU (u : Un) (e : En) : Un × Int :=
  if (seenU u).2 ≠ 0 then (Un.zero, (seenU u).2) else if (put (seenU u).1 e).2 ≠ 0 then (Un.zero, (put (seenU u).1 e).2) else fin u (setP u.U e)
def removeU (u : Un) (p : Bs) : Un × Int :=
  if (seenU u).2 ≠ 0 then (Un.zero, (seenU u).2) else if (remove (seenU u).1 p).2 ≠ 0 then (Un.zero, (remove (seenU u).1 p).2) else fin u (dropE (belowU u) u.U p)
def moveV (u : Un) (s d : Bs) : List En :=
  setAll (dropE (belowU u) (if (get (seenU u).1 d).isSome then dropE (belowU u) u.U d else u.U) s) (movedO (seenU u).1 s d)
def moveU (u : Un) (s d : Bs) : Un × Int :=
  if (seenU u).2 ≠ 0 then (Un.zero, (seenU u).2) else if (move (seenU u).1 s d).2 ≠ 0 then (Un.zero, (move (seenU u).1 s d).2) else fin u (if s = d then u.U else moveV u s d)

/-- What comes of a change: refused for want of room, or as of the tree that is seen; else the union is fine, what lies below is as it was, and the same is seen. -/
def AsTree (u : Un) (r : Un × Int) (t : List En × Int) : Prop :=
  (r.2 ≠ 0 → r.1 = Un.zero ∧ (r.2 = 5 ∨ r.2 = t.2)) ∧ (r.2 = 0 → Fine r.1 ∧ r.1.L = u.L ∧ t.2 = 0 ∧ seenU r.1 = (t.1, 0))
theorem fin_tree {u : Un} (h : Fine u) {V t : List En} (h2 : Right true V) (h3 : overL V (belowU u) = t) (h4 : t.length ≤ 80) : AsTree u (fin u V) (t, 0) := by
  unfold fin
  by_cases hl : 80 < V.length
  · rw [if_pos hl]; exact ⟨fun _ => ⟨rfl, .inl rfl⟩, fun h => absurd h (by decide)⟩
  · rw [if_neg hl]
    obtain ⟨a, b⟩ := fine_new h (V := V) (by omega) h2 (by rw [h3]; exact h4)
    exact ⟨fun h => absurd rfl h, fun _ => ⟨a, rfl, rfl, by rw [b, h3]⟩⟩
theorem putU_tree {u : Un} (h : Fine u) (e : En) : AsTree u (putU u e) (put (seenU u).1 e) := by
  obtain ⟨_, c2, _, c4, hs, c6, _, _⟩ := fine_parts h
  unfold putU
  rw [hs]
  dsimp only
  rw [if_neg (by simp)]
  by_cases hp : putErr (overL u.U (belowU u)) e = 0
  · have e1 : put (overL u.U (belowU u)) e = (ins e (overL u.U (belowU u)), 0) := by unfold put; rw [if_neg (by simp [hp])]
    rw [e1, if_neg (by simp)]
    obtain ⟨r1, r2⟩ := setP_seen c2 c4 (put_fits hp)
    exact fin_tree h r1 r2 (put_len hp)
  · have e1 : put (overL u.U (belowU u)) e = ([], putErr (overL u.U (belowU u)) e) := by unfold put; rw [if_pos hp]
    rw [e1, if_pos hp]
    exact ⟨fun _ => ⟨rfl, .inr rfl⟩, fun h => absurd h hp⟩
theorem removeU_tree {u : Un} (h : Fine u) (p : Bs) : AsTree u (removeU u p) (remove (seenU u).1 p) := by
  obtain ⟨_, c2, _, c4, hs, c6, _, _⟩ := fine_parts h
  unfold removeU
  rw [hs]
  dsimp only
  rw [if_neg (by simp)]
  by_cases hp : removeErr (overL u.U (belowU u)) p = 0
  · have e1 : remove (overL u.U (belowU u)) p = (without (overL u.U (belowU u)) p, 0) := by unfold remove; rw [if_neg (by simp [hp])]
    rw [e1, if_neg (by simp)]
    obtain ⟨_, _, hp0, _, hfull⟩ := remove_ok hp
    obtain ⟨r1, r2⟩ := drop_seen c2 c4 hp0
    rw [outside_without hfull] at r2
    exact fin_tree h r1 r2 (Nat.le_trans (without_len _ _) c6)
  · have e1 : remove (overL u.U (belowU u)) p = ([], removeErr (overL u.U (belowU u)) p) := by unfold remove; rw [if_pos hp]
    rw [e1, if_pos hp]
    exact ⟨fun _ => ⟨rfl, .inr rfl⟩, fun h => absurd h hp⟩
theorem moved_clean {S : List En} {s d : Bs} (h : moveErr S s d = 0) : ∀ e ∈ movedO S s d, clean e.P = true := by
  obtain ⟨_, _, _, hc, _⟩ := move_ok h
  intro e he
  obtain ⟨x, hx, hm, hxe⟩ := mem_movedO.1 he
  exact hc e (mem_moved.2 ⟨x, hx, stays_iff.2 (.inl hm), hxe⟩)
theorem moveV_seen {u : Un} (h : Fine u) {s d : Bs} (hm : moveErr (seenU u).1 s d = 0) (hsd : s ≠ d) : Right true (moveV u s d) ∧ overL (moveV u s d) (belowU u) = sortL (movedL (seenU u).1 s d) := by
  obtain ⟨_, c2, _, c4, hs, c6, _, c8⟩ := fine_parts h
  unfold moveV
  rw [hs] at hm ⊢
  dsimp only at hm ⊢
  obtain ⟨m1, m2, m3, _, m5⟩ := move_ok hm
  obtain ⟨_, _, hs0, hcd, _⟩ := moves_ok m3
  have hd0 := clean_ne hcd
  have step : Right true (if (get (overL u.U (belowU u)) d).isSome then dropE (belowU u) u.U d else u.U) ∧ overL (if (get (overL u.U (belowU u)) d).isSome then dropE (belowU u) u.U d else u.U) (belowU u) = outside (overL u.U (belowU u)) d := by
    rcases g : get (overL u.U (belowU u)) d with _ | y
    · rw [if_neg (by simp)]
      exact ⟨c2, (outside_none c8 hd0 g).symm⟩
    · rw [if_pos (show (some y).isSome = true from rfl)]
      exact drop_seen c2 c4 hd0
  obtain ⟨s1, s2⟩ := step
  obtain ⟨d1, d2⟩ := drop_seen s1 c4 hs0
  rw [s2, outside_comm] at d2
  obtain ⟨r1, r2⟩ := setAll_seen c4 (xs := movedO (overL u.U (belowU u)) s d) d1 (fun k hk => by rw [d2]; exact moved_fits hm hsd k hk)
  refine ⟨r1, ?_⟩
  have hg := refMove_good ((wrong_zero _ false).2 ⟨m1, m2⟩) m3 hsd (moved_clean hm)
  rw [m5] at hg
  rw [r2, d2]
  exact (congrArg Prod.fst hg).symm
theorem moveU_tree {u : Un} (h : Fine u) (s d : Bs) : AsTree u (moveU u s d) (move (seenU u).1 s d) := by
  obtain ⟨c1, c2, _, c4, hs, c6, _, c8⟩ := fine_parts h
  unfold moveU
  by_cases hp : moveErr (seenU u).1 s d = 0
  · have hv := fun hsd : s ≠ d => moveV_seen h hp hsd
    rw [hs] at hp hv ⊢
    dsimp only at hp hv ⊢
    rw [if_neg (by simp)]
    obtain ⟨_, _, m3, _, m5⟩ := move_ok hp
    rw [m5, if_neg (by simp)]
    by_cases hsd : s = d
    · subst hsd
      rw [if_pos rfl]
      exact fin_tree h c2 (move_self c8 m3).symm (Nat.le_trans (move_len _ _ _) c6)
    · rw [if_neg hsd]
      obtain ⟨r1, r2⟩ := hv hsd
      exact fin_tree h r1 r2 (Nat.le_trans (move_len _ _ _) c6)
  · rw [hs] at hp ⊢
    dsimp only at hp ⊢
    rw [if_neg (by simp)]
    have e1 : move (overL u.U (belowU u)) s d = ([], moveErr (overL u.U (belowU u)) s d) := by unfold move; rw [if_pos hp]
    rw [e1, if_pos hp]
    exact ⟨fun _ => ⟨rfl, .inr rfl⟩, fun h => absurd h hp⟩

/-! ### Look -/
/-- Layer by layer: the entry, and which layer has it. -/
def lookLs : List (List En) → Bs → Nat → Option (En × Nat)
  | [], _, _ => none
  | l :: r, p, i => match get l p with
    | some y => if y.k = 4 then none else some (y.clear, i)
    | none => if hides l p then none else lookLs r p (i + 1)
theorem look_seen : ∀ {ls : List (List En)} {p : Bs} (i : Nat), (mergeL ls).2 = 0 → p ≠ [] → get (mergeL ls).1 p = (lookLs ls p i).map Prod.fst
  | [], p, i, _, hp => (get_none hp).2 fun _ h => nomatch h
  | l :: r, p, i, h, hp => by
    obtain ⟨h1, h2⟩ := mergeL_tail h
    obtain ⟨_, hr⟩ := mergeL_right h1
    rw [h2] at h ⊢
    obtain ⟨_, hl, _, _, _, e⟩ := over_ok h
    rw [e]
    unfold lookLs
    rcases g : get l p with _ | y
    · rw [seen_low hl hr hp ((get_none hp).1 g)]
      dsimp only
      rcases hh : hides l p with _ | _
      · rw [if_neg (by simp), if_neg (by simp), look_seen (i + 1) h1 hp]
      · rw [if_pos rfl, if_pos rfl]; rfl
    · obtain ⟨g1, g2⟩ := get_some hp g
      rw [seen_own hl hr hp g1 g2]
      dsimp only
      by_cases hk : y.k = 4
      · rw [if_pos hk, if_pos hk]; rfl
      · rw [if_neg hk, if_neg hk]; rfl
theorem look_has : ∀ {ls : List (List En)} {p : Bs} (i : Nat) {e : En} {k : Nat}, lookLs ls p i = some (e, k) → i ≤ k ∧ ∃ h : k - i < ls.length, ∃ z, get ls[k - i] p = some z ∧ z.clear = e
  | [], p, i, e, k, h => nomatch h
  | l :: r, p, i, e, k, h => by
    unfold lookLs at h
    rcases g : get l p with _ | y
    · rw [g] at h
      dsimp only at h
      rcases hh : hides l p with _ | _
      · rw [hh, if_neg (by simp)] at h
        obtain ⟨h1, h2, z, h3, h4⟩ := look_has (i + 1) h
        have e1 : k - i = (k - (i + 1)) + 1 := by omega
        refine ⟨by omega, by rw [e1]; simpa using h2, z, ?_, h4⟩
        have : (l :: r)[k - i]'(by rw [e1]; simpa using h2) = r[k - (i + 1)] := by
          have e2 : ∀ (j : Nat) (hj : j < (l :: r).length), j = (k - (i + 1)) + 1 → (l :: r)[j] = r[k - (i + 1)] := by
            intro j hj ej; subst ej; rfl
          exact e2 _ _ e1
        rw [this]; exact h3
      · rw [hh, if_pos rfl] at h; cases h
    · rw [g] at h
      dsimp only at h
      by_cases hk : y.k = 4
      · rw [if_pos hk] at h; cases h
      · rw [if_neg hk] at h
        injection h with h
        injection h with ha hb
        subst hb
        refine ⟨Nat.le_refl _, by simp, y, ?_, ha⟩
        have : (l :: r)[i - i]'(by simp) = l := by
          have e2 : ∀ (j : Nat) (hj : j < (l :: r).length), j = 0 → (l :: r)[j] = l := by intro j hj ej; subst ej; rfl
          exact e2 _ _ (Nat.sub_self i)
        rw [this]; exact g

/-! ### Over nothing -/
theorem setP_flat {U : List En} {e : En} (hU : Right false U) (h : Fits U e) : setP U e = ins e U ∧ Right false (ins e U) := by
  obtain ⟨he, hd, hk⟩ := h
  have hp := clean_ne (entry_clean he)
  have hc : ¬ (dirOf e.P ≠ [] ∧ dirIn U (dirOf e.P) = false) := by
    rintro ⟨h1, h2⟩
    obtain ⟨d, d1, d2, d3⟩ := hd.resolve_left h1
    have g := get_mem hU.2.1 d1 (right_ne hU d1)
    rw [d2] at g
    unfold dirIn at h2
    rw [g] at h2
    dsimp only at h2
    rw [d3] at h2; cases h2
  have h1 : setP U e = ins e U := by
    rw [setP_eq, if_neg hc]
    unfold set1 adj
    rcases g : get U e.P with _ | y
    · rfl
    · dsimp only
      obtain ⟨y1, _⟩ := get_some hp g
      have ho := entry_opaque (hU.1 y y1)
      by_cases hk2 : e.k = 2
      · have hy := (hk y g).2 hk2
        rw [if_pos hk2, ho, hy]
        congr 1
        exact en_ext rfl rfl rfl (entry_opaque he).symm
      · rw [if_neg hk2]
  have h2 := setP_seen (right_layer hU) (right_nil false) (e := e) (by rw [overL_nil hU]; exact ⟨he, hd, hk⟩)
  rw [overL_nil hU] at h2
  refine ⟨h1, ?_⟩
  rw [← h2.2]
  exact over_right h2.1 (right_nil false)
theorem setAll_flat : ∀ {xs U : List En}, Right false U → (∀ k (hk : k < xs.length), Fits (insAll (xs.take k) U) xs[k]) → setAll U xs = insAll xs U
  | [], _, _, _ => rfl
  | x :: xs, U, hU, h => by
    have h0 : Fits U x := h 0 (by simp)
    obtain ⟨r1, r2⟩ := setP_flat hU h0
    have := setAll_flat (xs := xs) r2 (fun k hk => by
      have := h (k + 1) (by simpa using hk)
      simpa [List.take_succ_cons, insAll] using this)
    show setAll (setP U x) xs = insAll xs (ins x U)
    rw [r1, this]
theorem dropE_flat {U : List En} {p : Bs} (hp : p ≠ []) : dropE [] U p = outside U p := by
  unfold dropE
  rw [(get_none (l := []) hp).2 (fun _ h => nomatch h), if_neg (by simp)]
theorem fine_flat {t : List En} (h1 : t.length ≤ 80) (h2 : Right false t) : Fine ⟨t, []⟩ ∧ seenU ⟨t, []⟩ = (t, 0) := by
  have e : mergeL (⟨t, []⟩ : Un).all = (t, 0) := by
    show mergeL (t :: []) = _
    rw [mergeL_cons rfl]
    show over t [] = _
    rw [over_is h1 (right_layer h2) (by decide) (right_nil _) (by rw [overL_nil h2]; exact h1), overL_nil h2]
  have hf : Fine ⟨t, []⟩ := ⟨Nat.zero_le _, by rw [e]⟩
  exact ⟨hf, by rw [seenU_fine hf, e]⟩
/-- What comes of a change of a union of one layer. -/
def AsFlat (r : Un × Int) (t : List En × Int) : Prop := r.2 = t.2 ∧ r.1.L = [] ∧ (r.2 = 0 → r.1.U = t.1)
theorem fin_flat {t V : List En} {r : List En × Int} (h : r = (V, 0)) (h2 : V.length ≤ 80) : AsFlat (fin ⟨t, []⟩ V) r := by
  subst h
  unfold fin
  rw [if_neg (by omega)]
  exact ⟨rfl, rfl, fun _ => rfl⟩
theorem putU_flat {t : List En} (h1 : t.length ≤ 80) (h2 : Right false t) (e : En) : AsFlat (putU ⟨t, []⟩ e) (put t e) := by
  unfold putU
  rw [(fine_flat h1 h2).2]
  dsimp only
  rw [if_neg (by simp)]
  by_cases hp : (put t e).2 = 0
  · rw [if_neg (by simp [hp])]
    have hp2 : putErr t e = 0 := by
      unfold put at hp
      by_cases h : putErr t e = 0
      · exact h
      · rw [if_pos h] at hp; exact hp
    refine fin_flat ?_ ?_
    · rw [(setP_flat h2 (put_fits hp2)).1]; unfold put; rw [if_neg (by simp [hp2])]
    · rw [(setP_flat h2 (put_fits hp2)).1]; exact put_len hp2
  · rw [if_pos hp]; exact ⟨rfl, rfl, fun h => absurd h hp⟩
theorem removeU_flat {t : List En} (h1 : t.length ≤ 80) (h2 : Right false t) (p : Bs) : AsFlat (removeU ⟨t, []⟩ p) (remove t p) := by
  unfold removeU
  rw [(fine_flat h1 h2).2]
  dsimp only
  rw [if_neg (by simp)]
  by_cases hp : (remove t p).2 = 0
  · rw [if_neg (by simp [hp])]
    have hp2 : removeErr t p = 0 := by
      unfold remove at hp
      by_cases h : removeErr t p = 0
      · exact h
      · rw [if_pos h] at hp; exact hp
    obtain ⟨_, _, hp0, _, hfull⟩ := remove_ok hp2
    have e1 : dropE (belowU ⟨t, []⟩) t p = without t p := by
      show dropE [] t p = _
      rw [dropE_flat hp0, outside_without hfull]
    rw [e1]
    refine fin_flat ?_ ?_
    · unfold remove; rw [if_neg (by simp [hp2])]
    · exact Nat.le_trans (without_len _ _) h1
  · rw [if_pos hp]; exact ⟨rfl, rfl, fun h => absurd h hp⟩
theorem moveU_flat {t : List En} (h1 : t.length ≤ 80) (h2 : Right false t) (s d : Bs) : AsFlat (moveU ⟨t, []⟩ s d) (move t s d) := by
  unfold moveU
  unfold moveV
  rw [(fine_flat h1 h2).2]
  dsimp only
  rw [if_neg (by simp)]
  by_cases hp : (move t s d).2 = 0
  · rw [if_neg (by simp [hp])]
    have hp2 : moveErr t s d = 0 := by
      unfold move at hp
      by_cases h : moveErr t s d = 0
      · exact h
      · rw [if_pos h] at hp; exact hp
    obtain ⟨_, _, m3, _, m5⟩ := move_ok hp2
    by_cases hsd : s = d
    · subst hsd
      rw [if_pos rfl]
      exact fin_flat (by rw [m5, move_self h2 m3]) h1
    · rw [if_neg hsd]
      obtain ⟨_, _, hs0, hcd, _⟩ := moves_ok m3
      have hd0 := clean_ne hcd
      have e0 : (if (get t d).isSome = true then dropE (belowU ⟨t, []⟩) t d else t) = outside t d := by
        rcases g : get t d with _ | y
        · rw [if_neg (by simp)]; exact (outside_none h2 hd0 g).symm
        · rw [if_pos (show (some y).isSome = true from rfl)]; exact dropE_flat hd0
      rw [e0]
      have e1 : dropE (belowU ⟨t, []⟩) (outside t d) s = outside (outside t s) d := by
        rw [← outside_comm]; exact dropE_flat hs0
      rw [e1, setAll_flat (right_outside (right_outside h2 hs0) hd0) (fun k hk => moved_fits hp2 hsd k hk)]
      have hg := refMove_good ((wrong_zero _ false).2 ⟨h1, h2⟩) m3 hsd (moved_clean hp2)
      refine fin_flat hg ?_
      have := move_len t s d
      rw [m5] at hg
      have hg2 : sortL (movedL t s d) = insAll (movedO t s d) (outside (outside t s) d) := congrArg Prod.fst hg
      rw [← hg2]
      exact Nat.le_trans this h1
  · rw [if_pos hp]; exact ⟨rfl, rfl, fun h => absurd h hp⟩
end Tr
end Go.Proofs.YtjppfhgkanbemacGreatDoor
