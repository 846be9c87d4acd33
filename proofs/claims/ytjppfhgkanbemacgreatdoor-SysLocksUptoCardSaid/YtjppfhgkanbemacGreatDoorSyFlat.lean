/-
  Nobody sees the layers, in plain words. No program in sight.
-/
import Derived.Test.YtjppfhgkanbemacGreatDoorSA
namespace Go.Proofs.YtjppfhgkanbemacGreatDoor
namespace Sy
open Pt Tr

/-- Two states that differ in the union alone, of which the same is seen. -/
def Sim (s t : St) : Prop := Ok s ∧ Ok t ∧ t = { s with u := t.u }
/-- Alike, or there was no room. -/
def Alike (r q : St × Int) : Prop := r.2 = 5 ∨ q.2 = 5 ∨ (Sim r.1 q.1 ∧ r.2 = q.2)
def AlikeA (r q : St × An) : Prop := r.2.err = 5 ∨ q.2.err = 5 ∨ (Sim r.1 q.1 ∧ r.2 = q.2)
theorem sim_T {s t : St} (h : Sim s t) : t.T = s.T := by rw [h.2.2]
theorem sim_with {s t : St} (h : Sim s t) {f : St → St} (hu : ∀ s, (f s).u = s.u) (hT : ∀ s, (f s).T = s.T) (hf : ∀ s v, f { s with u := v } = { f s with u := v }) : Sim (f s) (f t) := by
  refine ⟨ok_of h.1 (hu s) (hT s), ok_of h.2.1 (hu t) (hT t), ?_⟩
  rw [hu t]
  conv => lhs; rw [h.2.2]
  exact hf s t.u
/-- What comes of the union in two states alike. -/
theorem set_alike {s t : St} (h : Sim s t) {r q : Un × Int} {m : List En × Int} (hr : AsTree s.u r m) (hq : AsTree t.u q m) : Alike (set s r) (set t q) := by
  obtain ⟨_, a2, a3⟩ := set_good h.1 hr
  obtain ⟨_, b2, b3⟩ := set_good h.2.1 hq
  by_cases hr0 : r.2 = 0
  · obtain ⟨e1, m0⟩ := a3 hr0
    by_cases hq0 : q.2 = 0
    · obtain ⟨e2, _⟩ := b3 hq0
      refine .inr (.inr ⟨⟨?_, ?_, ?_⟩, by rw [e1, e2]⟩)
      · exact (set_good h.1 hr).1.1
      · exact (set_good h.2.1 hq).1.1
      · rw [e1, e2, h.2.2]
    · rcases (hq.1 hq0).2 with h5 | h5
      · refine .inr (.inl ?_)
        unfold set; rw [if_pos hq0]; exact h5
      · exact absurd (h5.trans m0) hq0
  · rcases (hr.1 hr0).2 with h5 | h5
    · refine .inl ?_
      unfold set; rw [if_pos hr0]; exact h5
    · by_cases hq0 : q.2 = 0
      · exact absurd (h5.trans (b3 hq0).2) hr0
      · rcases (hq.1 hq0).2 with h6 | h6
        · refine .inr (.inl ?_)
          unfold set; rw [if_pos hq0]; exact h6
        · refine .inr (.inr ?_)
          unfold set
          rw [if_pos hr0, if_pos hq0]
          exact ⟨h, h5.trans h6.symm⟩
theorem put_alike {s t : St} (h : Sim s t) (e : En) : Alike (set s (putU s.u e)) (set t (putU t.u e)) := by
  have a := putU_tree h.1.1 e
  have b := putU_tree h.2.1.1 e
  rw [h.1.T] at a
  rw [h.2.1.T, sim_T h] at b
  exact set_alike h a b
theorem alike_same {s t : St} (h : Sim s t) (e : Int) : Alike (s, e) (t, e) := .inr (.inr ⟨h, rfl⟩)
theorem same_al {s t : St} (h : Sim s t) (a : An) : AlikeA (s, a) (t, a) := .inr (.inr ⟨h, rfl⟩)
theorem alike_no {r q : St × Int} (h : Alike r q) : AlikeA (r.1, .no r.2) (q.1, .no q.2) := by
  rcases h with h | h | ⟨h1, h2⟩
  · exact .inl h
  · exact .inr (.inl h)
  · exact .inr (.inr ⟨h1, by rw [h2]⟩)
theorem openSet_alike {s t : St} (h : Sim s t) (n : Int) (p : Bs) : Alike (openSet s n p) (openSet t n p) := by
  unfold openSet
  rw [sim_T h]
  split
  · split
    · exact alike_same h _
    · exact put_alike h _
  · split
    · exact alike_same h _
    · split
      · exact alike_same h _
      · split
        · exact put_alike h _
        · exact alike_same h _
theorem opened_with (s : St) (p : Bs) (v : Un) : opened { s with u := v } p = ({ (opened s p).1 with u := v }, (opened s p).2) := by
  have e : (opened s p) = (match s.files.find? (fun i => (obAt s i).P == p) with | some i => (s, i) | none => ({ s with obs := s.obs ++ [⟨bytesOf p, noE, []⟩], files := s.files ++ [s.obs.length] }, s.obs.length)) := rfl
  have e2 : opened { s with u := v } p = (match s.files.find? (fun i => (obAt s i).P == p) with | some i => ({ s with u := v }, i) | none => ({ s with u := v, obs := s.obs ++ [⟨bytesOf p, noE, []⟩], files := s.files ++ [s.obs.length] }, s.obs.length)) := rfl
  rw [e, e2]
  rcases s.files.find? (fun i => (obAt s i).P == p) with _ | i <;> rfl
theorem sim_opened {s t : St} (h : Sim s t) (p : Bs) : Sim (opened s p).1 (opened t p).1 ∧ (opened t p).2 = (opened s p).2 := by
  have e : ∀ v, opened { s with u := v } p = _ := fun v => opened_with s p v
  refine ⟨sim_with h (f := fun s => (opened s p).1) (fun s => (opened_u s p).1) (fun s => (opened_u s p).2) (fun s v => by rw [opened_with]), ?_⟩
  have := e t.u
  rw [← h.2.2] at this
  rw [this]
theorem sim_setOb {s t : St} (h : Sim s t) (i : Nat) (f : Ob → Ob) : Sim (setOb s i f) (setOb t i f) := sim_with h (f := fun s => setOb s i f) (fun _ => rfl) (fun _ => rfl) (fun _ _ => rfl)
theorem sim_setDe {s t : St} (h : Sim s t) (i : Nat) (f : De → De) : Sim (setDe s i f) (setDe t i f) := sim_with h (f := fun s => setDe s i f) (fun _ => rfl) (fun _ => rfl) (fun _ _ => rfl)
theorem sim_setFd {s t : St} (h : Sim s t) (o k : Nat) (v : Option Nat) : Sim (setFd s o k v) (setFd t o k v) := sim_with h (f := fun s => setFd s o k v) (fun _ => rfl) (fun _ => rfl) (fun _ _ => rfl)
theorem write_alike {s t : St} (h : Sim s t) (i : Nat) (x : ByteArray) : Alike (write s i x) (write t i x) := by
  have e1 : obAt t i = obAt s i := by rw [h.2.2]; rfl
  have e2 : textOf t i = textOf s i := by rw [h.2.2]; rfl
  unfold write
  rw [e1, e2]
  split
  · exact alike_same h _
  · split
    · exact .inr (.inr ⟨sim_setOb h _ _, rfl⟩)
    · split
      · exact alike_same h _
      · exact put_alike h _
theorem find_T {s t : St} (h : Sim s t) (p : Bs) (b : Bool) : Sy.find t.T p b = Sy.find s.T p b := by rw [sim_T h]
theorem callOpen_alike {s t : St} (h : Sim s t) (c : Ca) : AlikeA (callOpen s c) (callOpen t c) := by
  have e1 : ∀ o, free t o = free s o := fun o => by rw [h.2.2]; rfl
  unfold callOpen
  rw [e1, find_T h]
  split
  · exact same_al h _
  · split
    · exact same_al h _
    · split
      · exact same_al h _
      · generalize Sy.find s.T c.path.data.toList (!bit c.n 4) = f
        have g := openSet_alike h c.n f.1
        dsimp only
        rcases g with g | g | ⟨g1, g2⟩
        · exact .inl (by rw [if_pos (by rw [g]; decide)]; exact g)
        · refine .inr (.inl ?_)
          rw [if_pos (c := (openSet t c.n f.1).2 ≠ 0) (by rw [g]; decide)]; exact g
        · rw [← g2]
          by_cases h0 : (openSet s c.n f.1).2 = 0
          · rw [if_neg (by simp [h0]), if_neg (by simp [h0])]
            obtain ⟨q1, q2⟩ := sim_opened g1 f.1
            rw [q2]
            have e2 : (opened (openSet t c.n f.1).1 f.1).1.des = (opened (openSet s c.n f.1).1 f.1).1.des := by rw [q1.2.2]
            rw [e2]
            refine .inr (.inr ⟨?_, rfl⟩)
            refine ⟨ok_of q1.1 rfl rfl, ok_of q1.2.1 rfl rfl, ?_⟩
            conv => lhs; rw [q1.2.2]
            rfl
          · rw [if_pos h0, if_pos h0]
            exact .inr (.inr ⟨g1, rfl⟩)
theorem callWrite_alike {s t : St} (h : Sim s t) (c : Ca) (d : Nat) : AlikeA (callWrite s c d) (callWrite t c d) := by
  have e1 : deAt t d = deAt s d := by rw [h.2.2]; rfl
  have e2 : ∀ i, textOf t i = textOf s i := fun i => by rw [h.2.2]; rfl
  unfold callWrite
  rw [e1]
  dsimp only
  rw [e2]
  split
  · exact same_al h _
  · split
    · split
      · exact same_al h _
      · exact alike_no (write_alike h _ _)
    · generalize (if bit (deAt s d).fl 2 = true then (textOf s (deAt s d).o).data.toList.length else (deAt s d).at_.toNat) = at_
      split
      · exact .inr (.inr ⟨sim_setDe h _ _, rfl⟩)
      · split
        · exact same_al h _
        · have g := fun x => write_alike h (deAt s d).o x
          rcases g (bytesOf ((sized (textOf s (deAt s d).o).data.toList (max (at_ + c.text.data.toList.length) (textOf s (deAt s d).o).data.toList.length)).take at_ ++ c.text.data.toList ++ (sized (textOf s (deAt s d).o).data.toList (max (at_ + c.text.data.toList.length) (textOf s (deAt s d).o).data.toList.length)).drop (at_ + c.text.data.toList.length))) with g | g | ⟨g1, g2⟩
          · exact .inl (by rw [if_pos (by rw [g]; decide)]; exact g)
          · refine .inr (.inl ?_)
            rw [if_pos (by rw [g]; decide)]; exact g
          · rw [← g2]
            split
            · exact .inr (.inr ⟨g1, rfl⟩)
            · exact .inr (.inr ⟨sim_setDe g1 _ _, rfl⟩)
theorem use_alike {s t : St} (h : Sim s t) (c : Ca) : AlikeA (use s c) (use t c) := by
  have e1 : ∀ d, deAt t d = deAt s d := fun d => by rw [h.2.2]; rfl
  have e2 : ∀ i, textOf t i = textOf s i := fun i => by rw [h.2.2]; rfl
  have e3 : ∀ o k, fdAt t o k = fdAt s o k := fun o k => by rw [h.2.2]; rfl
  have e4 : ∀ o, free t o = free s o := fun o => by rw [h.2.2]; rfl
  have e5 : ∀ i, obAt t i = obAt s i := fun i => by rw [h.2.2]; rfl
  unfold use
  rw [e3]
  split
  · exact same_al h _
  split
  · exact same_al h _
  rename_i d _
  rw [e1]
  split
  · refine .inr (.inr ⟨?_, rfl⟩)
    refine sim_with h (f := fun s => (callClose s c.owner.toNat c.fd.toNat d).1) (fun s => ?_) (fun s => ?_) (fun s v => ?_)
    · unfold callClose; dsimp only; split <;> rfl
    · unfold callClose; dsimp only; split <;> rfl
    · unfold callClose
      dsimp only
      have hu : ∀ (x : St) (i : Nat), used { x with u := v } i = used x i := fun _ _ => rfl
      by_cases h0 : (deAt (setDe (setOb (setFd s c.owner.toNat c.fd.toNat none) (deAt s d).o fun x => { x with l := Lk.leave x.l c.owner.toNat }) d fun x => { x with refs := x.refs - 1 }) d).refs = 0 ∧ used (setDe (setOb (setFd s c.owner.toNat c.fd.toNat none) (deAt s d).o fun x => { x with l := Lk.leave x.l c.owner.toNat }) d fun x => { x with refs := x.refs - 1 }) (deAt s d).o = false
      · rw [if_pos h0]
        exact if_pos h0
      · rw [if_neg h0]
        exact if_neg h0
  split
  · unfold callDup
    rw [e4]
    split
    · exact same_al h _
    · exact .inr (.inr ⟨sim_setDe (sim_setFd h _ _ _) _ _, rfl⟩)
  split
  · unfold callSeek
    split
    · exact same_al h _
    · exact .inr (.inr ⟨sim_setDe h _ _, rfl⟩)
  split
  · unfold callLock
    dsimp only
    rw [e5]
    generalize (if c.kind = 15 then Lk.free (obAt s (deAt s d).o).l ⟨c.owner, c.n, c.m, c.alone⟩ else Lk.take (obAt s (deAt s d).o).l ⟨c.owner, c.n, c.m, c.alone⟩) = r
    split
    · exact .inr (.inr ⟨sim_setOb h _ _, rfl⟩)
    · exact same_al h _
  split
  · unfold callRead
    rw [e1, e2]
    split
    · exact same_al h _
    split
    · exact same_al h _
    · exact .inr (.inr ⟨sim_setDe h _ _, rfl⟩)
  · exact callWrite_alike h c d
theorem textOf_with (s : St) (v : Un) (i : Nat) : textOf { s with u := v } i = textOf s i := rfl
theorem call_alike {s t : St} (h : Sim s t) (c : Ca) : AlikeA (call s c) (call t c) := by
  unfold call
  split
  · exact same_al h _
  split
  · exact same_al h _
  split
  · exact callOpen_alike h c
  split
  · unfold create
    rw [find_T h, sim_T h]
    dsimp only
    split
    · exact same_al h _
    split
    · exact same_al h _
    · exact alike_no (put_alike h _)
  split
  · unfold Sy.remove
    rw [find_T h, sim_T h]
    dsimp only
    generalize Sy.find s.T c.path.data.toList false = f
    split
    · exact same_al h _
    split
    · exact same_al h _
    split
    · exact same_al h _
    split
    · exact same_al h _
    split
    · exact same_al h _
    · have a := removeU_tree h.1.1 f.1
      have b := removeU_tree h.2.1.1 f.1
      rw [h.1.T] at a
      rw [h.2.1.T, sim_T h] at b
      have hs : Sim (lose s f.1) (lose t f.1) := sim_with h (f := fun s => lose s f.1) (fun _ => rfl) (fun _ => rfl) (fun _ _ => rfl)
      have g := set_alike hs a b
      by_cases h1 : (removeU s.u f.1).2 = 0
      · rw [if_neg (by simp [h1])]
        by_cases h2 : (removeU t.u f.1).2 = 0
        · rw [if_neg (by simp [h2])]; exact alike_no g
        · rw [if_pos h2]
          rcases (b.1 h2).2 with h5 | h5
          · exact .inr (.inl h5)
          · exact absurd (h5.trans (a.2 h1).2.2.1) h2
      · rw [if_pos h1]
        rcases (a.1 h1).2 with h5 | h5
        · exact .inl h5
        · by_cases h2 : (removeU t.u f.1).2 = 0
          · exact absurd (h5.trans (b.2 h2).2.2.1) h1
          · rw [if_pos h2]
            rcases (b.1 h2).2 with h6 | h6
            · exact .inr (.inl h6)
            · exact .inr (.inr ⟨h, by rw [h5, h6]⟩)
  split
  · unfold rename
    rw [find_T h, find_T h]
    dsimp only
    generalize Sy.find s.T c.path.data.toList false = f
    generalize Sy.find s.T c.to.data.toList false = k
    split
    · exact same_al h _
    split
    · exact same_al h _
    split
    · exact same_al h _
    · have a := moveU_tree h.1.1 f.1 k.1
      have b := moveU_tree h.2.1.1 f.1 k.1
      rw [h.1.T] at a
      rw [h.2.1.T, sim_T h] at b
      have hs : Sim (follow (if f.1 ≠ k.1 then lose s k.1 else s) f.1 k.1) (follow (if f.1 ≠ k.1 then lose t k.1 else t) f.1 k.1) := by
        by_cases hne : f.1 = k.1
        · rw [if_neg (by simp [hne]), if_neg (by simp [hne])]
          exact sim_with h (f := fun s => follow s f.1 k.1) (fun _ => rfl) (fun _ => rfl) (fun _ _ => rfl)
        · rw [if_pos hne, if_pos hne]
          exact sim_with h (f := fun s => follow (lose s k.1) f.1 k.1) (fun _ => rfl) (fun _ => rfl) (fun _ _ => rfl)
      have g := set_alike hs (r := moveU s.u f.1 k.1) (q := moveU t.u f.1 k.1) (m := Tr.move s.T f.1 k.1) (by
        have : (follow (if f.1 ≠ k.1 then lose s k.1 else s) f.1 k.1).u = s.u := by
          show (if _ then _ else _ : St).u = _; split <;> rfl
        rw [this]; exact a) (by
        have : (follow (if f.1 ≠ k.1 then lose t k.1 else t) f.1 k.1).u = t.u := by
          show (if _ then _ else _ : St).u = _; split <;> rfl
        rw [this]; exact b)
      by_cases h1 : (moveU s.u f.1 k.1).2 = 0
      · rw [if_neg (c := (moveU s.u f.1 k.1).2 ≠ 0) (by simp [h1])]
        by_cases h2 : (moveU t.u f.1 k.1).2 = 0
        · rw [if_neg (c := (moveU t.u f.1 k.1).2 ≠ 0) (by simp [h2])]; exact alike_no g
        · rw [if_pos (c := (moveU t.u f.1 k.1).2 ≠ 0) h2]
          rcases (b.1 h2).2 with h5 | h5
          · exact .inr (.inl h5)
          · exact absurd (h5.trans (a.2 h1).2.2.1) h2
      · rw [if_pos h1]
        rcases (a.1 h1).2 with h5 | h5
        · exact .inl h5
        · by_cases h2 : (moveU t.u f.1 k.1).2 = 0
          · exact absurd (h5.trans (b.2 h2).2.2.1) h1
          · rw [if_pos h2]
            rcases (b.1 h2).2 with h6 | h6
            · exact .inr (.inl h6)
            · exact .inr (.inr ⟨h, by rw [h5, h6]⟩)
  split
  · refine .inr (.inr ⟨h, ?_⟩)
    unfold tell
    rw [find_T h, sim_T h]
  · exact use_alike h c
/-- Was there no room for something? -/
def full (l : List An) : Bool := l.any fun a => a.err == 5
theorem calls_alike : ∀ {l : List Ca} {s t : St}, Sim s t → full (calls s l).2 = true ∨ full (calls t l).2 = true ∨ (Sim (calls s l).1 (calls t l).1 ∧ (calls s l).2 = (calls t l).2)
  | [], _, _, h => .inr (.inr ⟨h, rfl⟩)
  | c :: r, s, t, h => by
    have key : ∀ a : An, a.err = 5 → ∀ m, full (a :: m) = true := fun a ha m => by
      unfold full; rw [List.any_cons, ha]; rfl
    have key2 : ∀ a m, full m = true → full (a :: m) = true := fun a m hm => by
      unfold full at hm ⊢; rw [List.any_cons, hm, Bool.or_true]
    rcases call_alike h c with g | g | ⟨g1, g2⟩
    · exact .inl (key _ g _)
    · exact .inr (.inl (key _ g _))
    · rcases calls_alike (l := r) g1 with q | q | ⟨q1, q2⟩
      · exact .inl (key2 _ _ q)
      · exact .inr (.inl (key2 _ _ q))
      · refine .inr (.inr ⟨q1, ?_⟩)
        show (call s c).2 :: (calls (call s c).1 r).2 = (call t c).2 :: (calls (call t c).1 r).2
        rw [g2, q2]
theorem start_sim {u : Un} (h : Fine u) : Sim (start u) (start ⟨(seenU u).1, []⟩) := by
  obtain ⟨_, _, _, _, e, h6, _, h8⟩ := fine_parts h
  have hf := fine_flat (t := (seenU u).1) (by rw [e]; exact h6) (by rw [e]; exact h8)
  refine ⟨start_ok ((fine_iff u).2 h), start_ok ((fine_iff _).2 hf.1), ?_⟩
  unfold start
  rw [hf.2]
end Sy
end Go.Proofs.YtjppfhgkanbemacGreatDoor
