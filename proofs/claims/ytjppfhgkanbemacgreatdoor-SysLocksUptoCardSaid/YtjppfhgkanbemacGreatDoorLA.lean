/-
  Plain laws of lock's Wrong: what badAt and wrongFrom come to, case by case. No program in sight.
  The plain law of locks: what is right, what bytes are had, what cut and tidy do to these. No program in sight.
  The plain law of locks, second part: tidy keeps who has what and gives locks in order; locks in order are told by who has what. No program in sight.
-/
import Derived.Test.YtjppfhgkanbemacGreatDoorLkPure
namespace Go.Proofs.YtjppfhgkanbemacGreatDoor
namespace Lk
theorem badAt_range {p : List Lk} {x : Lk} (h : range x = true) : badAt p x = 3 := if_pos h
theorem badAt_order {p : List Lk} {x : Lk} (h : range x = false) (ho : (p.getLast?.any fun y => order y x) = true) : badAt p x = 2 := by
  unfold badAt
  rw [h, ho]
  rfl
theorem badAt_clash {p : List Lk} {x : Lk} (h : range x = false) (ho : (p.getLast?.any fun y => order y x) = false) (hc : p.any (fun y => clash y x) = true) : badAt p x = 8 := by
  unfold badAt
  rw [h, ho, hc]
  rfl
theorem badAt_ok {p : List Lk} {x : Lk} (h : range x = false) (ho : (p.getLast?.any fun y => order y x) = false) (hc : p.any (fun y => clash y x) = false) : badAt p x = 0 := by
  unfold badAt
  rw [h, ho, hc]
  rfl
theorem wrongFrom_bad {l : List Lk} {k : Nat} {x : Lk} {e : Int} (hk : k < l.length) (hx : l[k] = x) (hb : badAt (l.take k) x = e) (he : e ≠ 0) : wrongFrom (l.take k) (l.drop k) = (e, (k : Int)) := by
  rw [List.drop_eq_getElem_cons hk, hx, wrongFrom, hb, if_neg he]
  simp
  omega
theorem wrongFrom_ok {l : List Lk} {k : Nat} {x : Lk} (hk : k < l.length) (hx : l[k] = x) (hb : badAt (l.take k) x = 0) : wrongFrom (l.take k) (l.drop k) = wrongFrom (l.take (k + 1)) (l.drop (k + 1)) := by
  rw [List.drop_eq_getElem_cons hk, hx, wrongFrom, if_pos hb, List.take_succ_eq_append_getElem hk, hx]
theorem order_none (l : List Lk) {x : Lk} : ((l.take 0).getLast?.any fun y => order y x) = false := rfl
theorem order_at {l : List Lk} {m : Nat} {x y : Lk} {r : Bool} (hm : m < l.length) (hy : l[m] = y) (ho : order y x = r) : ((l.take (m + 1)).getLast?.any fun y => order y x) = r := by
  rw [List.take_succ_eq_append_getElem hm, hy, List.getLast?_append]
  simpa using ho

end Lk
end Go.Proofs.YtjppfhgkanbemacGreatDoor

namespace Go.Proofs.YtjppfhgkanbemacGreatDoor
namespace Lk

def Right (l : List Lk) : Prop := (∀ x ∈ l, range x = false) ∧ l.Pairwise fun y z => order y z = false ∧ clash y z = false

theorem range_iff (x : Lk) : range x = false ↔ 0 ≤ x.o ∧ x.o < 4 ∧ 0 ≤ x.f ∧ x.f < x.t ∧ x.t ≤ 1000 := by
  simp only [range, Bool.or_eq_false_iff, decide_eq_false_iff_not]
  omega
theorem order_iff (y x : Lk) : order y x = false ↔ y.o ≤ x.o ∧ (y.o = x.o → y.t < x.f ∨ (y.t = x.f ∧ y.a ≠ x.a)) := by
  simp only [order, Bool.or_eq_false_iff, decide_eq_false_iff_not, Bool.and_eq_false_iff, beq_eq_false_iff_ne]
  constructor
  · rintro ⟨h1, h2⟩
    refine ⟨by omega, fun e => ?_⟩
    rcases h2 with h2 | ⟨h2, h3 | h3⟩
    · exact absurd e h2
    · omega
    · by_cases h4 : y.t = x.f
      · exact .inr ⟨h4, h3⟩
      · omega
  · rintro ⟨h1, h2⟩
    refine ⟨by omega, ?_⟩
    by_cases e : y.o = x.o
    · rcases h2 e with h | ⟨h, h'⟩
      · exact .inr ⟨by omega, .inl (by omega)⟩
      · exact .inr ⟨by omega, .inr h'⟩
    · exact .inl e
theorem order_trans {x y z : Lk} (hy : range y = false) (h1 : order x y = false) (h2 : order y z = false) : order x z = false := by
  rw [order_iff] at *
  rw [range_iff] at hy
  refine ⟨by omega, fun e => .inl ?_⟩
  have e1 : x.o = y.o := by omega
  have e2 : y.o = z.o := by omega
  rcases h1.2 e1 with h | ⟨h, _⟩ <;> rcases h2.2 e2 with h' | ⟨h', _⟩ <;> omega

theorem badAt_zero {p : List Lk} {x : Lk} : badAt p x = 0 ↔ range x = false ∧ (p.getLast?.any fun y => order y x) = false ∧ p.any (fun y => clash y x) = false := by
  unfold badAt
  rcases h1 : range x with _ | _
  · rcases h2 : (p.getLast?.any fun y => order y x) with _ | _
    · rcases h3 : p.any (fun y => clash y x) with _ | _ <;> simp
    · simp
  · simp

theorem right_snoc {p : List Lk} {x : Lk} : Right (p ++ [x]) ↔ Right p ∧ badAt p x = 0 := by
  rw [badAt_zero]
  unfold Right
  rw [List.pairwise_append]
  simp only [List.mem_append, List.mem_singleton, List.any_eq_false, forall_eq]
  constructor
  · rintro ⟨h1, h2, _, h3⟩
    refine ⟨⟨fun y hy => h1 y (.inl hy), h2⟩, h1 x (.inr rfl), ?_, fun y hy => by simp [(h3 y hy).2]⟩
    rcases List.eq_nil_or_concat p with rfl | ⟨q, y, rfl⟩
    · rfl
    · simp only [List.concat_eq_append, List.getLast?_append, List.getLast?_singleton, Option.some_or, Option.any_some]
      exact (h3 y (by simp)).1
  · rintro ⟨⟨h1, h2⟩, hx, h3, h4⟩
    refine ⟨fun y hy => ?_, h2, List.pairwise_singleton _ _, fun y hy => ⟨?_, by simpa using h4 y hy⟩⟩
    · rcases hy with hy | rfl
      · exact h1 y hy
      · exact hx
    rcases List.eq_nil_or_concat p with rfl | ⟨q, z, rfl⟩
    · cases hy
    · simp only [List.concat_eq_append, List.getLast?_append, List.getLast?_singleton, Option.some_or, Option.any_some] at h3
      simp only [List.concat_eq_append, List.mem_append, List.mem_singleton] at hy h1
      rcases hy with hy | rfl
      · rw [List.concat_eq_append, List.pairwise_append] at h2
        exact order_trans (h1 z (.inr rfl)) (h2.2.2 y hy z (by simp)).1 h3
      · exact h3

theorem wrongFrom_right : ∀ (r p : List Lk), Right p → ((wrongFrom p r).1 = 0 ↔ Right (p ++ r))
  | [], p, hp => by simp [wrongFrom, hp]
  | x :: r, p, hp => by
    have e : p ++ x :: r = (p ++ [x]) ++ r := by simp
    rw [wrongFrom]
    by_cases hb : badAt p x = 0
    · rw [if_pos hb, wrongFrom_right r (p ++ [x]) (right_snoc.2 ⟨hp, hb⟩), e]
    · rw [if_neg hb]
      refine ⟨fun h => absurd h hb, fun h => ?_⟩
      exfalso
      rw [e] at h
      have : Right (p ++ [x]) := ⟨fun y hy => h.1 y (List.mem_append_left _ hy), (List.pairwise_append.1 h.2).1⟩
      exact hb (right_snoc.1 this).2

theorem right_nil : Right [] := ⟨fun _ h => (nomatch h), List.Pairwise.nil⟩
theorem wrong_zero (l : List Lk) : (wrong l).1 = 0 ↔ l.length ≤ 40 ∧ Right l := by
  unfold wrong
  by_cases h : 40 < l.length
  · rw [if_pos h]; simp; omega
  · rw [if_neg h, wrongFrom_right l [] right_nil]
    simp
    omega
theorem right_one (x : Lk) : Right [x] ↔ range x = false := by
  simp [Right]

/-- An owner has a byte, so. -/
def Has (l : List Lk) (o k : Int) (a : Bool) : Prop := ∃ y ∈ l, y.o = o ∧ y.f ≤ k ∧ k < y.t ∧ y.a = a
def In (x : Lk) (o k : Int) : Prop := o = x.o ∧ x.f ≤ k ∧ k < x.t

theorem has_append (l m : List Lk) (o k : Int) (a : Bool) : Has (l ++ m) o k a ↔ Has l o k a ∨ Has m o k a := by
  unfold Has
  simp only [List.mem_append]
  constructor
  · rintro ⟨y, h | h, hr⟩
    · exact .inl ⟨y, h, hr⟩
    · exact .inr ⟨y, h, hr⟩
  · rintro (⟨y, h, hr⟩ | ⟨y, h, hr⟩)
    · exact ⟨y, .inl h, hr⟩
    · exact ⟨y, .inr h, hr⟩
theorem has_one (x : Lk) (o k : Int) (a : Bool) : Has [x] o k a ↔ In x o k ∧ a = x.a := by
  unfold Has In
  simp only [List.mem_singleton]
  constructor
  · rintro ⟨y, rfl, h1, h2, h3, h4⟩
    exact ⟨⟨h1.symm, h2, h3⟩, h4.symm⟩
  · rintro ⟨⟨h1, h2, h3⟩, h4⟩
    exact ⟨x, rfl, h1.symm, h2, h3, h4.symm⟩
theorem has_perm {l m : List Lk} (h : l.Perm m) (o k : Int) (a : Bool) : Has l o k a ↔ Has m o k a := by
  unfold Has
  constructor
  · rintro ⟨y, hy, hr⟩; exact ⟨y, h.mem_iff.1 hy, hr⟩
  · rintro ⟨y, hy, hr⟩; exact ⟨y, h.mem_iff.2 hy, hr⟩

theorem mem_cut1 {x y z : Lk} (h : z ∈ cut1 x y) : z.o = y.o ∧ z.a = y.a ∧ y.f ≤ z.f ∧ z.t ≤ y.t ∧ (y.f < y.t → z.f < z.t) ∧ (x.f < x.t → z.o = x.o → z.t ≤ x.f ∨ x.t ≤ z.f) := by
  unfold cut1 at h
  split at h
  · rename_i hc
    simp only [List.mem_singleton] at h
    subst h
    refine ⟨rfl, rfl, Int.le_refl _, Int.le_refl _, fun h => h, fun _ e => ?_⟩
    rcases hc with hc | hc | hc
    · exact absurd e hc
    · exact .inl hc
    · exact .inr hc
  · rename_i hc
    rw [List.mem_append] at h
    rcases h with h | h
    · split at h
      · simp only [List.mem_singleton] at h
        subst h
        refine ⟨rfl, rfl, Int.le_refl _, ?_, ?_, fun _ _ => .inl (Int.le_refl _)⟩ <;> dsimp only <;> omega
      · cases h
    · split at h
      · simp only [List.mem_singleton] at h
        subst h
        refine ⟨rfl, rfl, ?_, Int.le_refl _, ?_, fun _ _ => .inr (Int.le_refl _)⟩ <;> dsimp only <;> omega
      · cases h

theorem has_cut1 {x y : Lk} (hx : x.f < x.t) (o k : Int) (a : Bool) : Has (cut1 x y) o k a ↔ Has [y] o k a ∧ ¬ In x o k := by
  rw [has_one]
  unfold cut1 In
  split
  · rename_i hc
    rw [has_one]
    unfold In
    constructor
    · rintro ⟨⟨h1, h2, h3⟩, h4⟩
      refine ⟨⟨⟨h1, h2, h3⟩, h4⟩, ?_⟩
      rintro ⟨e1, e2, e3⟩
      rcases hc with hc | hc | hc
      · exact hc (by omega)
      · omega
      · omega
    · exact fun h => h.1
  · rename_i hc
    rw [has_append]
    have e : y.o = x.o := by
      apply Decidable.byContradiction
      intro h; exact hc (.inl h)
    have h1 : ¬ y.t ≤ x.f := fun h => hc (.inr (.inl h))
    have h2 : ¬ x.t ≤ y.f := fun h => hc (.inr (.inr h))
    have hnil : ∀ o k a, ¬ Has [] o k a := fun _ _ _ ⟨_, h, _⟩ => by cases h
    by_cases p : y.f < x.f <;> by_cases q : x.t < y.t <;> simp only [p, q, if_true, if_false, has_one, hnil, In, or_false, false_or]
    all_goals constructor
    all_goals first
      | (rintro (⟨⟨e1, e2, e3⟩, e4⟩ | ⟨⟨e1, e2, e3⟩, e4⟩) <;> refine ⟨⟨⟨e1, by omega, by omega⟩, e4⟩, by omega⟩)
      | (rintro ⟨⟨e1, e2, e3⟩, e4⟩; refine ⟨⟨⟨e1, by omega, by omega⟩, e4⟩, by omega⟩)
      | (rintro ⟨⟨⟨e1, e2, e3⟩, e4⟩, e5⟩
         by_cases hk : k < x.f
         · exact .inl ⟨⟨e1, e2, hk⟩, e4⟩
         · exact .inr ⟨⟨e1, by omega, e3⟩, e4⟩)
      | (rintro ⟨⟨⟨e1, e2, e3⟩, e4⟩, e5⟩; exact ⟨⟨e1, by omega, by omega⟩, e4⟩)
      | (rintro ⟨⟨⟨e1, e2, e3⟩, e4⟩, e5⟩; exact absurd ⟨by omega, by omega, by omega⟩ e5)
      | (intro h; exact h.elim)

theorem has_cut {x : Lk} (hx : x.f < x.t) (l : List Lk) (o k : Int) (a : Bool) : Has (cut l x) o k a ↔ Has l o k a ∧ ¬ In x o k := by
  induction l with
  | nil => simp [cut, Has]
  | cons y r ih =>
    have e : cut (y :: r) x = cut1 x y ++ cut r x := rfl
    rw [e, has_append, ih, has_cut1 hx, show y :: r = [y] ++ r from rfl, has_append]
    constructor
    · rintro (⟨h, h'⟩ | ⟨h, h'⟩)
      · exact ⟨.inl h, h'⟩
      · exact ⟨.inr h, h'⟩
    · rintro ⟨h | h, h'⟩
      · exact .inl ⟨h, h'⟩
      · exact .inr ⟨h, h'⟩
end Lk
end Go.Proofs.YtjppfhgkanbemacGreatDoor

namespace Go.Proofs.YtjppfhgkanbemacGreatDoor
namespace Lk

theorem pw_mem {α : Type} {R S : α → α → Prop} : ∀ {l : List α}, (∀ a ∈ l, ∀ b ∈ l, R a b → S a b) → l.Pairwise R → l.Pairwise S
  | [], _, _ => List.Pairwise.nil
  | x :: r, h, hp => by
    rw [List.pairwise_cons] at hp ⊢
    exact ⟨fun b hb => h x (by simp) b (by simp [hb]) (hp.1 b hb), pw_mem (fun a ha b hb => h a (by simp [ha]) b (by simp [hb])) hp.2⟩

/-- In order, and each in range. -/
def Ok (l : List Lk) : Prop := (∀ x ∈ l, range x = false) ∧ l.Pairwise fun y z => order y z = false
/-- What one has alone nobody else has. -/
def Fair (l : List Lk) : Prop := ∀ o o' k a a', o ≠ o' → Has l o k a → Has l o' k a' → a = false

theorem clash_iff (x y : Lk) : clash x y = true ↔ x.o ≠ y.o ∧ (x.a = true ∨ y.a = true) ∧ x.f < y.t ∧ y.f < x.t := by
  unfold clash
  simp only [Bool.and_eq_true, Bool.or_eq_true, decide_eq_true_eq, bne_iff_ne, ne_eq]
  simp only [and_assoc]

theorem pw_any {α : Type} {R : α → α → Prop} (hs : ∀ a b, R a b → R b a) {l : List α} (h : l.Pairwise R) {x y : α} (hx : x ∈ l) (hy : y ∈ l) (hne : x ≠ y) : R x y := by
  induction l with
  | nil => cases hx
  | cons z r ih =>
    rw [List.pairwise_cons] at h
    rcases List.mem_cons.1 hx with rfl | hx'
    · rcases List.mem_cons.1 hy with rfl | hy'
      · exact absurd rfl hne
      · exact h.1 y hy'
    · rcases List.mem_cons.1 hy with rfl | hy'
      · exact hs _ _ (h.1 x hx')
      · exact ih h.2 hx' hy'

theorem right_iff (l : List Lk) : Right l ↔ Ok l ∧ Fair l := by
  constructor
  · rintro ⟨h1, h2⟩
    refine ⟨⟨h1, pw_mem (fun _ _ _ _ h => h.1) h2⟩, ?_⟩
    rintro o o' k a a' hne ⟨y, hy, ey1, ey2, ey3, ey4⟩ ⟨z, hz, ez1, ez2, ez3, ez4⟩
    have hc : l.Pairwise fun y z => clash y z = false := pw_mem (fun _ _ _ _ h => h.2) h2
    have hyz : y ≠ z := by rintro rfl; exact hne (by omega)
    have h := pw_any (fun a b h => by rw [clash_comm]; exact h) hc hy hz hyz
    rcases ha : a with _ | _
    · rfl
    · exfalso
      have : clash y z = true := (clash_iff _ _).2 ⟨by omega, .inl (by rw [ey4, ha]), by omega, by omega⟩
      rw [h] at this
      cases this
  · rintro ⟨⟨h1, h2⟩, h3⟩
    refine ⟨h1, pw_mem (fun y hy z hz h => ⟨h, ?_⟩) h2⟩
    rcases hc : clash y z with _ | _
    · rfl
    · exfalso
      rw [clash_iff] at hc
      obtain ⟨c1, c2, c3, c4⟩ := hc
      have ry := (range_iff y).1 (h1 y hy)
      have rz := (range_iff z).1 (h1 z hz)
      by_cases hm : y.f ≤ z.f
      · have A : Has l y.o z.f y.a := ⟨y, hy, rfl, hm, by omega, rfl⟩
        have B : Has l z.o z.f z.a := ⟨z, hz, rfl, Int.le_refl _, by omega, rfl⟩
        have e1 := h3 _ _ _ _ _ c1 A B
        have e2 := h3 _ _ _ _ _ (Ne.symm c1) B A
        rw [e1, e2] at c2
        simp at c2
      · have A : Has l y.o y.f y.a := ⟨y, hy, rfl, Int.le_refl _, by omega, rfl⟩
        have B : Has l z.o y.f z.a := ⟨z, hz, rfl, by omega, by omega, rfl⟩
        have e1 := h3 _ _ _ _ _ c1 A B
        have e2 := h3 _ _ _ _ _ (Ne.symm c1) B A
        rw [e1, e2] at c2
        simp at c2

def before (y z : Lk) : Prop := y.o < z.o ∨ (y.o = z.o ∧ y.t ≤ z.f)

theorem ok_before {l : List Lk} (h : Ok l) : l.Pairwise before := by
  refine pw_mem (fun y hy z hz ho => ?_) h.2
  rw [order_iff] at ho
  unfold before
  by_cases e : y.o = z.o
  · exact .inr ⟨e, by rcases ho.2 e with h | ⟨h, _⟩ <;> omega⟩
  · exact .inl (by omega)

/-- Of two that are apart, and in the order of the sort, the one is before the other. -/
def apart (y z : Lk) : Prop := y.o ≠ z.o ∨ y.t ≤ z.f ∨ z.t ≤ y.f
theorem apart_comm (y z : Lk) (h : apart y z) : apart z y := by unfold apart at *; omega
theorem before_apart {y z : Lk} (h : before y z) : apart y z := by unfold before apart at *; omega
theorem before_of {y z : Lk} (hz : range z = false) (ha : apart y z) (hs : less z y = false) : before y z := by
  rw [range_iff] at hz
  simp only [less, Bool.or_eq_false_iff, decide_eq_false_iff_not, Bool.and_eq_false_iff, beq_eq_false_iff_ne] at hs
  unfold apart at ha
  unfold before
  omega

theorem push_has {out : List Lk} {x : Lk} (hr : ∀ y ∈ out, range y = false) (hx : range x = false) (o k : Int) (a : Bool) :
    Has (push out x) o k a ↔ Has out o k a ∨ Has [x] o k a := by
  rcases List.eq_nil_or_concat out with rfl | ⟨r, y, rfl⟩
  · rw [push_nil]
    simp [Has]
  · simp only [List.concat_eq_append] at *
    rcases ht : touch y x with _ | _
    · rw [push_apart _ _ _ ht, has_append]
    · rw [push_touch _ _ _ ht, has_append, has_append, has_one, has_one, has_one]
      simp only [touch, Bool.and_eq_true, beq_iff_eq] at ht
      obtain ⟨⟨e1, e2⟩, e3⟩ := ht
      have ry := (range_iff y).1 (hr y (by simp))
      rw [range_iff] at hx
      unfold In
      constructor
      · rintro (h | ⟨⟨h1, h2, h3⟩, h4⟩)
        · exact .inl (.inl h)
        · dsimp only at h1 h2 h3 h4
          by_cases hk : k < y.t
          · exact .inl (.inr ⟨⟨h1, h2, hk⟩, h4⟩)
          · exact .inr ⟨⟨by omega, by omega, h3⟩, by rw [h4, e3]⟩
      · rintro ((h | ⟨⟨h1, h2, h3⟩, h4⟩) | ⟨⟨h1, h2, h3⟩, h4⟩)
        · exact .inl h
        · exact .inr ⟨⟨h1, h2, by dsimp only; omega⟩, h4⟩
        · exact .inr ⟨⟨by dsimp only; omega, by dsimp only; omega, h3⟩, by rw [h4, e3]⟩

theorem push_ok {out : List Lk} {x : Lk} (h : Ok out) (hx : range x = false) (hb : ∀ y ∈ out, before y x) : Ok (push out x) := by
  rcases List.eq_nil_or_concat out with rfl | ⟨r, y, rfl⟩
  · rw [push_nil]
    exact ⟨by simpa using hx, List.pairwise_singleton _ _⟩
  · simp only [List.concat_eq_append] at *
    have hby := hb y (by simp)
    have ry := h.1 y (by simp)
    obtain ⟨h1, h2⟩ := h
    rw [List.pairwise_append] at h2
    obtain ⟨h2, _, h3⟩ := h2
    rcases ht : touch y x with _ | _
    · rw [push_apart _ _ _ ht]
      have hyx : order y x = false := by
        rw [order_iff]
        rw [range_iff] at ry hx
        unfold before at hby
        refine ⟨by omega, fun e => ?_⟩
        by_cases e2 : y.t = x.f
        · refine .inr ⟨e2, fun e3 => ?_⟩
          simp [touch, e, e2, e3] at ht
        · exact .inl (by omega)
      refine ⟨?_, ?_⟩
      · intro z hz
        rcases List.mem_append.1 hz with hz | hz
        · exact h1 z hz
        · rw [List.mem_singleton.1 hz]; exact hx
      · rw [List.pairwise_append, List.pairwise_append]
        refine ⟨⟨h2, List.pairwise_singleton _ _, h3⟩, List.pairwise_singleton _ _, ?_⟩
        intro z hz w hw
        rw [List.mem_singleton.1 hw]
        rcases List.mem_append.1 hz with hz | hz
        · exact order_trans ry (h3 z hz y (by simp)) hyx
        · rw [List.mem_singleton.1 hz]; exact hyx
    · rw [push_touch _ _ _ ht]
      simp only [touch, Bool.and_eq_true, beq_iff_eq] at ht
      obtain ⟨⟨e1, e2⟩, e3⟩ := ht
      refine ⟨?_, ?_⟩
      · intro z hz
        rcases List.mem_append.1 hz with hz | hz
        · exact h1 z (List.mem_append_left _ hz)
        · rw [List.mem_singleton.1 hz]
          rw [range_iff] at ry hx ⊢
          dsimp only
          omega
      · rw [List.pairwise_append]
        refine ⟨h2, List.pairwise_singleton _ _, ?_⟩
        intro z hz w hw
        rw [List.mem_singleton.1 hw]
        exact h3 z hz y (by simp)

theorem push_before {out : List Lk} {x z : Lk} (hb : ∀ y ∈ out, before y z) (hx : before x z) : ∀ y ∈ push out x, before y z := by
  rcases List.eq_nil_or_concat out with rfl | ⟨r, y, rfl⟩
  · rw [push_nil]; simpa using hx
  · simp only [List.concat_eq_append] at *
    intro v hv
    rcases ht : touch y x with _ | _
    · rw [push_apart _ _ _ ht] at hv
      rcases List.mem_append.1 hv with hv | hv
      · exact hb v hv
      · rw [List.mem_singleton.1 hv]; exact hx
    · rw [push_touch _ _ _ ht] at hv
      simp only [touch, Bool.and_eq_true, beq_iff_eq] at ht
      rcases List.mem_append.1 hv with hv | hv
      · exact hb v (List.mem_append_left _ hv)
      · rw [List.mem_singleton.1 hv]
        unfold before at hx ⊢
        dsimp only
        omega

theorem fold_ok : ∀ (l out : List Lk), Ok out → (∀ x ∈ l, range x = false) → l.Pairwise before → (∀ y ∈ out, ∀ x ∈ l, before y x) →
    Ok (l.foldl push out) ∧ ∀ o k a, Has (l.foldl push out) o k a ↔ Has out o k a ∨ Has l o k a
  | [], out, h, _, _, _ => ⟨h, fun o k a => by simp [Has]⟩
  | x :: l, out, h, hr, hp, hb => by
    rw [List.foldl_cons]
    have hx := hr x (by simp)
    rw [List.pairwise_cons] at hp
    obtain ⟨h1, h2⟩ := fold_ok l (push out x) (push_ok h hx fun y hy => hb y hy x (by simp)) (fun y hy => hr y (by simp [hy])) hp.2
      (fun y hy z hz => push_before (fun y hy => hb y hy z (by simp [hz])) (hp.1 z hz) y hy)
    refine ⟨h1, fun o k a => ?_⟩
    rw [h2, push_has h.1 hx, show x :: l = [x] ++ l from rfl, has_append, or_assoc]

theorem ok_nil : Ok [] := ⟨fun _ h => (nomatch h), List.Pairwise.nil⟩
theorem tidy_ok {l : List Lk} (hr : ∀ x ∈ l, range x = false) (hp : l.Pairwise before) : Ok (tidy l) ∧ ∀ o k a, Has (tidy l) o k a ↔ Has l o k a := by
  obtain ⟨h1, h2⟩ := fold_ok l [] ok_nil hr hp (fun _ h => (nomatch h))
  refine ⟨h1, fun o k a => ?_⟩
  unfold tidy
  rw [h2]
  simp [Has]

/-- Who has it has it one way. -/
theorem has_one_way {l : List Lk} (h : Ok l) {o k : Int} {a a' : Bool} (h1 : Has l o k a) (h2 : Has l o k a') : a = a' := by
  obtain ⟨y, hy, y1, y2, y3, y4⟩ := h1
  obtain ⟨z, hz, z1, z2, z3, z4⟩ := h2
  by_cases e : y = z
  · rw [← y4, ← z4, e]
  · have := pw_any apart_comm (pw_mem (fun _ _ _ _ h => before_apart h) (ok_before h)) hy hz e
    unfold apart at this
    omega

theorem ok_tail {x : Lk} {r : List Lk} (h : Ok (x :: r)) : Ok r := ⟨fun y hy => h.1 y (by simp [hy]), (List.pairwise_cons.1 h.2).2⟩
theorem has_tail {x : Lk} {r : List Lk} (h : Ok (x :: r)) (o k : Int) (a : Bool) : Has r o k a ↔ Has (x :: r) o k a ∧ ¬ In x o k := by
  have hb := (List.pairwise_cons.1 (ok_before h)).1
  constructor
  · rintro ⟨y, hy, h1, h2, h3, h4⟩
    refine ⟨⟨y, by simp [hy], h1, h2, h3, h4⟩, ?_⟩
    rintro ⟨e1, e2, e3⟩
    have := hb y hy
    unfold before at this
    omega
  · rintro ⟨⟨y, hy, h1, h2, h3, h4⟩, hn⟩
    rcases List.mem_cons.1 hy with rfl | hy
    · exact absurd ⟨h1.symm, h2, h3⟩ hn
    · exact ⟨y, hy, h1, h2, h3, h4⟩

theorem head_first {x : Lk} {r : List Lk} (h : Ok (x :: r)) {o k : Int} {a : Bool} (hh : Has (x :: r) o k a) : x.o < o ∨ (x.o = o ∧ x.f ≤ k) := by
  have hb := (List.pairwise_cons.1 (ok_before h)).1
  have hx := (range_iff x).1 (h.1 x (by simp))
  obtain ⟨y, hy, h1, h2, h3, h4⟩ := hh
  rcases List.mem_cons.1 hy with rfl | hy
  · exact .inr ⟨h1, h2⟩
  · have := hb y hy
    unfold before at this
    omega

theorem head_end {x : Lk} {r : List Lk} (h : Ok (x :: r)) : ¬ Has (x :: r) x.o x.t x.a := by
  rintro ⟨y, hy, h1, h2, h3, h4⟩
  rcases List.mem_cons.1 hy with rfl | hy
  · omega
  · have := (List.pairwise_cons.1 h.2).1 y hy
    rw [order_iff] at this
    rcases this.2 h1.symm with h | ⟨_, h⟩
    · omega
    · exact h h4.symm

/-- Locks in order are told by who has what. -/
theorem ok_unique : ∀ {l m : List Lk}, Ok l → Ok m → (∀ o k a, Has l o k a ↔ Has m o k a) → l = m
  | [], [], _, _, _ => rfl
  | x :: r, [], hl, _, h => by
    have hx := (range_iff x).1 (hl.1 x (by simp))
    obtain ⟨y, hy, _⟩ := (h x.o x.f x.a).1 ⟨x, by simp, rfl, Int.le_refl _, by omega, rfl⟩
    cases hy
  | [], y :: s, _, hm, h => by
    have hy := (range_iff y).1 (hm.1 y (by simp))
    obtain ⟨z, hz, _⟩ := (h y.o y.f y.a).2 ⟨y, by simp, rfl, Int.le_refl _, by omega, rfl⟩
    cases hz
  | x :: r, y :: s, hl, hm, h => by
    have hx := (range_iff x).1 (hl.1 x (by simp))
    have hy := (range_iff y).1 (hm.1 y (by simp))
    have gx : Has (x :: r) x.o x.f x.a := ⟨x, by simp, rfl, Int.le_refl _, by omega, rfl⟩
    have gy : Has (y :: s) y.o y.f y.a := ⟨y, by simp, rfl, Int.le_refl _, by omega, rfl⟩
    have p1 := head_first hm ((h _ _ _).1 gx)
    have p2 := head_first hl ((h _ _ _).2 gy)
    have eo : x.o = y.o := by omega
    have ef : x.f = y.f := by omega
    have ea : x.a = y.a := by
      rw [← eo, ← ef] at gy
      exact has_one_way hm ((h _ _ _).1 gx) gy
    have et : x.t = y.t := by
      apply Decidable.byContradiction
      intro hne
      by_cases hlt : x.t < y.t
      · exact head_end hl ((h _ _ _).2 ⟨y, by simp, eo.symm, by omega, hlt, ea.symm⟩)
      · exact head_end hm ((h _ _ _).1 ⟨x, by simp, eo, by omega, by omega, ea⟩)
    have e : x = y := by
      cases x; cases y
      simp only at eo ef ea et
      subst eo ef ea et
      rfl
    subst e
    rw [ok_unique (ok_tail hl) (ok_tail hm) fun o k a => by rw [has_tail hl, has_tail hm, h]]

theorem cut_range {l : List Lk} (x : Lk) (h : ∀ y ∈ l, range y = false) : ∀ z ∈ cut l x, range z = false := by
  intro z hz
  obtain ⟨y, hy, hz⟩ := List.mem_flatMap.1 hz
  obtain ⟨h1, h2, h3, h4, h5, h6⟩ := mem_cut1 hz
  have hr := h y hy
  rw [range_iff] at hr ⊢
  have := h5 (by omega)
  omega
theorem cut_off {l : List Lk} {x : Lk} (hx : range x = false) : ∀ z ∈ cut l x, apart z x := by
  intro z hz
  obtain ⟨y, hy, hz⟩ := List.mem_flatMap.1 hz
  obtain ⟨h1, h2, h3, h4, h5, h6⟩ := mem_cut1 hz
  rw [range_iff] at hx
  unfold apart
  by_cases e : z.o = x.o
  · exact .inr (h6 (by omega) e)
  · exact .inl e
theorem cut1_ok {x y : Lk} (hx : range x = false) : (cut1 x y).Pairwise fun y z => order y z = false := by
  rw [range_iff] at hx
  unfold cut1
  split
  · exact List.pairwise_singleton _ _
  · split <;> split <;> simp
    rw [order_iff]
    exact ⟨Int.le_refl _, fun _ => .inl (by dsimp only; omega)⟩
theorem cut_ok {l : List Lk} {x : Lk} (h : Ok l) (hx : range x = false) : Ok (cut l x) := by
  refine ⟨cut_range x h.1, ?_⟩
  have hp := h.2
  clear h
  induction l with
  | nil => exact List.Pairwise.nil
  | cons y r ih =>
    have e : cut (y :: r) x = cut1 x y ++ cut r x := rfl
    rw [e, List.pairwise_append]
    rw [List.pairwise_cons] at hp
    refine ⟨cut1_ok hx, ih hp.2, ?_⟩
    intro u hu v hv
    obtain ⟨z, hz, hv⟩ := List.mem_flatMap.1 hv
    have ho := hp.1 z hz
    obtain ⟨a1, a2, a3, a4, a5, a6⟩ := mem_cut1 hu
    obtain ⟨b1, b2, b3, b4, b5, b6⟩ := mem_cut1 hv
    rw [order_iff] at ho ⊢
    refine ⟨by omega, fun e => ?_⟩
    rcases ho.2 (by omega) with h | ⟨h, h'⟩
    · exact .inl (by omega)
    · by_cases e2 : u.t = v.f
      · exact .inr ⟨e2, by rw [a2, b2]; exact h'⟩
      · exact .inl (by omega)

theorem taken_ok {l l' : List Lk} {x : Lk} (h : Ok l) (hx : range x = false) (hp : l'.Perm (cut l x ++ [x])) (hs : l'.Pairwise fun x y => less y x = false) :
    Ok (tidy l') ∧ ∀ o k a, Has (tidy l') o k a ↔ (Has l o k a ∧ ¬ In x o k) ∨ (In x o k ∧ a = x.a) := by
  have hc := cut_ok h hx
  have hr : ∀ y ∈ l', range y = false := by
    intro y hy
    rcases List.mem_append.1 (hp.mem_iff.1 hy) with hy | hy
    · exact hc.1 y hy
    · rw [List.mem_singleton.1 hy]; exact hx
  have ha : l'.Pairwise apart := by
    refine (hp.pairwise_iff (fun {y z} h => apart_comm y z h)).2 ?_
    rw [List.pairwise_append]
    refine ⟨pw_mem (fun _ _ _ _ h => before_apart h) (ok_before hc), List.pairwise_singleton _ _, ?_⟩
    intro y hy z hz
    rw [List.mem_singleton.1 hz]
    exact cut_off hx y hy
  have hb : l'.Pairwise before := pw_mem (fun _ _ z hz h => before_of (hr z hz) h.1 h.2) (List.Pairwise.and ha hs)
  obtain ⟨h1, h2⟩ := tidy_ok hr hb
  refine ⟨h1, fun o k a => ?_⟩
  rw [h2, has_perm hp, has_append, has_cut (by rw [range_iff] at hx; omega), has_one]

theorem freed_right {l : List Lk} {x : Lk} (h : Right l) (hx : range x = false) : Right (cut l x) ∧ ∀ o k a, Has (cut l x) o k a ↔ Has l o k a ∧ ¬ In x o k := by
  rw [right_iff] at h
  have hh := has_cut (by rw [range_iff] at hx; omega : x.f < x.t) l
  refine ⟨(right_iff _).2 ⟨cut_ok h.1 hx, ?_⟩, hh⟩
  intro o o' k a a' hne h1 h2
  exact h.2 o o' k a a' hne ((hh _ _ _).1 h1).1 ((hh _ _ _).1 h2).1

theorem taken_right {l l' : List Lk} {x : Lk} (h : Right l) (hx : range x = false) (hm : (meets l x).isSome = false) (hp : l'.Perm (cut l x ++ [x])) (hs : l'.Pairwise fun x y => less y x = false) :
    Right (tidy l') ∧ ∀ o k a, Has (tidy l') o k a ↔ (Has l o k a ∧ ¬ In x o k) ∨ (In x o k ∧ a = x.a) := by
  rw [right_iff] at h
  obtain ⟨h1, hh⟩ := taken_ok h.1 hx hp hs
  have hm' : ∀ y ∈ l, clash y x = false := by
    intro y hy
    have := List.find?_eq_none.1 (by simpa [meets] using hm : l.find? (fun y => clash y x) = none) y hy
    simpa using this
  have key : ∀ o k a, o ≠ x.o → Has l o k a → x.f ≤ k → k < x.t → a = false ∧ x.a = false := by
    rintro o k a hne ⟨y, hy, e1, e2, e3, e4⟩ k1 k2
    have hc := hm' y hy
    rcases ha : y.a with _ | _
    · rcases hxa : x.a with _ | _
      · exact ⟨by rw [← e4, ha], rfl⟩
      · rw [(clash_iff y x).2 ⟨by omega, .inr hxa, by omega, by omega⟩] at hc
        cases hc
    · rw [(clash_iff y x).2 ⟨by omega, .inl ha, by omega, by omega⟩] at hc
      cases hc
  refine ⟨(right_iff _).2 ⟨h1, ?_⟩, hh⟩
  intro o o' k a a' hne g1 g2
  rw [hh] at g1 g2
  rcases g1 with ⟨g1, _⟩ | ⟨⟨i1, i2, i3⟩, i4⟩
  · rcases g2 with ⟨g2, _⟩ | ⟨⟨i1, i2, i3⟩, i4⟩
    · exact h.2 o o' k a a' hne g1 g2
    · exact (key o k a (by omega) g1 i2 i3).1
  · rcases g2 with ⟨g2, _⟩ | ⟨⟨j1, j2, j3⟩, j4⟩
    · rw [i4]; exact (key o' k a' (by omega) g2 i2 i3).2
    · exact absurd (by omega) hne

theorem leave_right {l : List Lk} (o : Int) (h : Right l) : Right (leave l o) :=
  ⟨fun x hx => h.1 x (List.mem_filter.1 hx).1, List.Pairwise.filter _ h.2⟩

end Lk
end Go.Proofs.YtjppfhgkanbemacGreatDoor
