/-
  The plain law of locks: what is right, what bytes are had, what cut and tidy do to these. No program in sight.
-/
import Derived.Test.YtjppfhgkanbemaaLkPure2
namespace Go.Proofs.Ytjppfhgkanbemaa
namespace Lk

def Right (l : List Lk) : Prop := (∀ x ∈ l, range x = false) ∧ l.Pairwise fun y z => order y z = false ∧ clash y z = false

theorem range_iff (x : Lk) : range x = false ↔ 0 ≤ x.o ∧ x.o < 4 ∧ 0 ≤ x.f ∧ x.f < x.t ∧ x.t ≤ 1000 := by
  simp only [range, Bool.or_eq_false_iff, decide_eq_false_iff_not]
  omega
theorem order_iff (y x : Lk) : order y x = false ↔ y.o ≤ x.o ∧ (y.o = x.o → y.t < x.f ∨ (y.t = x.f ∧ y.a ≠ x.a)) := by
  simp only [order, Bool.or_eq_false_iff, decide_eq_false_iff_not, Bool.and_eq_false_iff, beq_eq_false_iff_ne]
  constructor
  · rintro ⟨h1, h2⟩
    refine ⟨by omega, fun e => ?_⟩
    rcases h2 with h2 | ⟨h2, h3 | h3⟩
    · exact absurd e h2
    · omega
    · by_cases h4 : y.t = x.f
      · exact .inr ⟨h4, h3⟩
      · omega
  · rintro ⟨h1, h2⟩
    refine ⟨by omega, ?_⟩
    by_cases e : y.o = x.o
    · rcases h2 e with h | ⟨h, h'⟩
      · exact .inr ⟨by omega, .inl (by omega)⟩
      · exact .inr ⟨by omega, .inr h'⟩
    · exact .inl e
theorem order_trans {x y z : Lk} (hy : range y = false) (h1 : order x y = false) (h2 : order y z = false) : order x z = false := by
  rw [order_iff] at *
  rw [range_iff] at hy
  refine ⟨by omega, fun e => .inl ?_⟩
  have e1 : x.o = y.o := by omega
  have e2 : y.o = z.o := by omega
  rcases h1.2 e1 with h | ⟨h, _⟩ <;> rcases h2.2 e2 with h' | ⟨h', _⟩ <;> omega

theorem badAt_zero {p : List Lk} {x : Lk} : badAt p x = 0 ↔ range x = false ∧ (p.getLast?.any fun y => order y x) = false ∧ p.any (fun y => clash y x) = false := by
  unfold badAt
  rcases h1 : range x with _ | _
  · rcases h2 : (p.getLast?.any fun y => order y x) with _ | _
    · rcases h3 : p.any (fun y => clash y x) with _ | _ <;> simp
    · simp
  · simp

theorem right_snoc {p : List Lk} {x : Lk} : Right (p ++ [x]) ↔ Right p ∧ badAt p x = 0 := by
  rw [badAt_zero]
  unfold Right
  rw [List.pairwise_append]
  simp only [List.mem_append, List.mem_singleton, List.any_eq_false, forall_eq]
  constructor
  · rintro ⟨h1, h2, _, h3⟩
    refine ⟨⟨fun y hy => h1 y (.inl hy), h2⟩, h1 x (.inr rfl), ?_, fun y hy => by simp [(h3 y hy).2]⟩
    rcases List.eq_nil_or_concat p with rfl | ⟨q, y, rfl⟩
    · rfl
    · simp only [List.concat_eq_append, List.getLast?_append, List.getLast?_singleton, Option.some_or, Option.any_some]
      exact (h3 y (by simp)).1
  · rintro ⟨⟨h1, h2⟩, hx, h3, h4⟩
    refine ⟨fun y hy => ?_, h2, List.pairwise_singleton _ _, fun y hy => ⟨?_, by simpa using h4 y hy⟩⟩
    · rcases hy with hy | rfl
      · exact h1 y hy
      · exact hx
    rcases List.eq_nil_or_concat p with rfl | ⟨q, z, rfl⟩
    · cases hy
    · simp only [List.concat_eq_append, List.getLast?_append, List.getLast?_singleton, Option.some_or, Option.any_some] at h3
      simp only [List.concat_eq_append, List.mem_append, List.mem_singleton] at hy h1
      rcases hy with hy | rfl
      · rw [List.concat_eq_append, List.pairwise_append] at h2
        exact order_trans (h1 z (.inr rfl)) (h2.2.2 y hy z (by simp)).1 h3
      · exact h3

theorem wrongFrom_right : ∀ (r p : List Lk), Right p → ((wrongFrom p r).1 = 0 ↔ Right (p ++ r))
  | [], p, hp => by simp [wrongFrom, hp]
  | x :: r, p, hp => by
    have e : p ++ x :: r = (p ++ [x]) ++ r := by simp
    rw [wrongFrom]
    by_cases hb : badAt p x = 0
    · rw [if_pos hb, wrongFrom_right r (p ++ [x]) (right_snoc.2 ⟨hp, hb⟩), e]
    · rw [if_neg hb]
      refine ⟨fun h => absurd h hb, fun h => ?_⟩
      exfalso
      rw [e] at h
      have : Right (p ++ [x]) := ⟨fun y hy => h.1 y (List.mem_append_left _ hy), (List.pairwise_append.1 h.2).1⟩
      exact hb (right_snoc.1 this).2

theorem right_nil : Right [] := ⟨fun _ h => (nomatch h), List.Pairwise.nil⟩
theorem wrong_zero (l : List Lk) : (wrong l).1 = 0 ↔ l.length ≤ 40 ∧ Right l := by
  unfold wrong
  by_cases h : 40 < l.length
  · rw [if_pos h]; simp; omega
  · rw [if_neg h, wrongFrom_right l [] right_nil]
    simp
    omega
theorem right_one (x : Lk) : Right [x] ↔ range x = false := by
  simp [Right]

/-- An owner has a byte, so. -/
def Has (l : List Lk) (o k : Int) (a : Bool) : Prop := ∃ y ∈ l, y.o = o ∧ y.f ≤ k ∧ k < y.t ∧ y.a = a
def In (x : Lk) (o k : Int) : Prop := o = x.o ∧ x.f ≤ k ∧ k < x.t

theorem has_append (l m : List Lk) (o k : Int) (a : Bool) : Has (l ++ m) o k a ↔ Has l o k a ∨ Has m o k a := by
  unfold Has
  simp only [List.mem_append]
  constructor
  · rintro ⟨y, h | h, hr⟩
    · exact .inl ⟨y, h, hr⟩
    · exact .inr ⟨y, h, hr⟩
  · rintro (⟨y, h, hr⟩ | ⟨y, h, hr⟩)
    · exact ⟨y, .inl h, hr⟩
    · exact ⟨y, .inr h, hr⟩
theorem has_one (x : Lk) (o k : Int) (a : Bool) : Has [x] o k a ↔ In x o k ∧ a = x.a := by
  unfold Has In
  simp only [List.mem_singleton]
  constructor
  · rintro ⟨y, rfl, h1, h2, h3, h4⟩
    exact ⟨⟨h1.symm, h2, h3⟩, h4.symm⟩
  · rintro ⟨⟨h1, h2, h3⟩, h4⟩
    exact ⟨x, rfl, h1.symm, h2, h3, h4.symm⟩
theorem has_perm {l m : List Lk} (h : l.Perm m) (o k : Int) (a : Bool) : Has l o k a ↔ Has m o k a := by
  unfold Has
  constructor
  · rintro ⟨y, hy, hr⟩; exact ⟨y, h.mem_iff.1 hy, hr⟩
  · rintro ⟨y, hy, hr⟩; exact ⟨y, h.mem_iff.2 hy, hr⟩

theorem mem_cut1 {x y z : Lk} (h : z ∈ cut1 x y) : z.o = y.o ∧ z.a = y.a ∧ y.f ≤ z.f ∧ z.t ≤ y.t ∧ (y.f < y.t → z.f < z.t) ∧ (x.f < x.t → z.o = x.o → z.t ≤ x.f ∨ x.t ≤ z.f) := by
  unfold cut1 at h
  split at h
  · rename_i hc
    simp only [List.mem_singleton] at h
    subst h
    refine ⟨rfl, rfl, Int.le_refl _, Int.le_refl _, fun h => h, fun _ e => ?_⟩
    rcases hc with hc | hc | hc
    · exact absurd e hc
    · exact .inl hc
    · exact .inr hc
  · rename_i hc
    rw [List.mem_append] at h
    rcases h with h | h
    · split at h
      · simp only [List.mem_singleton] at h
        subst h
        refine ⟨rfl, rfl, Int.le_refl _, ?_, ?_, fun _ _ => .inl (Int.le_refl _)⟩ <;> dsimp only <;> omega
      · cases h
    · split at h
      · simp only [List.mem_singleton] at h
        subst h
        refine ⟨rfl, rfl, ?_, Int.le_refl _, ?_, fun _ _ => .inr (Int.le_refl _)⟩ <;> dsimp only <;> omega
      · cases h

theorem has_cut1 {x y : Lk} (hx : x.f < x.t) (o k : Int) (a : Bool) : Has (cut1 x y) o k a ↔ Has [y] o k a ∧ ¬ In x o k := by
  rw [has_one]
  unfold cut1 In
  split
  · rename_i hc
    rw [has_one]
    unfold In
    constructor
    · rintro ⟨⟨h1, h2, h3⟩, h4⟩
      refine ⟨⟨⟨h1, h2, h3⟩, h4⟩, ?_⟩
      rintro ⟨e1, e2, e3⟩
      rcases hc with hc | hc | hc
      · exact hc (by omega)
      · omega
      · omega
    · exact fun h => h.1
  · rename_i hc
    rw [has_append]
    have e : y.o = x.o := by
      apply Decidable.byContradiction
      intro h; exact hc (.inl h)
    have h1 : ¬ y.t ≤ x.f := fun h => hc (.inr (.inl h))
    have h2 : ¬ x.t ≤ y.f := fun h => hc (.inr (.inr h))
    have hnil : ∀ o k a, ¬ Has [] o k a := fun _ _ _ ⟨_, h, _⟩ => by cases h
    by_cases p : y.f < x.f <;> by_cases q : x.t < y.t <;> simp only [p, q, if_true, if_false, has_one, hnil, In, or_false, false_or]
    all_goals constructor
    all_goals first
      | (rintro (⟨⟨e1, e2, e3⟩, e4⟩ | ⟨⟨e1, e2, e3⟩, e4⟩) <;> refine ⟨⟨⟨e1, by omega, by omega⟩, e4⟩, by omega⟩)
      | (rintro ⟨⟨e1, e2, e3⟩, e4⟩; refine ⟨⟨⟨e1, by omega, by omega⟩, e4⟩, by omega⟩)
      | (rintro ⟨⟨⟨e1, e2, e3⟩, e4⟩, e5⟩
         by_cases hk : k < x.f
         · exact .inl ⟨⟨e1, e2, hk⟩, e4⟩
         · exact .inr ⟨⟨e1, by omega, e3⟩, e4⟩)
      | (rintro ⟨⟨⟨e1, e2, e3⟩, e4⟩, e5⟩; exact ⟨⟨e1, by omega, by omega⟩, e4⟩)
      | (rintro ⟨⟨⟨e1, e2, e3⟩, e4⟩, e5⟩; exact absurd ⟨by omega, by omega, by omega⟩ e5)
      | (intro h; exact h.elim)

theorem has_cut {x : Lk} (hx : x.f < x.t) (l : List Lk) (o k : Int) (a : Bool) : Has (cut l x) o k a ↔ Has l o k a ∧ ¬ In x o k := by
  induction l with
  | nil => simp [cut, Has]
  | cons y r ih =>
    have e : cut (y :: r) x = cut1 x y ++ cut r x := rfl
    rw [e, has_append, ih, has_cut1 hx, show y :: r = [y] ++ r from rfl, has_append]
    constructor
    · rintro (⟨h, h'⟩ | ⟨h, h'⟩)
      · exact ⟨.inl h, h'⟩
      · exact ⟨.inr h, h'⟩
    · rintro ⟨h | h, h'⟩
      · exact .inl ⟨h, h'⟩
      · exact .inr ⟨h, h'⟩
end Lk
end Go.Proofs.Ytjppfhgkanbemaa
