/-
  The walk of PathOrder: it returns true.
-/
import Derived.Test.YtjppfhgkanbemaaDoorPtJoins
namespace Go.Proofs.YtjppfhgkanbemaaDoor
open Go.RowKit Go.Shelf

theorem toList_beq (a b : ByteArray) : (a.toList == b.toList) = (a.data.toList == b.data.toList) := by rw [Lib.toList_data, Lib.toList_data]
/-- A text is empty, or it isn't: in the walk's spellings. -/
theorem empty_cases (a : ByteArray) : (a.data.toList = [] ∧ a.toList = [] ∧ a.toList.isEmpty = true) ∨ (¬ a.data.toList = [] ∧ ¬ a.toList = [] ∧ a.toList.isEmpty = false) := by
  by_cases h : a.data.toList = []
  · exact .inl ⟨h, empty_of h, isEmpty_of h⟩
  · exact .inr ⟨h, nonempty_of h, notEmpty_of h⟩

set_option maxRecDepth 100000 in
set_option maxHeartbeats 4000000 in
theorem order_walk (a b c : ByteArray) (n m k : Int) (u1 u2 ab ca : Bool) (w : World)
    (k1 : ∀ W, Calls Tryd.prog 19 #[.string a, .string b] W fun e w' => e = .returned (.int .i64 n) ∧ Below W.heap.size W w')
    (k2 : ∀ W, Calls Tryd.prog 19 #[.string b, .string a] W fun e w' => e = .returned (.int .i64 (-n)) ∧ Below W.heap.size W w')
    (k3 : ∀ W, Calls Tryd.prog 19 #[.string b, .string c] W fun e w' => e = .returned (.int .i64 m) ∧ Below W.heap.size W w')
    (k4 : ∀ W, Calls Tryd.prog 19 #[.string a, .string c] W fun e w' => e = .returned (.int .i64 k) ∧ Below W.heap.size W w')
    (k5 : ∀ W, Calls Tryd.prog 19 #[.string c, .string a] W fun e w' => e = .returned (.int .i64 (-k)) ∧ Below W.heap.size W w')
    (k6 : ∀ W, Calls Tryd.prog 19 #[.string c, .string b] W fun e w' => e = .returned (.int .i64 (-m)) ∧ Below W.heap.size W w')
    (j1 : ∀ W, Calls Tryd.prog 14 #[.string b, .string a] W fun e w' => e = .returned (.bool u1) ∧ w' = W)
    (j2 : ∀ W, Calls Tryd.prog 14 #[.string c, .string a] W fun e w' => e = .returned (.bool u2) ∧ w' = W)
    (eab : (a.toList == b.toList) = ab) (eca : (c.toList == a.toList) = ca) (h0 : (n == 0) = ab) (h1 : n < 0 → m < 0 → k < 0)
    (h2 : ¬ a.data.toList = [] → u1 = true → n < 0 ∧ (ca = true ∨ u2 = true ∨ 0 < k ∨ m < 0)) :
    Calls Tryd.prog 5 #[.string a, .string b, .string c] w fun e w' => e = .returned (.bool true) ∧ Below w.heap.size w w' := by
  have hB := Below.refl w.heap.size w
  have F1 : (n < 0 ∧ m < 0 ∧ k < 0) ∨ (n < 0 ∧ 0 ≤ m) ∨ (n = 0) ∨ (0 < n) := by
    rcases Int.lt_trichotomy n 0 with h | h | h
    · rcases Int.lt_or_le m 0 with h' | h'
      · exact .inl ⟨h, h', h1 h h'⟩
      · exact .inr (.inl ⟨h, h'⟩)
    · exact .inr (.inr (.inl h))
    · exact .inr (.inr (.inr h))
  clear h1
  have lit : ∀ {x : Bool}, (n == 0) = x → (x = true ∧ n = 0) ∨ (x = false ∧ (n == 0) = false) := fun {x} h => by
    cases x
    · exact .inr ⟨rfl, h⟩
    · exact .inl ⟨rfl, by simpa using h⟩
  rcases empty_cases a with ⟨a0, a1, a2⟩ | ⟨a0, a1, a2⟩
  · have hbe : b.toList.isEmpty = ab := by
      rw [a1] at eab
      rw [← eab]
      cases b.toList <;> rfl
    clear h2 a0 j1 j2 eca eab
    rcases lit h0 with ⟨rfl, rfl⟩ | ⟨rfl, hz⟩
    all_goals clear h0
    all_goals rcases F1 with ⟨f1, f2, f3⟩ | ⟨f1, f2⟩ | f1 | f1
    all_goals try (exfalso; omega)
    all_goals try (exfalso; rw [f1] at hz; cases hz)
    all_goals
      go_enter Tryd.func5, Tryd.ntmps5
      go_wp2_with (first
        | (go_at_call 24; refine (pathAlive_any _).mono ?_; rintro e w1 ⟨rfl, hb⟩; replace hB := hB.trans (hb.mono hB.size); clear hb)
        | (go_at_call 19; (with_reducible refine (k1 _).mono ?_); rintro e w2 ⟨rfl, hb⟩; replace hB := hB.trans (hb.mono hB.size); clear hb)
        | (go_at_call 19; (with_reducible refine (k2 _).mono ?_); rintro e w2 ⟨rfl, hb⟩; replace hB := hB.trans (hb.mono hB.size); clear hb)
        | (go_at_call 19; (with_reducible refine (k3 _).mono ?_); rintro e w2 ⟨rfl, hb⟩; replace hB := hB.trans (hb.mono hB.size); clear hb)
        | (go_at_call 19; (with_reducible refine (k4 _).mono ?_); rintro e w2 ⟨rfl, hb⟩; replace hB := hB.trans (hb.mono hB.size); clear hb)
        | (go_at_call 19; (with_reducible refine (k5 _).mono ?_); rintro e w2 ⟨rfl, hb⟩; replace hB := hB.trans (hb.mono hB.size); clear hb)
        | (go_at_call 19; (with_reducible refine (k6 _).mono ?_); rintro e w2 ⟨rfl, hb⟩; replace hB := hB.trans (hb.mono hB.size); clear hb)
        | (go_at_call 14; (with_reducible refine (j1 _).mono ?_); rintro e w' ⟨rfl, rfl⟩)
        | (go_at_call 14; (with_reducible refine (j2 _).mono ?_); rintro e w' ⟨rfl, rfl⟩))
      all_goals (go_ret; exact ⟨rfl, hB⟩)
  · rcases lit h0 with ⟨rfl, rfl⟩ | ⟨rfl, hz⟩
    all_goals clear h0
    all_goals rcases F1 with ⟨f1, f2, f3⟩ | ⟨f1, f2⟩ | f1 | f1
    all_goals try (exfalso; omega)
    all_goals try (exfalso; rw [f1] at hz; cases hz)
    all_goals rcases empty_cases b with ⟨b0, b1, b2⟩ | ⟨b0, b1, b2⟩
    all_goals try (exfalso; rw [b1] at eab; simp at eab; exact a1 eab)
    all_goals clear b0
    all_goals rcases empty_cases c with ⟨e0, e1, e2⟩ | ⟨e0, e1, e2⟩
    all_goals clear e0
    all_goals rcases u1 with _ | _
    all_goals first
      | (have q := h2 a0 rfl
         obtain ⟨q1, q2⟩ := q
         clear h2
         first
           | (exfalso; omega)
           | (rcases q2 with rfl | rfl | q2 | q2))
      | clear h2
    all_goals clear a0
    all_goals
      go_enter Tryd.func5, Tryd.ntmps5
      go_wp2_with (first
        | (go_at_call 24; refine (pathAlive_any _).mono ?_; rintro e w1 ⟨rfl, hb⟩; replace hB := hB.trans (hb.mono hB.size); clear hb)
        | (go_at_call 19; (with_reducible refine (k1 _).mono ?_); rintro e w2 ⟨rfl, hb⟩; replace hB := hB.trans (hb.mono hB.size); clear hb)
        | (go_at_call 19; (with_reducible refine (k2 _).mono ?_); rintro e w2 ⟨rfl, hb⟩; replace hB := hB.trans (hb.mono hB.size); clear hb)
        | (go_at_call 19; (with_reducible refine (k3 _).mono ?_); rintro e w2 ⟨rfl, hb⟩; replace hB := hB.trans (hb.mono hB.size); clear hb)
        | (go_at_call 19; (with_reducible refine (k4 _).mono ?_); rintro e w2 ⟨rfl, hb⟩; replace hB := hB.trans (hb.mono hB.size); clear hb)
        | (go_at_call 19; (with_reducible refine (k5 _).mono ?_); rintro e w2 ⟨rfl, hb⟩; replace hB := hB.trans (hb.mono hB.size); clear hb)
        | (go_at_call 19; (with_reducible refine (k6 _).mono ?_); rintro e w2 ⟨rfl, hb⟩; replace hB := hB.trans (hb.mono hB.size); clear hb)
        | (go_at_call 14; (with_reducible refine (j1 _).mono ?_); rintro e w' ⟨rfl, rfl⟩)
        | (go_at_call 14; (with_reducible refine (j2 _).mono ?_); rintro e w' ⟨rfl, rfl⟩))
      all_goals (go_ret; exact ⟨rfl, hB⟩)

theorem pathOrder_any (a b c : ByteArray) (w : World) (ha : a.size < 4294967281) (hb : b.size < 4294967281) (hc : c.size < 4294967281) :
    Calls Tryd.prog 5 #[.string a, .string b, .string c] w fun e w' => e = .returned (.bool true) ∧ Below w.heap.size w w' := by
  have k2 := fun W => cmp_any b a W hb ha
  have k5 := fun W => cmp_any c a W hc ha
  have k6 := fun W => cmp_any c b W hc hb
  rw [Pt.cmp_neg a.data.toList b.data.toList] at k2
  rw [Pt.cmp_neg a.data.toList c.data.toList] at k5
  rw [Pt.cmp_neg b.data.toList c.data.toList] at k6
  refine order_walk a b c _ _ _ _ _ _ _ w (fun W => cmp_any a b W ha hb) k2 (fun W => cmp_any b c W hb hc) (fun W => cmp_any a c W ha hc) k5 k6
    (fun W => under_any b a W (by omega)) (fun W => under_any c a W (by omega)) rfl rfl ?_ Pt.cmp_trans ?_
  · rw [toList_beq, Bool.eq_iff_iff, beq_iff_eq, beq_iff_eq]
    exact Pt.cmp_eq_zero _ _
  · intro h hu
    obtain ⟨h1, h2⟩ := Pt.order (c := c.data.toList) h hu
    refine ⟨h1, ?_⟩
    rw [toList_beq, beq_iff_eq]
    rcases h2 with h2 | h2 | h2 | h2
    · exact .inl h2
    · exact .inr (.inl h2)
    · rw [Pt.cmp_neg a.data.toList] at h2; exact .inr (.inr (.inl (by omega)))
    · rw [Pt.cmp_neg b.data.toList] at h2; exact .inr (.inr (.inr (by omega)))
end Go.Proofs.YtjppfhgkanbemaaDoor
