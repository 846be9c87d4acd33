/-
  More words for memory: clear over the tail of a row of the call's own; four stores into a row; Clone's append.
-/
import Derived.Test.YtjppfhgkanbemabDoorMem2
import Derived.Laws.CopyRow
import Derived.Lib.SliceRun
namespace Go.Proofs.YtjppfhgkanbemabDoor
open Go.RowKit
theorem grown_alloc {w w' : World} {row : Option Nat} (h : w.grownBy w' row) (o : Obj) : w.grownBy (w'.alloc o) row := grown_of_below h ((Below.refl _ _).alloc (Nat.le_refl _) o)
theorem grown_trans_row {a b c : World} {row : Option Nat} (h : a.grownBy b row) (k : b.grownBy c row) : a.grownBy c row :=
  ⟨k.os.trans h.os, k.tape.trans h.tape, k.output.trans h.output, Nat.le_trans h.size k.size, fun i hi hne => (k.block i (Nat.lt_of_lt_of_le hi h.size) hne).trans (h.block i hi hne)⟩

/-- 'clear(s[k:])' over a row of the call's own. -/
theorem run_clear_own {P : Program} {w : World} {base : Nat} {e size n cap : Nat} {g : Nat} {xs : List Value} (t ty : TypeId) (z : Value) (ht : P.underlying t = some (.slice e)) (hv : ∀ w, (zeroValue e).run P w = .ok z w)
    (hzs : z.cells.size = size) (h1 : ∀ u ∈ z.cells.toList, u.oneCell' = true) (hown : w.ownsRow base e size (.slice (some ⟨g, 0, none⟩) n cap) n xs) (k c : Nat) (A : Option Addr) (hk : k ≤ n) (hA : k < n → A = some ⟨g, k * size, none⟩) :
    ∃ w', (Builtin.clear_ #[t] ty #[.slice A (n - k) c]).run P w = .ok (.tuple #[]) w' ∧ w'.ownsRow base e size (.slice (some ⟨g, 0, none⟩) k cap) k (xs.take (k * size)) ∧ w.grownBy w' (some g) := by
  obtain ⟨hx, h2 | ⟨g', c', cur, hv', hb, hh, hnc, hcm, hs, htk⟩⟩ := hown
  · cases h2.1
  injection hv' with hv1 hv2 hv3
  injection hv1 with hv1
  injection hv1 with hv1
  subst hv1 hv3
  have hsub : k * size ≤ n * size := Nat.mul_le_mul_right _ hk
  have hcur : n * size ≤ cur.size := by rw [hs]; exact Nat.mul_le_mul_right _ hnc
  have hg : g < w.heap.size := by
    rcases Nat.lt_or_ge g w.heap.size with h0 | h0
    · exact h0
    · rw [Array.getElem?_eq_none h0] at hh; cases hh
  rcases Nat.lt_or_ge k n with hlt | hge
  · have hzl : (Builtin.zeroCells z.cells (n - k)).toList.length = (n - k) * size := by simp [Builtin.zeroCells, hzs]
    have hz1 : ∀ u ∈ (Builtin.zeroCells z.cells (n - k)).toList, u.oneCell' = true := by
      intro u hu
      simp only [Builtin.zeroCells, Array.toList_map, List.mem_map, Array.toList_range, List.mem_range] at hu
      obtain ⟨i, hi, rfl⟩ := hu
      have h0 : 0 < z.cells.size := by
        rcases Nat.eq_zero_or_pos z.cells.size with h0 | h0
        · rw [h0] at hi; simp at hi
        · exact h0
      have hm : i % z.cells.size < z.cells.size := Nat.mod_lt _ h0
      rw [getElem!_pos z.cells _ hm]
      exact h1 _ (by simp)
    have hst := run_storeCells_at (P := P) g (k * size) e (Builtin.zeroCells z.cells (n - k)).toList 0 cur w hh (by rw [hzl]; have : (n - k) * size = n * size - k * size := Nat.sub_mul _ _ _; omega) hz1
    rw [hA hlt]
    obtain ⟨m, hm⟩ : ∃ m, n - k = m + 1 := ⟨n - k - 1, by omega⟩
    generalize hzz : (Builtin.zeroCells z.cells (n - k)).toList = zs at *
    generalize hnc' : (cur.toList.take (k * size + 0) ++ zs ++ cur.toList.drop (k * size + 0 + zs.length)).toArray = ncs at *
    refine ⟨w.setRow g ncs, by
      rw [hm]
      simp only [Builtin.clear_]
      rw [hm] at hzz
      simp [run_underlying ht, hv, hzz, hst], ?_, ?_⟩
    · refine ⟨by rw [List.length_take, hx]; omega, .inr ⟨g, cap, ncs, rfl, hb, ?_, by omega, hcm, ?_, ?_⟩⟩
      · simp [World.setRow, Array.getElem?_modify, hh]
      · subst hnc'
        simp only [List.size_toArray, List.length_append, List.length_take, List.length_drop, Array.length_toList, hzl]
        have : (n - k) * size = n * size - k * size := Nat.sub_mul _ _ _
        omega
      · subst hnc'
        rw [← htk]
        simp only [Nat.add_zero, List.append_assoc]
        rw [List.take_append_of_le_length (by simp; omega), List.take_take, List.take_take, Nat.min_self, Nat.min_eq_left hsub]
    · refine ⟨rfl, rfl, rfl, by simp [World.setRow], fun i hi hne => ?_⟩
      simp only [World.setRow, Array.getElem?_modify]
      rw [if_neg (fun he => hne (by rw [he]))]
  · have hkn : n - k = 0 := by omega
    refine ⟨w, ?_, ⟨by rw [List.length_take, hx]; omega, .inr ⟨g, cap, cur, rfl, hb, hh, by omega, hcm, hs, ?_⟩⟩, World.grownBy.refl w _⟩
    · rw [hkn]
      cases A <;> simp [Builtin.clear_, run_underlying ht]
    · rw [← htk, List.take_take, Nat.min_eq_left hsub]

/-- Four stores in a row of the call's own. -/
theorem own_four {w : World} {base : Nat} {e size g n cap : Nat} {xs : List Value} (h : w.ownsRow base e size (.slice (some ⟨g, 0, none⟩) n cap) n xs) (j : Nat) (a b c d : Value) :
    ((((w.setCell ⟨g, j, none⟩ a).setCell ⟨g, j + 1, none⟩ b).setCell ⟨g, j + 2, none⟩ c).setCell ⟨g, j + 3, none⟩ d).ownsRow base e size (.slice (some ⟨g, 0, none⟩) n cap) n ((((xs.set j a).set (j + 1) b).set (j + 2) c).set (j + 3) d) ∧
      w.grownBy ((((w.setCell ⟨g, j, none⟩ a).setCell ⟨g, j + 1, none⟩ b).setCell ⟨g, j + 2, none⟩ c).setCell ⟨g, j + 3, none⟩ d) (some g) := by
  obtain ⟨o1, g1⟩ := h.stored j a
  obtain ⟨o2, g2⟩ := o1.stored (j + 1) b
  obtain ⟨o3, g3⟩ := o2.stored (j + 2) c
  obtain ⟨o4, g4⟩ := o3.stored (j + 3) d
  exact ⟨o4, grown_trans_row (grown_trans_row (grown_trans_row g1 g2) g3) g4⟩
end Go.Proofs.YtjppfhgkanbemabDoor
