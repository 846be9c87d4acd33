/-
  Words on texts that later walks share.
-/
import Derived.Test.YtjppfhgkanbemabDoorPtClean2
namespace Go.Proofs.YtjppfhgkanbemabDoor
open Go.RowKit Go.Shelf

theorem toList_beq (a b : ByteArray) : (a.toList == b.toList) = (a.data.toList == b.data.toList) := by rw [Lib.toList_data, Lib.toList_data]
/-- A text is empty, or it isn't: in the walk's spellings. -/
theorem empty_cases (a : ByteArray) : (a.data.toList = [] ∧ a.toList = [] ∧ a.toList.isEmpty = true) ∨ (¬ a.data.toList = [] ∧ ¬ a.toList = [] ∧ a.toList.isEmpty = false) := by
  by_cases h : a.data.toList = []
  · exact .inl ⟨h, empty_of h, isEmpty_of h⟩
  · exact .inr ⟨h, nonempty_of h, notEmpty_of h⟩

theorem cut_len (s : ByteArray) : (Pt.dirOf s.data.toList).length ≤ s.size ∧ (Pt.nameOf s.data.toList).length ≤ s.size := by
  rcases cut_of_last s with ⟨_, hn⟩ | ⟨i, hi, _, hc, hn⟩
  · rw [(cut_no hn).1, (cut_no hn).2, size_length]; simp
  · have h := cut_at (by simpa using hi) hc hn
    rw [h.1, h.2, List.length_take, List.length_drop, size_length]; omega

end Go.Proofs.YtjppfhgkanbemabDoor
