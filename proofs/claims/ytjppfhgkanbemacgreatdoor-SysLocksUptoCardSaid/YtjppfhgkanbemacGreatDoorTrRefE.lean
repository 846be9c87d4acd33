/-
  The document's Get and WrongEntry. (Printed by wip/genrefe.py.)
-/
import Derived.Test.YtjppfhgkanbemacGreatDoorMG
import Derived.Deep.CutBlock
import Derived.Deep.DeepCutAuto
namespace Go.Proofs.YtjppfhgkanbemacGreatDoor
open Go.RowKit Go.Shelf Go.Sort

theorem get_found {l : List En} {p : Pt.Bs} {k : Nat} (hk : k < l.length) (hp : p ≠ []) (hno : ∀ y ∈ l.take k, y.P ≠ p) (he : l[k].P = p) : Tr.get l p = some l[k] := by
  unfold Tr.get
  rw [if_neg hp]
  have e : l.find? (fun e => e.P == p) = (l.take k ++ l[k] :: l.drop (k + 1)).find? (fun e => e.P == p) := by
    rw [← List.drop_eq_getElem_cons hk, List.take_append_drop]
  rw [e, List.find?_append, List.find?_eq_none.2 (fun y hy => by simp [hno y hy]), Option.none_or, List.find?_cons]
  simp [he]
theorem path_ne {y : En} {p : ByteArray} (h : (y.p.toList == p.toList) = false) : y.P ≠ p.data.toList := by
  rw [beq_eq_false_iff_ne, Lib.toList_data, Lib.toList_data] at h; exact h
theorem path_eq {y : En} {p : ByteArray} (h : (y.p.toList == p.toList) = true) : y.P = p.data.toList := by
  rw [beq_iff_eq, Lib.toList_data, Lib.toList_data] at h; exact h

end Go.Proofs.YtjppfhgkanbemacGreatDoor
