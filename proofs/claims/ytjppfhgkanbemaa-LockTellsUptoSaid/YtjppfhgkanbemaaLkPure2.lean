/-
  Plain laws of lock's Wrong: what badAt and wrongFrom come to, case by case. No program in sight.
-/
import Derived.Test.YtjppfhgkanbemaaLkPure
namespace Go.Proofs.Ytjppfhgkanbemaa
namespace Lk
theorem badAt_range {p : List Lk} {x : Lk} (h : range x = true) : badAt p x = 3 := if_pos h
theorem badAt_order {p : List Lk} {x : Lk} (h : range x = false) (ho : (p.getLast?.any fun y => order y x) = true) : badAt p x = 2 := by
  unfold badAt
  rw [h, ho]
  rfl
theorem badAt_clash {p : List Lk} {x : Lk} (h : range x = false) (ho : (p.getLast?.any fun y => order y x) = false) (hc : p.any (fun y => clash y x) = true) : badAt p x = 8 := by
  unfold badAt
  rw [h, ho, hc]
  rfl
theorem badAt_ok {p : List Lk} {x : Lk} (h : range x = false) (ho : (p.getLast?.any fun y => order y x) = false) (hc : p.any (fun y => clash y x) = false) : badAt p x = 0 := by
  unfold badAt
  rw [h, ho, hc]
  rfl
theorem wrongFrom_bad {l : List Lk} {k : Nat} {x : Lk} {e : Int} (hk : k < l.length) (hx : l[k] = x) (hb : badAt (l.take k) x = e) (he : e ≠ 0) : wrongFrom (l.take k) (l.drop k) = (e, (k : Int)) := by
  rw [List.drop_eq_getElem_cons hk, hx, wrongFrom, hb, if_neg he]
  simp
  omega
theorem wrongFrom_ok {l : List Lk} {k : Nat} {x : Lk} (hk : k < l.length) (hx : l[k] = x) (hb : badAt (l.take k) x = 0) : wrongFrom (l.take k) (l.drop k) = wrongFrom (l.take (k + 1)) (l.drop (k + 1)) := by
  rw [List.drop_eq_getElem_cons hk, hx, wrongFrom, if_pos hb, List.take_succ_eq_append_getElem hk, hx]
theorem order_none (l : List Lk) {x : Lk} : ((l.take 0).getLast?.any fun y => order y x) = false := rfl
theorem order_at {l : List Lk} {m : Nat} {x y : Lk} {r : Bool} (hm : m < l.length) (hy : l[m] = y) (ho : order y x = r) : ((l.take (m + 1)).getLast?.any fun y => order y x) = r := by
  rw [List.take_succ_eq_append_getElem hm, hy, List.getLast?_append]
  simpa using ho

end Lk
end Go.Proofs.Ytjppfhgkanbemaa
