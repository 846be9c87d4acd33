/-
  Clean, as the document has it.
-/
import Derived.Test.YtjppfhgkanbemabDoorPtClean
namespace Go.Proofs.YtjppfhgkanbemabDoor
open Go.RowKit Go.Shelf

set_option maxHeartbeats 1000000 in
theorem refClean_any (s : ByteArray) (w : World) (hs : s.size < 4294967281) :
    Calls Tryd.prog 56 #[.string s] w fun e w' => e = .returned (.bool (Pt.clean s.data.toList)) ∧ Below w.heap.size w w' := by
  have l1 := split_len_le s.data.toList
  rw [size_length] at l1
  have c1 := refSplit_form s w hs
  have HP := Lib.hid (piece_len s.data.toList)
  have HC := Lib.hid (show Pt.clean s.data.toList = (decide (s.size ≤ 80) && (Pt.split s.data.toList).all Pt.named) by unfold Pt.clean; rw [size_length])
  generalize Pt.split s.data.toList = xs at c1 l1 HP HC
  go_enter Tryd.func56, Tryd.ntmps56
  go_wp2_with fail
  refine c1.mono ?_
  rintro e w1 ⟨g1, k1, rfl, hx1, hg1, hl1, hb1⟩
  clear c1
  have HX := Lib.hid hx1
  clear hx1
  go_wp2_with fail
  go_loopw [8] (fun i wr => ∃ k : Nat, k ≤ xs.length ∧ i = .int .i64 k ∧ Hid (StrAt wr g1 xs) ∧ g1 < wr.heap.size ∧ Below w.heap.size w wr ∧ Hid ((xs.take k).all Pt.named = true)) (fun i _ => xs.length - (intOf i).toNat)
  case atStart => exact ⟨0, Nat.zero_le _, rfl, HX, hl1, hb1, Lib.hid rfl⟩
  case round =>
    obtain ⟨k, hk, rfl, HX2, hl2, hb2, HA⟩ := hrel
    clear HX
    by_cases hlt : k < xs.length
    · have a1 := HX2.out k hlt
      have hx : xs[k].length ≤ s.size := by rw [← size_length]; exact HP.out _ (List.getElem_mem hlt)
      have HM := Lib.hid (List.getElem_mem hlt)
      have HT := Lib.hid (List.take_succ_eq_append_getElem hlt)
      generalize xs[k] = p at a1 hx HM HT
      have c := refNamed_any ⟨p.toArray⟩ wr (by unfold maxLen; show p.toArray.size ≤ _; simp; omega)
      rcases hn : Pt.named p with _ | _
      · have c' : Calls Tryd.prog 80 #[Pt.str p] wr fun e w' => e = .returned (.bool false) ∧ Below wr.heap.size wr w' := c.mono fun e w' ⟨he, hw⟩ => ⟨by rw [he]; exact ret_bool hn, hw⟩
        have HF := Lib.hid hn
        clear c hn
        go_wp2_with (go_at_call 80; refine c'.mono ?_; rintro e w3 ⟨rfl, hb3⟩)
        go_ret
        refine ⟨ret_bool ?_, hb2.trans (hb3.mono hb2.size)⟩
        rw [HC.out, show xs.all Pt.named = false by rw [List.all_eq_false]; exact ⟨p, HM.out, by simp [HF.out]⟩, Bool.and_false]
      · have c' : Calls Tryd.prog 80 #[Pt.str p] wr fun e w' => e = .returned (.bool true) ∧ Below wr.heap.size wr w' := c.mono fun e w' ⟨he, hw⟩ => ⟨by rw [he]; exact ret_bool hn, hw⟩
        have HF := Lib.hid hn
        clear c hn
        go_wp2_with (go_at_call 80; refine c'.mono ?_; rintro e w3 ⟨rfl, hb3⟩)
        go_roundw
        case rel => exact ⟨k + 1, by omega, by go_num, Lib.hid (HX2.out.below hb3 hl2), Nat.lt_of_lt_of_le hl2 hb3.size, hb2.trans (hb3.mono hb2.size), Lib.hid (by rw [HT.out, List.all_append, HA.out]; simp [HF.out])⟩
        case measure => simp [intOf]; omega
    · obtain rfl : k = xs.length := by omega
      go_wp2_with fail
      go_ret
      refine ⟨ret_bool ?_, hb2⟩
      have h := HA.out
      rw [List.take_length] at h
      rw [HC.out, h, Bool.and_true]
      exact decide_eq_decide.2 (by omega)
end Go.Proofs.YtjppfhgkanbemabDoor
