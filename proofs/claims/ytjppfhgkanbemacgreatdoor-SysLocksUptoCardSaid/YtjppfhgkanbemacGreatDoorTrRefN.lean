/-
  The document's Names, List, SameTexts, Without.
-/
import Derived.Test.YtjppfhgkanbemacGreatDoorMH
import Derived.Test.YtjppfhgkanbemacGreatDoorMG
import Derived.Test.YtjppfhgkanbemacGreatDoorTrRefE
namespace Go.Proofs.YtjppfhgkanbemacGreatDoor
open Go.RowKit Go.Shelf Go.Sort

theorem StrOwn.form {w : World} {b : Nat} {v : Value} {l : List Pt.Bs} (h : StrOwn w b v l) : ∃ A c, v = .slice A l.length c ∧ StrRd w w.heap.size A l := by
  rcases own_shape h with ⟨hv, h0⟩ | ⟨g, c, hv, _⟩
  · subst hv
    have : l = [] := List.length_eq_zero_iff.1 h0
    subst this
    exact ⟨_, _, rfl, Rd.nil⟩
  · subst hv
    exact ⟨_, _, rfl, Rd.of_own h⟩

set_option maxHeartbeats 1600000 in
theorem sameTexts_any (A B : Option Addr) (c d : Nat) (l m : List Pt.Bs) (w : World) (hl : StrRd w w.heap.size A l) (hm : StrRd w w.heap.size B m) (hbl : l.length ≤ 9223372036854775807) (he : l = m) :
    Calls Tryz.prog 42 #[.slice A l.length c, .slice B m.length d] w fun e w' => e = .returned (.bool true) ∧ Below w.heap.size w w' := by
  subst he
  go_enter Tryz.func42, Tryz.ntmps42
  go_wp2_with fail
  go_loopw [13] (fun i wr => ∃ k : Nat, k ≤ l.length ∧ i = .int .i64 k ∧ Below w.heap.size w wr) (fun i _ => l.length - (intOf i).toNat)
  case atStart => exact ⟨0, Nat.zero_le _, rfl, Below.refl _ _⟩
  case round =>
    obtain ⟨k, hk, rfl, hB0⟩ := hrel
    by_cases hlt : k < l.length
    · obtain ⟨bl, ol, rfl, hbl, h0⟩ := StrRd.at_ (Rd.below hl hB0) hlt
      obtain ⟨bm, om, rfl, hbm, g0⟩ := StrRd.at_ (Rd.below hm hB0) hlt
      obtain ⟨sy, hsy⟩ : ∃ sy, Pt.str l[k] = .string sy := ⟨_, rfl⟩
      rw [hsy] at h0 g0
      clear hsy
      go_wp2_with fail
      refine wp_region_quiet_lit (by kernel_rfl) (by kernel_rfl) ?_
      repeat (first | go_big_quiet_step (fail) | quiet_step (fail))
      refine wpQuiet_nil ?_
      intro w2 hw'
      obtain ⟨nq, hw''⟩ := hw'
      subst hw''
      have hB2 := below_drewN hB0 nq
      go_wp2_with fail
      go_roundw
      case rel => exact ⟨k + 1, hlt, by go_num, hB2⟩
      case measure => simp [intOf]; omega
    · go_wp2_with fail
      go_ret
      exact ⟨rfl, hB0⟩
end Go.Proofs.YtjppfhgkanbemacGreatDoor
