/-
  The walk of the document's SameLocks.
-/
import Derived.Test.YtjppfhgkanbemaaLkTake
namespace Go.Proofs.Ytjppfhgkanbemaa
open Go.RowKit

set_option maxHeartbeats 1600000 in
theorem sameLocks_any (A B : Option Addr) (c d : Nat) (l m : List Lk) (w : World) (hl : LkRd w w.heap.size A l) (hm : LkRd w w.heap.size B m) (hbl : l.length ≤ 9223372036854775807) (_ : m.length ≤ 9223372036854775807) (he : l = m) :
    Calls Try.prog 14 #[.slice A l.length c, .slice B m.length d] w fun e w' => e = .returned (.bool true) ∧ Below w.heap.size w w' := by
  subst he
  go_enter Try.func14, Try.ntmps14
  go_wp2_with fail
  go_loopw [13] (fun i wr => ∃ k : Nat, k ≤ l.length ∧ i = .int .i64 k ∧ Below w.heap.size w wr) (fun i _ => l.length - (intOf i).toNat)
  case atStart => exact ⟨0, Nat.zero_le _, rfl, Below.refl _ _⟩
  case round =>
    obtain ⟨k, hk, rfl, hB0⟩ := hrel
    by_cases hlt : k < l.length
    · obtain ⟨bl, ol, rfl, hbl, hat⟩ := (LkRd.at_ (hl.below hB0) hlt)
      obtain ⟨bm, om, rfl, hbm, hbt⟩ := (LkRd.at_ (hm.below hB0) hlt)
      obtain ⟨h0, h1, h2, h3⟩ := hat
      obtain ⟨g0, g1, g2, g3⟩ := hbt
      generalize l[k] = y at h0 h1 h2 h3 g0 g1 g2 g3
      obtain ⟨yo, yf, yt, ya⟩ := y
      dsimp only at h0 h1 h2 h3 g0 g1 g2 g3
      go_wp2_with fail
      refine wp_region_quiet_lit (by kernel_rfl) (by kernel_rfl) ?_
      repeat (first | go_big_quiet_step (fail) | quiet_step (fail))
      refine wpQuiet_nil ?_
      intro w2 hw'
      obtain ⟨nq, hw''⟩ := hw'
      subst hw''
      have hB2 := below_drewN hB0 nq
      go_wp2_with fail
      go_roundw
      case rel => exact ⟨k + 1, hlt, by go_num, hB2⟩
      case measure => simp [intOf]; omega
    · go_wp2_with fail
      go_ret
      exact ⟨rfl, hB0⟩

end Go.Proofs.Ytjppfhgkanbemaa
