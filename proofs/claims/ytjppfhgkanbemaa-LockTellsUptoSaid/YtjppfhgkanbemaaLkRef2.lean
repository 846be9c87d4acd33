/-
  The walks of the document's own answers on locks: WrongLocks' closure.
-/
import Derived.Test.YtjppfhgkanbemaaLkTake
namespace Go.Proofs.Ytjppfhgkanbemaa
open Go.RowKit

set_option maxHeartbeats 1600000 in
theorem refBad_any (g : Nat) (er i : Int) (w : World) (hg : Blk w g 3 [.int .i64 i]) :
    Calls Try.prog 22 #[.int .i64 er, .pointer (some ⟨g, 0, none⟩)] w fun e w' => e = .returned (.agg #[.int .i64 er, .int .i64 i]) ∧ Below w.heap.size w w' := by
  obtain ⟨g0, gf, gz⟩ := hg.one
  go_enter Try.func22, Try.ntmps22
  go_wp2_with fail
  refine bodyPost_ret (v := .agg #[.int .i64 er, .int .i64 i]) ?_ rfl ⟨rfl, ?_⟩
  · simp [results, Try.results22, go_sem]
  · have := (Below.refl w.heap.size w).alloc (Nat.le_refl _) (.cells #[.int .i64 er, .int .i64 i] 27)
    exact this

end Go.Proofs.Ytjppfhgkanbemaa
