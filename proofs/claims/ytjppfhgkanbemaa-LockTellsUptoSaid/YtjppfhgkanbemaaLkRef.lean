/-
  The walks of the document's own answers on locks: Clash, SameLocks.
-/
import Derived.Test.YtjppfhgkanbemaaLkTake
namespace Go.Proofs.Ytjppfhgkanbemaa
open Go.RowKit

set_option maxHeartbeats 1600000 in
theorem refClash_any (x y : Lk) (w : World) : Calls Try.prog 11 #[.agg #[.int .i64 x.o, .int .i64 x.f, .int .i64 x.t, .bool x.a], .agg #[.int .i64 y.o, .int .i64 y.f, .int .i64 y.t, .bool y.a]] w fun e w' => e = .returned (.bool (Lk.clash x y)) ∧ Below w.heap.size w w' := by
  obtain ⟨xo, xf, xt, xa⟩ := x
  obtain ⟨yo, yf, yt, ya⟩ := y
  dsimp only
  have hB1 : Below w.heap.size w ((w.alloc (.cells #[.int .i64 xo, .int .i64 xf, .int .i64 xt, .bool xa] 24)).alloc (.cells #[.int .i64 yo, .int .i64 yf, .int .i64 yt, .bool ya] 24)) := ((Below.refl _ _).alloc (Nat.le_refl _) _).alloc (by simp) _
  have hx1 : Blk ((w.alloc (.cells #[.int .i64 xo, .int .i64 xf, .int .i64 xt, .bool xa] 24)).alloc (.cells #[.int .i64 yo, .int .i64 yf, .int .i64 yt, .bool ya] 24)) w.heap.size 24 [.int .i64 xo, .int .i64 xf, .int .i64 xt, .bool xa] := (Blk.new w _ _).alloc _
  have hy1 : Blk ((w.alloc (.cells #[.int .i64 xo, .int .i64 xf, .int .i64 xt, .bool xa] 24)).alloc (.cells #[.int .i64 yo, .int .i64 yf, .int .i64 yt, .bool ya] 24)) (w.heap.size + 1) 24 [.int .i64 yo, .int .i64 yf, .int .i64 yt, .bool ya] := by simpa using Blk.new (w.alloc (.cells #[.int .i64 xo, .int .i64 xf, .int .i64 xt, .bool xa] 24)) 24 [.int .i64 yo, .int .i64 yf, .int .i64 yt, .bool ya]
  obtain ⟨q0, q1, q2, q3, qf, qz⟩ := hx1.four
  obtain ⟨p0, p1, p2, p3, pf, pz⟩ := hy1.four
  have He : Lk.clash ⟨xo, xf, xt, xa⟩ ⟨yo, yf, yt, ya⟩ = (!(xo == yo) && (xa || ya) && decide (xf < yt) && decide (yf < xt)) := rfl
  rw [He]
  clear He hx1 hy1
  rcases t0 : (xo == yo) with _ | _ <;> rcases xa with _ | _ <;> rcases ya with _ | _ <;> rcases t1 : decide (xf < yt) with _ | _ <;> rcases t2 : decide (yf < xt) with _ | _
  all_goals go_enter Try.func11, Try.ntmps11
  all_goals go_wp2_with fail
  all_goals go_ret
  all_goals exact ⟨rfl, hB1⟩

end Go.Proofs.Ytjppfhgkanbemaa
