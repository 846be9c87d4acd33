/-
  The walk of lock.Wrong: it returns what Lk.wrong gives.
-/
import Derived.Test.YtjppfhgkanbemaaLkWrong
import Derived.Test.YtjppfhgkanbemaaLkPure2
namespace Go.Proofs.Ytjppfhgkanbemaa
open Go.RowKit

set_option maxHeartbeats 4000000 in
set_option maxRecDepth 100000 in
theorem wrong_any (A : Option Addr) (c : Nat) (l : List Lk) (w : World) (hl : LkRd w w.heap.size A l) (hc : l.length ≤ c) (hbig : l.length ≤ 9223372036854775807) :
    Calls Try.prog 8 #[.slice A l.length c] w fun e w' => e = .returned (.agg #[.int .i64 (Lk.wrong l).1, .int .i64 (Lk.wrong l).2]) ∧ Below w.heap.size w w' := by
  by_cases h40 : 40 < l.length
  · have Hn : Hid (Lk.wrong l = (5, 0)) := if_pos h40
    go_enter Try.func8, Try.ntmps8
    go_wp2_with fail
    refine bodyPost_ret (v := .agg #[.int .i64 5, .int .i64 0]) ?_ rfl ⟨by rw [Hn.out], ?_⟩
    · simp [results, Try.results8, go_sem]
    · exact (Below.refl _ _).alloc (Nat.le_refl _) _
  · have Hn : Hid (Lk.wrong l = Lk.wrongFrom [] l) := if_neg h40
    go_enter Try.func8, Try.ntmps8
    go_wp2_with fail
    go_loopw [11] (fun i wr => ∃ k : Nat, k ≤ l.length ∧ i = .int .i64 k ∧ Hid (Lk.wrongFrom [] l = Lk.wrongFrom (l.take k) (l.drop k)) ∧ Below w.heap.size w wr ∧ Blk wr w.heap.size 27 [.int .i64 0, .int .i64 0]) (fun i _ => l.length - (intOf i).toNat)
    case atStart => exact ⟨0, Nat.zero_le _, rfl, rfl, (Below.refl _ _).alloc (Nat.le_refl _) _, Blk.new _ _ _⟩
    case round =>
      obtain ⟨k, hk, rfl, Hw, hB0, hr0⟩ := hrel
      obtain ⟨r0, r1, rf, rz⟩ := hr0.two
      by_cases hlt : k < l.length
      · obtain ⟨b, o, rfl, hb, h0, h1, h2, h3⟩ := (LkRd.at_ (hl.below hB0) hlt)
        have hbz : b < wr.heap.size := Nat.lt_of_lt_of_le hb hB0.size
        have hkc : k ≤ c := by omega
        generalize hy : l[k] = y at *
        obtain ⟨xo, xf, xt, xa⟩ := y
        have Hy := Lib.hid hy
        clear hy
        dsimp only at h0 h1 h2 h3
        rcases d0 : decide (xo < 0) with _ | _
        · rcases d1 : decide (4 ≤ xo) with _ | _
          · rcases d2 : decide (xf < 0) with _ | _
            · rcases d3 : decide (xt ≤ xf) with _ | _
              · rcases d4 : decide (1000 < xt) with _ | _
                · have hrg : Lk.range ⟨xo, xf, xt, xa⟩ = false := by simp only [Lk.range, d0, d1, d2, d3, d4]; rfl
                  rcases k with _ | m
                  · simp only [Nat.zero_mul, Nat.add_zero] at h0 h1 h2 h3
                    go_wp2_with fail
                    clear h0 h1 h2 h3
                    have hB1 := hB0.alloc hB0.size (.cells #[.int .i64 xo, .int .i64 xf, .int .i64 xt, .bool xa] 24)
                    have hr1 := hr0.alloc (.cells #[.int .i64 xo, .int .i64 xf, .int .i64 xt, .bool xa] 24)
                    have hx1 : Blk (wr.alloc (.cells #[.int .i64 xo, .int .i64 xf, .int .i64 xt, .bool xa] 24)) wr.heap.size 24 [.int .i64 xo, .int .i64 xf, .int .i64 xt, .bool xa] := Blk.new _ _ _
                    have gxB : w.heap.size ≤ wr.heap.size := hB0.size
                    clear hB0 hr0 r0 r1 rf rz
                    generalize wr.alloc (.cells #[.int .i64 xo, .int .i64 xf, .int .i64 xt, .bool xa] 24) = w1 at *
                    generalize wr.heap.size = gx at *
                    obtain ⟨r0, r1, rf, rz⟩ := hr1.two
                    obtain ⟨bx0, bx1, bx2, bx3, bxf, bxz⟩ := hx1.four
                    refine wp_region_quiet_lit (by kernel_rfl) (by kernel_rfl) ?_
                    repeat (first | go_big_quiet_step (fail) | quiet_step (fail))
                    refine wpQuiet_nil ?_
                    intro w2 hw'
                    obtain ⟨nq, hw''⟩ := hw'
                    have hB2 := below_drewN hB1 nq
                    have hr2 := hr1.drewN nq
                    have hx2 := hx1.drewN nq
                    rw [← hw''] at hB2 hr2 hx2
                    clear hB1 hr1 hx1 r0 r1 bx0 bx1 bx2 bx3 rf rz bxf bxz hw''
                    obtain ⟨r0, r1, rf, rz⟩ := hr2.two
                    obtain ⟨bx0, bx1, bx2, bx3, bxf, bxz⟩ := hx2.four
                    go_wp2_with fail
                    refine (containsW_any _ 0 c gx l ⟨xo, xf, xt, xa⟩ _ (hl.below hB2 |>.more hB2.size) (by omega) (by omega) hx2).mono ?_
                    rintro e w3 ⟨rfl, hb⟩
                    have hB3 := hB2.trans (hb.mono hB2.size)
                    have hr3 := hr2.below hb hr2.lt
                    have hx3 := hx2.below hb hx2.lt
                    clear hB2 hr2 hx2 r0 r1 bx0 bx1 bx2 bx3 rf rz bxf bxz hb
                    obtain ⟨r0, r1, rf, rz⟩ := hr3.two
                    obtain ⟨bx0, bx1, bx2, bx3, bxf, bxz⟩ := hx3.four
                    have hord := Lk.order_none l (x := ⟨xo, xf, xt, xa⟩)
                    rcases hcl : (l.take 0).any (fun y => Lk.clash y ⟨xo, xf, xt, xa⟩) with _ | _
                    · go_wp2_with fail
                      have hbd : Lk.badAt (l.take 0) ⟨xo, xf, xt, xa⟩ = 0 := Lk.badAt_ok hrg hord hcl
                      have hnx := Lk.wrongFrom_ok hlt Hy.out hbd
                      go_roundw
                      case rel => exact ⟨0 + 1, by omega, by go_num, Hw.out.trans hnx, hB3, hr3⟩
                      case measure => simp [intOf]; omega
                    · go_wp2_with fail
                      have hbd : Lk.badAt (l.take 0) ⟨xo, xf, xt, xa⟩ = 8 := Lk.badAt_clash hrg hord hcl
                      have hfin : Lk.wrongFrom [] l = (8, ((0 : Nat) : Int)) := by rw [Hw.out]; exact Lk.wrongFrom_bad hlt Hy.out hbd (by decide)
                      refine bodyPost_ret (v := .agg #[.int .i64 8, .int .i64 ((0 : Nat) : Int)]) ?_ rfl ⟨by rw [Hn.out, hfin], ?_⟩
                      · simp [results, Try.results8, go_sem, r0, r1]
                      · exact ((hB3.setCell (by exact Nat.le_refl _) _).setCell (by exact Nat.le_refl _) _)
                  · have hqk : m < l.length := by omega
                    obtain ⟨b', o', hA', _, yy⟩ := (LkRd.at_ (hl.below hB0) hqk)
                    cases hA'
                    generalize hq : l[m] = q at *
                    obtain ⟨yo, yf, yt, ya⟩ := q
                    have Hq := Lib.hid hq
                    clear hq
                    rcases e6 : decide (xo < yo) with _ | _
                    · rcases e7 : (yo == xo) with _ | _
                      · go_wp2_with fail
                        clear h0 h1 h2 h3
                        have y0 := (World.cell?_alloc_lt wr (.cells #[.int .i64 xo, .int .i64 xf, .int .i64 xt, .bool xa] 24) _ (show b < wr.heap.size from by omega)).trans yy.1
                        have y1 := (World.cell?_alloc_lt wr (.cells #[.int .i64 xo, .int .i64 xf, .int .i64 xt, .bool xa] 24) _ (show b < wr.heap.size from by omega)).trans yy.2.1
                        have y2 := (World.cell?_alloc_lt wr (.cells #[.int .i64 xo, .int .i64 xf, .int .i64 xt, .bool xa] 24) _ (show b < wr.heap.size from by omega)).trans yy.2.2.1
                        have y3 := (World.cell?_alloc_lt wr (.cells #[.int .i64 xo, .int .i64 xf, .int .i64 xt, .bool xa] 24) _ (show b < wr.heap.size from by omega)).trans yy.2.2.2
                        clear yy
                        dsimp only at y0 y1 y2 y3
                        have hB1 := hB0.alloc hB0.size (.cells #[.int .i64 xo, .int .i64 xf, .int .i64 xt, .bool xa] 24)
                        have hr1 := hr0.alloc (.cells #[.int .i64 xo, .int .i64 xf, .int .i64 xt, .bool xa] 24)
                        have hx1 : Blk (wr.alloc (.cells #[.int .i64 xo, .int .i64 xf, .int .i64 xt, .bool xa] 24)) wr.heap.size 24 [.int .i64 xo, .int .i64 xf, .int .i64 xt, .bool xa] := Blk.new _ _ _
                        have gxB : w.heap.size ≤ wr.heap.size := hB0.size
                        clear hB0 hr0 r0 r1 rf rz
                        generalize wr.alloc (.cells #[.int .i64 xo, .int .i64 xf, .int .i64 xt, .bool xa] 24) = w1 at *
                        generalize wr.heap.size = gx at *
                        obtain ⟨r0, r1, rf, rz⟩ := hr1.two
                        obtain ⟨bx0, bx1, bx2, bx3, bxf, bxz⟩ := hx1.four
                        refine wp_region_quiet_lit (by kernel_rfl) (by kernel_rfl) ?_
                        repeat (first | go_big_quiet_step (fail) | quiet_step (fail))
                        refine wpQuiet_nil ?_
                        intro w2 hw'
                        obtain ⟨nq, hw''⟩ := hw'
                        have hB2 := below_drewN hB1 nq
                        have hr2 := hr1.drewN nq
                        have hx2 := hx1.drewN nq
                        rw [← hw''] at hB2 hr2 hx2
                        clear hB1 hr1 hx1 r0 r1 bx0 bx1 bx2 bx3 rf rz bxf bxz hw'' y0 y1 y2 y3
                        obtain ⟨r0, r1, rf, rz⟩ := hr2.two
                        obtain ⟨bx0, bx1, bx2, bx3, bxf, bxz⟩ := hx2.four
                        go_wp2_with fail
                        refine (containsW_any _ (m + 1) c gx l ⟨xo, xf, xt, xa⟩ _ (hl.below hB2 |>.more hB2.size) (by omega) (by omega) hx2).mono ?_
                        rintro e w3 ⟨rfl, hb⟩
                        have hB3 := hB2.trans (hb.mono hB2.size)
                        have hr3 := hr2.below hb hr2.lt
                        have hx3 := hx2.below hb hx2.lt
                        clear hB2 hr2 hx2 r0 r1 bx0 bx1 bx2 bx3 rf rz bxf bxz hb
                        obtain ⟨r0, r1, rf, rz⟩ := hr3.two
                        obtain ⟨bx0, bx1, bx2, bx3, bxf, bxz⟩ := hx3.four
                        have hord := (Lk.order_at (by omega) Hq.out (by simp only [Lk.order, e6, e7]; rfl) : (((l.take (m + 1)).getLast?.any fun y => Lk.order y ⟨xo, xf, xt, xa⟩) = false))
                        rcases hcl : (l.take (m + 1)).any (fun y => Lk.clash y ⟨xo, xf, xt, xa⟩) with _ | _
                        · go_wp2_with fail
                          have hbd : Lk.badAt (l.take (m + 1)) ⟨xo, xf, xt, xa⟩ = 0 := Lk.badAt_ok hrg hord hcl
                          have hnx := Lk.wrongFrom_ok hlt Hy.out hbd
                          go_roundw
                          case rel => exact ⟨(m + 1) + 1, by omega, by go_num, Hw.out.trans hnx, hB3, hr3⟩
                          case measure => simp [intOf]; omega
                        · go_wp2_with fail
                          have hbd : Lk.badAt (l.take (m + 1)) ⟨xo, xf, xt, xa⟩ = 8 := Lk.badAt_clash hrg hord hcl
                          have hfin : Lk.wrongFrom [] l = (8, (((m + 1) : Nat) : Int)) := by rw [Hw.out]; exact Lk.wrongFrom_bad hlt Hy.out hbd (by decide)
                          refine bodyPost_ret (v := .agg #[.int .i64 8, .int .i64 (((m + 1) : Nat) : Int)]) ?_ rfl ⟨by rw [Hn.out, hfin], ?_⟩
                          · simp [results, Try.results8, go_sem, r0, r1]
                          · exact ((hB3.setCell (by exact Nat.le_refl _) _).setCell (by exact Nat.le_refl _) _)
                      · rcases e8 : decide (xf < yt) with _ | _
                        · rcases e9 : (yt == xf) with _ | _
                          · go_wp2_with fail
                            clear h0 h1 h2 h3
                            have y0 := (World.cell?_alloc_lt wr (.cells #[.int .i64 xo, .int .i64 xf, .int .i64 xt, .bool xa] 24) _ (show b < wr.heap.size from by omega)).trans yy.1
                            have y1 := (World.cell?_alloc_lt wr (.cells #[.int .i64 xo, .int .i64 xf, .int .i64 xt, .bool xa] 24) _ (show b < wr.heap.size from by omega)).trans yy.2.1
                            have y2 := (World.cell?_alloc_lt wr (.cells #[.int .i64 xo, .int .i64 xf, .int .i64 xt, .bool xa] 24) _ (show b < wr.heap.size from by omega)).trans yy.2.2.1
                            have y3 := (World.cell?_alloc_lt wr (.cells #[.int .i64 xo, .int .i64 xf, .int .i64 xt, .bool xa] 24) _ (show b < wr.heap.size from by omega)).trans yy.2.2.2
                            clear yy
                            dsimp only at y0 y1 y2 y3
                            have hB1 := hB0.alloc hB0.size (.cells #[.int .i64 xo, .int .i64 xf, .int .i64 xt, .bool xa] 24)
                            have hr1 := hr0.alloc (.cells #[.int .i64 xo, .int .i64 xf, .int .i64 xt, .bool xa] 24)
                            have hx1 : Blk (wr.alloc (.cells #[.int .i64 xo, .int .i64 xf, .int .i64 xt, .bool xa] 24)) wr.heap.size 24 [.int .i64 xo, .int .i64 xf, .int .i64 xt, .bool xa] := Blk.new _ _ _
                            have gxB : w.heap.size ≤ wr.heap.size := hB0.size
                            clear hB0 hr0 r0 r1 rf rz
                            generalize wr.alloc (.cells #[.int .i64 xo, .int .i64 xf, .int .i64 xt, .bool xa] 24) = w1 at *
                            generalize wr.heap.size = gx at *
                            obtain ⟨r0, r1, rf, rz⟩ := hr1.two
                            obtain ⟨bx0, bx1, bx2, bx3, bxf, bxz⟩ := hx1.four
                            refine wp_region_quiet_lit (by kernel_rfl) (by kernel_rfl) ?_
                            repeat (first | go_big_quiet_step (fail) | quiet_step (fail))
                            refine wpQuiet_nil ?_
                            intro w2 hw'
                            obtain ⟨nq, hw''⟩ := hw'
                            have hB2 := below_drewN hB1 nq
                            have hr2 := hr1.drewN nq
                            have hx2 := hx1.drewN nq
                            rw [← hw''] at hB2 hr2 hx2
                            clear hB1 hr1 hx1 r0 r1 bx0 bx1 bx2 bx3 rf rz bxf bxz hw'' y0 y1 y2 y3
                            obtain ⟨r0, r1, rf, rz⟩ := hr2.two
                            obtain ⟨bx0, bx1, bx2, bx3, bxf, bxz⟩ := hx2.four
                            go_wp2_with fail
                            refine (containsW_any _ (m + 1) c gx l ⟨xo, xf, xt, xa⟩ _ (hl.below hB2 |>.more hB2.size) (by omega) (by omega) hx2).mono ?_
                            rintro e w3 ⟨rfl, hb⟩
                            have hB3 := hB2.trans (hb.mono hB2.size)
                            have hr3 := hr2.below hb hr2.lt
                            have hx3 := hx2.below hb hx2.lt
                            clear hB2 hr2 hx2 r0 r1 bx0 bx1 bx2 bx3 rf rz bxf bxz hb
                            obtain ⟨r0, r1, rf, rz⟩ := hr3.two
                            obtain ⟨bx0, bx1, bx2, bx3, bxf, bxz⟩ := hx3.four
                            have hord := (Lk.order_at (by omega) Hq.out (by simp only [Lk.order, e6, e7, e8, e9]; rfl) : (((l.take (m + 1)).getLast?.any fun y => Lk.order y ⟨xo, xf, xt, xa⟩) = false))
                            rcases hcl : (l.take (m + 1)).any (fun y => Lk.clash y ⟨xo, xf, xt, xa⟩) with _ | _
                            · go_wp2_with fail
                              have hbd : Lk.badAt (l.take (m + 1)) ⟨xo, xf, xt, xa⟩ = 0 := Lk.badAt_ok hrg hord hcl
                              have hnx := Lk.wrongFrom_ok hlt Hy.out hbd
                              go_roundw
                              case rel => exact ⟨(m + 1) + 1, by omega, by go_num, Hw.out.trans hnx, hB3, hr3⟩
                              case measure => simp [intOf]; omega
                            · go_wp2_with fail
                              have hbd : Lk.badAt (l.take (m + 1)) ⟨xo, xf, xt, xa⟩ = 8 := Lk.badAt_clash hrg hord hcl
                              have hfin : Lk.wrongFrom [] l = (8, (((m + 1) : Nat) : Int)) := by rw [Hw.out]; exact Lk.wrongFrom_bad hlt Hy.out hbd (by decide)
                              refine bodyPost_ret (v := .agg #[.int .i64 8, .int .i64 (((m + 1) : Nat) : Int)]) ?_ rfl ⟨by rw [Hn.out, hfin], ?_⟩
                              · simp [results, Try.results8, go_sem, r0, r1]
                              · exact ((hB3.setCell (by exact Nat.le_refl _) _).setCell (by exact Nat.le_refl _) _)
                          · rcases e10 : (ya == xa) with _ | _
                            · go_wp2_with fail
                              clear h0 h1 h2 h3
                              have y0 := (World.cell?_alloc_lt wr (.cells #[.int .i64 xo, .int .i64 xf, .int .i64 xt, .bool xa] 24) _ (show b < wr.heap.size from by omega)).trans yy.1
                              have y1 := (World.cell?_alloc_lt wr (.cells #[.int .i64 xo, .int .i64 xf, .int .i64 xt, .bool xa] 24) _ (show b < wr.heap.size from by omega)).trans yy.2.1
                              have y2 := (World.cell?_alloc_lt wr (.cells #[.int .i64 xo, .int .i64 xf, .int .i64 xt, .bool xa] 24) _ (show b < wr.heap.size from by omega)).trans yy.2.2.1
                              have y3 := (World.cell?_alloc_lt wr (.cells #[.int .i64 xo, .int .i64 xf, .int .i64 xt, .bool xa] 24) _ (show b < wr.heap.size from by omega)).trans yy.2.2.2
                              clear yy
                              dsimp only at y0 y1 y2 y3
                              have hB1 := hB0.alloc hB0.size (.cells #[.int .i64 xo, .int .i64 xf, .int .i64 xt, .bool xa] 24)
                              have hr1 := hr0.alloc (.cells #[.int .i64 xo, .int .i64 xf, .int .i64 xt, .bool xa] 24)
                              have hx1 : Blk (wr.alloc (.cells #[.int .i64 xo, .int .i64 xf, .int .i64 xt, .bool xa] 24)) wr.heap.size 24 [.int .i64 xo, .int .i64 xf, .int .i64 xt, .bool xa] := Blk.new _ _ _
                              have gxB : w.heap.size ≤ wr.heap.size := hB0.size
                              clear hB0 hr0 r0 r1 rf rz
                              generalize wr.alloc (.cells #[.int .i64 xo, .int .i64 xf, .int .i64 xt, .bool xa] 24) = w1 at *
                              generalize wr.heap.size = gx at *
                              obtain ⟨r0, r1, rf, rz⟩ := hr1.two
                              obtain ⟨bx0, bx1, bx2, bx3, bxf, bxz⟩ := hx1.four
                              refine wp_region_quiet_lit (by kernel_rfl) (by kernel_rfl) ?_
                              repeat (first | go_big_quiet_step (fail) | quiet_step (fail))
                              refine wpQuiet_nil ?_
                              intro w2 hw'
                              obtain ⟨nq, hw''⟩ := hw'
                              have hB2 := below_drewN hB1 nq
                              have hr2 := hr1.drewN nq
                              have hx2 := hx1.drewN nq
                              rw [← hw''] at hB2 hr2 hx2
                              clear hB1 hr1 hx1 r0 r1 bx0 bx1 bx2 bx3 rf rz bxf bxz hw'' y0 y1 y2 y3
                              obtain ⟨r0, r1, rf, rz⟩ := hr2.two
                              obtain ⟨bx0, bx1, bx2, bx3, bxf, bxz⟩ := hx2.four
                              go_wp2_with fail
                              refine (containsW_any _ (m + 1) c gx l ⟨xo, xf, xt, xa⟩ _ (hl.below hB2 |>.more hB2.size) (by omega) (by omega) hx2).mono ?_
                              rintro e w3 ⟨rfl, hb⟩
                              have hB3 := hB2.trans (hb.mono hB2.size)
                              have hr3 := hr2.below hb hr2.lt
                              have hx3 := hx2.below hb hx2.lt
                              clear hB2 hr2 hx2 r0 r1 bx0 bx1 bx2 bx3 rf rz bxf bxz hb
                              obtain ⟨r0, r1, rf, rz⟩ := hr3.two
                              obtain ⟨bx0, bx1, bx2, bx3, bxf, bxz⟩ := hx3.four
                              have hord := (Lk.order_at (by omega) Hq.out (by simp only [Lk.order, e6, e7, e8, e9, e10]; rfl) : (((l.take (m + 1)).getLast?.any fun y => Lk.order y ⟨xo, xf, xt, xa⟩) = false))
                              rcases hcl : (l.take (m + 1)).any (fun y => Lk.clash y ⟨xo, xf, xt, xa⟩) with _ | _
                              · go_wp2_with fail
                                have hbd : Lk.badAt (l.take (m + 1)) ⟨xo, xf, xt, xa⟩ = 0 := Lk.badAt_ok hrg hord hcl
                                have hnx := Lk.wrongFrom_ok hlt Hy.out hbd
                                go_roundw
                                case rel => exact ⟨(m + 1) + 1, by omega, by go_num, Hw.out.trans hnx, hB3, hr3⟩
                                case measure => simp [intOf]; omega
                              · go_wp2_with fail
                                have hbd : Lk.badAt (l.take (m + 1)) ⟨xo, xf, xt, xa⟩ = 8 := Lk.badAt_clash hrg hord hcl
                                have hfin : Lk.wrongFrom [] l = (8, (((m + 1) : Nat) : Int)) := by rw [Hw.out]; exact Lk.wrongFrom_bad hlt Hy.out hbd (by decide)
                                refine bodyPost_ret (v := .agg #[.int .i64 8, .int .i64 (((m + 1) : Nat) : Int)]) ?_ rfl ⟨by rw [Hn.out, hfin], ?_⟩
                                · simp [results, Try.results8, go_sem, r0, r1]
                                · exact ((hB3.setCell (by exact Nat.le_refl _) _).setCell (by exact Nat.le_refl _) _)
                            · go_wp2_with fail
                              clear h0 h1 h2 h3
                              have y0 := (World.cell?_alloc_lt wr (.cells #[.int .i64 xo, .int .i64 xf, .int .i64 xt, .bool xa] 24) _ (show b < wr.heap.size from by omega)).trans yy.1
                              have y1 := (World.cell?_alloc_lt wr (.cells #[.int .i64 xo, .int .i64 xf, .int .i64 xt, .bool xa] 24) _ (show b < wr.heap.size from by omega)).trans yy.2.1
                              have y2 := (World.cell?_alloc_lt wr (.cells #[.int .i64 xo, .int .i64 xf, .int .i64 xt, .bool xa] 24) _ (show b < wr.heap.size from by omega)).trans yy.2.2.1
                              have y3 := (World.cell?_alloc_lt wr (.cells #[.int .i64 xo, .int .i64 xf, .int .i64 xt, .bool xa] 24) _ (show b < wr.heap.size from by omega)).trans yy.2.2.2
                              clear yy
                              dsimp only at y0 y1 y2 y3
                              have hB1 := hB0.alloc hB0.size (.cells #[.int .i64 xo, .int .i64 xf, .int .i64 xt, .bool xa] 24)
                              have hr1 := hr0.alloc (.cells #[.int .i64 xo, .int .i64 xf, .int .i64 xt, .bool xa] 24)
                              have hx1 : Blk (wr.alloc (.cells #[.int .i64 xo, .int .i64 xf, .int .i64 xt, .bool xa] 24)) wr.heap.size 24 [.int .i64 xo, .int .i64 xf, .int .i64 xt, .bool xa] := Blk.new _ _ _
                              have gxB : w.heap.size ≤ wr.heap.size := hB0.size
                              clear hB0 hr0 r0 r1 rf rz
                              generalize wr.alloc (.cells #[.int .i64 xo, .int .i64 xf, .int .i64 xt, .bool xa] 24) = w1 at *
                              generalize wr.heap.size = gx at *
                              obtain ⟨r0, r1, rf, rz⟩ := hr1.two
                              obtain ⟨bx0, bx1, bx2, bx3, bxf, bxz⟩ := hx1.four
                              refine wp_region_quiet_lit (by kernel_rfl) (by kernel_rfl) ?_
                              repeat (first | go_big_quiet_step (fail) | quiet_step (fail))
                              refine wpQuiet_nil ?_
                              intro w2 hw'
                              obtain ⟨nq, hw''⟩ := hw'
                              have hB2 := below_drewN hB1 nq
                              have hr2 := hr1.drewN nq
                              have hx2 := hx1.drewN nq
                              rw [← hw''] at hB2 hr2 hx2
                              clear hB1 hr1 hx1 r0 r1 bx0 bx1 bx2 bx3 rf rz bxf bxz hw'' y0 y1 y2 y3
                              obtain ⟨r0, r1, rf, rz⟩ := hr2.two
                              obtain ⟨bx0, bx1, bx2, bx3, bxf, bxz⟩ := hx2.four
                              have hord := (Lk.order_at (by omega) Hq.out (by simp only [Lk.order, e6, e7, e8, e9, e10]; rfl) : (((l.take (m + 1)).getLast?.any fun y => Lk.order y ⟨xo, xf, xt, xa⟩) = true))
                              go_wp2_with fail
                              have hbd : Lk.badAt (l.take (m + 1)) ⟨xo, xf, xt, xa⟩ = 2 := Lk.badAt_order hrg hord
                              have hfin : Lk.wrongFrom [] l = (2, (((m + 1) : Nat) : Int)) := by rw [Hw.out]; exact Lk.wrongFrom_bad hlt Hy.out hbd (by decide)
                              refine bodyPost_ret (v := .agg #[.int .i64 2, .int .i64 (((m + 1) : Nat) : Int)]) ?_ rfl ⟨by rw [Hn.out, hfin], ?_⟩
                              · simp [results, Try.results8, go_sem, r0, r1]
                              · exact ((hB2.setCell (by exact Nat.le_refl _) _).setCell (by exact Nat.le_refl _) _)
                        · go_wp2_with fail
                          clear h0 h1 h2 h3
                          have y0 := (World.cell?_alloc_lt wr (.cells #[.int .i64 xo, .int .i64 xf, .int .i64 xt, .bool xa] 24) _ (show b < wr.heap.size from by omega)).trans yy.1
                          have y1 := (World.cell?_alloc_lt wr (.cells #[.int .i64 xo, .int .i64 xf, .int .i64 xt, .bool xa] 24) _ (show b < wr.heap.size from by omega)).trans yy.2.1
                          have y2 := (World.cell?_alloc_lt wr (.cells #[.int .i64 xo, .int .i64 xf, .int .i64 xt, .bool xa] 24) _ (show b < wr.heap.size from by omega)).trans yy.2.2.1
                          have y3 := (World.cell?_alloc_lt wr (.cells #[.int .i64 xo, .int .i64 xf, .int .i64 xt, .bool xa] 24) _ (show b < wr.heap.size from by omega)).trans yy.2.2.2
                          clear yy
                          dsimp only at y0 y1 y2 y3
                          have hB1 := hB0.alloc hB0.size (.cells #[.int .i64 xo, .int .i64 xf, .int .i64 xt, .bool xa] 24)
                          have hr1 := hr0.alloc (.cells #[.int .i64 xo, .int .i64 xf, .int .i64 xt, .bool xa] 24)
                          have hx1 : Blk (wr.alloc (.cells #[.int .i64 xo, .int .i64 xf, .int .i64 xt, .bool xa] 24)) wr.heap.size 24 [.int .i64 xo, .int .i64 xf, .int .i64 xt, .bool xa] := Blk.new _ _ _
                          have gxB : w.heap.size ≤ wr.heap.size := hB0.size
                          clear hB0 hr0 r0 r1 rf rz
                          generalize wr.alloc (.cells #[.int .i64 xo, .int .i64 xf, .int .i64 xt, .bool xa] 24) = w1 at *
                          generalize wr.heap.size = gx at *
                          obtain ⟨r0, r1, rf, rz⟩ := hr1.two
                          obtain ⟨bx0, bx1, bx2, bx3, bxf, bxz⟩ := hx1.four
                          refine wp_region_quiet_lit (by kernel_rfl) (by kernel_rfl) ?_
                          repeat (first | go_big_quiet_step (fail) | quiet_step (fail))
                          refine wpQuiet_nil ?_
                          intro w2 hw'
                          obtain ⟨nq, hw''⟩ := hw'
                          have hB2 := below_drewN hB1 nq
                          have hr2 := hr1.drewN nq
                          have hx2 := hx1.drewN nq
                          rw [← hw''] at hB2 hr2 hx2
                          clear hB1 hr1 hx1 r0 r1 bx0 bx1 bx2 bx3 rf rz bxf bxz hw'' y0 y1 y2 y3
                          obtain ⟨r0, r1, rf, rz⟩ := hr2.two
                          obtain ⟨bx0, bx1, bx2, bx3, bxf, bxz⟩ := hx2.four
                          have hord := (Lk.order_at (by omega) Hq.out (by simp only [Lk.order, e6, e7, e8]; rfl) : (((l.take (m + 1)).getLast?.any fun y => Lk.order y ⟨xo, xf, xt, xa⟩) = true))
                          go_wp2_with fail
                          have hbd : Lk.badAt (l.take (m + 1)) ⟨xo, xf, xt, xa⟩ = 2 := Lk.badAt_order hrg hord
                          have hfin : Lk.wrongFrom [] l = (2, (((m + 1) : Nat) : Int)) := by rw [Hw.out]; exact Lk.wrongFrom_bad hlt Hy.out hbd (by decide)
                          refine bodyPost_ret (v := .agg #[.int .i64 2, .int .i64 (((m + 1) : Nat) : Int)]) ?_ rfl ⟨by rw [Hn.out, hfin], ?_⟩
                          · simp [results, Try.results8, go_sem, r0, r1]
                          · exact ((hB2.setCell (by exact Nat.le_refl _) _).setCell (by exact Nat.le_refl _) _)
                    · go_wp2_with fail
                      clear h0 h1 h2 h3
                      have y0 := (World.cell?_alloc_lt wr (.cells #[.int .i64 xo, .int .i64 xf, .int .i64 xt, .bool xa] 24) _ (show b < wr.heap.size from by omega)).trans yy.1
                      have y1 := (World.cell?_alloc_lt wr (.cells #[.int .i64 xo, .int .i64 xf, .int .i64 xt, .bool xa] 24) _ (show b < wr.heap.size from by omega)).trans yy.2.1
                      have y2 := (World.cell?_alloc_lt wr (.cells #[.int .i64 xo, .int .i64 xf, .int .i64 xt, .bool xa] 24) _ (show b < wr.heap.size from by omega)).trans yy.2.2.1
                      have y3 := (World.cell?_alloc_lt wr (.cells #[.int .i64 xo, .int .i64 xf, .int .i64 xt, .bool xa] 24) _ (show b < wr.heap.size from by omega)).trans yy.2.2.2
                      clear yy
                      dsimp only at y0 y1 y2 y3
                      have hB1 := hB0.alloc hB0.size (.cells #[.int .i64 xo, .int .i64 xf, .int .i64 xt, .bool xa] 24)
                      have hr1 := hr0.alloc (.cells #[.int .i64 xo, .int .i64 xf, .int .i64 xt, .bool xa] 24)
                      have hx1 : Blk (wr.alloc (.cells #[.int .i64 xo, .int .i64 xf, .int .i64 xt, .bool xa] 24)) wr.heap.size 24 [.int .i64 xo, .int .i64 xf, .int .i64 xt, .bool xa] := Blk.new _ _ _
                      have gxB : w.heap.size ≤ wr.heap.size := hB0.size
                      clear hB0 hr0 r0 r1 rf rz
                      generalize wr.alloc (.cells #[.int .i64 xo, .int .i64 xf, .int .i64 xt, .bool xa] 24) = w1 at *
                      generalize wr.heap.size = gx at *
                      obtain ⟨r0, r1, rf, rz⟩ := hr1.two
                      obtain ⟨bx0, bx1, bx2, bx3, bxf, bxz⟩ := hx1.four
                      refine wp_region_quiet_lit (by kernel_rfl) (by kernel_rfl) ?_
                      repeat (first | go_big_quiet_step (fail) | quiet_step (fail))
                      refine wpQuiet_nil ?_
                      intro w2 hw'
                      obtain ⟨nq, hw''⟩ := hw'
                      have hB2 := below_drewN hB1 nq
                      have hr2 := hr1.drewN nq
                      have hx2 := hx1.drewN nq
                      rw [← hw''] at hB2 hr2 hx2
                      clear hB1 hr1 hx1 r0 r1 bx0 bx1 bx2 bx3 rf rz bxf bxz hw'' y0 y1 y2 y3
                      obtain ⟨r0, r1, rf, rz⟩ := hr2.two
                      obtain ⟨bx0, bx1, bx2, bx3, bxf, bxz⟩ := hx2.four
                      have hord := (Lk.order_at (by omega) Hq.out (by simp only [Lk.order, e6]; rfl) : (((l.take (m + 1)).getLast?.any fun y => Lk.order y ⟨xo, xf, xt, xa⟩) = true))
                      go_wp2_with fail
                      have hbd : Lk.badAt (l.take (m + 1)) ⟨xo, xf, xt, xa⟩ = 2 := Lk.badAt_order hrg hord
                      have hfin : Lk.wrongFrom [] l = (2, (((m + 1) : Nat) : Int)) := by rw [Hw.out]; exact Lk.wrongFrom_bad hlt Hy.out hbd (by decide)
                      refine bodyPost_ret (v := .agg #[.int .i64 2, .int .i64 (((m + 1) : Nat) : Int)]) ?_ rfl ⟨by rw [Hn.out, hfin], ?_⟩
                      · simp [results, Try.results8, go_sem, r0, r1]
                      · exact ((hB2.setCell (by exact Nat.le_refl _) _).setCell (by exact Nat.le_refl _) _)
                · have hrg : Lk.range ⟨xo, xf, xt, xa⟩ = true := by simp only [Lk.range, d0, d1, d2, d3, d4]; rfl
                  go_wp2_with fail
                  have hbd : Lk.badAt (l.take k) ⟨xo, xf, xt, xa⟩ = 3 := Lk.badAt_range hrg
                  have hfin : Lk.wrongFrom [] l = (3, ((k : Nat) : Int)) := by rw [Hw.out]; exact Lk.wrongFrom_bad hlt Hy.out hbd (by decide)
                  refine bodyPost_ret (v := .agg #[.int .i64 3, .int .i64 ((k : Nat) : Int)]) ?_ rfl ⟨by rw [Hn.out, hfin], ?_⟩
                  · simp [results, Try.results8, go_sem, r0, r1, rz]
                  · exact ((hB0.setCell (by exact Nat.le_refl _) _).setCell (by exact Nat.le_refl _) _).alloc (by simpa [World.setCell] using hB0.size) _
              · have hrg : Lk.range ⟨xo, xf, xt, xa⟩ = true := by simp only [Lk.range, d0, d1, d2, d3]; rfl
                go_wp2_with fail
                have hbd : Lk.badAt (l.take k) ⟨xo, xf, xt, xa⟩ = 3 := Lk.badAt_range hrg
                have hfin : Lk.wrongFrom [] l = (3, ((k : Nat) : Int)) := by rw [Hw.out]; exact Lk.wrongFrom_bad hlt Hy.out hbd (by decide)
                refine bodyPost_ret (v := .agg #[.int .i64 3, .int .i64 ((k : Nat) : Int)]) ?_ rfl ⟨by rw [Hn.out, hfin], ?_⟩
                · simp [results, Try.results8, go_sem, r0, r1, rz]
                · exact ((hB0.setCell (by exact Nat.le_refl _) _).setCell (by exact Nat.le_refl _) _).alloc (by simpa [World.setCell] using hB0.size) _
            · have hrg : Lk.range ⟨xo, xf, xt, xa⟩ = true := by simp only [Lk.range, d0, d1, d2]; rfl
              go_wp2_with fail
              have hbd : Lk.badAt (l.take k) ⟨xo, xf, xt, xa⟩ = 3 := Lk.badAt_range hrg
              have hfin : Lk.wrongFrom [] l = (3, ((k : Nat) : Int)) := by rw [Hw.out]; exact Lk.wrongFrom_bad hlt Hy.out hbd (by decide)
              refine bodyPost_ret (v := .agg #[.int .i64 3, .int .i64 ((k : Nat) : Int)]) ?_ rfl ⟨by rw [Hn.out, hfin], ?_⟩
              · simp [results, Try.results8, go_sem, r0, r1, rz]
              · exact ((hB0.setCell (by exact Nat.le_refl _) _).setCell (by exact Nat.le_refl _) _).alloc (by simpa [World.setCell] using hB0.size) _
          · have hrg : Lk.range ⟨xo, xf, xt, xa⟩ = true := by simp only [Lk.range, d0, d1]; rfl
            go_wp2_with fail
            have hbd : Lk.badAt (l.take k) ⟨xo, xf, xt, xa⟩ = 3 := Lk.badAt_range hrg
            have hfin : Lk.wrongFrom [] l = (3, ((k : Nat) : Int)) := by rw [Hw.out]; exact Lk.wrongFrom_bad hlt Hy.out hbd (by decide)
            refine bodyPost_ret (v := .agg #[.int .i64 3, .int .i64 ((k : Nat) : Int)]) ?_ rfl ⟨by rw [Hn.out, hfin], ?_⟩
            · simp [results, Try.results8, go_sem, r0, r1, rz]
            · exact ((hB0.setCell (by exact Nat.le_refl _) _).setCell (by exact Nat.le_refl _) _).alloc (by simpa [World.setCell] using hB0.size) _
        · have hrg : Lk.range ⟨xo, xf, xt, xa⟩ = true := by simp only [Lk.range, d0]; rfl
          go_wp2_with fail
          have hbd : Lk.badAt (l.take k) ⟨xo, xf, xt, xa⟩ = 3 := Lk.badAt_range hrg
          have hfin : Lk.wrongFrom [] l = (3, ((k : Nat) : Int)) := by rw [Hw.out]; exact Lk.wrongFrom_bad hlt Hy.out hbd (by decide)
          refine bodyPost_ret (v := .agg #[.int .i64 3, .int .i64 ((k : Nat) : Int)]) ?_ rfl ⟨by rw [Hn.out, hfin], ?_⟩
          · simp [results, Try.results8, go_sem, r0, r1, rz]
          · exact ((hB0.setCell (by exact Nat.le_refl _) _).setCell (by exact Nat.le_refl _) _).alloc (by simpa [World.setCell] using hB0.size) _

      · go_wp2_with fail
        have hfin : Lk.wrongFrom [] l = (0, 0) := by
          rw [Hw.out, List.drop_of_length_le (by omega)]; rfl
        refine bodyPost_ret (v := .agg #[.int .i64 0, .int .i64 0]) ?_ rfl ⟨by rw [Hn.out, hfin], ?_⟩
        · simp [results, Try.results8, go_sem, r0, r1]
        · exact (hB0.setCell (by exact Nat.le_refl _) _).setCell (by exact Nat.le_refl _) _

end Go.Proofs.Ytjppfhgkanbemaa
