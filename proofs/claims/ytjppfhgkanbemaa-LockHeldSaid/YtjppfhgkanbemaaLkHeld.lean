/-
  The walk of tracelaw5.LockHeld: it answers true.
-/
import Derived.Test.YtjppfhgkanbemaaLkHeldLaw
import Derived.Deep.RegionHeld3
namespace Go.Proofs.Ytjppfhgkanbemaa
open Go.RowKit

set_option maxHeartbeats 4000000 in
set_option maxRecDepth 100000 in
theorem lockHeld_any (A : Option Addr) (c : Nat) (l : List Lk) (x : Lk) (w : World) (hl : LkRd w w.heap.size A l) (hc : l.length ≤ c) (hbig : l.length ≤ 9223372036854775807) :
    Calls Try.prog 6 #[.slice A l.length c, .agg #[.int .i64 x.o, .int .i64 x.f, .int .i64 x.t, .bool x.a]] w fun e w' => e = .returned (.bool true) ∧ Below w.heap.size w w' := by
  obtain ⟨xo, xf, xt, xa⟩ := x
  dsimp only
  have hfd := field_fault
  have hB0 : Below w.heap.size w w := Below.refl _ _
  go_enter Try.func6, Try.ntmps6
  go_wp2_with fail
  have hB1 : Below w.heap.size w (w.alloc (.cells #[.int .i64 xo, .int .i64 xf, .int .i64 xt, .bool xa] 24)) := hB0.alloc hB0.size _
  have hx1 : Blk (w.alloc (.cells #[.int .i64 xo, .int .i64 xf, .int .i64 xt, .bool xa] 24)) w.heap.size 24 [.int .i64 xo, .int .i64 xf, .int .i64 xt, .bool xa] := Blk.new _ _ _
  clear hB0
  generalize w.alloc (.cells #[.int .i64 xo, .int .i64 xf, .int .i64 xt, .bool xa] 24) = w1 at *
  obtain ⟨q0, q1, q2, q3, qf, qz⟩ := hx1.four
  refine (alive_any w1).mono ?_
  rintro e w2 ⟨rfl, hb⟩
  have hB2 := hB1.trans (hb.mono hB1.size)
  have hx2 := hx1.below hb hx1.lt
  clear hB1 hx1 q0 q1 q2 q3 qf qz hb
  obtain ⟨q0, q1, q2, q3, qf, qz⟩ := hx2.four
  go_wp2_with fail
  refine (take_any A c l ⟨xo, xf, xt, xa⟩ w2 (hl.below hB2 |>.more hB2.size) hc hbig).mono ?_
  rintro e w3 ⟨v3, m3, err3, rfl, hr3, _, hb⟩
  have hB3 := hB2.trans (hb.mono hB2.size)
  have hx3 := hx2.below hb hx2.lt
  clear hB2 hx2 q0 q1 q2 q3 qf qz hb
  obtain ⟨q0, q1, q2, q3, qf, qz⟩ := hx3.four
  go_wp2_with fail
  have c1 := wrong_any A c l w3 (hl.below hB3 |>.more hB3.size) hc hbig
  generalize hwl : Lk.wrong l = wl at c1
  obtain ⟨we, wa⟩ := wl
  have Hw := Lib.hid (congrArg Prod.fst hwl)
  clear hwl
  dsimp only at c1
  refine c1.mono ?_
  rintro e w4 ⟨rfl, hb⟩
  clear c1
  have hB4 := hB3.trans (hb.mono hB3.size)
  have hx4 := hx3.below hb hx3.lt
  clear hB3 hx3 q0 q1 q2 q3 qf qz hb
  obtain ⟨q0, q1, q2, q3, qf, qz⟩ := hx4.four
  rcases t : (we != 0) with _ | _
  · have Hz : Hid ((Lk.wrong l).1 = 0) := Hw.out.trans (by simpa using t)
    clear Hw
    go_wp2_with fail
    have hB5 := hB4.alloc hB4.size (.cells #[.int .i64 xo, .int .i64 xf, .int .i64 xt, .bool xa] 24)
    have hx5 := hx4.alloc (.cells #[.int .i64 xo, .int .i64 xf, .int .i64 xt, .bool xa] 24)
    have hr5 := lkRd_one w4 (w4.heap.size + 1) ⟨xo, xf, xt, xa⟩ (by omega)
    have hr6 : LkRd (w4.alloc (.cells #[.int .i64 xo, .int .i64 xf, .int .i64 xt, .bool xa] 24)) (w4.alloc (.cells #[.int .i64 xo, .int .i64 xf, .int .i64 xt, .bool xa] 24)).heap.size (some ⟨w4.heap.size, 0, none⟩) [⟨xo, xf, xt, xa⟩] := by simpa using hr5
    clear hB4 hx4 q0 q1 q2 q3 qf qz hr5
    generalize w4.alloc (.cells #[.int .i64 xo, .int .i64 xf, .int .i64 xt, .bool xa] 24) = w5 at *
    generalize w4.heap.size = gs at *
    obtain ⟨q0, q1, q2, q3, qf, qz⟩ := hx5.four
    have c1 := wrong_any (some ⟨gs, 0, none⟩) 1 [⟨xo, xf, xt, xa⟩] w5 hr6 (Nat.le_refl _) (by simp)
    clear hr6
    generalize hwl : (Lk.wrong [⟨xo, xf, xt, xa⟩]) = wl at c1
    obtain ⟨wf, wb⟩ := wl
    have Hw := Lib.hid (congrArg Prod.fst hwl)
    clear hwl
    dsimp only at c1
    refine c1.mono ?_
    rintro e w6 ⟨rfl, hb⟩
    clear c1
    have hB6 := hB5.trans (hb.mono hB5.size)
    have hx6 := hx5.below hb hx5.lt
    clear hB5 hx5 q0 q1 q2 q3 qf qz hb
    obtain ⟨q0, q1, q2, q3, qf, qz⟩ := hx6.four
    rcases t : (wf != 0) with _ | _
    · have Hz2 : Hid ((Lk.wrong [⟨xo, xf, xt, xa⟩]).1 = 0) := Hw.out.trans (by simpa using t)
      clear Hw
      rcases t5 : (err3 == 5) with _ | _
      · go_wp2_with fail
        have c1 := meets_any A c l ⟨xo, xf, xt, xa⟩ w6 (hl.below hB6 |>.more hB6.size) hbig
        have Ho : Hid ((err3 == 13) = (Lk.meets l ⟨xo, xf, xt, xa⟩).isSome) := by
          apply Lib.hid
          have h5 : err3 ≠ 5 := by simpa using t5
          rcases take_err hr3 Hz.out Hz2.out with ⟨h1, h2⟩ | ⟨h1, h2⟩
          · rw [h1, h2]; rfl
          · rcases h2 with h2 | h2
            · rw [h1, h2]; rfl
            · exact absurd h2 h5
        generalize (Lk.meets l ⟨xo, xf, xt, xa⟩).isSome = mb at *
        generalize (Lk.meets l ⟨xo, xf, xt, xa⟩).getD Lk.zero = mz at c1
        obtain ⟨mo, mf, mt, ma⟩ := mz
        simp only [Lk.agg, Lk.cells] at c1
        have t13 := Ho.out
        clear Ho t5 hr3
        rcases mb with _ | _
        · refine Calls.mono (P := Try.prog) (f := 10) c1 ?_
          rintro e w7 ⟨rfl, hb⟩
          clear c1
          have hB7 := hB6.trans (hb.mono hB6.size)
          have hx7 := hx6.below hb hx6.lt
          clear hB6 hx6 q0 q1 q2 q3 qf qz hb
          obtain ⟨q0, q1, q2, q3, qf, qz⟩ := hx7.four
          have hB8 := hB7.alloc hB7.size (.cells #[.int .i64 mo, .int .i64 mf, .int .i64 mt, .bool ma] 24)
          have hx8 := hx7.alloc (.cells #[.int .i64 mo, .int .i64 mf, .int .i64 mt, .bool ma] 24)
          go_wp2_with fail
          go_loopw [0, 44] (fun v i wr => ∃ (k : Nat) (M : Option Addr) (cm : Nat) (m : List Lk), k ≤ 4 ∧ i = .int .i64 k ∧ v = .slice M m.length cm ∧ m.length ≤ cm ∧ m.length ≤ 40 ∧ LkRd wr wr.heap.size M m ∧ Lk.Right m ∧ k + 1 ≤ Lk.left m ⟨xo, xf, xt, xa⟩ ∧ Below w.heap.size w wr ∧ Blk wr w.heap.size 24 [.int .i64 xo, .int .i64 xf, .int .i64 xt, .bool xa]) (fun _ i _ => 4 - (intOf i).toNat)
          case atStart => exact ⟨0, A, c, l, by decide, rfl, rfl, hc, wrong_le Hz.out, (hl.below hB8).more hB8.size, ((Lk.wrong_zero l).1 Hz.out).2, Lk.left_start l ((Lk.right_one _).1 ((Lk.wrong_zero _).1 Hz2.out).2), hB8, hx8⟩
          case round =>
            obtain ⟨k, M, cm, m, hk, rfl, rfl, hmc, hm40, hmr, hrt, hlf, hBr, hxr⟩ := hrel
            clear hB8 hx8 hB7 hx7 q0 q1 q2 q3 qf qz
            obtain ⟨q0, q1, q2, q3, qf, qz⟩ := hxr.four
            have hk4 : k < 4 := by have := Lk.left_le m ⟨xo, xf, xt, xa⟩; omega
            have hki : (k : Int) < 4 := by omega
            go_wp2_with fail
            have c1 := meets_any M cm m ⟨xo, xf, xt, xa⟩ wr hmr (by omega)
            rcases hmt : Lk.meets m ⟨xo, xf, xt, xa⟩ with _ | y
            · rw [hmt] at c1
              have Hn : Hid ((Lk.meets m ⟨xo, xf, xt, xa⟩).isSome = false) := by apply Lib.hid; rw [hmt]; rfl
              clear hmt
              simp only [Option.getD_none, Option.isSome_none, Lk.zero, Lk.agg, Lk.cells] at c1
              refine Calls.mono (P := Try.prog) (f := 10) c1 ?_
              rintro e w9 ⟨rfl, hb⟩
              clear c1
              have hB9 := hBr.trans (hb.mono hBr.size)
              have hx9 := hxr.below hb hxr.lt
              have hm9 := (Rd.below hmr hb).more hb.size
              clear q0 q1 q2 q3 qf qz hBr hxr hmr hb
              obtain ⟨q0, q1, q2, q3, qf, qz⟩ := hx9.four
              have hBa := hB9.alloc hB9.size (.cells #[.int .i64 0, .int .i64 0, .int .i64 0, .bool false] 24)
              have hma : LkRd (w9.alloc (.cells #[.int .i64 0, .int .i64 0, .int .i64 0, .bool false] 24)) (w9.alloc (.cells #[.int .i64 0, .int .i64 0, .int .i64 0, .bool false] 24)).heap.size M m := (Rd.alloc hm9 (Nat.le_refl _) _).more (by simp)
              go_wp2_with fail
              refine (take_any M cm m ⟨xo, xf, xt, xa⟩ _ hma hmc (by omega)).mono ?_
              rintro e w10 ⟨v10, m10, err10, rfl, hr10, _, hb⟩
              have hBz := hBa.trans (hb.mono hBa.size)
              have h10 : err10 = 0 ∨ err10 = 5 := by
                rcases take_err hr10 ((Lk.wrong_zero m).2 ⟨hm40, hrt⟩) Hz2.out with ⟨h1, _⟩ | ⟨_, h2⟩
                · rw [Hn.out] at h1; cases h1
                · exact h2
              clear hr10
              rcases h10 with rfl | rfl
              · go_wp2_with fail
                go_ret
                exact ⟨rfl, hBz⟩
              · go_wp2_with fail
                go_ret
                exact ⟨rfl, hBz⟩
            · rw [hmt] at c1
              have hst := Lk.left_step hrt hmt
              clear hmt
              obtain ⟨yo, yf, yt, ya⟩ := y
              simp only [Option.getD_some, Option.isSome_some, Lk.agg, Lk.cells] at c1 hst
              refine Calls.mono (P := Try.prog) (f := 10) c1 ?_
              rintro e w9 ⟨rfl, hb⟩
              clear c1
              have hB9 := hBr.trans (hb.mono hBr.size)
              have hx9 := hxr.below hb hxr.lt
              have hm9 := (Rd.below hmr hb).more hb.size
              clear q0 q1 q2 q3 qf qz hBr hxr hmr hb
              obtain ⟨q0, q1, q2, q3, qf, qz⟩ := hx9.four
              have hBa := hB9.alloc hB9.size (.cells #[.int .i64 yo, .int .i64 yf, .int .i64 yt, .bool ya] 24)
              have hxa := hx9.alloc (.cells #[.int .i64 yo, .int .i64 yf, .int .i64 yt, .bool ya] 24)
              have hma : LkRd (w9.alloc (.cells #[.int .i64 yo, .int .i64 yf, .int .i64 yt, .bool ya] 24)) (w9.alloc (.cells #[.int .i64 yo, .int .i64 yf, .int .i64 yt, .bool ya] 24)).heap.size M m := (Rd.alloc hm9 (Nat.le_refl _) _).more (by simp)
              go_wp2_with fail
              refine (leaveL_any M cm m yo _ hma (by omega)).mono ?_
              rintro e w10 ⟨v10, rfl, hw10, hb⟩
              obtain ⟨M2, c2, rfl, hc2, mr2⟩ := hw10.rd
              have hBz := hBa.trans (hb.mono hBa.size)
              have hxz := hxa.below hb hxa.lt
              go_wp2_with fail
              go_roundw
              case rel => exact ⟨k + 1, M2, c2, Lk.leave m yo, hk4, by go_num, rfl, hc2, Nat.le_trans (Lk.leave_le _ _) hm40, mr2, Lk.leave_right _ hrt, by omega, hBz, hxz⟩
              case measure => simp [intOf]; omega
        · refine Calls.mono (P := Try.prog) (f := 10) c1 ?_
          rintro e w7 ⟨rfl, hb⟩
          clear c1
          have hB7 := hB6.trans (hb.mono hB6.size)
          have hx7 := hx6.below hb hx6.lt
          clear hB6 hx6 q0 q1 q2 q3 qf qz hb
          obtain ⟨q0, q1, q2, q3, qf, qz⟩ := hx7.four
          have hB8 := hB7.alloc hB7.size (.cells #[.int .i64 mo, .int .i64 mf, .int .i64 mt, .bool ma] 24)
          have hx8 := hx7.alloc (.cells #[.int .i64 mo, .int .i64 mf, .int .i64 mt, .bool ma] 24)
          go_wp2_with fail
          go_loopw [0, 44] (fun v i wr => ∃ (k : Nat) (M : Option Addr) (cm : Nat) (m : List Lk), k ≤ 4 ∧ i = .int .i64 k ∧ v = .slice M m.length cm ∧ m.length ≤ cm ∧ m.length ≤ 40 ∧ LkRd wr wr.heap.size M m ∧ Lk.Right m ∧ k + 1 ≤ Lk.left m ⟨xo, xf, xt, xa⟩ ∧ Below w.heap.size w wr ∧ Blk wr w.heap.size 24 [.int .i64 xo, .int .i64 xf, .int .i64 xt, .bool xa]) (fun _ i _ => 4 - (intOf i).toNat)
          case atStart => exact ⟨0, A, c, l, by decide, rfl, rfl, hc, wrong_le Hz.out, (hl.below hB8).more hB8.size, ((Lk.wrong_zero l).1 Hz.out).2, Lk.left_start l ((Lk.right_one _).1 ((Lk.wrong_zero _).1 Hz2.out).2), hB8, hx8⟩
          case round =>
            obtain ⟨k, M, cm, m, hk, rfl, rfl, hmc, hm40, hmr, hrt, hlf, hBr, hxr⟩ := hrel
            clear hB8 hx8 hB7 hx7 q0 q1 q2 q3 qf qz
            obtain ⟨q0, q1, q2, q3, qf, qz⟩ := hxr.four
            have hk4 : k < 4 := by have := Lk.left_le m ⟨xo, xf, xt, xa⟩; omega
            have hki : (k : Int) < 4 := by omega
            go_wp2_with fail
            have c1 := meets_any M cm m ⟨xo, xf, xt, xa⟩ wr hmr (by omega)
            rcases hmt : Lk.meets m ⟨xo, xf, xt, xa⟩ with _ | y
            · rw [hmt] at c1
              have Hn : Hid ((Lk.meets m ⟨xo, xf, xt, xa⟩).isSome = false) := by apply Lib.hid; rw [hmt]; rfl
              clear hmt
              simp only [Option.getD_none, Option.isSome_none, Lk.zero, Lk.agg, Lk.cells] at c1
              refine Calls.mono (P := Try.prog) (f := 10) c1 ?_
              rintro e w9 ⟨rfl, hb⟩
              clear c1
              have hB9 := hBr.trans (hb.mono hBr.size)
              have hx9 := hxr.below hb hxr.lt
              have hm9 := (Rd.below hmr hb).more hb.size
              clear q0 q1 q2 q3 qf qz hBr hxr hmr hb
              obtain ⟨q0, q1, q2, q3, qf, qz⟩ := hx9.four
              have hBa := hB9.alloc hB9.size (.cells #[.int .i64 0, .int .i64 0, .int .i64 0, .bool false] 24)
              have hma : LkRd (w9.alloc (.cells #[.int .i64 0, .int .i64 0, .int .i64 0, .bool false] 24)) (w9.alloc (.cells #[.int .i64 0, .int .i64 0, .int .i64 0, .bool false] 24)).heap.size M m := (Rd.alloc hm9 (Nat.le_refl _) _).more (by simp)
              go_wp2_with fail
              refine (take_any M cm m ⟨xo, xf, xt, xa⟩ _ hma hmc (by omega)).mono ?_
              rintro e w10 ⟨v10, m10, err10, rfl, hr10, _, hb⟩
              have hBz := hBa.trans (hb.mono hBa.size)
              have h10 : err10 = 0 ∨ err10 = 5 := by
                rcases take_err hr10 ((Lk.wrong_zero m).2 ⟨hm40, hrt⟩) Hz2.out with ⟨h1, _⟩ | ⟨_, h2⟩
                · rw [Hn.out] at h1; cases h1
                · exact h2
              clear hr10
              rcases h10 with rfl | rfl
              · go_wp2_with fail
                go_ret
                exact ⟨rfl, hBz⟩
              · go_wp2_with fail
                go_ret
                exact ⟨rfl, hBz⟩
            · rw [hmt] at c1
              have hst := Lk.left_step hrt hmt
              clear hmt
              obtain ⟨yo, yf, yt, ya⟩ := y
              simp only [Option.getD_some, Option.isSome_some, Lk.agg, Lk.cells] at c1 hst
              refine Calls.mono (P := Try.prog) (f := 10) c1 ?_
              rintro e w9 ⟨rfl, hb⟩
              clear c1
              have hB9 := hBr.trans (hb.mono hBr.size)
              have hx9 := hxr.below hb hxr.lt
              have hm9 := (Rd.below hmr hb).more hb.size
              clear q0 q1 q2 q3 qf qz hBr hxr hmr hb
              obtain ⟨q0, q1, q2, q3, qf, qz⟩ := hx9.four
              have hBa := hB9.alloc hB9.size (.cells #[.int .i64 yo, .int .i64 yf, .int .i64 yt, .bool ya] 24)
              have hxa := hx9.alloc (.cells #[.int .i64 yo, .int .i64 yf, .int .i64 yt, .bool ya] 24)
              have hma : LkRd (w9.alloc (.cells #[.int .i64 yo, .int .i64 yf, .int .i64 yt, .bool ya] 24)) (w9.alloc (.cells #[.int .i64 yo, .int .i64 yf, .int .i64 yt, .bool ya] 24)).heap.size M m := (Rd.alloc hm9 (Nat.le_refl _) _).more (by simp)
              go_wp2_with fail
              refine (leaveL_any M cm m yo _ hma (by omega)).mono ?_
              rintro e w10 ⟨v10, rfl, hw10, hb⟩
              obtain ⟨M2, c2, rfl, hc2, mr2⟩ := hw10.rd
              have hBz := hBa.trans (hb.mono hBa.size)
              have hxz := hxa.below hb hxa.lt
              go_wp2_with fail
              go_roundw
              case rel => exact ⟨k + 1, M2, c2, Lk.leave m yo, hk4, by go_num, rfl, hc2, Nat.le_trans (Lk.leave_le _ _) hm40, mr2, Lk.leave_right _ hrt, by omega, hBz, hxz⟩
              case measure => simp [intOf]; omega
      · go_wp2_with fail
        all_goals go_ret
        all_goals exact ⟨rfl, hB6⟩
    · go_wp2_with fail
      all_goals go_ret
      all_goals exact ⟨rfl, hB6⟩
  · go_wp2_with fail
    all_goals go_ret
    all_goals exact ⟨rfl, hB4⟩

end Go.Proofs.Ytjppfhgkanbemaa
