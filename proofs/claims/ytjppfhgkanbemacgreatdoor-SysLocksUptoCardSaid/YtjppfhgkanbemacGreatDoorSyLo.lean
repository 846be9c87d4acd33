/-
  SysLocks' own walk. (Printed by wip/gensylo.py.)
-/
import Derived.Test.YtjppfhgkanbemacGreatDoorSyDr
import Derived.Test.YtjppfhgkanbemacGreatDoorSyFar
import Derived.Test.YtjppfhgkanbemacGreatDoorSyLock
import Derived.Test.YtjppfhgkanbemacGreatDoorLkWalks
import Derived.Deep.CutBlock
import Derived.Deep.DeepCutAuto
namespace Go.Proofs.YtjppfhgkanbemacGreatDoor
open Go.RowKit Go.Shelf Go.Sort

theorem lkTake_any (x : Lk) (w : World) : Calls Tryz.prog 25 #[.agg #[.int .i64 x.o, .int .i64 x.f, .int .i64 x.t, .bool x.a]] w fun e w' => e = .returned (.agg #[.int .i64 14, .int .i64 x.o, .int .i64 0, .int .i64 x.f, .int .i64 x.t, .string ⟨#[]⟩, .string ⟨#[]⟩, .string ⟨#[]⟩, .bool x.a]) ∧ Below w.heap.size w w' := by
  obtain ⟨xo, xf, xt, xa⟩ := x
  dsimp only
  have hB := (Below.refl w.heap.size w).alloc (Nat.le_refl _) (.cells #[.int .i64 xo, .int .i64 xf, .int .i64 xt, .bool xa] 58)
  have HB := Lib.hid (hB.alloc hB.size (.cells #[.int .i64 14, .int .i64 xo, .int .i64 0, .int .i64 xf, .int .i64 xt, .string ⟨#[]⟩, .string ⟨#[]⟩, .string ⟨#[]⟩, .bool xa] 50))
  clear hB
  go_enter Tryz.func25, Tryz.ntmps25
  go_wp2_with fail
  refine bodyPost_ret (v := .agg #[.int .i64 14, .int .i64 xo, .int .i64 0, .int .i64 xf, .int .i64 xt, .string ⟨#[]⟩, .string ⟨#[]⟩, .string ⟨#[]⟩, .bool xa]) ?_ rfl ?_
  · simp [results, Tryz.results25, go_sem]
  exact ⟨rfl, HB.out⟩
theorem lkOpen_any (o : Int) (g : Nat) (p : ByteArray) (w : World) (hp : w.cell? ⟨g, 0, none⟩ = some (.string p)) (hg : g < w.heap.size) : Calls Tryz.prog 26 #[.int .i64 o, .pointer (some ⟨g, 0, none⟩)] w fun e w' => e = .returned (.agg #[.int .i64 1, .int .i64 o, .int .i64 0, .int .i64 1, .int .i64 0, .string p, .string ⟨#[]⟩, .string ⟨#[]⟩, .bool false]) ∧ Below w.heap.size w w' := by
  have hne : ¬ g = w.heap.size := by omega
  have hne2 : ¬ w.heap.size = g := by omega
  have HB := Lib.hid ((Below.refl w.heap.size w).alloc (Nat.le_refl _) (.cells #[.int .i64 1, .int .i64 o, .int .i64 0, .int .i64 1, .int .i64 0, .string p, .string ⟨#[]⟩, .string ⟨#[]⟩, .bool false] 50))
  go_enter Tryz.func26, Tryz.ntmps26
  go_wp2_with fail
  refine bodyPost_ret (v := .agg #[.int .i64 1, .int .i64 o, .int .i64 0, .int .i64 1, .int .i64 0, .string p, .string ⟨#[]⟩, .string ⟨#[]⟩, .bool false]) ?_ rfl ?_
  · simp [results, Tryz.results26, go_sem]
  exact ⟨rfl, HB.out⟩
theorem keep_l {W : World} {g h k : Nat} {t t1 t2 : TypeId} {a b x0 x1 x2 x3 y0 y1 y2 y3 : Value} (hq : Blk W g t [a, b]) (hx : Blk W h t1 [x0, x1, x2, x3]) (hy : Blk W k t2 [y0, y1, y2, y3]) :
    W.cell? ⟨g, 0, none⟩ = some a ∧ W.cell? ⟨g, 1, none⟩ = some b ∧ W.cell? ⟨h, 0, none⟩ = some x0 ∧ W.cell? ⟨h, 1, none⟩ = some x1 ∧ W.cell? ⟨h, 2, none⟩ = some x2 ∧ W.cell? ⟨h, 3, none⟩ = some x3 ∧ W.cell? ⟨k, 0, none⟩ = some y0 ∧ W.cell? ⟨k, 1, none⟩ = some y1 ∧ W.cell? ⟨k, 2, none⟩ = some y2 ∧ W.cell? ⟨k, 3, none⟩ = some y3 :=
  ⟨hq.cell 0, hq.cell 1, hx.cell 0, hx.cell 1, hx.cell 2, hx.cell 3, hy.cell 0, hy.cell 1, hy.cell 2, hy.cell 3⟩
def lockL (p : ByteArray) (x y : Lk) : List Ca := [Sy.openC 0 p, Sy.openC 1 p, Sy.takeC x, Sy.takeC y, Sy.closeC 0, Sy.takeC y]
theorem lockL_sm {p : ByteArray} {x y : Lk} (hp : p.size ≤ 1048576) : ∀ z ∈ lockL p x y, CaSm z := fun z hz => by
  simp only [lockL, List.mem_cons, List.mem_nil_iff, or_false] at hz
  have z0 : (0 : Nat) ≤ 1048576 := by omega
  rcases hz with rfl | rfl | rfl | rfl | rfl | rfl
  · exact ⟨hp, z0, z0⟩
  · exact ⟨hp, z0, z0⟩
  · exact ⟨z0, z0, z0⟩
  · exact ⟨z0, z0, z0⟩
  · exact ⟨z0, z0, z0⟩
  · exact ⟨z0, z0, z0⟩
theorem lock_play {u : Un} (hf : Tr.Fine u) {p : ByteArray} {f : En} (hg : Tr.get (Tr.seenU u).1 p.data.toList = some f) (hk : f.k = 1) {x y : Lk} (hx : x.o = 0) (hy : y.o = 1) (wx : (Lk.wrong [x]).1 = 0) (wy : (Lk.wrong [y]).1 = 0) :
    ∃ X a0 a1 a2 a3 a4 a5, Sy.play u (lockL p x y) = (X, [a0, a1, a2, a3, a4, a5], 0) ∧ a2.err = 0 ∧ a3.err = (if (Lk.meets [x] y).isSome = true then 13 else 0) ∧ a5.err = 0 := by
  have hp : p.data.toList ≠ [] := fun e => by
    rw [e, Tr.get_root] at hg
    injection hg with hg
    rw [← hg] at hk
    exact absurd hk (by decide)
  obtain ⟨a0, a1, a2, a3, a4, a5, h1, h2, h3, h4⟩ := Sy.locks hf hp hg hk hx hy wx wy
  have hw : (Tr.wrongU u).1 = 0 := (Tr.fine_iff u).2 hf
  have e := Sy.play_ok hw (l := lockL p x y) (by show (6 : Nat) ≤ 80; omega)
  have h1' : (Sy.calls (Sy.start u) (lockL p x y)).2 = [a0, a1, a2, a3, a4, a5] := h1
  rw [h1'] at e
  exact ⟨_, a0, a1, a2, a3, a4, a5, e, h2, h3, h4⟩
theorem Sy.seen_sm (u : Un) : (Tr.seenU u).1.length ≤ 80 ∧ Sm (Tr.seenU u).1 ∧ Tr.Srt (Tr.seenU u).1 := by
  by_cases h : (Tr.wrongU u).1 = 0
  · have ok := Sy.start_ok (u := u) h
    exact ⟨Sy.okT ok, Tr.right_sm (Sy.okR ok), (Sy.okR ok).2.1⟩
  · have e : Tr.seenU u = ([], (Tr.wrongU u).1) := by unfold Tr.seenU; rw [if_pos h]
    rw [e]
    exact ⟨Nat.zero_le _, (fun _ h => nomatch h), List.Pairwise.nil⟩
theorem Sy.seen_lk (u : Un) (p : ByteArray) (x y : Lk) (hx : x.o = 0) (hy : y.o = 1) : (Tr.seenU u).2 = 0 → ∀ f, Tr.get (Tr.seenU u).1 p.data.toList = some f → f.k = 1 → (Lk.wrong [x]).1 = 0 → (Lk.wrong [y]).1 = 0 →
    ∃ X a0 a1 a2 a3 a4 a5, Sy.play u (lockL p x y) = (X, [a0, a1, a2, a3, a4, a5], 0) ∧ a2.err = 0 ∧ a3.err = (if (Lk.meets [x] y).isSome = true then 13 else 0) ∧ a5.err = 0 := fun h f hg hk wx wy =>
  lock_play ((Tr.fine_iff u).1 (by rw [← Tr.seenU_err]; exact h)) hg hk hx hy wx wy

set_option maxHeartbeats 64000000 in
set_option maxRecDepth 100000 in
theorem sysLocks_any (A A' : Option Addr) (c c' : Nat) (u : Un) (p : ByteArray) (x y : Lk) (w : World) (hu : UnRd w w.heap.size A A' c c' u) (hs : UnSm u) (hpz : p.size ≤ 1048576) :
    Calls Tryz.prog 8 #[.agg #[.slice A u.U.length c, .slice A' u.L.length c'], .string p, .agg #[.int .i64 x.o, .int .i64 x.f, .int .i64 x.t, .bool x.a], .agg #[.int .i64 y.o, .int .i64 y.f, .int .i64 y.t, .bool y.a]] w fun e w' => e = .returned (.bool true) ∧ Below w.heap.size w w' := by
  obtain ⟨xo, xf, xt, xa⟩ := x
  obtain ⟨yo, yf, yt, ya⟩ := y
  dsimp only
  have hfd := field_fault
  have HS := Lib.hid hs
  have HU := Lib.hid hu
  have hsn := Sy.seen_sm u
  have hT := Sy.seen_lk u p ⟨0, xf, xt, xa⟩ ⟨1, yf, yt, ya⟩ rfl rfl
  have hBa0 := (Below.refl w.heap.size w).alloc (Nat.le_refl _) (.cells #[.slice A u.U.length c, .slice A' u.L.length c'] 26)
  have hBa1 := hBa0.alloc hBa0.size (.cells #[.string p] 9)
  have hBa2 := hBa1.alloc hBa1.size (.cells #[.int .i64 xo, .int .i64 xf, .int .i64 xt, .bool xa] 58)
  have hBa3 := hBa2.alloc hBa2.size (.cells #[.int .i64 yo, .int .i64 yf, .int .i64 yt, .bool ya] 58)
  have hq0 := ((((Blk.new w 26 [.slice A u.U.length c, .slice A' u.L.length c']).alloc (.cells #[.string p] 9)).alloc (.cells #[.int .i64 xo, .int .i64 xf, .int .i64 xt, .bool xa] 58)).alloc (.cells #[.int .i64 yo, .int .i64 yf, .int .i64 yt, .bool ya] 58))
  have hp0 := (((Blk.new (w.alloc (.cells #[.slice A u.U.length c, .slice A' u.L.length c'] 26)) 9 [.string p]).alloc (.cells #[.int .i64 xo, .int .i64 xf, .int .i64 xt, .bool xa] 58)).alloc (.cells #[.int .i64 yo, .int .i64 yf, .int .i64 yt, .bool ya] 58))
  have hx0 := ((Blk.new ((w.alloc (.cells #[.slice A u.U.length c, .slice A' u.L.length c'] 26)).alloc (.cells #[.string p] 9)) 58 [.int .i64 xo, .int .i64 xf, .int .i64 xt, .bool xa]).alloc (.cells #[.int .i64 yo, .int .i64 yf, .int .i64 yt, .bool ya] 58))
  have hy0 := (Blk.new (((w.alloc (.cells #[.slice A u.U.length c, .slice A' u.L.length c'] 26)).alloc (.cells #[.string p] 9)).alloc (.cells #[.int .i64 xo, .int .i64 xf, .int .i64 xt, .bool xa] 58)) 58 [.int .i64 yo, .int .i64 yf, .int .i64 yt, .bool ya])
  simp only [World.size_alloc] at hq0 hp0 hx0 hy0
  have hB0 := hBa3
  clear hBa0 hBa1 hBa2 hBa3 hu hs
  obtain ⟨S, hS⟩ : ∃ S, S = Tr.seenU u := ⟨_, rfl⟩
  rw [← hS] at hsn hT
  have HSE := Lib.hid hS.symm
  have HT := Lib.hid hT
  clear hS hT
  obtain ⟨Ts, es⟩ := S
  dsimp only at hsn HT
  obtain ⟨hTl, hTs, hTr⟩ := hsn
  have HTS := Lib.hid hTs
  have HTR := Lib.hid hTr
  clear hTs hTr
  go_enter Tryz.func8, Tryz.ntmps8
  go_upto_region 1 with fail
  change Code.wp _ _ _ _ ((((w.alloc (.cells #[.slice A u.U.length c, .slice A' u.L.length c'] 26)).alloc (.cells #[.string p] 9)).alloc (.cells #[.int .i64 xo, .int .i64 xf, .int .i64 xt, .bool xa] 58)).alloc (.cells #[.int .i64 yo, .int .i64 yf, .int .i64 yt, .bool ya] 58))
  generalize ((((w.alloc (.cells #[.slice A u.U.length c, .slice A' u.L.length c'] 26)).alloc (.cells #[.string p] 9)).alloc (.cells #[.int .i64 xo, .int .i64 xf, .int .i64 xt, .bool xa] 58)).alloc (.cells #[.int .i64 yo, .int .i64 yf, .int .i64 yt, .bool ya] 58)) = w0 at *
  go_wp2_with fail
  refine (law6Alive_any w0).mono ?_
  rintro e w1 ⟨rfl, hb⟩
  have hq1 := hq0.below hb hq0.lt
  have hp1 := hp0.below hb hp0.lt
  have hx1 := hx0.below hb hx0.lt
  have hy1 := hy0.below hb hy0.lt
  have hB1 := hB0.trans (hb.mono hB0.size)
  clear hb hB0 hq0 hp0 hx0 hy0
  obtain ⟨q0, q1, qf, qz⟩ := hq1.two
  obtain ⟨x0, x1, x2, x3, xff, xz⟩ := hx1.four
  obtain ⟨y0, y1, y2, y3, yff, yz⟩ := hy1.four
  have p0 : w1.cell? ⟨w.heap.size + 1, 0, none⟩ = some (.string p) := hp1.cell 0
  have hq2 := (hq1.far (p := ⟨w.heap.size + 1 + 1, 0, none⟩) (by show w.heap.size ≠ w.heap.size + 1 + 1; omega) (.int .i64 0)).far (p := ⟨w.heap.size + 1 + 1 + 1, 0, none⟩) (by show w.heap.size ≠ w.heap.size + 1 + 1 + 1; omega) (.int .i64 1)
  have hp2 := (hp1.far (p := ⟨w.heap.size + 1 + 1, 0, none⟩) (by show w.heap.size + 1 ≠ w.heap.size + 1 + 1; omega) (.int .i64 0)).far (p := ⟨w.heap.size + 1 + 1 + 1, 0, none⟩) (by show w.heap.size + 1 ≠ w.heap.size + 1 + 1 + 1; omega) (.int .i64 1)
  have hx2 : Blk ((w1.setCell ⟨w.heap.size + 1 + 1, 0, none⟩ (.int .i64 0)).setCell ⟨w.heap.size + 1 + 1 + 1, 0, none⟩ (.int .i64 1)) (w.heap.size + 1 + 1) 58 [.int .i64 0, .int .i64 xf, .int .i64 xt, .bool xa] := (hx1.set_ 0 _).far (p := ⟨w.heap.size + 1 + 1 + 1, 0, none⟩) (by show w.heap.size + 1 + 1 ≠ w.heap.size + 1 + 1 + 1; omega) (.int .i64 1)
  have hy2 : Blk ((w1.setCell ⟨w.heap.size + 1 + 1, 0, none⟩ (.int .i64 0)).setCell ⟨w.heap.size + 1 + 1 + 1, 0, none⟩ (.int .i64 1)) (w.heap.size + 1 + 1 + 1) 58 [.int .i64 1, .int .i64 yf, .int .i64 yt, .bool ya] := (hy1.far (p := ⟨w.heap.size + 1 + 1, 0, none⟩) (by show w.heap.size + 1 + 1 + 1 ≠ w.heap.size + 1 + 1; omega) (.int .i64 0)).set_ 0 _
  have hB2 := (hB1.setCell (p := ⟨w.heap.size + 1 + 1, 0, none⟩) (by show w.heap.size ≤ w.heap.size + 1 + 1; omega) (.int .i64 0)).setCell (p := ⟨w.heap.size + 1 + 1 + 1, 0, none⟩) (by show w.heap.size ≤ w.heap.size + 1 + 1 + 1; omega) (.int .i64 1)
  go_upto_region 4 with fail
  change Code.wp _ _ _ _ ((w1.setCell ⟨w.heap.size + 1 + 1, 0, none⟩ (.int .i64 0)).setCell ⟨w.heap.size + 1 + 1 + 1, 0, none⟩ (.int .i64 1))
  clear q0 q1 qf qz x0 x1 x2 x3 xff xz y0 y1 y2 y3 yff yz p0
  clear hq1 hp1 hx1 hy1 hB1
  generalize ((w1.setCell ⟨w.heap.size + 1 + 1, 0, none⟩ (.int .i64 0)).setCell ⟨w.heap.size + 1 + 1 + 1, 0, none⟩ (.int .i64 1)) = w2 at *
  have cS := seenU_any A A' c c' u w2 ((HU.out.below hB2).more hB2.size) HS.out
  unfold SeenRel at cS
  rw [HSE.out] at cS
  dsimp only at cS
  have HCS := Lib.hid cS
  clear cS HSE
  obtain ⟨q0, q1, qf, qz⟩ := hq2.two
  obtain ⟨x0, x1, x2, x3, xff, xz⟩ := hx2.four
  obtain ⟨y0, y1, y2, y3, yff, yz⟩ := hy2.four
  have p0 : w2.cell? ⟨w.heap.size + 1, 0, none⟩ = some (.string p) := hp2.cell 0
  go_wp2_with fail
  clear q0 q1 qf qz x0 x1 x2 x3 xff xz y0 y1 y2 y3 yff yz p0
  refine HCS.out.mono ?_
  rintro e w3 ⟨v3, rfl, ho3, hb⟩
  obtain ⟨A4, c4, rfl, hc4, hr4⟩ := EnOwn.rd ho3
  have hq3 := hq2.below hb hq2.lt
  have hp3 := hp2.below hb hp2.lt
  have hx3 := hx2.below hb hx2.lt
  have hy3 := hy2.below hb hy2.lt
  have hB3 := hB2.trans (hb.mono hB2.size)
  clear hb hB2 hq2 hp2 hx2 hy2
  clear HCS ho3
  have cG := get_any A4 c4 Ts p w3 hr4 HTS.out (by omega) (by omega)
  have HCG := Lib.hid cG
  clear cG hr4
  obtain ⟨q0, q1, qf, qz⟩ := hq3.two
  obtain ⟨x0, x1, x2, x3, xff, xz⟩ := hx3.four
  obtain ⟨y0, y1, y2, y3, yff, yz⟩ := hy3.four
  have p0 : w3.cell? ⟨w.heap.size + 1, 0, none⟩ = some (.string p) := hp3.cell 0
  go_wp2_with fail
  clear q0 q1 qf qz x0 x1 x2 x3 xff xz y0 y1 y2 y3 yff yz p0
  refine HCG.out.mono ?_
  rintro e w4 ⟨r, rfl, hr, hb⟩
  have hgr : r = Tr.get Ts p.data.toList := hr.2 (.inl HTR.out)
  have hq4 := hq3.below hb hq3.lt
  have hp4 := hp3.below hb hp3.lt
  have hx4 := hx3.below hb hx3.lt
  have hy4 := hy3.below hb hy3.lt
  have hB4 := hB3.trans (hb.mono hB3.size)
  clear hb hB3 hq3 hp3 hx3 hy3
  clear HCG hr
  have HGR := Lib.hid hgr
  clear hgr
  obtain ⟨z, hz⟩ : ∃ y, y = r.getD En.zero := ⟨_, rfl⟩
  rw [← hz]
  have HZ := Lib.hid hz
  clear hz
  obtain ⟨dp, dk, dt, dop⟩ := z
  simp only [En.agg, En.cells]
  have hb := (Below.refl w4.heap.size w4).alloc (Nat.le_refl _) (.cells #[.string dp, .int .i64 dk, .string dt, .bool dop] 53)
  have hq5 := hq4.below hb hq4.lt
  have hp5 := hp4.below hb hp4.lt
  have hx5 := hx4.below hb hx4.lt
  have hy5 := hy4.below hb hy4.lt
  have hB5 := hB4.trans (hb.mono hB4.size)
  have hd5 := Blk.new w4 53 [.string dp, .int .i64 dk, .string dt, .bool dop]
  clear hb hB4 hq4 hp4 hx4 hy4
  go_upto_region 6 with fail
  change Code.wp _ _ _ _ (w4.alloc (.cells #[.string dp, .int .i64 dk, .string dt, .bool dop] 53))
  generalize w4.alloc (.cells #[.string dp, .int .i64 dk, .string dt, .bool dop] 53) = w5 at *
  generalize w4.heap.size = gd at *
  obtain ⟨d0, d1, d2, d3, df, dz⟩ := hd5.four
  clear hd5
  obtain ⟨q0, q1, qf, qz⟩ := hq5.two
  obtain ⟨x0, x1, x2, x3, xff, xz⟩ := hx5.four
  obtain ⟨y0, y1, y2, y3, yff, yz⟩ := hy5.four
  have p0 : w5.cell? ⟨w.heap.size + 1, 0, none⟩ = some (.string p) := hp5.cell 0
  rcases te : (es != 0) with _ | _
  rotate_left
  · go_wp2_with fail
    go_ret
    exact ⟨rfl, hB5⟩
  have hes : es = 0 := by simpa using te
  subst hes
  rcases r with _ | f
  · go_wp2_with fail
    go_ret
    exact ⟨rfl, hB5⟩
  have hfy : (⟨dp, dk, dt, dop⟩ : En) = f := HZ.out
  subst hfy
  rcases tk : (dk != 1) with _ | _
  rotate_left
  · go_wp2_with fail
    go_ret
    exact ⟨rfl, hB5⟩
  have hk1 : dk = 1 := by simpa using tk
  have hlk := HT.out rfl _ HGR.out.symm hk1
  have HLK := Lib.hid hlk
  have cW := wrong_any (some ⟨w5.heap.size, 0, none⟩) 1 [⟨0, xf, xt, xa⟩] (w5.alloc (.cells #[.int .i64 0, .int .i64 xf, .int .i64 xt, .bool xa] 58)) (lkRd_one w5 _ ⟨0, xf, xt, xa⟩ (by simp)) (Nat.le_refl _) (by show (1 : Nat) ≤ 9223372036854775807; omega)
  obtain ⟨q, hq⟩ : ∃ q, q = Lk.wrong [⟨0, xf, xt, xa⟩] := ⟨_, rfl⟩
  rw [← hq] at cW
  have HWX := Lib.hid (congrArg Prod.fst hq)
  clear hq hlk HT HGR HZ
  obtain ⟨ex, ax⟩ := q
  dsimp only at cW HWX
  have HCW := Lib.hid cW
  clear cW
  go_wp2_with fail
  clear q0 q1 qf qz x0 x1 x2 x3 xff xz y0 y1 y2 y3 yff yz p0
  refine HCW.out.mono ?_
  rintro e w6 ⟨rfl, hb⟩
  have hb := ((Below.refl w5.heap.size w5).alloc (Nat.le_refl _) (.cells #[.int .i64 0, .int .i64 xf, .int .i64 xt, .bool xa] 58)).trans (hb.mono (by simp))
  have hq6 := hq5.below hb hq5.lt
  have hp6 := hp5.below hb hp5.lt
  have hx6 := hx5.below hb hx5.lt
  have hy6 := hy5.below hb hy5.lt
  have hB6 := hB5.trans (hb.mono hB5.size)
  clear hb hB5 hq5 hp5 hx5 hy5
  clear HCW d0 d1 d2 d3 df dz
  rcases tx : (ex != 0) with _ | _
  rotate_left
  · go_wp2_with fail
    go_ret
    exact ⟨rfl, hB6⟩
  have hex : ex = 0 := by simpa using tx
  subst hex
  have cW := wrong_any (some ⟨w6.heap.size, 0, none⟩) 1 [⟨1, yf, yt, ya⟩] (w6.alloc (.cells #[.int .i64 1, .int .i64 yf, .int .i64 yt, .bool ya] 58)) (lkRd_one w6 _ ⟨1, yf, yt, ya⟩ (by simp)) (Nat.le_refl _) (by show (1 : Nat) ≤ 9223372036854775807; omega)
  obtain ⟨q, hq⟩ : ∃ q, q = Lk.wrong [⟨1, yf, yt, ya⟩] := ⟨_, rfl⟩
  rw [← hq] at cW
  have HWY := Lib.hid (congrArg Prod.fst hq)
  clear hq
  obtain ⟨ey, ay⟩ := q
  dsimp only at cW HWY
  have HCW := Lib.hid cW
  clear cW
  obtain ⟨q0, q1, qf, qz⟩ := hq6.two
  obtain ⟨x0, x1, x2, x3, xff, xz⟩ := hx6.four
  obtain ⟨y0, y1, y2, y3, yff, yz⟩ := hy6.four
  have p0 : w6.cell? ⟨w.heap.size + 1, 0, none⟩ = some (.string p) := hp6.cell 0
  go_wp2_with fail
  clear q0 q1 qf qz x0 x1 x2 x3 xff xz y0 y1 y2 y3 yff yz p0
  refine HCW.out.mono ?_
  rintro e w7 ⟨rfl, hb⟩
  have hb := ((Below.refl w6.heap.size w6).alloc (Nat.le_refl _) (.cells #[.int .i64 1, .int .i64 yf, .int .i64 yt, .bool ya] 58)).trans (hb.mono (by simp))
  have hq7 := hq6.below hb hq6.lt
  have hp7 := hp6.below hb hp6.lt
  have hx7 := hx6.below hb hx6.lt
  have hy7 := hy6.below hb hy6.lt
  have hB7 := hB6.trans (hb.mono hB6.size)
  clear hb hB6 hq6 hp6 hx6 hy6
  clear HCW
  rcases ty : (ey != 0) with _ | _
  rotate_left
  · go_wp2_with fail
    go_ret
    exact ⟨rfl, hB7⟩
  have hey : ey = 0 := by simpa using ty
  subst hey
  obtain ⟨⟨⟨u2, L2⟩, T2, n2⟩, a0, a1, a2, a3, a4, a5, hpl, ha2, ha3, ha5⟩ := HLK.out HWX.out.symm HWY.out.symm
  have HPL := Lib.hid hpl
  have HA2 := Lib.hid ha2
  have HA3 := Lib.hid ha3
  have HA5 := Lib.hid ha5
  clear HLK HWX HWY hpl ha2 ha3 ha5 te tk tx ty
  have cM := fun W => meets_any (some ⟨W.heap.size, 0, none⟩) 1 [⟨0, xf, xt, xa⟩] ⟨1, yf, yt, ya⟩ (W.alloc (.cells #[.int .i64 0, .int .i64 xf, .int .i64 xt, .bool xa] 58)) (lkRd_one W _ ⟨0, xf, xt, xa⟩ (by simp)) (by show (1 : Nat) ≤ 9223372036854775807; omega)
  generalize Lk.meets [⟨0, xf, xt, xa⟩] ⟨1, yf, yt, ya⟩ = mt at cM HA3
  generalize mt.isSome = mb at cM HA3
  generalize mt.getD Lk.zero = mz at cM
  obtain ⟨mo, mf, mm, ma⟩ := mz
  simp only [Lk.agg, Lk.cells] at cM
  have HCM := Lib.hid cM
  clear cM
  obtain ⟨e3, he3⟩ : ∃ e3 : Int, e3 = if mb = true then 13 else 0 := ⟨_, rfl⟩
  rw [← he3] at HA3
  have HE3 := Lib.hid he3
  clear he3
  go_upto_region 10 with fail
  go_cut [16, 10] (fun v er wx => ∃ b o ca, v = .slice (some ⟨b, o, none⟩) 6 ca ∧ er = .int .i64 0 ∧ Blk wx (w.heap.size + 1 + 1) 58 [.int .i64 0, .int .i64 xf, .int .i64 xt, .bool xa] ∧ Blk wx (w.heap.size + 1 + 1 + 1) 58 [.int .i64 1, .int .i64 yf, .int .i64 yt, .bool ya] ∧ Below w.heap.size w wx ∧ wx.cell? ⟨b, o + 8, none⟩ = some (.int .i64 0) ∧ wx.cell? ⟨b, o + 12, none⟩ = some (.int .i64 e3) ∧ wx.cell? ⟨b, o + 20, none⟩ = some (.int .i64 0))
  case first =>
    have hq7d := hq7.drew
    have hp7d := hp7.drew
    have hx7d := hx7.drew
    have hy7d := hy7.drew
    have hB7d : Below w.heap.size w w7.drew := hB7.drew
    have hg7 : w.heap.size + 1 + 1 + 1 < w7.heap.size := hy7.lt
    have hs7 : w7.heap.size ≤ w7.drew.heap.size := Nat.le_refl _
    go_region_held3 (fun W => W.cell? ⟨w.heap.size, 0, none⟩ = some (.slice A u.U.length c) ∧ W.cell? ⟨w.heap.size, 1, none⟩ = some (.slice A' u.L.length c') ∧ W.cell? ⟨w.heap.size + 1 + 1, 0, none⟩ = some (.int .i64 0) ∧ W.cell? ⟨w.heap.size + 1 + 1, 1, none⟩ = some (.int .i64 xf) ∧ W.cell? ⟨w.heap.size + 1 + 1, 2, none⟩ = some (.int .i64 xt) ∧ W.cell? ⟨w.heap.size + 1 + 1, 3, none⟩ = some (.bool xa) ∧ W.cell? ⟨w.heap.size + 1 + 1 + 1, 0, none⟩ = some (.int .i64 1) ∧ W.cell? ⟨w.heap.size + 1 + 1 + 1, 1, none⟩ = some (.int .i64 yf) ∧ W.cell? ⟨w.heap.size + 1 + 1 + 1, 2, none⟩ = some (.int .i64 yt) ∧ W.cell? ⟨w.heap.size + 1 + 1 + 1, 3, none⟩ = some (.bool ya))
      (first
        | with_reducible exact keep_l hq7d hx7d hy7d
        | with_reducible exact keep_l (hq7d.alloc _) (hx7d.alloc _) (hy7d.alloc _)
        | with_reducible exact keep_l (hq7.alloc _).drew (hx7.alloc _).drew (hy7.alloc _).drew
        | with_reducible exact keep_l hq8 hx8 hy8
        | with_reducible exact keep_l (hq8.alloc _) (hx8.alloc _) (hy8.alloc _)
        | with_reducible exact keep_l hq9 hx9 hy9
        | with_reducible exact keep_l (hq9.alloc _) (hx9.alloc _) (hy9.alloc _)
        | with_reducible exact keep_l hq10 hx10 hy10
        | with_reducible exact keep_l (hq10.alloc _) (hx10.alloc _) (hy10.alloc _)
        | with_reducible exact keep_l hq11 hx11 hy11
        | with_reducible exact keep_l (hq11.alloc _) (hx11.alloc _) (hy11.alloc _)
        | with_reducible exact keep_l hq12 hx12 hy12
        | with_reducible exact keep_l (hq12.alloc _) (hx12.alloc _) (hy12.alloc _)
        | with_reducible exact keep_l ((hq12.alloc _).alloc _) ((hx12.alloc _).alloc _) ((hy12.alloc _).alloc _)
        | with_reducible exact keep_l hq14 hx14 hy14
        | with_reducible exact keep_l (hq14.alloc _) (hx14.alloc _) (hy14.alloc _)
        | with_reducible exact keep_l (Blk.far4 hq14 hnq _ _ _ _) (Blk.far4 hx14 hnx _ _ _ _) (Blk.far4 hy14 hny _ _ _ _)
        | exact keep_l (Blk.far4 hq14 hnq _ _ _ _) (Blk.far4 hx14 hnx _ _ _ _) (Blk.far4 hy14 hny _ _ _ _)
        | go_keep)
      (first
        | (go_at_call 15
           (with_reducible change Calls _ _ _ (World.alloc w12 _) _)
           have hb13 := (Below.refl w12.heap.size w12).alloc (Nat.le_refl _) (.cells ((lockL p ⟨0, xf, xt, xa⟩ ⟨1, yf, yt, ya⟩).flatMap Ca.cells).toArray 50)
           have hB13 := hB12.trans (hb13.mono hB12.size)
           have hl13 := Blk.new w12 50 ((lockL p ⟨0, xf, xt, xa⟩ ⟨1, yf, yt, ya⟩).flatMap Ca.cells)
           have cP := play_any A A' (some ⟨w12.heap.size, 0, none⟩) c c' 6 u (lockL p ⟨0, xf, xt, xa⟩ ⟨1, yf, yt, ya⟩) (w12.alloc (.cells ((lockL p ⟨0, xf, xt, xa⟩ ⟨1, yf, yt, ya⟩).flatMap Ca.cells).toArray 50)) ((HU.out.below hB13).more hB13.size) HS.out (cas_blk hl13) (lockL_sm hpz) (by show (6 : Nat) ≤ 4000000; omega)
           rw [HPL.out] at cP
           unfold PlayRel at cP
           dsimp only at cP
           refine cP.mono ?_
           rintro e w14 ⟨A2, A2', c2, c2', AT, cT, v, rfl, -, -, -, hO, hbp⟩
           have hb14 := hb13.trans (hbp.mono hb13.size)
           have hq14 := hq12.below hb14 hq12.lt
           have hp14 := hp12.below hb14 hp12.lt
           have hx14 := hx12.below hb14 hx12.lt
           have hy14 := hy12.below hb14 hy12.lt
           have hB14 := hB12.trans (hb14.mono hB12.size)
           try have hz14 := hz12.below hb14 hz12.lt
           try obtain ⟨z0, z1, z2, z3, zff, zz⟩ := hz14.four)
        | (go_at_call 15
           (with_reducible change Calls _ _ _ (World.alloc (World.alloc w12 (.cells #[.slice none 0 0, .slice none 0 0, .slice none 0 0, .int .i64 0] 33)) _) _)
           have hb12' := (Below.refl w12.heap.size w12).alloc (Nat.le_refl _) (.cells #[.slice none 0 0, .slice none 0 0, .slice none 0 0, .int .i64 0] 33)
           have hb13 := hb12'.alloc hb12'.size (.cells ((lockL p ⟨0, xf, xt, xa⟩ ⟨1, yf, yt, ya⟩).flatMap Ca.cells).toArray 50)
           have hz13 := ((Blk.new w12 33 [.slice none 0 0, .slice none 0 0, .slice none 0 0, .int .i64 0]).alloc (.cells ((lockL p ⟨0, xf, xt, xa⟩ ⟨1, yf, yt, ya⟩).flatMap Ca.cells).toArray 50))
           have hB13 := hB12.trans (hb13.mono hB12.size)
           have hl13 := Blk.new (w12.alloc (.cells #[.slice none 0 0, .slice none 0 0, .slice none 0 0, .int .i64 0] 33)) 50 ((lockL p ⟨0, xf, xt, xa⟩ ⟨1, yf, yt, ya⟩).flatMap Ca.cells)
           simp only [World.size_alloc] at hl13
           have cP := play_any A A' (some ⟨w12.heap.size + 1, 0, none⟩) c c' 6 u (lockL p ⟨0, xf, xt, xa⟩ ⟨1, yf, yt, ya⟩) ((w12.alloc (.cells #[.slice none 0 0, .slice none 0 0, .slice none 0 0, .int .i64 0] 33)).alloc (.cells ((lockL p ⟨0, xf, xt, xa⟩ ⟨1, yf, yt, ya⟩).flatMap Ca.cells).toArray 50)) ((HU.out.below hB13).more hB13.size) HS.out (cas_blk hl13) (lockL_sm hpz) (by show (6 : Nat) ≤ 4000000; omega)
           rw [HPL.out] at cP
           unfold PlayRel at cP
           dsimp only at cP
           refine cP.mono ?_
           rintro e w14 ⟨A2, A2', c2, c2', AT, cT, v, rfl, -, -, -, hO, hbp⟩
           have hb14 := hb13.trans (hbp.mono hb13.size)
           have hq14 := hq12.below hb14 hq12.lt
           have hp14 := hp12.below hb14 hp12.lt
           have hx14 := hx12.below hb14 hx12.lt
           have hy14 := hy12.below hb14 hy12.lt
           have hB14 := hB12.trans (hb14.mono hB12.size)
           have hz14 := hz13.below hbp hz13.lt
           have hnq : w.heap.size ≠ w12.heap.size := by omega
           have hnx : w.heap.size + 1 + 1 ≠ w12.heap.size := by omega
           have hny : w.heap.size + 1 + 1 + 1 ≠ w12.heap.size := by omega
           have hnl : w.heap.size ≤ w12.heap.size := by omega
           try obtain ⟨z0, z1, z2, z3, zff, zz⟩ := hz14.four)
        | (go_at_call 15
           (with_reducible change Calls _ _ _ (World.alloc (World.alloc w12 _) (.cells #[.slice none 0 0, .slice none 0 0, .slice none 0 0, .int .i64 0] 33)) _)
           have hb12' := (Below.refl w12.heap.size w12).alloc (Nat.le_refl _) (.cells ((lockL p ⟨0, xf, xt, xa⟩ ⟨1, yf, yt, ya⟩).flatMap Ca.cells).toArray 50)
           have hb13 := hb12'.alloc hb12'.size (.cells #[.slice none 0 0, .slice none 0 0, .slice none 0 0, .int .i64 0] 33)
           have hz13 := Blk.new (w12.alloc (.cells ((lockL p ⟨0, xf, xt, xa⟩ ⟨1, yf, yt, ya⟩).flatMap Ca.cells).toArray 50)) 33 [.slice none 0 0, .slice none 0 0, .slice none 0 0, .int .i64 0]
           have hB13 := hB12.trans (hb13.mono hB12.size)
           have hl13 := (Blk.new w12 50 ((lockL p ⟨0, xf, xt, xa⟩ ⟨1, yf, yt, ya⟩).flatMap Ca.cells)).alloc (.cells #[.slice none 0 0, .slice none 0 0, .slice none 0 0, .int .i64 0] 33)
           simp only [World.size_alloc] at hz13
           have cP := play_any A A' (some ⟨w12.heap.size, 0, none⟩) c c' 6 u (lockL p ⟨0, xf, xt, xa⟩ ⟨1, yf, yt, ya⟩) ((w12.alloc (.cells ((lockL p ⟨0, xf, xt, xa⟩ ⟨1, yf, yt, ya⟩).flatMap Ca.cells).toArray 50)).alloc (.cells #[.slice none 0 0, .slice none 0 0, .slice none 0 0, .int .i64 0] 33)) ((HU.out.below hB13).more hB13.size) HS.out (cas_blk hl13) (lockL_sm hpz) (by show (6 : Nat) ≤ 4000000; omega)
           rw [HPL.out] at cP
           unfold PlayRel at cP
           dsimp only at cP
           refine cP.mono ?_
           rintro e w14 ⟨A2, A2', c2, c2', AT, cT, v, rfl, -, -, -, hO, hbp⟩
           have hb14 := hb13.trans (hbp.mono hb13.size)
           have hq14 := hq12.below hb14 hq12.lt
           have hp14 := hp12.below hb14 hp12.lt
           have hx14 := hx12.below hb14 hx12.lt
           have hy14 := hy12.below hb14 hy12.lt
           have hB14 := hB12.trans (hb14.mono hB12.size)
           have hz14 := hz13.below hbp hz13.lt
           have hnq : w.heap.size ≠ (w12.heap.size + 1) := by omega
           have hnx : w.heap.size + 1 + 1 ≠ (w12.heap.size + 1) := by omega
           have hny : w.heap.size + 1 + 1 + 1 ≠ (w12.heap.size + 1) := by omega
           have hnl : w.heap.size ≤ (w12.heap.size + 1) := by omega
           try obtain ⟨z0, z1, z2, z3, zff, zz⟩ := hz14.four)
        | (go_at_call 25; (with_reducible change Calls _ _ _ w11 _); refine (lkTake_any ⟨1, yf, yt, ya⟩ w11).mono ?_; rintro e w12 ⟨rfl, hb12⟩
           have hq12 := hq11.below hb12 hq11.lt
           have hp12 := hp11.below hb12 hp11.lt
           have hx12 := hx11.below hb12 hx11.lt
           have hy12 := hy11.below hb12 hy11.lt
           have hB12 := hB11.trans (hb12.mono hB11.size)
           have hs12 := hb12.size
           try have hz12 := hz11.below hb12 hz11.lt)
        | (go_at_call 25; (with_reducible change Calls _ _ _ (w11.alloc (.cells #[.slice none 0 0, .slice none 0 0, .slice none 0 0, .int .i64 0] 33)) _); refine (lkTake_any ⟨1, yf, yt, ya⟩ (w11.alloc (.cells #[.slice none 0 0, .slice none 0 0, .slice none 0 0, .int .i64 0] 33))).mono ?_; rintro e w12 ⟨rfl, hc12⟩
           have hb12 := ((Below.refl w11.heap.size w11).alloc (Nat.le_refl _) (.cells #[.slice none 0 0, .slice none 0 0, .slice none 0 0, .int .i64 0] 33)).trans (hc12.mono (by simp))
           have hz12 : Blk w12 w11.heap.size 33 [.slice none 0 0, .slice none 0 0, .slice none 0 0, .int .i64 0] := (Blk.new w11 33 [.slice none 0 0, .slice none 0 0, .slice none 0 0, .int .i64 0]).below hc12 (Blk.new w11 33 [.slice none 0 0, .slice none 0 0, .slice none 0 0, .int .i64 0]).lt
           have hq12 := hq11.below hb12 hq11.lt
           have hp12 := hp11.below hb12 hp11.lt
           have hx12 := hx11.below hb12 hx11.lt
           have hy12 := hy11.below hb12 hy11.lt
           have hB12 := hB11.trans (hb12.mono hB11.size)
           have hs12 := hb12.size
           have hnq : w.heap.size ≠ w11.heap.size := by omega
           have hnx : w.heap.size + 1 + 1 ≠ w11.heap.size := by omega
           have hny : w.heap.size + 1 + 1 + 1 ≠ w11.heap.size := by omega
           have hnl : w.heap.size ≤ w11.heap.size := by omega)
        | (go_at_call 25; (with_reducible change Calls _ _ _ w10 _); refine (lkTake_any ⟨1, yf, yt, ya⟩ w10).mono ?_; rintro e w11 ⟨rfl, hb11⟩
           have hq11 := hq10.below hb11 hq10.lt
           have hp11 := hp10.below hb11 hp10.lt
           have hx11 := hx10.below hb11 hx10.lt
           have hy11 := hy10.below hb11 hy10.lt
           have hB11 := hB10.trans (hb11.mono hB10.size)
           have hs11 := hb11.size
           try have hz11 := hz10.below hb11 hz10.lt)
        | (go_at_call 25; (with_reducible change Calls _ _ _ (w10.alloc (.cells #[.slice none 0 0, .slice none 0 0, .slice none 0 0, .int .i64 0] 33)) _); refine (lkTake_any ⟨1, yf, yt, ya⟩ (w10.alloc (.cells #[.slice none 0 0, .slice none 0 0, .slice none 0 0, .int .i64 0] 33))).mono ?_; rintro e w11 ⟨rfl, hc11⟩
           have hb11 := ((Below.refl w10.heap.size w10).alloc (Nat.le_refl _) (.cells #[.slice none 0 0, .slice none 0 0, .slice none 0 0, .int .i64 0] 33)).trans (hc11.mono (by simp))
           have hz11 : Blk w11 w10.heap.size 33 [.slice none 0 0, .slice none 0 0, .slice none 0 0, .int .i64 0] := (Blk.new w10 33 [.slice none 0 0, .slice none 0 0, .slice none 0 0, .int .i64 0]).below hc11 (Blk.new w10 33 [.slice none 0 0, .slice none 0 0, .slice none 0 0, .int .i64 0]).lt
           have hq11 := hq10.below hb11 hq10.lt
           have hp11 := hp10.below hb11 hp10.lt
           have hx11 := hx10.below hb11 hx10.lt
           have hy11 := hy10.below hb11 hy10.lt
           have hB11 := hB10.trans (hb11.mono hB10.size)
           have hs11 := hb11.size
           have hnq : w.heap.size ≠ w10.heap.size := by omega
           have hnx : w.heap.size + 1 + 1 ≠ w10.heap.size := by omega
           have hny : w.heap.size + 1 + 1 + 1 ≠ w10.heap.size := by omega
           have hnl : w.heap.size ≤ w10.heap.size := by omega)
        | (go_at_call 25; (with_reducible change Calls _ _ _ w9 _); refine (lkTake_any ⟨0, xf, xt, xa⟩ w9).mono ?_; rintro e w10 ⟨rfl, hb10⟩
           have hq10 := hq9.below hb10 hq9.lt
           have hp10 := hp9.below hb10 hp9.lt
           have hx10 := hx9.below hb10 hx9.lt
           have hy10 := hy9.below hb10 hy9.lt
           have hB10 := hB9.trans (hb10.mono hB9.size)
           have hs10 := hb10.size
           try have hz10 := hz9.below hb10 hz9.lt)
        | (go_at_call 25; (with_reducible change Calls _ _ _ (w9.alloc (.cells #[.slice none 0 0, .slice none 0 0, .slice none 0 0, .int .i64 0] 33)) _); refine (lkTake_any ⟨0, xf, xt, xa⟩ (w9.alloc (.cells #[.slice none 0 0, .slice none 0 0, .slice none 0 0, .int .i64 0] 33))).mono ?_; rintro e w10 ⟨rfl, hc10⟩
           have hb10 := ((Below.refl w9.heap.size w9).alloc (Nat.le_refl _) (.cells #[.slice none 0 0, .slice none 0 0, .slice none 0 0, .int .i64 0] 33)).trans (hc10.mono (by simp))
           have hz10 : Blk w10 w9.heap.size 33 [.slice none 0 0, .slice none 0 0, .slice none 0 0, .int .i64 0] := (Blk.new w9 33 [.slice none 0 0, .slice none 0 0, .slice none 0 0, .int .i64 0]).below hc10 (Blk.new w9 33 [.slice none 0 0, .slice none 0 0, .slice none 0 0, .int .i64 0]).lt
           have hq10 := hq9.below hb10 hq9.lt
           have hp10 := hp9.below hb10 hp9.lt
           have hx10 := hx9.below hb10 hx9.lt
           have hy10 := hy9.below hb10 hy9.lt
           have hB10 := hB9.trans (hb10.mono hB9.size)
           have hs10 := hb10.size
           have hnq : w.heap.size ≠ w9.heap.size := by omega
           have hnx : w.heap.size + 1 + 1 ≠ w9.heap.size := by omega
           have hny : w.heap.size + 1 + 1 + 1 ≠ w9.heap.size := by omega
           have hnl : w.heap.size ≤ w9.heap.size := by omega)
        | (go_at_call 26; (with_reducible change Calls _ _ _ w8 _); refine (lkOpen_any 1 (w.heap.size + 1) p w8 (hp8.cell 0) hp8.lt).mono ?_; rintro e w9 ⟨rfl, hb9⟩
           have hq9 := hq8.below hb9 hq8.lt
           have hp9 := hp8.below hb9 hp8.lt
           have hx9 := hx8.below hb9 hx8.lt
           have hy9 := hy8.below hb9 hy8.lt
           have hB9 := hB8.trans (hb9.mono hB8.size)
           have hs9 := hb9.size
           try have hz9 := hz8.below hb9 hz8.lt)
        | (go_at_call 26; (with_reducible change Calls _ _ _ (w8.alloc (.cells #[.slice none 0 0, .slice none 0 0, .slice none 0 0, .int .i64 0] 33)) _); refine (lkOpen_any 1 (w.heap.size + 1) p (w8.alloc (.cells #[.slice none 0 0, .slice none 0 0, .slice none 0 0, .int .i64 0] 33)) ((hp8.alloc (.cells #[.slice none 0 0, .slice none 0 0, .slice none 0 0, .int .i64 0] 33)).cell 0) (hp8.alloc (.cells #[.slice none 0 0, .slice none 0 0, .slice none 0 0, .int .i64 0] 33)).lt).mono ?_; rintro e w9 ⟨rfl, hc9⟩
           have hb9 := ((Below.refl w8.heap.size w8).alloc (Nat.le_refl _) (.cells #[.slice none 0 0, .slice none 0 0, .slice none 0 0, .int .i64 0] 33)).trans (hc9.mono (by simp))
           have hz9 : Blk w9 w8.heap.size 33 [.slice none 0 0, .slice none 0 0, .slice none 0 0, .int .i64 0] := (Blk.new w8 33 [.slice none 0 0, .slice none 0 0, .slice none 0 0, .int .i64 0]).below hc9 (Blk.new w8 33 [.slice none 0 0, .slice none 0 0, .slice none 0 0, .int .i64 0]).lt
           have hq9 := hq8.below hb9 hq8.lt
           have hp9 := hp8.below hb9 hp8.lt
           have hx9 := hx8.below hb9 hx8.lt
           have hy9 := hy8.below hb9 hy8.lt
           have hB9 := hB8.trans (hb9.mono hB8.size)
           have hs9 := hb9.size
           have hnq : w.heap.size ≠ w8.heap.size := by omega
           have hnx : w.heap.size + 1 + 1 ≠ w8.heap.size := by omega
           have hny : w.heap.size + 1 + 1 + 1 ≠ w8.heap.size := by omega
           have hnl : w.heap.size ≤ w8.heap.size := by omega)
        | (go_at_call 26; (with_reducible change Calls _ _ _ w7.drew _); refine (lkOpen_any 0 (w.heap.size + 1) p w7.drew (hp7d.cell 0) hp7d.lt).mono ?_; rintro e w8 ⟨rfl, hb8⟩
           have hq8 := hq7d.below hb8 hq7d.lt
           have hp8 := hp7d.below hb8 hp7d.lt
           have hx8 := hx7d.below hb8 hx7d.lt
           have hy8 := hy7d.below hb8 hy7d.lt
           have hB8 := hB7d.trans (hb8.mono hB7d.size)
           have hs8 := hb8.size)
        | (go_at_call 26; (with_reducible change Calls _ _ _ (World.drew (World.alloc w7 (.cells #[.slice none 0 0, .slice none 0 0, .slice none 0 0, .int .i64 0] 33))) _); refine (lkOpen_any 0 (w.heap.size + 1) p (w7.drew.alloc (.cells #[.slice none 0 0, .slice none 0 0, .slice none 0 0, .int .i64 0] 33)) ((hp7d.alloc (.cells #[.slice none 0 0, .slice none 0 0, .slice none 0 0, .int .i64 0] 33)).cell 0) (hp7d.alloc (.cells #[.slice none 0 0, .slice none 0 0, .slice none 0 0, .int .i64 0] 33)).lt).mono ?_; rintro e w8 ⟨rfl, hc8⟩
           have hb8 := ((Below.refl w7.drew.heap.size w7.drew).alloc (Nat.le_refl _) (.cells #[.slice none 0 0, .slice none 0 0, .slice none 0 0, .int .i64 0] 33)).trans (hc8.mono (by simp))
           have hz8 : Blk w8 w7.heap.size 33 [.slice none 0 0, .slice none 0 0, .slice none 0 0, .int .i64 0] := (Blk.new w7.drew 33 [.slice none 0 0, .slice none 0 0, .slice none 0 0, .int .i64 0]).below hc8 (Blk.new w7.drew 33 [.slice none 0 0, .slice none 0 0, .slice none 0 0, .int .i64 0]).lt
           have hq8 := hq7d.below hb8 hq7d.lt
           have hp8 := hp7d.below hb8 hp7d.lt
           have hx8 := hx7d.below hb8 hx7d.lt
           have hy8 := hy7d.below hb8 hy7d.lt
           have hB8 := hB7d.trans (hb8.mono hB7d.size)
           have hs8 := hb8.size
           have hnq : w.heap.size ≠ w7.heap.size := by omega
           have hnx : w.heap.size + 1 + 1 ≠ w7.heap.size := by omega
           have hny : w.heap.size + 1 + 1 + 1 ≠ w7.heap.size := by omega
           have hnl : w.heap.size ≤ w7.heap.size := by omega))
    all_goals
      obtain ⟨Aa, ca, rfl, hat⟩ := hO.at_
      obtain ⟨b, o, -, -, rfl, hbz, p2, p2n, -, -, -⟩ := hat 2 (by show (2 : Nat) < 6; omega)
      obtain ⟨b', o', -, -, hbe, -, p3, -, -, -, -⟩ := hat 3 (by show (3 : Nat) < 6; omega)
      cases hbe
      obtain ⟨b', o', -, -, hbe, -, p5, -, -, -, -⟩ := hat 5 (by show (5 : Nat) < 6; omega)
      cases hbe
      replace p2 : w14.cell? ⟨b, o + 8, none⟩ = some (.int .i64 a2.err) := p2
      replace p2n : w14.cell? ⟨b, o + 8 + 1, none⟩ = some (.int .i64 a2.n) := p2n
      replace p3 : w14.cell? ⟨b, o + 12, none⟩ = some (.int .i64 a3.err) := p3
      replace p5 : w14.cell? ⟨b, o + 20, none⟩ = some (.int .i64 a5.err) := p5
      rw [HA2.out] at p2
      rw [HA3.out] at p3
      rw [HA5.out] at p5
      go_wp2_with fail
      go_meet
      case rel =>
        refine ⟨b, o, ca, rfl, rfl, ?_⟩
        first
          | exact ⟨hx14.alloc _, hy14.alloc _, hB14.alloc hB14.size _, cell_alloc p2 _, cell_alloc p3 _, cell_alloc p5 _⟩
          | exact ⟨Blk.far4 hx14 hnx _ _ _ _, Blk.far4 hy14 hny _ _ _ _, hB14.set4 hnl _ _ _ _, cell_far4 p2 (ne_shown hz14 p2 p2n) _ _ _ _, cell_far4 p3 (ne_shown hz14 p2 p2n) _ _ _ _, cell_far4 p5 (ne_shown hz14 p2 p2n) _ _ _ _⟩
  case rest =>
    obtain ⟨b, o, ca, rfl, rfl, hx15, hy15, hB15, p2, p3, p5⟩ := hcut
    generalize wc = w15 at *
    clear hq7 hp7 hx7 hy7 hB7 HPL HA2 HA3 HA5
    have hbz := World.block_lt_of_cell? w15 _ p2
    have hbz : b < w15.heap.size := hbz
    obtain ⟨x0, x1, x2, x3, xff, xz⟩ := hx15.four
    obtain ⟨y0, y1, y2, y3, yff, yz⟩ := hy15.four
    have hb := (Below.refl w15.heap.size w15).alloc (Nat.le_refl _) (.cells #[.int .i64 0, .int .i64 xf, .int .i64 xt, .bool xa] 58)
    have HCM2 := Lib.hid (HCM.out w15)
    clear HCM
    go_wp2_with fail
    clear x0 x1 x2 x3 xff xz y0 y1 y2 y3 yff yz
    refine HCM2.out.mono ?_
    rintro e w16 ⟨rfl, hb16⟩
    have hb := hb.trans (hb16.mono (by simp))
    have hB16 := hB15.trans (hb.mono hB15.size)
    replace p2 := (hb.cell (p := ⟨b, o + 8, none⟩) hbz).trans p2
    replace p3 := (hb.cell (p := ⟨b, o + 12, none⟩) hbz).trans p3
    replace p5 := (hb.cell (p := ⟨b, o + 20, none⟩) hbz).trans p5
    have hbz := Nat.lt_of_lt_of_le hbz hb.size
    have hB17 := hB16.alloc hB16.size (.cells #[.int .i64 mo, .int .i64 mf, .int .i64 mm, .bool ma] 58)
    have he3 := HE3.out
    clear HCM2 hb hB15 hB16 HE3
    rcases mb with _ | _
    · simp only [Bool.false_eq_true, if_false] at he3
      subst he3
      go_wp2_with fail
      go_ret
      exact ⟨rfl, hB17⟩
    · simp only [if_true] at he3
      subst he3
      go_wp2_with fail
      go_ret
      exact ⟨rfl, hB17⟩
end Go.Proofs.YtjppfhgkanbemacGreatDoor
