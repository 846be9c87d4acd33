/-
  The walk of UnionTells: it returns true. (Printed by wip/genuntells.py.)
-/
import Derived.Test.YtjppfhgkanbemabGreatDoorUnRefM
import Derived.Test.YtjppfhgkanbemabGreatDoorUnSame
namespace Go.Proofs.YtjppfhgkanbemabGreatDoor
open Go.RowKit Go.Shelf Go.Sort

/-- Sizes at which two unions can be compared. -/
def Sz (u : Un) : Prop := u.U.length ≤ 2000000 ∧ u.L.length ≤ 2000000 ∧ ∀ l ∈ u.L, l.length ≤ 2000000
theorem Sz.zero : Sz Un.zero := ⟨by decide, by decide, fun _ h => nomatch h⟩
theorem Sz.fin {u : Un} (h : UnSm u) (V : List En) : Sz (Tr.fin u V).1 := by
  unfold Tr.fin
  split
  · exact Sz.zero
  · exact ⟨by show V.length ≤ _; omega, h.2.1, fun l hl => h.2.2 l (List.mem_cons_of_mem _ hl)⟩
theorem Sz.put {u : Un} (h : UnSm u) (e : En) : Sz (Tr.putU u e).1 := by
  unfold Tr.putU
  split
  · exact Sz.zero
  · split
    · exact Sz.zero
    · exact Sz.fin h _
theorem Sz.rem {u : Un} (h : UnSm u) (p : Pt.Bs) : Sz (Tr.removeU u p).1 := by
  unfold Tr.removeU
  split
  · exact Sz.zero
  · split
    · exact Sz.zero
    · exact Sz.fin h _
theorem Sz.mov {u : Un} (h : UnSm u) (s d : Pt.Bs) : Sz (Tr.moveU u s d).1 := by
  by_cases h1 : (Tr.seenU u).2 = 0
  · by_cases h2 : (Tr.move (Tr.seenU u).1 s d).2 = 0
    · rw [Tr.moveU_ok h1 h2]; exact Sz.fin h _
    · rw [Tr.moveU_no h1 rfl h2]; exact Sz.zero
  · rw [Tr.moveU_bad rfl h1]; exact Sz.zero

set_option maxHeartbeats 8000000 in
set_option maxRecDepth 100000 in
theorem unionTells_any (A A' : Option Addr) (c c' : Nat) (u : Un) (x : En) (p q : ByteArray) (w : World) (hu : UnRd w w.heap.size A A' c c' u) (hs : UnSm u) (hxp : x.p.size < 4294967281) (hxt : x.t.size < 4294967281) (hp : p.size < 4294967281) (hq : q.size < 4294967281) :
    Calls Tryz.prog 5 #[.agg #[.slice A u.U.length c, .slice A' u.L.length c'], x.agg, .string p, .string q] w fun e w' => e = .returned (.bool true) ∧ Below w.heap.size w w' := by
  have hfd := field_faultC
  obtain ⟨xp, xk, xt, xo⟩ := x
  dsimp only at hxp hxt
  show Calls Tryz.prog 5 #[.agg #[.slice A u.U.length c, .slice A' u.L.length c'], .agg #[.string xp, .int .i64 xk, .string xt, .bool xo], .string p, .string q] w _
  have HS := Lib.hid hs
  have HU := Lib.hid hu
  clear hs hu
  have hB0 := ((Below.refl w.heap.size w).alloc (Nat.le_refl _) (.cells #[.slice A u.U.length c, .slice A' u.L.length c'] 33))
  have hB0 := hB0.alloc hB0.size (.cells #[.string xp, .int .i64 xk, .string xt, .bool xo] 45)
  have hq0 := (Blk.new w 33 [.slice A u.U.length c, .slice A' u.L.length c']).alloc (.cells #[.string xp, .int .i64 xk, .string xt, .bool xo] 45)
  have hx0 := Blk.new (w.alloc (.cells #[.slice A u.U.length c, .slice A' u.L.length c'] 33)) 45 [.string xp, .int .i64 xk, .string xt, .bool xo]
  simp only [World.size_alloc] at hx0
  have HSZ1 := Lib.hid (Sz.put HS.out ⟨xp, xk, xt, xo⟩)
  have HSZ2 := Lib.hid (Sz.rem HS.out p.data.toList)
  have HSZ3 := Lib.hid (Sz.mov HS.out p.data.toList q.data.toList)
  go_enter Tryz.func5, Tryz.ntmps5
  go_upto_region 1 with fail
  generalize (w.alloc (.cells #[.slice A u.U.length c, .slice A' u.L.length c'] 33)).alloc (.cells #[.string xp, .int .i64 xk, .string xt, .bool xo] 45) = w0 at *
  have cS := fun W h => seenU_any A A' c c' u W h HS.out
  have cR := fun W h => refSeenU_any A A' c c' u W h HS.out
  unfold SeenRel at cS cR
  have HL : Hid ((Tr.seenU u).1.length ≤ 2000000) := Lib.hid (by
    by_cases h : (Tr.seenU u).2 = 0
    · have := (Tr.parts h).sl; omega
    · rw [Tr.seenU_none h]; simp)
  generalize Tr.seenU u = sp at cS cR HL
  obtain ⟨S, se⟩ := sp
  dsimp only at cS cR HL
  obtain ⟨q0, q1, qf, qz⟩ := hq0.two
  go_wp2_with fail
  clear q0 q1 qf qz
  refine (cS w0 ((HU.out.below hB0).more hB0.size)).mono ?_
  rintro e w1 ⟨v1, rfl, ho1, hb⟩
  obtain ⟨A1, c1, rfl, hc1, hr1⟩ := EnOwn.rd ho1
  have hB1 := hB0.trans (hb.mono hB0.size)
  have hq1 := hq0.below hb hq0.lt
  have hx1 := hx0.below hb hx0.lt
  clear hb hB0 hq0 hx0 ho1 cS
  obtain ⟨q0, q1, qf, qz⟩ := hq1.two
  go_wp2_with fail
  clear q0 q1 qf qz
  refine (cR w1 ((HU.out.below hB1).more hB1.size)).mono ?_
  rintro e w2 ⟨v2, rfl, ho2, hb⟩
  obtain ⟨A2, c2, rfl, hc2, hr2⟩ := EnOwn.rd ho2
  have hr1 : EnRd w2 w2.heap.size A1 S := (Rd.below hr1 hb).more hb.size
  have hB2 := hB1.trans (hb.mono hB1.size)
  have hq2 := hq1.below hb hq1.lt
  have hx2 := hx1.below hb hx1.lt
  clear hb hB1 hq1 hx1 ho2 cR
  have cW := fun W h => wrongU_any A A' c c' u W h HS.out
  have cV := fun W h => refWrongU_any A A' c c' u W h HS.out
  generalize Tr.wrongU u = pw at cW cV
  obtain ⟨y, y'⟩ := pw
  dsimp only at cW cV
  have cE := fun W h1 h2 => same_any A1 A2 c1 c2 S S W h1 h2 (by have := HL.out; omega) rfl
  have hU : ∀ W, Below w2.heap.size w2 W → UnRd W W.heap.size A A' c c' u := fun W h => (HU.out.below (hB2.trans (h.mono hB2.size))).more (hB2.trans (h.mono hB2.size)).size
  have hR1 : ∀ W, Below w2.heap.size w2 W → EnRd W W.heap.size A1 S := fun W h => (Rd.below hr1 h).more h.size
  have hR2 : ∀ W, Below w2.heap.size w2 W → EnRd W W.heap.size A2 S := fun W h => (Rd.below hr2 h).more h.size
  have hK : ∀ W, Below w2.heap.size w2 W → W.cell? ⟨w.heap.size, 0, none⟩ = some (.slice A u.U.length c) ∧ W.cell? ⟨w.heap.size, 1, none⟩ = some (.slice A' u.L.length c') := fun W h => ⟨(hq2.below h hq2.lt).two.1, (hq2.below h hq2.lt).two.2.1⟩
  have hb6' : Below w2.heap.size w2 w2.drew := (Below.refl _ w2).drew
  have hS6 := hK _ hb6'
  obtain ⟨q0, q1, qf, qz⟩ := hq2.two
  go_upto_region 3 with fail
  go_cut [44] (fun v wx => v = .bool false ∧ Below w2.heap.size w2 wx)
  case first =>
    go_wp2_with fail
    go_region_held3 (fun W => W.cell? ⟨w.heap.size, 0, none⟩ = some (.slice A u.U.length c) ∧ W.cell? ⟨w.heap.size, 1, none⟩ = some (.slice A' u.L.length c'))
      (first | exact ⟨q0, q1⟩ | exact hS6 | go_keep)
      (first | (go_at_call 15; refine (cW _ (hU _ hb6')).mono ?_; rintro e w6 ⟨rfl, hb6⟩; have hb6' : Below w2.heap.size w2 w6 := hb6'.trans (hb6.mono hb6'.size); have hS6 := hK _ hb6') | (go_at_call 16; refine (cV _ (hU _ hb6')).mono ?_; rintro e w6 ⟨rfl, hb6⟩; have hb6' : Below w2.heap.size w2 w6 := hb6'.trans (hb6.mono hb6'.size); have hS6 := hK _ hb6') | (go_at_call 17; refine (cE _ (hR1 _ hb6') (hR2 _ hb6')).mono ?_; rintro e w6 ⟨rfl, hb6⟩; have hb6' : Below w2.heap.size w2 w6 := hb6'.trans (hb6.mono hb6'.size); have hS6 := hK _ hb6'))
    all_goals
      go_wp2_with fail
      go_meet
      case rel => exact ⟨rfl, hb6'⟩
  case rest =>
  clear q0 q1 qf qz hS6 hb6' hK hR1 hR2 hU cE cW cV hr1 hr2
  obtain ⟨rfl, hb⟩ := hcut
  generalize wc = w3 at *
  have hB3 := hB2.trans (hb.mono hB2.size)
  have hq3 := hq2.below hb hq2.lt
  have hx3 := hx2.below hb hx2.lt
  clear hb hB2 hq2 hx2
  have cL := fun W h => lookU_any A A' c c' u p W h HS.out hp
  have cM := fun W h => refLookU_any A A' c c' u p W h HS.out hp
  unfold LookRel at cL cM
  generalize Tr.lookU u p.data.toList = lk at cL cM
  obtain ⟨y, yi, ye⟩ := lk
  obtain ⟨yp, yk, yt, yo⟩ := y
  simp only [En.agg, En.cells] at cL cM
  obtain ⟨q0, q1, qf, qz⟩ := hq3.two
  go_wp2_with fail
  clear q0 q1 qf qz
  refine (cL w3 ((HU.out.below hB3).more hB3.size)).mono ?_
  rintro e w4 ⟨rfl, hb⟩
  have hB4 := hB3.trans (hb.mono hB3.size)
  have hq4 := hq3.below hb hq3.lt
  have hx4 := hx3.below hb hx3.lt
  clear hb hB3 hq3 hx3 cL
  have hB5 := hB4.alloc hB4.size (.cells #[.string yp, .int .i64 yk, .string yt, .bool yo] 45)
  have hq5 := hq4.alloc (.cells #[.string yp, .int .i64 yk, .string yt, .bool yo] 45)
  have hx5 := hx4.alloc (.cells #[.string yp, .int .i64 yk, .string yt, .bool yo] 45)
  have hy5 := Blk.new w4 45 [.string yp, .int .i64 yk, .string yt, .bool yo]
  have hgy : w.heap.size < w4.heap.size := hq4.lt
  clear hB4 hq4 hx4
  go_upto_region 6 with fail
  generalize w4.alloc (.cells #[.string yp, .int .i64 yk, .string yt, .bool yo] 45) = w5 at *
  generalize w4.heap.size = gy at *
  obtain ⟨q0, q1, qf, qz⟩ := hq5.two
  go_wp2_with fail
  clear q0 q1 qf qz
  refine (cM w5 ((HU.out.below hB5).more hB5.size)).mono ?_
  rintro e w6 ⟨rfl, hb⟩
  have hB6 := hB5.trans (hb.mono hB5.size)
  have hq6 := hq5.below hb hq5.lt
  have hx6 := hx5.below hb hx5.lt
  have hy6 := hy5.below hb hy5.lt
  clear hb hB5 hq5 hx5 hy5 cM
  have hB7 := hB6.alloc hB6.size (.cells #[.string yp, .int .i64 yk, .string yt, .bool yo] 45)
  have hq7 := hq6.alloc (.cells #[.string yp, .int .i64 yk, .string yt, .bool yo] 45)
  have hx7 := hx6.alloc (.cells #[.string yp, .int .i64 yk, .string yt, .bool yo] 45)
  have hy7 := hy6.alloc (.cells #[.string yp, .int .i64 yk, .string yt, .bool yo] 45)
  have hz7 := Blk.new w6 45 [.string yp, .int .i64 yk, .string yt, .bool yo]
  clear hB6 hq6 hx6 hy6
  go_upto_region 7 with fail
  generalize w6.alloc (.cells #[.string yp, .int .i64 yk, .string yt, .bool yo] 45) = w7 at *
  generalize w6.heap.size = gz at *
  obtain ⟨y0, y1, y2, y3, yf, yz⟩ := hy7.four
  obtain ⟨z0, z1, z2, z3, zf, zz⟩ := hz7.four
  go_upto_region 9 with fail
  clear y0 y1 y2 y3 yf yz z0 z1 z2 z3 zf zz hy7 hz7
  obtain ⟨q0, q1, qf, qz⟩ := hq7.two
  obtain ⟨x0, x1, x2, x3, xf, xz⟩ := hx7.four
  go_wp2_with fail
  clear q0 q1 qf qz x0 x1 x2 x3 xf xz
  refine (putU_any A A' c c' u xp xk xt xo w7 ((HU.out.below hB7).more hB7.size) HS.out hxp hxt).mono ?_
  rintro e w8 ⟨A8, A8', c8, c8', rfl, hf8, hb⟩
  have hB8 := hB7.trans (hb.mono hB7.size)
  have hq8 := hq7.below hb hq7.lt
  have hx8 := hx7.below hb hx7.lt
  clear hb hB7 hq7 hx7
  generalize hR : Tr.putU u ⟨xp, xk, xt, xo⟩ = r1 at *
  have HR := Lib.hid hR
  clear hR
  obtain ⟨r1, e1⟩ := r1
  dsimp only at hf8 HSZ1
  have hB9 := hB8.alloc hB8.size (.cells #[.slice A8 r1.U.length c8, .slice A8' r1.L.length c8'] 33)
  have hq9 := hq8.alloc (.cells #[.slice A8 r1.U.length c8, .slice A8' r1.L.length c8'] 33)
  have hx9 := hx8.alloc (.cells #[.slice A8 r1.U.length c8, .slice A8' r1.L.length c8'] 33)
  have ha9 := Blk.new w8 33 [.slice A8 r1.U.length c8, .slice A8' r1.L.length c8']
  have hu9 : UnRd (w8.alloc (.cells #[.slice A8 r1.U.length c8, .slice A8' r1.L.length c8'] 33)) (w8.alloc (.cells #[.slice A8 r1.U.length c8, .slice A8' r1.L.length c8'] 33)).heap.size A8 A8' c8 c8' r1 := (hf8.here.below ((Below.refl _ w8).alloc (Nat.le_refl _) _)).more (by simp)
  have hga : w.heap.size < w8.heap.size := hq8.lt
  clear hB8 hq8 hx8 hf8
  go_upto_region 10 with fail
  generalize w8.alloc (.cells #[.slice A8 r1.U.length c8, .slice A8' r1.L.length c8'] 33) = w9 at *
  generalize w8.heap.size = ga at *
  obtain ⟨q0, q1, qf, qz⟩ := hq9.two
  obtain ⟨x0, x1, x2, x3, xf, xz⟩ := hx9.four
  go_wp2_with fail
  clear q0 q1 qf qz x0 x1 x2 x3 xf xz
  refine (refPutU_any w.heap.size A A' c c' u xp xk xt xo w9 (HU.out.below hB9) hB9.size HS.out hxp hxt).mono ?_
  rw [HR.out]
  rintro e w10 ⟨A10, A10', c10, c10', rfl, hf10, hb⟩
  have hB10 := hB9.trans (hb.mono hB9.size)
  have hq10 := hq9.below hb hq9.lt
  have hx10 := hx9.below hb hx9.lt
  have ha10 := ha9.below hb ha9.lt
  have hu10 := (hu9.below hb).more hb.size
  clear hb hB9 hq9 hx9 ha9 hu9 HR
  dsimp only at hf10
  have hB11 := hB10.alloc hB10.size (.cells #[.slice A10 r1.U.length c10, .slice A10' r1.L.length c10'] 33)
  have hq11 := hq10.alloc (.cells #[.slice A10 r1.U.length c10, .slice A10' r1.L.length c10'] 33)
  have hx11 := hx10.alloc (.cells #[.slice A10 r1.U.length c10, .slice A10' r1.L.length c10'] 33)
  have ha11 := ha10.alloc (.cells #[.slice A10 r1.U.length c10, .slice A10' r1.L.length c10'] 33)
  have hd11 := Blk.new w10 33 [.slice A10 r1.U.length c10, .slice A10' r1.L.length c10']
  have hu11 : UnRd (w10.alloc (.cells #[.slice A10 r1.U.length c10, .slice A10' r1.L.length c10'] 33)) (w10.alloc (.cells #[.slice A10 r1.U.length c10, .slice A10' r1.L.length c10'] 33)).heap.size A8 A8' c8 c8' r1 := (hu10.below ((Below.refl _ w10).alloc (Nat.le_refl _) _)).more (by simp)
  have hv11 : UnRd (w10.alloc (.cells #[.slice A10 r1.U.length c10, .slice A10' r1.L.length c10'] 33)) (w10.alloc (.cells #[.slice A10 r1.U.length c10, .slice A10' r1.L.length c10'] 33)).heap.size A10 A10' c10 c10' r1 := (hf10.here.below ((Below.refl _ w10).alloc (Nat.le_refl _) _)).more (by simp)
  have hgd : w.heap.size < w10.heap.size := hq10.lt
  have hgad : ga < w10.heap.size := ha10.lt
  clear hB10 hq10 hx10 ha10 hf10 hu10
  go_upto_region 11 with fail
  generalize w10.alloc (.cells #[.slice A10 r1.U.length c10, .slice A10' r1.L.length c10'] 33) = w11 at *
  generalize w10.heap.size = gd at *
  have cE := sameUnion_any A8 A8' A10 A10' c8 c8' c10 c10' r1 w11 hu11 hv11 HSZ1.out.1 HSZ1.out.2.1 HSZ1.out.2.2
  obtain ⟨a0, a1, af, az⟩ := ha11.two
  obtain ⟨d0, d1, df, dz⟩ := hd11.two
  go_wp2_with fail
  clear a0 a1 af az d0 d1 df dz
  refine cE.mono ?_
  rintro e w12 ⟨rfl, hb⟩
  have hB12 := hB11.trans (hb.mono hB11.size)
  have hq12 := hq11.below hb hq11.lt
  have ha12 := ha11.below hb ha11.lt
  have hd12 := hd11.below hb hd11.lt
  clear hb hB11 hq11 hx11 ha11 hd11 hu11 hv11 cE HSZ1
  obtain ⟨q0, q1, qf, qz⟩ := hq12.two
  go_wp2_with fail
  clear q0 q1 qf qz
  refine (removeU_any A A' c c' u p w12 ((HU.out.below hB12).more hB12.size) HS.out hp).mono ?_
  rintro e w13 ⟨A13, A13', c13, c13', rfl, hf13, hb⟩
  have hB13 := hB12.trans (hb.mono hB12.size)
  have hq13 := hq12.below hb hq12.lt
  have ha13 := ha12.below hb ha12.lt
  have hd13 := hd12.below hb hd12.lt
  have hla := ha12.lt
  have hld := hd12.lt
  generalize hR : Tr.removeU u p.data.toList = r13 at *
  have HR := Lib.hid hR
  clear hR
  obtain ⟨r13, e13⟩ := r13
  dsimp only at hf13 HSZ2
  have hf14 := ((hf13.set (p := ⟨ga, 0, none⟩) (by exact hla) (.slice A13 r13.U.length c13)).set (p := ⟨ga, 1, none⟩) (by exact hla) (.slice A13' r13.L.length c13')).less (Nat.le_refl _)
  have hB14 := (hB13.setCell (p := ⟨ga, 0, none⟩) (by show w.heap.size ≤ ga; omega) (.slice A13 r13.U.length c13)).setCell (p := ⟨ga, 1, none⟩) (by show w.heap.size ≤ ga; omega) (.slice A13' r13.L.length c13')
  have hq14 := (hq13.far (p := ⟨ga, 0, none⟩) (by show w.heap.size ≠ ga; omega) (.slice A13 r13.U.length c13)).far (p := ⟨ga, 1, none⟩) (by show w.heap.size ≠ ga; omega) (.slice A13' r13.L.length c13')
  have hd14 := (hd13.far (p := ⟨ga, 0, none⟩) (by show gd ≠ ga; omega) (.slice A13 r13.U.length c13)).far (p := ⟨ga, 1, none⟩) (by show gd ≠ ga; omega) (.slice A13' r13.L.length c13')
  have ha14 : Blk ((w13.setCell ⟨ga, 0, none⟩ (.slice A13 r13.U.length c13)).setCell ⟨ga, 1, none⟩ (.slice A13' r13.L.length c13')) ga 33 [.slice A13 r13.U.length c13, .slice A13' r13.L.length c13'] := (ha13.set_ 0 _).set_ 1 _
  obtain ⟨a0, a1, af, az⟩ := ha13.two
  go_upto_region 14 with fail
  clear a0 a1 af az hb hf13 hB12 hB13 hq12 hq13 ha12 ha13 hd12 hd13 hla
  generalize (w13.setCell ⟨ga, 0, none⟩ (.slice A13 r13.U.length c13)).setCell ⟨ga, 1, none⟩ (.slice A13' r13.L.length c13') = w14 at *
  obtain ⟨q0, q1, qf, qz⟩ := hq14.two
  go_wp2_with fail
  clear q0 q1 qf qz
  refine (refRemU_any w.heap.size A A' c c' u p w14 (HU.out.below hB14) hB14.size HS.out hp).mono ?_
  rw [HR.out]
  rintro e w15 ⟨A15, A15', c15, c15', rfl, hg15, hb⟩
  dsimp only at hg15
  have hB15 := hB14.trans (hb.mono hB14.size)
  have hq15 := hq14.below hb hq14.lt
  have ha15 := ha14.below hb ha14.lt
  have hd15 := hd14.below hb hd14.lt
  have hf15 := hf14.below hb
  have hld2 := hd14.lt
  have hf16 := (hf15.set (p := ⟨gd, 0, none⟩) (by exact hld) (.slice A15 r13.U.length c15)).set (p := ⟨gd, 1, none⟩) (by exact hld) (.slice A15' r13.L.length c15')
  have hg16 := (hg15.set (p := ⟨gd, 0, none⟩) (by show w.heap.size ≤ gd; omega) (by exact hld2) (.slice A15 r13.U.length c15)).set (p := ⟨gd, 1, none⟩) (by show w.heap.size ≤ gd; omega) (by exact hld2) (.slice A15' r13.L.length c15')
  have hB16 := (hB15.setCell (p := ⟨gd, 0, none⟩) (by show w.heap.size ≤ gd; omega) (.slice A15 r13.U.length c15)).setCell (p := ⟨gd, 1, none⟩) (by show w.heap.size ≤ gd; omega) (.slice A15' r13.L.length c15')
  have hq16 := (hq15.far (p := ⟨gd, 0, none⟩) (by show w.heap.size ≠ gd; omega) (.slice A15 r13.U.length c15)).far (p := ⟨gd, 1, none⟩) (by show w.heap.size ≠ gd; omega) (.slice A15' r13.L.length c15')
  have ha16 := (ha15.far (p := ⟨gd, 0, none⟩) (by show ga ≠ gd; omega) (.slice A15 r13.U.length c15)).far (p := ⟨gd, 1, none⟩) (by show ga ≠ gd; omega) (.slice A15' r13.L.length c15')
  have hd16 : Blk ((w15.setCell ⟨gd, 0, none⟩ (.slice A15 r13.U.length c15)).setCell ⟨gd, 1, none⟩ (.slice A15' r13.L.length c15')) gd 33 [.slice A15 r13.U.length c15, .slice A15' r13.L.length c15'] := (hd15.set_ 0 _).set_ 1 _
  obtain ⟨d0, d1, df, dz⟩ := hd15.two
  go_upto_region 15 with fail
  clear d0 d1 df dz hb hf14 hf15 hg15 hB14 hB15 hq14 hq15 ha14 ha15 hd14 hd15 hld hld2 HR
  generalize (w15.setCell ⟨gd, 0, none⟩ (.slice A15 r13.U.length c15)).setCell ⟨gd, 1, none⟩ (.slice A15' r13.L.length c15') = w16 at *
  have cE := sameUnion_any A13 A13' A15 A15' c13 c13' c15 c15' r13 w16 hf16.here hg16.here HSZ2.out.1 HSZ2.out.2.1 HSZ2.out.2.2
  clear hf16 hg16
  obtain ⟨a0, a1, af, az⟩ := ha16.two
  obtain ⟨d0, d1, df, dz⟩ := hd16.two
  go_wp2_with fail
  clear a0 a1 af az d0 d1 df dz
  refine cE.mono ?_
  rintro e w17 ⟨rfl, hb⟩
  have hB17 := hB16.trans (hb.mono hB16.size)
  have hq17 := hq16.below hb hq16.lt
  have ha17 := ha16.below hb ha16.lt
  have hd17 := hd16.below hb hd16.lt
  clear hb hB16 hq16 ha16 hd16 cE HSZ2
  obtain ⟨q0, q1, qf, qz⟩ := hq17.two
  go_wp2_with fail
  clear q0 q1 qf qz
  refine (moveU_any A A' c c' u p q w17 ((HU.out.below hB17).more hB17.size) HS.out hp hq).mono ?_
  rintro e w18 ⟨A18, A18', c18, c18', rfl, hf18, hb⟩
  have hB18 := hB17.trans (hb.mono hB17.size)
  have hq18 := hq17.below hb hq17.lt
  have ha18 := ha17.below hb ha17.lt
  have hd18 := hd17.below hb hd17.lt
  have hla := ha17.lt
  have hld := hd17.lt
  generalize hR : Tr.moveU u p.data.toList q.data.toList = r18 at *
  have HR := Lib.hid hR
  clear hR
  obtain ⟨r18, e18⟩ := r18
  dsimp only at hf18 HSZ3
  have hf19 := ((hf18.set (p := ⟨ga, 0, none⟩) (by exact hla) (.slice A18 r18.U.length c18)).set (p := ⟨ga, 1, none⟩) (by exact hla) (.slice A18' r18.L.length c18')).less (Nat.le_refl _)
  have hB19 := (hB18.setCell (p := ⟨ga, 0, none⟩) (by show w.heap.size ≤ ga; omega) (.slice A18 r18.U.length c18)).setCell (p := ⟨ga, 1, none⟩) (by show w.heap.size ≤ ga; omega) (.slice A18' r18.L.length c18')
  have hq19 := (hq18.far (p := ⟨ga, 0, none⟩) (by show w.heap.size ≠ ga; omega) (.slice A18 r18.U.length c18)).far (p := ⟨ga, 1, none⟩) (by show w.heap.size ≠ ga; omega) (.slice A18' r18.L.length c18')
  have hd19 := (hd18.far (p := ⟨ga, 0, none⟩) (by show gd ≠ ga; omega) (.slice A18 r18.U.length c18)).far (p := ⟨ga, 1, none⟩) (by show gd ≠ ga; omega) (.slice A18' r18.L.length c18')
  have ha19 : Blk ((w18.setCell ⟨ga, 0, none⟩ (.slice A18 r18.U.length c18)).setCell ⟨ga, 1, none⟩ (.slice A18' r18.L.length c18')) ga 33 [.slice A18 r18.U.length c18, .slice A18' r18.L.length c18'] := (ha18.set_ 0 _).set_ 1 _
  obtain ⟨a0, a1, af, az⟩ := ha18.two
  go_upto_region 18 with fail
  clear a0 a1 af az hb hf18 hB17 hB18 hq17 hq18 ha17 ha18 hd17 hd18 hla
  generalize (w18.setCell ⟨ga, 0, none⟩ (.slice A18 r18.U.length c18)).setCell ⟨ga, 1, none⟩ (.slice A18' r18.L.length c18') = w19 at *
  obtain ⟨q0, q1, qf, qz⟩ := hq19.two
  go_wp2_with fail
  clear q0 q1 qf qz
  refine (refMoveU_any w.heap.size A A' c c' u p q w19 (HU.out.below hB19) hB19.size HS.out hp hq).mono ?_
  rw [HR.out]
  rintro e w20 ⟨A20, A20', c20, c20', rfl, hg20, hb⟩
  dsimp only at hg20
  have hB20 := hB19.trans (hb.mono hB19.size)
  have hq20 := hq19.below hb hq19.lt
  have ha20 := ha19.below hb ha19.lt
  have hd20 := hd19.below hb hd19.lt
  have hf20 := hf19.below hb
  have hld2 := hd19.lt
  have hf21 := (hf20.set (p := ⟨gd, 0, none⟩) (by exact hld) (.slice A20 r18.U.length c20)).set (p := ⟨gd, 1, none⟩) (by exact hld) (.slice A20' r18.L.length c20')
  have hg21 := (hg20.set (p := ⟨gd, 0, none⟩) (by show w.heap.size ≤ gd; omega) (by exact hld2) (.slice A20 r18.U.length c20)).set (p := ⟨gd, 1, none⟩) (by show w.heap.size ≤ gd; omega) (by exact hld2) (.slice A20' r18.L.length c20')
  have hB21 := (hB20.setCell (p := ⟨gd, 0, none⟩) (by show w.heap.size ≤ gd; omega) (.slice A20 r18.U.length c20)).setCell (p := ⟨gd, 1, none⟩) (by show w.heap.size ≤ gd; omega) (.slice A20' r18.L.length c20')
  have hq21 := (hq20.far (p := ⟨gd, 0, none⟩) (by show w.heap.size ≠ gd; omega) (.slice A20 r18.U.length c20)).far (p := ⟨gd, 1, none⟩) (by show w.heap.size ≠ gd; omega) (.slice A20' r18.L.length c20')
  have ha21 := (ha20.far (p := ⟨gd, 0, none⟩) (by show ga ≠ gd; omega) (.slice A20 r18.U.length c20)).far (p := ⟨gd, 1, none⟩) (by show ga ≠ gd; omega) (.slice A20' r18.L.length c20')
  have hd21 : Blk ((w20.setCell ⟨gd, 0, none⟩ (.slice A20 r18.U.length c20)).setCell ⟨gd, 1, none⟩ (.slice A20' r18.L.length c20')) gd 33 [.slice A20 r18.U.length c20, .slice A20' r18.L.length c20'] := (hd20.set_ 0 _).set_ 1 _
  obtain ⟨d0, d1, df, dz⟩ := hd20.two
  go_upto_region 19 with fail
  clear d0 d1 df dz hb hf19 hf20 hg20 hB19 hB20 hq19 hq20 ha19 ha20 hd19 hd20 hld hld2 HR
  generalize (w20.setCell ⟨gd, 0, none⟩ (.slice A20 r18.U.length c20)).setCell ⟨gd, 1, none⟩ (.slice A20' r18.L.length c20') = w21 at *
  have cE := sameUnion_any A18 A18' A20 A20' c18 c18' c20 c20' r18 w21 hf21.here hg21.here HSZ3.out.1 HSZ3.out.2.1 HSZ3.out.2.2
  clear hf21 hg21
  obtain ⟨a0, a1, af, az⟩ := ha21.two
  obtain ⟨d0, d1, df, dz⟩ := hd21.two
  go_wp2_with fail
  clear a0 a1 af az d0 d1 df dz
  refine cE.mono ?_
  rintro e w22 ⟨rfl, hb⟩
  have hB22 := hB21.trans (hb.mono hB21.size)
  go_wp2_with fail
  go_ret
  exact ⟨rfl, hB22⟩
end Go.Proofs.YtjppfhgkanbemabGreatDoor
