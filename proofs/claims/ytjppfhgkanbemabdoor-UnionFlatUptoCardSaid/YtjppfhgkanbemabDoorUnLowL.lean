/-
  The walk of UnionLower. (Printed by wip/genunlow.py.)
-/
import Derived.Test.YtjppfhgkanbemabDoorUnSeenL
namespace Go.Proofs.YtjppfhgkanbemabDoor
open Go.RowKit Go.Shelf Go.Sort

/-- What a change leaves below. -/
def Tr.Low (u : Un) (r : Un × Int) : Prop := (r.2 ≠ 0 → r.1 = Un.zero) ∧ (r.2 = 0 → Tr.Fine r.1 ∧ r.1.L = u.L)
theorem Tr.low_of {u : Un} {r : Un × Int} {t : List En × Int} (h : Tr.AsTree u r t) : Tr.Low u r := ⟨fun h0 => (h.1 h0).1, fun h0 => ⟨(h.2 h0).1, (h.2 h0).2.1⟩⟩
theorem Tr.putU_low (u : Un) (x : En) : Tr.Low u (Tr.putU u x) := by
  by_cases h : (Tr.seenU u).2 = 0
  · exact Tr.low_of (Tr.putU_tree (Tr.seenU_zero.1 h) x)
  · rw [Tr.putU_bad rfl h]; exact ⟨fun _ => rfl, fun h0 => absurd h0 h⟩
theorem Tr.remU_low (u : Un) (p : Pt.Bs) : Tr.Low u (Tr.removeU u p) := by
  by_cases h : (Tr.seenU u).2 = 0
  · exact Tr.low_of (Tr.removeU_tree (Tr.seenU_zero.1 h) p)
  · rw [Tr.remU_bad rfl h]; exact ⟨fun _ => rfl, fun h0 => absurd h0 h⟩
theorem Tr.moveU_low (u : Un) (s d : Pt.Bs) : Tr.Low u (Tr.moveU u s d) := by
  by_cases h : (Tr.seenU u).2 = 0
  · exact Tr.low_of (Tr.moveU_tree (Tr.seenU_zero.1 h) s d)
  · rw [Tr.moveU_bad rfl h]; exact ⟨fun _ => rfl, fun h0 => absurd h0 h⟩
theorem UnRd.lower {w : World} {B : Nat} {A A' : Option Addr} {c c' : Nat} {u : Un} (h : UnRd w B A A' c c' u) : UnRd w B none A' 0 c' ⟨[], u.L⟩ := ⟨Rd.nil, Nat.le_refl _, h.low, h.nil⟩

set_option maxHeartbeats 2000000 in
set_option maxRecDepth 100000 in
theorem unionLower_any (A A' : Option Addr) (c c' : Nat) (u : Un) (x : En) (p q : ByteArray) (w : World) (hu : UnRd w w.heap.size A A' c c' u) (hs : UnSm u) (hxp : x.p.size < 4294967281) (hxt : x.t.size < 4294967281) (hp : p.size < 4294967281) (hq : q.size < 4294967281) :
    Calls Tryd.prog 9 #[.agg #[.slice A u.U.length c, .slice A' u.L.length c'], x.agg, .string p, .string q] w fun e w' => e = .returned (.bool true) ∧ Below w.heap.size w w' := by
  have hfd := field_faultC
  obtain ⟨xp, xk, xt, xo⟩ := x
  dsimp only at hxp hxt
  show Calls Tryd.prog 9 #[.agg #[.slice A u.U.length c, .slice A' u.L.length c'], .agg #[.string xp, .int .i64 xk, .string xt, .bool xo], .string p, .string q] w _
  have hsl := hs.2.1
  have HSL := Lib.hid (fun l (h : l ∈ u.L) => hs.2.2 l (List.mem_cons_of_mem _ h))
  have HS := Lib.hid hs
  have HU := Lib.hid hu
  clear hs hu
  have hB0 := ((Below.refl w.heap.size w).alloc (Nat.le_refl _) (.cells #[.slice A u.U.length c, .slice A' u.L.length c'] 49))
  have hB0 := hB0.alloc hB0.size (.cells #[.string xp, .int .i64 xk, .string xt, .bool xo] 32)
  have hq0 := (Blk.new w 49 [.slice A u.U.length c, .slice A' u.L.length c']).alloc (.cells #[.string xp, .int .i64 xk, .string xt, .bool xo] 32)
  have hx0 := Blk.new (w.alloc (.cells #[.slice A u.U.length c, .slice A' u.L.length c'] 49)) 32 [.string xp, .int .i64 xk, .string xt, .bool xo]
  simp only [World.size_alloc] at hx0
  go_enter Tryd.func9, Tryd.ntmps9
  go_upto_region 1 with fail
  generalize (w.alloc (.cells #[.slice A u.U.length c, .slice A' u.L.length c'] 49)).alloc (.cells #[.string xp, .int .i64 xk, .string xt, .bool xo] 32) = w0 at *
  go_wp2_with fail
  refine (unAlive_any w0).mono ?_
  rintro e w1 ⟨rfl, hb⟩
  have hB1 := hB0.trans (hb.mono hB0.size)
  have hq1 := hq0.below hb hq0.lt
  have hx1 := hx0.below hb hx0.lt
  clear hb hB0 hq0 hx0
  go_wp2_with fail
  go_loopw [14] (fun i wr => ∃ k : Nat, k ≤ 3 ∧ i = .int .i64 k ∧ Blk wr w.heap.size 49 [.slice A u.U.length c, .slice A' u.L.length c'] ∧ Blk wr (w.heap.size + 1) 32 [.string xp, .int .i64 xk, .string xt, .bool xo] ∧ Below w.heap.size w wr) (fun i _ => 3 - (intOf i).toNat)
  case atStart => exact ⟨0, by omega, rfl, hq1, hx1, hB1⟩
  case round =>
    clear hq1 hx1 hB1
    obtain ⟨k, hk, rfl, hqr, hxr, hBr⟩ := hrel
    have hB2 := hBr.alloc hBr.size (.cells #[.slice none 0 0, .slice none 0 0] 49)
    have hq2 := hqr.alloc (.cells #[.slice none 0 0, .slice none 0 0] 49)
    have hx2 := hxr.alloc (.cells #[.slice none 0 0, .slice none 0 0] 49)
    have hz2 := Blk.new wr 49 [.slice none 0 0, .slice none 0 0]
    have hgx : w.heap.size + 1 < wr.heap.size := hxr.lt
    have HBR := Lib.hid hBr
    clear hqr hxr hBr
    obtain h3 | h3 | h3 | h3 : k = 3 ∨ k = 0 ∨ k = 1 ∨ k = 2 := by omega
    · subst h3
      clear hB2 hq2 hx2 hz2
      go_wp2_with fail
      go_ret
      exact ⟨rfl, HBR.out⟩
    · subst h3
      go_upto_region 11 with fail
      generalize wr.alloc (.cells #[.slice none 0 0, .slice none 0 0] 49) = w2 at *
      generalize wr.heap.size = gx at *
      obtain ⟨q0, q1, qf, qz⟩ := hq2.two
      obtain ⟨x0, x1, x2, x3, xf, xz⟩ := hx2.four
      go_wp2_with fail
      clear q0 q1 qf qz x0 x1 x2 x3 xf xz
      refine (putU_any A A' c c' u xp xk xt xo w2 ((HU.out.below hB2).more hB2.size) HS.out hxp hxt).mono ?_
      rintro e w3 ⟨A3, A3', c3, c3', rfl, hf3, hb⟩
      have hB3 := hB2.trans (hb.mono hB2.size)
      have hq3 := hq2.below hb hq2.lt
      have hx3 := hx2.below hb hx2.lt
      have hz3 := hz2.below hb hz2.lt
      have HLW := Lib.hid (Tr.putU_low u ⟨xp, xk, xt, xo⟩)
      have hf4 := (hf3.set (p := ⟨gx, 0, none⟩) (by exact hz2.lt) (.slice A3 (Tr.putU u ⟨xp, xk, xt, xo⟩).1.U.length c3)).set (p := ⟨gx, 1, none⟩) (by exact hz2.lt) (.slice A3' (Tr.putU u ⟨xp, xk, xt, xo⟩).1.L.length c3')
      clear hb hB2 hq2 hx2 hz2 hf3
      generalize Tr.putU u ⟨xp, xk, xt, xo⟩ = r at *
      obtain ⟨r, e1⟩ := r
      dsimp only at hf4 HLW
      have hB4 := (hB3.setCell (p := ⟨gx, 0, none⟩) (by show w.heap.size ≤ gx; omega) (.slice A3 r.U.length c3)).setCell (p := ⟨gx, 1, none⟩) (by show w.heap.size ≤ gx; omega) (.slice A3' r.L.length c3')
      have hq4 := (hq3.far (p := ⟨gx, 0, none⟩) (by show w.heap.size ≠ gx; omega) (.slice A3 r.U.length c3)).far (p := ⟨gx, 1, none⟩) (by show w.heap.size ≠ gx; omega) (.slice A3' r.L.length c3')
      have hx4 := (hx3.far (p := ⟨gx, 0, none⟩) (by show w.heap.size + 1 ≠ gx; omega) (.slice A3 r.U.length c3)).far (p := ⟨gx, 1, none⟩) (by show w.heap.size + 1 ≠ gx; omega) (.slice A3' r.L.length c3')
      have hz4 : Blk ((w3.setCell ⟨gx, 0, none⟩ (.slice A3 r.U.length c3)).setCell ⟨gx, 1, none⟩ (.slice A3' r.L.length c3')) gx 49 [.slice A3 r.U.length c3, .slice A3' r.L.length c3'] := (hz3.set_ 0 _).set_ 1 _
      have hu4 := hf4.here
      obtain ⟨z0, z1, zf, zz⟩ := hz3.two
      go_upto_region 14 with fail
      clear z0 z1 zf zz hf4 hB3 hq3 hx3 hz3
      generalize (w3.setCell ⟨gx, 0, none⟩ (.slice A3 r.U.length c3)).setCell ⟨gx, 1, none⟩ (.slice A3' r.L.length c3') = w4 at *
      obtain ⟨z0, z1, zf, zz⟩ := hz4.two
      rcases te : (e1 != 0) with _ | _
      rotate_left
      · have hr0 := HLW.out.1 (by simpa using te)
        subst hr0
        go_wp2_with fail
        refine (sameUnion_any A3 A3' none none c3 c3' 0 0 Un.zero w4 hu4 ⟨Rd.nil, Nat.le_refl _, TsRd.nil _ _ _, fun _ => rfl⟩ (by decide) (by decide) (fun l h => nomatch h)).mono ?_
        rintro e w5 ⟨rfl, hb⟩
        go_wp2_with fail
        go_roundw
        case rel => exact ⟨0 + 1, by omega, by go_num, hq4.below hb hq4.lt, hx4.below hb hx4.lt, hB4.trans (hb.mono hB4.size)⟩
        case measure => simp [intOf]
      · have hr0 := HLW.out.2 (by simpa using te)
        have hfine := hr0.1
        have hlow := hr0.2
        clear hr0 HLW
        obtain ⟨V, L⟩ := r
        dsimp only at hlow hz4 hu4 z0 z1 ⊢
        subst hlow
        have cW := wrongU_any A3 A3' c3 c3' ⟨V, u.L⟩ w4 hu4 (unSm_fine hfine)
        rw [Tr.fine_at hfine] at cW
        dsimp only at cW
        go_wp2_with fail
        clear z0 z1 zf zz
        refine cW.mono ?_
        rintro e w5 ⟨rfl, hb⟩
        have hB5 := hB4.trans (hb.mono hB4.size)
        have hq5 := hq4.below hb hq4.lt
        have hx5 := hx4.below hb hx4.lt
        have hz5 := hz4.below hb hz4.lt
        have hu5 := ((hu4.below hb).more hb.size).lower
        dsimp only at hu5
        clear hb hB4 hq4 hx4 hz4 hu4 cW
        obtain ⟨z0, z1, zf, zz⟩ := hz5.two
        obtain ⟨q0, q1, qf, qz⟩ := hq5.two
        go_wp2_with fail
        clear z0 z1 zf zz q0 q1 qf qz
        refine (sameUnion_any none A3' none A' 0 c3' 0 c' ⟨[], u.L⟩ w5 hu5 ((HU.out.below hB5).more hB5.size).lower (Nat.zero_le _) hsl HSL.out).mono ?_
        rintro e w6 ⟨rfl, hb⟩
        go_wp2_with fail
        go_roundw
        case rel => exact ⟨0 + 1, by omega, by go_num, hq5.below hb hq5.lt, hx5.below hb hx5.lt, hB5.trans (hb.mono hB5.size)⟩
        case measure => simp [intOf]
    · subst h3
      go_upto_region 13 with fail
      generalize wr.alloc (.cells #[.slice none 0 0, .slice none 0 0] 49) = w2 at *
      generalize wr.heap.size = gx at *
      obtain ⟨q0, q1, qf, qz⟩ := hq2.two
      obtain ⟨x0, x1, x2, x3, xf, xz⟩ := hx2.four
      go_wp2_with fail
      clear q0 q1 qf qz x0 x1 x2 x3 xf xz
      refine (removeU_any A A' c c' u p w2 ((HU.out.below hB2).more hB2.size) HS.out hp).mono ?_
      rintro e w3 ⟨A3, A3', c3, c3', rfl, hf3, hb⟩
      have hB3 := hB2.trans (hb.mono hB2.size)
      have hq3 := hq2.below hb hq2.lt
      have hx3 := hx2.below hb hx2.lt
      have hz3 := hz2.below hb hz2.lt
      have HLW := Lib.hid (Tr.remU_low u p.data.toList)
      have hf4 := (hf3.set (p := ⟨gx, 0, none⟩) (by exact hz2.lt) (.slice A3 (Tr.removeU u p.data.toList).1.U.length c3)).set (p := ⟨gx, 1, none⟩) (by exact hz2.lt) (.slice A3' (Tr.removeU u p.data.toList).1.L.length c3')
      clear hb hB2 hq2 hx2 hz2 hf3
      generalize Tr.removeU u p.data.toList = r at *
      obtain ⟨r, e1⟩ := r
      dsimp only at hf4 HLW
      have hB4 := (hB3.setCell (p := ⟨gx, 0, none⟩) (by show w.heap.size ≤ gx; omega) (.slice A3 r.U.length c3)).setCell (p := ⟨gx, 1, none⟩) (by show w.heap.size ≤ gx; omega) (.slice A3' r.L.length c3')
      have hq4 := (hq3.far (p := ⟨gx, 0, none⟩) (by show w.heap.size ≠ gx; omega) (.slice A3 r.U.length c3)).far (p := ⟨gx, 1, none⟩) (by show w.heap.size ≠ gx; omega) (.slice A3' r.L.length c3')
      have hx4 := (hx3.far (p := ⟨gx, 0, none⟩) (by show w.heap.size + 1 ≠ gx; omega) (.slice A3 r.U.length c3)).far (p := ⟨gx, 1, none⟩) (by show w.heap.size + 1 ≠ gx; omega) (.slice A3' r.L.length c3')
      have hz4 : Blk ((w3.setCell ⟨gx, 0, none⟩ (.slice A3 r.U.length c3)).setCell ⟨gx, 1, none⟩ (.slice A3' r.L.length c3')) gx 49 [.slice A3 r.U.length c3, .slice A3' r.L.length c3'] := (hz3.set_ 0 _).set_ 1 _
      have hu4 := hf4.here
      obtain ⟨z0, z1, zf, zz⟩ := hz3.two
      go_upto_region 14 with fail
      clear z0 z1 zf zz hf4 hB3 hq3 hx3 hz3
      generalize (w3.setCell ⟨gx, 0, none⟩ (.slice A3 r.U.length c3)).setCell ⟨gx, 1, none⟩ (.slice A3' r.L.length c3') = w4 at *
      obtain ⟨z0, z1, zf, zz⟩ := hz4.two
      rcases te : (e1 != 0) with _ | _
      rotate_left
      · have hr0 := HLW.out.1 (by simpa using te)
        subst hr0
        go_wp2_with fail
        refine (sameUnion_any A3 A3' none none c3 c3' 0 0 Un.zero w4 hu4 ⟨Rd.nil, Nat.le_refl _, TsRd.nil _ _ _, fun _ => rfl⟩ (by decide) (by decide) (fun l h => nomatch h)).mono ?_
        rintro e w5 ⟨rfl, hb⟩
        go_wp2_with fail
        go_roundw
        case rel => exact ⟨1 + 1, by omega, by go_num, hq4.below hb hq4.lt, hx4.below hb hx4.lt, hB4.trans (hb.mono hB4.size)⟩
        case measure => simp [intOf]
      · have hr0 := HLW.out.2 (by simpa using te)
        have hfine := hr0.1
        have hlow := hr0.2
        clear hr0 HLW
        obtain ⟨V, L⟩ := r
        dsimp only at hlow hz4 hu4 z0 z1 ⊢
        subst hlow
        have cW := wrongU_any A3 A3' c3 c3' ⟨V, u.L⟩ w4 hu4 (unSm_fine hfine)
        rw [Tr.fine_at hfine] at cW
        dsimp only at cW
        go_wp2_with fail
        clear z0 z1 zf zz
        refine cW.mono ?_
        rintro e w5 ⟨rfl, hb⟩
        have hB5 := hB4.trans (hb.mono hB4.size)
        have hq5 := hq4.below hb hq4.lt
        have hx5 := hx4.below hb hx4.lt
        have hz5 := hz4.below hb hz4.lt
        have hu5 := ((hu4.below hb).more hb.size).lower
        dsimp only at hu5
        clear hb hB4 hq4 hx4 hz4 hu4 cW
        obtain ⟨z0, z1, zf, zz⟩ := hz5.two
        obtain ⟨q0, q1, qf, qz⟩ := hq5.two
        go_wp2_with fail
        clear z0 z1 zf zz q0 q1 qf qz
        refine (sameUnion_any none A3' none A' 0 c3' 0 c' ⟨[], u.L⟩ w5 hu5 ((HU.out.below hB5).more hB5.size).lower (Nat.zero_le _) hsl HSL.out).mono ?_
        rintro e w6 ⟨rfl, hb⟩
        go_wp2_with fail
        go_roundw
        case rel => exact ⟨1 + 1, by omega, by go_num, hq5.below hb hq5.lt, hx5.below hb hx5.lt, hB5.trans (hb.mono hB5.size)⟩
        case measure => simp [intOf]
    · subst h3
      go_upto_region 9 with fail
      generalize wr.alloc (.cells #[.slice none 0 0, .slice none 0 0] 49) = w2 at *
      generalize wr.heap.size = gx at *
      obtain ⟨q0, q1, qf, qz⟩ := hq2.two
      obtain ⟨x0, x1, x2, x3, xf, xz⟩ := hx2.four
      go_wp2_with fail
      clear q0 q1 qf qz x0 x1 x2 x3 xf xz
      refine (moveU_any A A' c c' u p q w2 ((HU.out.below hB2).more hB2.size) HS.out hp hq).mono ?_
      rintro e w3 ⟨A3, A3', c3, c3', rfl, hf3, hb⟩
      have hB3 := hB2.trans (hb.mono hB2.size)
      have hq3 := hq2.below hb hq2.lt
      have hx3 := hx2.below hb hx2.lt
      have hz3 := hz2.below hb hz2.lt
      have HLW := Lib.hid (Tr.moveU_low u p.data.toList q.data.toList)
      have hf4 := (hf3.set (p := ⟨gx, 0, none⟩) (by exact hz2.lt) (.slice A3 (Tr.moveU u p.data.toList q.data.toList).1.U.length c3)).set (p := ⟨gx, 1, none⟩) (by exact hz2.lt) (.slice A3' (Tr.moveU u p.data.toList q.data.toList).1.L.length c3')
      clear hb hB2 hq2 hx2 hz2 hf3
      generalize Tr.moveU u p.data.toList q.data.toList = r at *
      obtain ⟨r, e1⟩ := r
      dsimp only at hf4 HLW
      have hB4 := (hB3.setCell (p := ⟨gx, 0, none⟩) (by show w.heap.size ≤ gx; omega) (.slice A3 r.U.length c3)).setCell (p := ⟨gx, 1, none⟩) (by show w.heap.size ≤ gx; omega) (.slice A3' r.L.length c3')
      have hq4 := (hq3.far (p := ⟨gx, 0, none⟩) (by show w.heap.size ≠ gx; omega) (.slice A3 r.U.length c3)).far (p := ⟨gx, 1, none⟩) (by show w.heap.size ≠ gx; omega) (.slice A3' r.L.length c3')
      have hx4 := (hx3.far (p := ⟨gx, 0, none⟩) (by show w.heap.size + 1 ≠ gx; omega) (.slice A3 r.U.length c3)).far (p := ⟨gx, 1, none⟩) (by show w.heap.size + 1 ≠ gx; omega) (.slice A3' r.L.length c3')
      have hz4 : Blk ((w3.setCell ⟨gx, 0, none⟩ (.slice A3 r.U.length c3)).setCell ⟨gx, 1, none⟩ (.slice A3' r.L.length c3')) gx 49 [.slice A3 r.U.length c3, .slice A3' r.L.length c3'] := (hz3.set_ 0 _).set_ 1 _
      have hu4 := hf4.here
      obtain ⟨z0, z1, zf, zz⟩ := hz3.two
      go_upto_region 14 with fail
      clear z0 z1 zf zz hf4 hB3 hq3 hx3 hz3
      generalize (w3.setCell ⟨gx, 0, none⟩ (.slice A3 r.U.length c3)).setCell ⟨gx, 1, none⟩ (.slice A3' r.L.length c3') = w4 at *
      obtain ⟨z0, z1, zf, zz⟩ := hz4.two
      rcases te : (e1 != 0) with _ | _
      rotate_left
      · have hr0 := HLW.out.1 (by simpa using te)
        subst hr0
        go_wp2_with fail
        refine (sameUnion_any A3 A3' none none c3 c3' 0 0 Un.zero w4 hu4 ⟨Rd.nil, Nat.le_refl _, TsRd.nil _ _ _, fun _ => rfl⟩ (by decide) (by decide) (fun l h => nomatch h)).mono ?_
        rintro e w5 ⟨rfl, hb⟩
        go_wp2_with fail
        go_roundw
        case rel => exact ⟨2 + 1, by omega, by go_num, hq4.below hb hq4.lt, hx4.below hb hx4.lt, hB4.trans (hb.mono hB4.size)⟩
        case measure => simp [intOf]
      · have hr0 := HLW.out.2 (by simpa using te)
        have hfine := hr0.1
        have hlow := hr0.2
        clear hr0 HLW
        obtain ⟨V, L⟩ := r
        dsimp only at hlow hz4 hu4 z0 z1 ⊢
        subst hlow
        have cW := wrongU_any A3 A3' c3 c3' ⟨V, u.L⟩ w4 hu4 (unSm_fine hfine)
        rw [Tr.fine_at hfine] at cW
        dsimp only at cW
        go_wp2_with fail
        clear z0 z1 zf zz
        refine cW.mono ?_
        rintro e w5 ⟨rfl, hb⟩
        have hB5 := hB4.trans (hb.mono hB4.size)
        have hq5 := hq4.below hb hq4.lt
        have hx5 := hx4.below hb hx4.lt
        have hz5 := hz4.below hb hz4.lt
        have hu5 := ((hu4.below hb).more hb.size).lower
        dsimp only at hu5
        clear hb hB4 hq4 hx4 hz4 hu4 cW
        obtain ⟨z0, z1, zf, zz⟩ := hz5.two
        obtain ⟨q0, q1, qf, qz⟩ := hq5.two
        go_wp2_with fail
        clear z0 z1 zf zz q0 q1 qf qz
        refine (sameUnion_any none A3' none A' 0 c3' 0 c' ⟨[], u.L⟩ w5 hu5 ((HU.out.below hB5).more hB5.size).lower (Nat.zero_le _) hsl HSL.out).mono ?_
        rintro e w6 ⟨rfl, hb⟩
        go_wp2_with fail
        go_roundw
        case rel => exact ⟨2 + 1, by omega, by go_num, hq5.below hb hq5.lt, hx5.below hb hx5.lt, hB5.trans (hb.mono hB5.size)⟩
        case measure => simp [intOf]
end Go.Proofs.YtjppfhgkanbemabDoor
