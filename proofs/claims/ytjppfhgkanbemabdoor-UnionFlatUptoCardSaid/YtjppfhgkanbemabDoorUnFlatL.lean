/-
  The walk of UnionFlat. (Printed by wip/genunfl.py.)
-/
import Derived.Test.YtjppfhgkanbemabDoorUnLowL
namespace Go.Proofs.YtjppfhgkanbemabDoor
open Go.RowKit Go.Shelf Go.Sort

/-- Two changes alike: of a union, and of one layer of which the same is seen. -/
structure Tr.Alike (r r' : Un × Int) (t : List En) : Prop where
  err : r.2 ≠ 5 → r.2 = r'.2
  none : r.2 ≠ 5 → r.2 ≠ 0 → r.1 = Un.zero ∧ r'.1 = Un.zero
  ok : r.2 = 0 → Tr.Fine r.1 ∧ Tr.Fine r'.1 ∧ Tr.seenU r.1 = (t, 0) ∧ Tr.seenU r'.1 = (t, 0)
theorem Tr.alike_of {u v : Un} {r r' : Un × Int} {t : List En × Int} (h : Tr.AsTree u r t) (h' : Tr.AsTree v r' t) (hf : Tr.AsFlat r' t) : Tr.Alike r r' t.1 := by
  have he : r.2 ≠ 5 → r.2 = r'.2 := fun h5 => by
    rw [hf.1]
    by_cases h0 : r.2 = 0
    · rw [h0]; exact (h.2 h0).2.2.1.symm
    · exact ((h.1 h0).2).resolve_left h5
  refine ⟨he, fun h5 h0 => ⟨(h.1 h0).1, (h'.1 (by rw [← he h5]; exact h0)).1⟩, fun h0 => ?_⟩
  have h0' : r'.2 = 0 := by rw [← he (by omega)]; exact h0
  exact ⟨(h.2 h0).1, (h'.2 h0').1, (h.2 h0).2.2.2, (h'.2 h0').2.2.2⟩
structure Tr.FlatIs (u : Un) (S : List En) (x : En) (p q : Pt.Bs) : Prop where
  fine : Tr.Fine ⟨S, []⟩
  put : Tr.Alike (Tr.putU u x) (Tr.putU ⟨S, []⟩ x) (Tr.put S x).1
  rem : Tr.Alike (Tr.removeU u p) (Tr.removeU ⟨S, []⟩ p) (Tr.remove S p).1
  mov : Tr.Alike (Tr.moveU u p q) (Tr.moveU ⟨S, []⟩ p q) (Tr.move S p q).1
theorem Tr.flat_is {u : Un} (x : En) (p q : Pt.Bs) (h : (Tr.seenU u).2 = 0) : Tr.FlatIs u (Tr.seenU u).1 x p q := by
  have hf := Tr.seenU_zero.1 h
  have hp := Tr.parts h
  obtain ⟨f1, f2⟩ := Tr.fine_flat hp.sl hp.sr
  have k1 := Tr.putU_tree f1 x
  have k2 := Tr.removeU_tree f1 p
  have k3 := Tr.moveU_tree f1 p q
  rw [f2] at k1 k2 k3
  exact ⟨f1, Tr.alike_of (Tr.putU_tree hf x) k1 (Tr.putU_flat hp.sl hp.sr x), Tr.alike_of (Tr.removeU_tree hf p) k2 (Tr.removeU_flat hp.sl hp.sr p), Tr.alike_of (Tr.moveU_tree hf p q) k3 (Tr.moveU_flat hp.sl hp.sr p q)⟩
theorem unSm_zero : UnSm Un.zero := by
  refine ⟨fun l hl => ?_, by decide, fun l hl => ?_⟩
  · have hl : l = [] := by simpa [Un.all, Un.zero] using hl
    subst hl
    exact ⟨fun _ h => (nomatch h), by decide⟩
  · have hl : l = [] := by simpa [Un.all, Un.zero] using hl
    subst hl; decide

set_option maxHeartbeats 2000000 in
set_option maxRecDepth 100000 in
theorem unionFlat_any (A A' : Option Addr) (c c' : Nat) (u : Un) (x : En) (p q : ByteArray) (w : World) (hu : UnRd w w.heap.size A A' c c' u) (hs : UnSm u) (hxp : x.p.size < 4294967281) (hxt : x.t.size < 4294967281) (hp : p.size < 4294967281) (hq : q.size < 4294967281) :
    Calls Tryd.prog 10 #[.agg #[.slice A u.U.length c, .slice A' u.L.length c'], x.agg, .string p, .string q] w fun e w' => e = .returned (.bool true) ∧ Below w.heap.size w w' := by
  obtain ⟨xp, xk, xt, xo⟩ := x
  dsimp only at hxp hxt
  show Calls Tryd.prog 10 #[.agg #[.slice A u.U.length c, .slice A' u.L.length c'], .agg #[.string xp, .int .i64 xk, .string xt, .bool xo], .string p, .string q] w _
  have HS := Lib.hid hs
  have HU := Lib.hid hu
  clear hs hu
  have hB0 := ((Below.refl w.heap.size w).alloc (Nat.le_refl _) (.cells #[.slice A u.U.length c, .slice A' u.L.length c'] 49))
  have hB0 := hB0.alloc hB0.size (.cells #[.string xp, .int .i64 xk, .string xt, .bool xo] 32)
  have hq0 := (Blk.new w 49 [.slice A u.U.length c, .slice A' u.L.length c']).alloc (.cells #[.string xp, .int .i64 xk, .string xt, .bool xo] 32)
  have hx0 := Blk.new (w.alloc (.cells #[.slice A u.U.length c, .slice A' u.L.length c'] 49)) 32 [.string xp, .int .i64 xk, .string xt, .bool xo]
  simp only [World.size_alloc] at hx0
  go_enter Tryd.func10, Tryd.ntmps10
  go_upto_region 1 with fail
  generalize (w.alloc (.cells #[.slice A u.U.length c, .slice A' u.L.length c'] 49)).alloc (.cells #[.string xp, .int .i64 xk, .string xt, .bool xo] 32) = w0 at *
  go_wp2_with fail
  refine (unAlive_any w0).mono ?_
  rintro e w1 ⟨rfl, hb⟩
  have hB1 := hB0.trans (hb.mono hB0.size)
  have hq1 := hq0.below hb hq0.lt
  have hx1 := hx0.below hb hx0.lt
  clear hb hB0 hq0 hx0
  have cS := seenU_any A A' c c' u w1 ((HU.out.below hB1).more hB1.size) HS.out
  unfold SeenRel at cS
  have HT := Lib.hid (Tr.flat_is (u := u) ⟨xp, xk, xt, xo⟩ p.data.toList q.data.toList)
  have HPT := Lib.hid (Tr.parts (u := u))
  generalize Tr.seenU u = sp at cS HT HPT
  obtain ⟨S, se⟩ := sp
  dsimp only at cS HT HPT
  obtain ⟨q0, q1, qf, qz⟩ := hq1.two
  go_wp2_with fail
  clear q0 q1 qf qz
  refine cS.mono ?_
  rintro e w2 ⟨v2, rfl, ho2, hb⟩
  have hB2 := hB1.trans (hb.mono hB1.size)
  have hq2 := hq1.below hb hq1.lt
  have hx2 := hx1.below hb hx1.lt
  clear hb hB1 hq1 hx1 cS
  obtain ⟨AS, cS, rfl, hcS, hS2⟩ := EnOwn.rd ho2
  clear ho2
  rcases te : (se != 0) with _ | _
  rotate_left
  · go_wp2_with fail
    go_ret
    exact ⟨rfl, hB2⟩
  have hse : se = 0 := by simpa using te
  have HF := Lib.hid (HT.out hse)
  have HP := Lib.hid (HPT.out hse)
  clear HT HPT te
  subst hse
  have hSl := HP.out.sl
  have hB3 := hB2.alloc hB2.size (.cells #[.slice AS S.length cS, .slice none 0 0] 49)
  have hq3 := hq2.alloc (.cells #[.slice AS S.length cS, .slice none 0 0] 49)
  have hx3 := hx2.alloc (.cells #[.slice AS S.length cS, .slice none 0 0] 49)
  have ho3 := Blk.new w2 49 [.slice AS S.length cS, .slice none 0 0]
  have hS3 : EnRd (w2.alloc (.cells #[.slice AS S.length cS, .slice none 0 0] 49)) (w2.alloc (.cells #[.slice AS S.length cS, .slice none 0 0] 49)).heap.size AS S := (Rd.alloc hS2 (Nat.le_refl _) _).more (by simp)
  clear hB2 hq2 hx2 hS2
  go_upto_region 7 with fail
  generalize w2.alloc (.cells #[.slice AS S.length cS, .slice none 0 0] 49) = w3 at *
  generalize w2.heap.size = go at *
  have hw3 := hB3.size
  go_wp2_with fail
  go_loopw [32] (fun i wr => ∃ k : Nat, k ≤ 3 ∧ i = .int .i64 k ∧ Below w3.heap.size w3 wr) (fun i _ => 3 - (intOf i).toNat)
  case atStart => exact ⟨0, by omega, rfl, Below.refl _ _⟩
  case round =>
    obtain ⟨k, hk, rfl, hbr⟩ := hrel
    have hbz := hbr.size
    have hb4 := hbr.alloc hbz (.cells #[.slice none 0 0, .slice none 0 0] 49)
    have hb4 := hb4.alloc hb4.size (.cells #[.slice none 0 0, .slice none 0 0] 49)
    have hz4 := (Blk.new wr 49 [.slice none 0 0, .slice none 0 0]).alloc (.cells #[.slice none 0 0, .slice none 0 0] 49)
    have hy4 := Blk.new (wr.alloc (.cells #[.slice none 0 0, .slice none 0 0] 49)) 49 [.slice none 0 0, .slice none 0 0]
    simp only [World.size_alloc] at hy4
    obtain h3 | h3 | h3 | h3 : k = 3 ∨ k = 0 ∨ k = 1 ∨ k = 2 := by omega
    · subst h3
      clear hb4 hz4 hy4
      go_wp2_with fail
      go_ret
      exact ⟨rfl, hB3.trans (hbr.mono hB3.size)⟩
    · subst h3
      go_upto_region 16 with fail
      generalize (wr.alloc (.cells #[.slice none 0 0, .slice none 0 0] 49)).alloc (.cells #[.slice none 0 0, .slice none 0 0] 49) = w4 at *
      generalize wr.heap.size = gx at *
      have hq4 := hq3.below hb4 hq3.lt
      have hx4 := hx3.below hb4 hx3.lt
      obtain ⟨q0, q1, qf, qz⟩ := hq4.two
      obtain ⟨x0, x1, x2, x3, xf, xz⟩ := hx4.four
      have hB4 := hB3.trans (hb4.mono hB3.size)
      go_wp2_with fail
      clear q0 q1 qf qz x0 x1 x2 x3 xf xz hq4 hx4
      refine (putU_any A A' c c' u xp xk xt xo w4 ((HU.out.below hB4).more hB4.size) HS.out hxp hxt).mono ?_
      rintro e w5 ⟨A5, A5', c5, c5', rfl, hf5, hb⟩
      have hb5 := hb4.trans (hb.mono hb4.size)
      have hz5 := hz4.below hb hz4.lt
      have hy5 := hy4.below hb hy4.lt
      have HAL := Lib.hid (HF.out.put)
      have hgz := hz4.lt
      have hgy := hy4.lt
      have hf6 := (hf5.set (p := ⟨gx, 0, none⟩) (by exact hgz) (.slice A5 (Tr.putU u ⟨xp, xk, xt, xo⟩).1.U.length c5)).set (p := ⟨gx, 1, none⟩) (by exact hgz) (.slice A5' (Tr.putU u ⟨xp, xk, xt, xo⟩).1.L.length c5')
      clear hb hb4 hz4 hy4 hf5 hB4
      generalize Tr.putU u ⟨xp, xk, xt, xo⟩ = r1 at *
      obtain ⟨r1, e1⟩ := r1
      dsimp only at hf6 HAL
      have hb6 := (hb5.setCell (p := ⟨gx, 0, none⟩) (by exact hbz) (.slice A5 r1.U.length c5)).setCell (p := ⟨gx, 1, none⟩) (by exact hbz) (.slice A5' r1.L.length c5')
      have hy6 := (hy5.far (p := ⟨gx, 0, none⟩) (by show gx + 1 ≠ gx; omega) (.slice A5 r1.U.length c5)).far (p := ⟨gx, 1, none⟩) (by show gx + 1 ≠ gx; omega) (.slice A5' r1.L.length c5')
      have hz6 : Blk ((w5.setCell ⟨gx, 0, none⟩ (.slice A5 r1.U.length c5)).setCell ⟨gx, 1, none⟩ (.slice A5' r1.L.length c5')) gx 49 [.slice A5 r1.U.length c5, .slice A5' r1.L.length c5'] := (hz5.set_ 0 _).set_ 1 _
      obtain ⟨z0, z1, zf, zz⟩ := hz5.two
      go_upto_region 17 with fail
      clear z0 z1 zf zz hb5 hy5 hz5
      generalize (w5.setCell ⟨gx, 0, none⟩ (.slice A5 r1.U.length c5)).setCell ⟨gx, 1, none⟩ (.slice A5' r1.L.length c5') = w6 at *
      have ho6 := ho3.below hb6 ho3.lt
      have hx6 := hx3.below hb6 hx3.lt
      have hS6 : EnRd w6 w6.heap.size AS S := (Rd.below hS3 hb6).more hb6.size
      obtain ⟨o0, o1, of, oz⟩ := ho6.two
      obtain ⟨x0, x1, x2, x3, xf, xz⟩ := hx6.four
      go_wp2_with fail
      clear o0 o1 of oz x0 x1 x2 x3 xf xz hx6 ho6
      refine (putU_any AS none cS 0 ⟨S, []⟩ xp xk xt xo w6 ⟨hS6, hcS, TsRd.nil _ _ _, fun _ => rfl⟩ (unSm_fine HF.out.fine) hxp hxt).mono ?_
      rintro e w7 ⟨A7, A7', c7, c7', rfl, hf7, hb⟩
      have hb7 := hb6.trans (hb.mono hb6.size)
      have hz7 := hz6.below hb hz6.lt
      have hy7 := hy6.below hb hy6.lt
      have hf8 := (hf7.set (p := ⟨gx + 1, 0, none⟩) (by exact hy6.lt) (.slice A7 (Tr.putU ⟨S, []⟩ ⟨xp, xk, xt, xo⟩).1.U.length c7)).set (p := ⟨gx + 1, 1, none⟩) (by exact hy6.lt) (.slice A7' (Tr.putU ⟨S, []⟩ ⟨xp, xk, xt, xo⟩).1.L.length c7')
      have hg8 := ((hf6.below hb).set (p := ⟨gx + 1, 0, none⟩) (by exact hgy) (.slice A7 (Tr.putU ⟨S, []⟩ ⟨xp, xk, xt, xo⟩).1.U.length c7)).set (p := ⟨gx + 1, 1, none⟩) (by exact hgy) (.slice A7' (Tr.putU ⟨S, []⟩ ⟨xp, xk, xt, xo⟩).1.L.length c7')
      clear hb hb6 hz6 hy6 hf7 hf6 hS6
      generalize Tr.putU ⟨S, []⟩ ⟨xp, xk, xt, xo⟩ = r2 at *
      obtain ⟨r2, e2⟩ := r2
      dsimp only at hf8 hg8 HAL
      have hb8 := (hb7.setCell (p := ⟨gx + 1, 0, none⟩) (by show w3.heap.size ≤ gx + 1; omega) (.slice A7 r2.U.length c7)).setCell (p := ⟨gx + 1, 1, none⟩) (by show w3.heap.size ≤ gx + 1; omega) (.slice A7' r2.L.length c7')
      have hz8 := (hz7.far (p := ⟨gx + 1, 0, none⟩) (by show gx ≠ gx + 1; omega) (.slice A7 r2.U.length c7)).far (p := ⟨gx + 1, 1, none⟩) (by show gx ≠ gx + 1; omega) (.slice A7' r2.L.length c7')
      have hy8 : Blk ((w7.setCell ⟨gx + 1, 0, none⟩ (.slice A7 r2.U.length c7)).setCell ⟨gx + 1, 1, none⟩ (.slice A7' r2.L.length c7')) (gx + 1) 49 [.slice A7 r2.U.length c7, .slice A7' r2.L.length c7'] := (hy7.set_ 0 _).set_ 1 _
      have hu8 := hg8.here
      have hv8 := hf8.here
      obtain ⟨y0, y1, yf, yz⟩ := hy7.two
      go_upto_region 21 with fail
      clear y0 y1 yf yz hb7 hy7 hz7 hf8 hg8
      generalize (w7.setCell ⟨gx + 1, 0, none⟩ (.slice A7 r2.U.length c7)).setCell ⟨gx + 1, 1, none⟩ (.slice A7' r2.L.length c7') = w8 at *
      obtain ⟨z0, z1, zf, zz⟩ := hz8.two
      rcases t5 : (e1 == 5) with _ | _
      rotate_left
      · clear hu8 hv8
        go_wp2_with fail
        go_roundw
        case rel => exact ⟨0 + 1, by omega, by go_num, hb8⟩
        case measure => simp [intOf]
      have h5 : e1 ≠ 5 := by simpa using t5
      have he := HAL.out.err h5
      dsimp only at he
      subst he
      have hse2 : (e1 != e1) = false := by simp
      rcases t0 : (e1 == 0) with _ | _
      · have h0 := HAL.out.none h5 (by simpa using t0)
        dsimp only at h0
        obtain ⟨rfl, rfl⟩ := h0
        go_wp2_with fail
        clear z0 z1 zf zz
        refine (seenU_any A5 A5' c5 c5' Un.zero w8 hu8 unSm_zero).mono ?_
        rintro e w9 ⟨v9, rfl, _, hb⟩
        have hb9 := hb8.trans (hb.mono hb8.size)
        have hy9 := hy8.below hb hy8.lt
        have hv9 := (hv8.below hb).more hb.size
        clear hb hb8 hy8 hz8 hv8 hu8
        obtain ⟨y0, y1, yf, yz⟩ := hy9.two
        go_wp2_with fail
        clear y0 y1 yf yz
        refine (seenU_any A7 A7' c7 c7' Un.zero w9 hv9 unSm_zero).mono ?_
        rintro e w10 ⟨v10, rfl, _, hb⟩
        go_wp2_with fail
        go_roundw
        case rel => exact ⟨0 + 1, by omega, by go_num, hb9.trans (hb.mono hb9.size)⟩
        case measure => simp [intOf]
      · obtain ⟨g1, g2, g3, g4⟩ := HAL.out.ok (by simpa using t0)
        have HLT := Lib.hid (put_le S ⟨xp, xk, xt, xo⟩)
        dsimp only at g1 g2 g3 g4
        have cX := seenU_any A5 A5' c5 c5' r1 w8 hu8 (unSm_fine g1)
        have cY := fun W h => seenU_any A7 A7' c7 c7' r2 W h (unSm_fine g2)
        unfold SeenRel at cX cY
        rw [g3] at cX
        rw [g4] at cY
        dsimp only at cX cY
        clear g1 g2 g3 g4 HAL
        generalize (Tr.put S ⟨xp, xk, xt, xo⟩).1 = t at *
        have htl := HLT.out
        go_wp2_with fail
        clear z0 z1 zf zz
        refine cX.mono ?_
        rintro e w9 ⟨v9, rfl, ho9, hb⟩
        have hb9 := hb8.trans (hb.mono hb8.size)
        have hy9 := hy8.below hb hy8.lt
        have hv9 := (hv8.below hb).more hb.size
        clear hb hb8 hy8 hz8 hv8 hu8 cX
        obtain ⟨A9, c9, rfl, hc9, hr9⟩ := EnOwn.rd ho9
        clear ho9
        obtain ⟨y0, y1, yf, yz⟩ := hy9.two
        go_wp2_with fail
        clear y0 y1 yf yz
        refine (cY w9 hv9).mono ?_
        rintro e w10 ⟨v10, rfl, ho10, hb⟩
        have hb10 := hb9.trans (hb.mono hb9.size)
        have hr9 := (Rd.below hr9 hb).more hb.size
        obtain ⟨A10, c10, rfl, hc10, hr10⟩ := EnOwn.rd ho10
        clear hb hb9 hy9 hv9 ho10 cY
        go_wp2_with fail
        refine (same_any A9 A10 c9 c10 t t w10 hr9 hr10 (by omega) rfl).mono ?_
        rintro e w11 ⟨rfl, hb⟩
        go_wp2_with fail
        go_roundw
        case rel => exact ⟨0 + 1, by omega, by go_num, hb10.trans (hb.mono hb10.size)⟩
        case measure => simp [intOf]
    · subst h3
      go_upto_region 19 with fail
      generalize (wr.alloc (.cells #[.slice none 0 0, .slice none 0 0] 49)).alloc (.cells #[.slice none 0 0, .slice none 0 0] 49) = w4 at *
      generalize wr.heap.size = gx at *
      have hq4 := hq3.below hb4 hq3.lt
      have hx4 := hx3.below hb4 hx3.lt
      obtain ⟨q0, q1, qf, qz⟩ := hq4.two
      obtain ⟨x0, x1, x2, x3, xf, xz⟩ := hx4.four
      have hB4 := hB3.trans (hb4.mono hB3.size)
      go_wp2_with fail
      clear q0 q1 qf qz x0 x1 x2 x3 xf xz hq4 hx4
      refine (removeU_any A A' c c' u p w4 ((HU.out.below hB4).more hB4.size) HS.out hp).mono ?_
      rintro e w5 ⟨A5, A5', c5, c5', rfl, hf5, hb⟩
      have hb5 := hb4.trans (hb.mono hb4.size)
      have hz5 := hz4.below hb hz4.lt
      have hy5 := hy4.below hb hy4.lt
      have HAL := Lib.hid (HF.out.rem)
      have hgz := hz4.lt
      have hgy := hy4.lt
      have hf6 := (hf5.set (p := ⟨gx, 0, none⟩) (by exact hgz) (.slice A5 (Tr.removeU u p.data.toList).1.U.length c5)).set (p := ⟨gx, 1, none⟩) (by exact hgz) (.slice A5' (Tr.removeU u p.data.toList).1.L.length c5')
      clear hb hb4 hz4 hy4 hf5 hB4
      generalize Tr.removeU u p.data.toList = r1 at *
      obtain ⟨r1, e1⟩ := r1
      dsimp only at hf6 HAL
      have hb6 := (hb5.setCell (p := ⟨gx, 0, none⟩) (by exact hbz) (.slice A5 r1.U.length c5)).setCell (p := ⟨gx, 1, none⟩) (by exact hbz) (.slice A5' r1.L.length c5')
      have hy6 := (hy5.far (p := ⟨gx, 0, none⟩) (by show gx + 1 ≠ gx; omega) (.slice A5 r1.U.length c5)).far (p := ⟨gx, 1, none⟩) (by show gx + 1 ≠ gx; omega) (.slice A5' r1.L.length c5')
      have hz6 : Blk ((w5.setCell ⟨gx, 0, none⟩ (.slice A5 r1.U.length c5)).setCell ⟨gx, 1, none⟩ (.slice A5' r1.L.length c5')) gx 49 [.slice A5 r1.U.length c5, .slice A5' r1.L.length c5'] := (hz5.set_ 0 _).set_ 1 _
      obtain ⟨z0, z1, zf, zz⟩ := hz5.two
      go_upto_region 20 with fail
      clear z0 z1 zf zz hb5 hy5 hz5
      generalize (w5.setCell ⟨gx, 0, none⟩ (.slice A5 r1.U.length c5)).setCell ⟨gx, 1, none⟩ (.slice A5' r1.L.length c5') = w6 at *
      have ho6 := ho3.below hb6 ho3.lt
      have hx6 := hx3.below hb6 hx3.lt
      have hS6 : EnRd w6 w6.heap.size AS S := (Rd.below hS3 hb6).more hb6.size
      obtain ⟨o0, o1, of, oz⟩ := ho6.two
      obtain ⟨x0, x1, x2, x3, xf, xz⟩ := hx6.four
      go_wp2_with fail
      clear o0 o1 of oz x0 x1 x2 x3 xf xz hx6 ho6
      refine (removeU_any AS none cS 0 ⟨S, []⟩ p w6 ⟨hS6, hcS, TsRd.nil _ _ _, fun _ => rfl⟩ (unSm_fine HF.out.fine) hp).mono ?_
      rintro e w7 ⟨A7, A7', c7, c7', rfl, hf7, hb⟩
      have hb7 := hb6.trans (hb.mono hb6.size)
      have hz7 := hz6.below hb hz6.lt
      have hy7 := hy6.below hb hy6.lt
      have hf8 := (hf7.set (p := ⟨gx + 1, 0, none⟩) (by exact hy6.lt) (.slice A7 (Tr.removeU ⟨S, []⟩ p.data.toList).1.U.length c7)).set (p := ⟨gx + 1, 1, none⟩) (by exact hy6.lt) (.slice A7' (Tr.removeU ⟨S, []⟩ p.data.toList).1.L.length c7')
      have hg8 := ((hf6.below hb).set (p := ⟨gx + 1, 0, none⟩) (by exact hgy) (.slice A7 (Tr.removeU ⟨S, []⟩ p.data.toList).1.U.length c7)).set (p := ⟨gx + 1, 1, none⟩) (by exact hgy) (.slice A7' (Tr.removeU ⟨S, []⟩ p.data.toList).1.L.length c7')
      clear hb hb6 hz6 hy6 hf7 hf6 hS6
      generalize Tr.removeU ⟨S, []⟩ p.data.toList = r2 at *
      obtain ⟨r2, e2⟩ := r2
      dsimp only at hf8 hg8 HAL
      have hb8 := (hb7.setCell (p := ⟨gx + 1, 0, none⟩) (by show w3.heap.size ≤ gx + 1; omega) (.slice A7 r2.U.length c7)).setCell (p := ⟨gx + 1, 1, none⟩) (by show w3.heap.size ≤ gx + 1; omega) (.slice A7' r2.L.length c7')
      have hz8 := (hz7.far (p := ⟨gx + 1, 0, none⟩) (by show gx ≠ gx + 1; omega) (.slice A7 r2.U.length c7)).far (p := ⟨gx + 1, 1, none⟩) (by show gx ≠ gx + 1; omega) (.slice A7' r2.L.length c7')
      have hy8 : Blk ((w7.setCell ⟨gx + 1, 0, none⟩ (.slice A7 r2.U.length c7)).setCell ⟨gx + 1, 1, none⟩ (.slice A7' r2.L.length c7')) (gx + 1) 49 [.slice A7 r2.U.length c7, .slice A7' r2.L.length c7'] := (hy7.set_ 0 _).set_ 1 _
      have hu8 := hg8.here
      have hv8 := hf8.here
      obtain ⟨y0, y1, yf, yz⟩ := hy7.two
      go_upto_region 21 with fail
      clear y0 y1 yf yz hb7 hy7 hz7 hf8 hg8
      generalize (w7.setCell ⟨gx + 1, 0, none⟩ (.slice A7 r2.U.length c7)).setCell ⟨gx + 1, 1, none⟩ (.slice A7' r2.L.length c7') = w8 at *
      obtain ⟨z0, z1, zf, zz⟩ := hz8.two
      rcases t5 : (e1 == 5) with _ | _
      rotate_left
      · clear hu8 hv8
        go_wp2_with fail
        go_roundw
        case rel => exact ⟨1 + 1, by omega, by go_num, hb8⟩
        case measure => simp [intOf]
      have h5 : e1 ≠ 5 := by simpa using t5
      have he := HAL.out.err h5
      dsimp only at he
      subst he
      have hse2 : (e1 != e1) = false := by simp
      rcases t0 : (e1 == 0) with _ | _
      · have h0 := HAL.out.none h5 (by simpa using t0)
        dsimp only at h0
        obtain ⟨rfl, rfl⟩ := h0
        go_wp2_with fail
        clear z0 z1 zf zz
        refine (seenU_any A5 A5' c5 c5' Un.zero w8 hu8 unSm_zero).mono ?_
        rintro e w9 ⟨v9, rfl, _, hb⟩
        have hb9 := hb8.trans (hb.mono hb8.size)
        have hy9 := hy8.below hb hy8.lt
        have hv9 := (hv8.below hb).more hb.size
        clear hb hb8 hy8 hz8 hv8 hu8
        obtain ⟨y0, y1, yf, yz⟩ := hy9.two
        go_wp2_with fail
        clear y0 y1 yf yz
        refine (seenU_any A7 A7' c7 c7' Un.zero w9 hv9 unSm_zero).mono ?_
        rintro e w10 ⟨v10, rfl, _, hb⟩
        go_wp2_with fail
        go_roundw
        case rel => exact ⟨1 + 1, by omega, by go_num, hb9.trans (hb.mono hb9.size)⟩
        case measure => simp [intOf]
      · obtain ⟨g1, g2, g3, g4⟩ := HAL.out.ok (by simpa using t0)
        have HLT := Lib.hid (rem_le S p.data.toList hSl)
        dsimp only at g1 g2 g3 g4
        have cX := seenU_any A5 A5' c5 c5' r1 w8 hu8 (unSm_fine g1)
        have cY := fun W h => seenU_any A7 A7' c7 c7' r2 W h (unSm_fine g2)
        unfold SeenRel at cX cY
        rw [g3] at cX
        rw [g4] at cY
        dsimp only at cX cY
        clear g1 g2 g3 g4 HAL
        generalize (Tr.remove S p.data.toList).1 = t at *
        have htl := HLT.out
        go_wp2_with fail
        clear z0 z1 zf zz
        refine cX.mono ?_
        rintro e w9 ⟨v9, rfl, ho9, hb⟩
        have hb9 := hb8.trans (hb.mono hb8.size)
        have hy9 := hy8.below hb hy8.lt
        have hv9 := (hv8.below hb).more hb.size
        clear hb hb8 hy8 hz8 hv8 hu8 cX
        obtain ⟨A9, c9, rfl, hc9, hr9⟩ := EnOwn.rd ho9
        clear ho9
        obtain ⟨y0, y1, yf, yz⟩ := hy9.two
        go_wp2_with fail
        clear y0 y1 yf yz
        refine (cY w9 hv9).mono ?_
        rintro e w10 ⟨v10, rfl, ho10, hb⟩
        have hb10 := hb9.trans (hb.mono hb9.size)
        have hr9 := (Rd.below hr9 hb).more hb.size
        obtain ⟨A10, c10, rfl, hc10, hr10⟩ := EnOwn.rd ho10
        clear hb hb9 hy9 hv9 ho10 cY
        go_wp2_with fail
        refine (same_any A9 A10 c9 c10 t t w10 hr9 hr10 (by omega) rfl).mono ?_
        rintro e w11 ⟨rfl, hb⟩
        go_wp2_with fail
        go_roundw
        case rel => exact ⟨1 + 1, by omega, by go_num, hb10.trans (hb.mono hb10.size)⟩
        case measure => simp [intOf]
    · subst h3
      go_upto_region 13 with fail
      generalize (wr.alloc (.cells #[.slice none 0 0, .slice none 0 0] 49)).alloc (.cells #[.slice none 0 0, .slice none 0 0] 49) = w4 at *
      generalize wr.heap.size = gx at *
      have hq4 := hq3.below hb4 hq3.lt
      have hx4 := hx3.below hb4 hx3.lt
      obtain ⟨q0, q1, qf, qz⟩ := hq4.two
      obtain ⟨x0, x1, x2, x3, xf, xz⟩ := hx4.four
      have hB4 := hB3.trans (hb4.mono hB3.size)
      go_wp2_with fail
      clear q0 q1 qf qz x0 x1 x2 x3 xf xz hq4 hx4
      refine (moveU_any A A' c c' u p q w4 ((HU.out.below hB4).more hB4.size) HS.out hp hq).mono ?_
      rintro e w5 ⟨A5, A5', c5, c5', rfl, hf5, hb⟩
      have hb5 := hb4.trans (hb.mono hb4.size)
      have hz5 := hz4.below hb hz4.lt
      have hy5 := hy4.below hb hy4.lt
      have HAL := Lib.hid (HF.out.mov)
      have hgz := hz4.lt
      have hgy := hy4.lt
      have hf6 := (hf5.set (p := ⟨gx, 0, none⟩) (by exact hgz) (.slice A5 (Tr.moveU u p.data.toList q.data.toList).1.U.length c5)).set (p := ⟨gx, 1, none⟩) (by exact hgz) (.slice A5' (Tr.moveU u p.data.toList q.data.toList).1.L.length c5')
      clear hb hb4 hz4 hy4 hf5 hB4
      generalize Tr.moveU u p.data.toList q.data.toList = r1 at *
      obtain ⟨r1, e1⟩ := r1
      dsimp only at hf6 HAL
      have hb6 := (hb5.setCell (p := ⟨gx, 0, none⟩) (by exact hbz) (.slice A5 r1.U.length c5)).setCell (p := ⟨gx, 1, none⟩) (by exact hbz) (.slice A5' r1.L.length c5')
      have hy6 := (hy5.far (p := ⟨gx, 0, none⟩) (by show gx + 1 ≠ gx; omega) (.slice A5 r1.U.length c5)).far (p := ⟨gx, 1, none⟩) (by show gx + 1 ≠ gx; omega) (.slice A5' r1.L.length c5')
      have hz6 : Blk ((w5.setCell ⟨gx, 0, none⟩ (.slice A5 r1.U.length c5)).setCell ⟨gx, 1, none⟩ (.slice A5' r1.L.length c5')) gx 49 [.slice A5 r1.U.length c5, .slice A5' r1.L.length c5'] := (hz5.set_ 0 _).set_ 1 _
      obtain ⟨z0, z1, zf, zz⟩ := hz5.two
      go_upto_region 14 with fail
      clear z0 z1 zf zz hb5 hy5 hz5
      generalize (w5.setCell ⟨gx, 0, none⟩ (.slice A5 r1.U.length c5)).setCell ⟨gx, 1, none⟩ (.slice A5' r1.L.length c5') = w6 at *
      have ho6 := ho3.below hb6 ho3.lt
      have hx6 := hx3.below hb6 hx3.lt
      have hS6 : EnRd w6 w6.heap.size AS S := (Rd.below hS3 hb6).more hb6.size
      obtain ⟨o0, o1, of, oz⟩ := ho6.two
      obtain ⟨x0, x1, x2, x3, xf, xz⟩ := hx6.four
      go_wp2_with fail
      clear o0 o1 of oz x0 x1 x2 x3 xf xz hx6 ho6
      refine (moveU_any AS none cS 0 ⟨S, []⟩ p q w6 ⟨hS6, hcS, TsRd.nil _ _ _, fun _ => rfl⟩ (unSm_fine HF.out.fine) hp hq).mono ?_
      rintro e w7 ⟨A7, A7', c7, c7', rfl, hf7, hb⟩
      have hb7 := hb6.trans (hb.mono hb6.size)
      have hz7 := hz6.below hb hz6.lt
      have hy7 := hy6.below hb hy6.lt
      have hf8 := (hf7.set (p := ⟨gx + 1, 0, none⟩) (by exact hy6.lt) (.slice A7 (Tr.moveU ⟨S, []⟩ p.data.toList q.data.toList).1.U.length c7)).set (p := ⟨gx + 1, 1, none⟩) (by exact hy6.lt) (.slice A7' (Tr.moveU ⟨S, []⟩ p.data.toList q.data.toList).1.L.length c7')
      have hg8 := ((hf6.below hb).set (p := ⟨gx + 1, 0, none⟩) (by exact hgy) (.slice A7 (Tr.moveU ⟨S, []⟩ p.data.toList q.data.toList).1.U.length c7)).set (p := ⟨gx + 1, 1, none⟩) (by exact hgy) (.slice A7' (Tr.moveU ⟨S, []⟩ p.data.toList q.data.toList).1.L.length c7')
      clear hb hb6 hz6 hy6 hf7 hf6 hS6
      generalize Tr.moveU ⟨S, []⟩ p.data.toList q.data.toList = r2 at *
      obtain ⟨r2, e2⟩ := r2
      dsimp only at hf8 hg8 HAL
      have hb8 := (hb7.setCell (p := ⟨gx + 1, 0, none⟩) (by show w3.heap.size ≤ gx + 1; omega) (.slice A7 r2.U.length c7)).setCell (p := ⟨gx + 1, 1, none⟩) (by show w3.heap.size ≤ gx + 1; omega) (.slice A7' r2.L.length c7')
      have hz8 := (hz7.far (p := ⟨gx + 1, 0, none⟩) (by show gx ≠ gx + 1; omega) (.slice A7 r2.U.length c7)).far (p := ⟨gx + 1, 1, none⟩) (by show gx ≠ gx + 1; omega) (.slice A7' r2.L.length c7')
      have hy8 : Blk ((w7.setCell ⟨gx + 1, 0, none⟩ (.slice A7 r2.U.length c7)).setCell ⟨gx + 1, 1, none⟩ (.slice A7' r2.L.length c7')) (gx + 1) 49 [.slice A7 r2.U.length c7, .slice A7' r2.L.length c7'] := (hy7.set_ 0 _).set_ 1 _
      have hu8 := hg8.here
      have hv8 := hf8.here
      obtain ⟨y0, y1, yf, yz⟩ := hy7.two
      go_upto_region 21 with fail
      clear y0 y1 yf yz hb7 hy7 hz7 hf8 hg8
      generalize (w7.setCell ⟨gx + 1, 0, none⟩ (.slice A7 r2.U.length c7)).setCell ⟨gx + 1, 1, none⟩ (.slice A7' r2.L.length c7') = w8 at *
      obtain ⟨z0, z1, zf, zz⟩ := hz8.two
      rcases t5 : (e1 == 5) with _ | _
      rotate_left
      · clear hu8 hv8
        go_wp2_with fail
        go_roundw
        case rel => exact ⟨2 + 1, by omega, by go_num, hb8⟩
        case measure => simp [intOf]
      have h5 : e1 ≠ 5 := by simpa using t5
      have he := HAL.out.err h5
      dsimp only at he
      subst he
      have hse2 : (e1 != e1) = false := by simp
      rcases t0 : (e1 == 0) with _ | _
      · have h0 := HAL.out.none h5 (by simpa using t0)
        dsimp only at h0
        obtain ⟨rfl, rfl⟩ := h0
        go_wp2_with fail
        clear z0 z1 zf zz
        refine (seenU_any A5 A5' c5 c5' Un.zero w8 hu8 unSm_zero).mono ?_
        rintro e w9 ⟨v9, rfl, _, hb⟩
        have hb9 := hb8.trans (hb.mono hb8.size)
        have hy9 := hy8.below hb hy8.lt
        have hv9 := (hv8.below hb).more hb.size
        clear hb hb8 hy8 hz8 hv8 hu8
        obtain ⟨y0, y1, yf, yz⟩ := hy9.two
        go_wp2_with fail
        clear y0 y1 yf yz
        refine (seenU_any A7 A7' c7 c7' Un.zero w9 hv9 unSm_zero).mono ?_
        rintro e w10 ⟨v10, rfl, _, hb⟩
        go_wp2_with fail
        go_roundw
        case rel => exact ⟨2 + 1, by omega, by go_num, hb9.trans (hb.mono hb9.size)⟩
        case measure => simp [intOf]
      · obtain ⟨g1, g2, g3, g4⟩ := HAL.out.ok (by simpa using t0)
        have HLT := Lib.hid (mov_le S p.data.toList q.data.toList hSl)
        dsimp only at g1 g2 g3 g4
        have cX := seenU_any A5 A5' c5 c5' r1 w8 hu8 (unSm_fine g1)
        have cY := fun W h => seenU_any A7 A7' c7 c7' r2 W h (unSm_fine g2)
        unfold SeenRel at cX cY
        rw [g3] at cX
        rw [g4] at cY
        dsimp only at cX cY
        clear g1 g2 g3 g4 HAL
        generalize (Tr.move S p.data.toList q.data.toList).1 = t at *
        have htl := HLT.out
        go_wp2_with fail
        clear z0 z1 zf zz
        refine cX.mono ?_
        rintro e w9 ⟨v9, rfl, ho9, hb⟩
        have hb9 := hb8.trans (hb.mono hb8.size)
        have hy9 := hy8.below hb hy8.lt
        have hv9 := (hv8.below hb).more hb.size
        clear hb hb8 hy8 hz8 hv8 hu8 cX
        obtain ⟨A9, c9, rfl, hc9, hr9⟩ := EnOwn.rd ho9
        clear ho9
        obtain ⟨y0, y1, yf, yz⟩ := hy9.two
        go_wp2_with fail
        clear y0 y1 yf yz
        refine (cY w9 hv9).mono ?_
        rintro e w10 ⟨v10, rfl, ho10, hb⟩
        have hb10 := hb9.trans (hb.mono hb9.size)
        have hr9 := (Rd.below hr9 hb).more hb.size
        obtain ⟨A10, c10, rfl, hc10, hr10⟩ := EnOwn.rd ho10
        clear hb hb9 hy9 hv9 ho10 cY
        go_wp2_with fail
        refine (same_any A9 A10 c9 c10 t t w10 hr9 hr10 (by omega) rfl).mono ?_
        rintro e w11 ⟨rfl, hb⟩
        go_wp2_with fail
        go_roundw
        case rel => exact ⟨2 + 1, by omega, by go_num, hb10.trans (hb.mono hb10.size)⟩
        case measure => simp [intOf]
end Go.Proofs.YtjppfhgkanbemabDoor
