/-
  The document's Wrong. (Printed by wip/genrefw2.py.)
-/
import Derived.Test.YtjppfhgkanbemabGreatDoorTrWith
namespace Go.Proofs.YtjppfhgkanbemabGreatDoor
open Go.RowKit Go.Shelf Go.Sort

set_option maxHeartbeats 4000000 in
set_option maxRecDepth 100000 in
theorem refWrongT_any (A : Option Addr) (c : Nat) (l : List En) (layer : Bool) (w : World) (hl : EnRd w w.heap.size A l) (hc : l.length ≤ c) (hs : Sm l) (hn : l.length ≤ 2305843009213693952) :
    Calls Tryz.prog 38 #[.slice A l.length c, .bool layer] w fun e w' => e = .returned (.agg #[.int .i64 (Tr.wrong l layer).1, .int .i64 (Tr.wrong l layer).2]) ∧ Below w.heap.size w w' := by
  have HS := Lib.hid hs
  clear hs
  have hB0 : Below w.heap.size w (w.alloc (.cells #[.int .i64 0, .int .i64 0] 51)) := (Below.refl _ _).alloc (Nat.le_refl _) _
  have hq0 := Blk.new w 51 [.int .i64 0, .int .i64 0]
  go_enter Tryz.func38, Tryz.ntmps38
  by_cases h80 : 80 < l.length
  · have HW : Hid (Tr.wrong l layer = (5, 0)) := Lib.hid (by unfold Tr.wrong; rw [if_pos h80])
    go_wp2_with fail
    refine bodyPost_ret (v := .agg #[.int .i64 5, .int .i64 0]) ?_ rfl ⟨ret_fault HW.out rfl, ?_⟩
    · simp [results, Tryz.results38, go_sem]
    · first | exact (Below.refl _ _).alloc (Nat.le_refl _) _ | exact (hB0.setCell (by simp) _).setCell (by simp) _
  have HW : Hid (Tr.wrong l layer = Tr.wrongFrom layer (l.take 0) (l.drop 0)) := Lib.hid (by unfold Tr.wrong; rw [if_neg h80]; rfl)
  go_wp2_with fail
  generalize w.alloc (.cells #[.int .i64 0, .int .i64 0] 51) = w0 at *
  go_loopw [18] (fun i wr => ∃ k : Nat, k ≤ l.length ∧ i = .int .i64 k ∧ Hid (Tr.wrong l layer = Tr.wrongFrom layer (l.take k) (l.drop k)) ∧ Hid (Tr.Right layer (l.take k)) ∧ Blk wr w.heap.size 51 [.int .i64 0, .int .i64 0] ∧ Below w.heap.size w wr) (fun i _ => l.length - (intOf i).toNat)
  case atStart => exact ⟨0, Nat.zero_le _, rfl, HW, Lib.hid (Tr.right_nil _), hq0, hB0⟩
  case round =>
    clear hq0 hB0 HW
    obtain ⟨k, hk, rfl, HW, HR, hq, hB⟩ := hrel
    by_cases hlt : k < l.length
    · obtain ⟨b, o, rfl, hb, h0, h1, h2, h3⟩ := (EnRd.at_ (hl.below hB) hlt)
      have HB := Lib.hid (fun (e : Int) (h : Tr.badAt (l.take k) l[k] layer = e) (he : e ≠ 0) => HW.out.trans (Tr.wrongFrom_bad hlt rfl h he))
      have HG := Lib.hid (fun (h : Tr.badAt (l.take k) l[k] layer = 0) => (⟨HW.out.trans (Tr.wrongFrom_ok hlt rfl h), by rw [List.take_succ_eq_append_getElem hlt]; exact Tr.right_snoc.2 ⟨HR.out, h⟩⟩ : Tr.wrong l layer = Tr.wrongFrom layer (l.take (k + 1)) (l.drop (k + 1)) ∧ Tr.Right layer (l.take (k + 1))))
      have hsz := HS.out.at_ hlt
      clear HW
      generalize l[k] = y at h0 h1 h2 h3 HB HG hsz
      have cE := fun W => refEntry_any y layer W hsz.1 hsz.2
      obtain ⟨en, hen⟩ : ∃ en, en = Tr.entry y layer := ⟨_, rfl⟩
      rw [← hen] at cE
      have HE := Lib.hid hen.symm
      clear hen
      obtain ⟨yp, yk, yt, yo⟩ := y
      dsimp only at h0 h1 h2 h3 hsz cE
      have hy0 := Blk.new wr 45 [.string yp, .int .i64 yk, .string yt, .bool yo]
      have hB1 := hB.alloc hB.size (.cells #[.string yp, .int .i64 yk, .string yt, .bool yo] 45)
      have hq1 := hq.alloc (.cells #[.string yp, .int .i64 yk, .string yt, .bool yo] 45)
      have hgy : w.heap.size ≠ wr.heap.size := by have := hq.lt; omega
      obtain ⟨q0, q1, qf, qz⟩ := hq.two
      go_wp2_with fail
      clear q0 q1 qf qz h0 h1 h2 h3 hq hB hb
      generalize wr.alloc (.cells #[.string yp, .int .i64 yk, .string yt, .bool yo] 45) = w0 at *
      generalize wr.heap.size = gy at *
      refine (cE w0).mono ?_
      rintro e w1 ⟨rfl, hb1⟩
      have hq1' := hq1.below hb1 hq1.lt
      have hy1 := hy0.below hb1 hy0.lt
      replace hB1 := hB1.trans (hb1.mono hB1.size)
      clear cE hb1 hq1 hy0
      rcases te : (en != 0) with _ | _
      rotate_left
      · have hen : en ≠ 0 := by simpa using te
        have HBB := Lib.hid (HB.out en (badAt_entry HE.out hen) hen)
        clear hen
        obtain ⟨q0, q1, qf, qz⟩ := hq1'.two
        go_wp2_with fail
        refine bodyPost_ret (v := .agg #[.int .i64 en, .int .i64 k]) ?_ rfl ⟨ret_fault HBB.out rfl, ?_⟩
        · simp [results, Tryz.results38, go_sem, q0, q1]
        · exact (hB1.setCell (by simp) _).setCell (by simp) _
      have HE0 : Hid (Tr.entry ⟨yp, yk, yt, yo⟩ layer = 0) := Lib.hid (by rw [HE.out]; simpa using te)
      obtain ⟨q0, q1, qf, qz⟩ := hq1'.two
      rcases k with _ | m
      · have HO2 : Hid ((l.take 0).getLast?.any (fun z => !Tr.ahead z ⟨yp, yk, yt, yo⟩) = false) := Lib.hid rfl
        go_wp2_with fail
        go_quiet (fail)
        have hB2 := below_drewN hB1 nq
        have hq2 := hq1'.drewN nq
        have hy2 := hy1.drewN nq
        clear hB1 hq1' hy1 q0 q1 qf qz
        generalize w1.drewN nq = w2 at *
        obtain ⟨q0, q1, qf, qz⟩ := hq2.two
        obtain ⟨y0, y1, y2, y3, yfr, yz⟩ := hy2.four
        go_wp2_with fail
        refine (refCut_any yp w2 (by omega)).mono ?_
        rintro e w3 ⟨rfl, hD⟩
        have hB3 := hB2.trans (hD.below (B := w.heap.size))
        have hq3 := hq2.below (hD.below (B := w2.heap.size)) hq2.lt
        have hl3 := hl.below hB3
        clear q0 q1 qf qz y0 y1 y2 y3 yfr yz hy2
        obtain ⟨sd, hsd⟩ : ∃ sd : ByteArray, sd = ⟨(Pt.dirOf yp.data.toList).toArray⟩ := ⟨_, rfl⟩
        have hsl : sd.data.toList = Pt.dirOf yp.data.toList := by rw [hsd]
        have hst : Pt.str (Pt.dirOf yp.data.toList) = .string sd := by rw [hsd]; rfl
        obtain ⟨sn, hsn⟩ : ∃ sn, Pt.str (Pt.nameOf yp.data.toList) = .string sn := ⟨_, rfl⟩
        rw [hst, hsn]
        have cG := refGet_any (some ⟨b, o, none⟩) c (l.take (0)) sd w3 ((EnRd.take hl3 _).more hB3.size) (by rw [List.length_take]; omega)
        rw [show (l.take (0)).length = 0 by rw [List.length_take]; omega, hsl] at cG
        clear hsd hsl hst hsn hl3 hD
        go_wp2_with fail
        refine cG.mono ?_
        rintro e w4 ⟨r, rfl, hr, hb4⟩
        clear cG
        have hB4 := hB3.trans (hb4.mono hB3.size)
        have hq4 := hq3.below hb4 hq3.lt
        have HD := Lib.hid (dirBad_of hr)
        clear hr hb4 hB3 hq3
        generalize r.getD En.zero = d at HD
        generalize r.isSome = ok at HD
        obtain ⟨dp, dk, dt, dop⟩ := d
        simp only [En.agg, En.cells]
        dsimp only at HD
        obtain ⟨q0, q1, qf, qz⟩ := hq4.two
        rcases ok with _ | _
        · go_wp2_with fail
          refine bodyPost_ret (v := .agg #[.int .i64 10, .int .i64 0]) ?_ rfl ⟨ret_fault (HB.out 10 (badAt_dir HE0.out HO2.out (HD.out.trans rfl)) (by decide)) rfl, ?_⟩
          · simp [results, Tryz.results38, go_sem, q0, q1, World.cell?_alloc_lt, qz]
          · have hZ := (hB4.setCell (p := ⟨w.heap.size, 0, none⟩) (Nat.le_refl _) (.int .i64 10)).setCell (p := ⟨w.heap.size, 1, none⟩) (Nat.le_refl _) (.int .i64 0)
            exact hZ.alloc hZ.size _
        rcases tk : (dk != 2) with _ | _
        · have HN := Lib.hid (HG.out (badAt_fine HE0.out HO2.out (HD.out.trans (by rw [tk]; rfl))))
          have hB5 := hB4.alloc hB4.size (.cells #[.string dp, .int .i64 dk, .string dt, .bool dop] 45)
          have hq5 := hq4.alloc (.cells #[.string dp, .int .i64 dk, .string dt, .bool dop] 45)
          go_wp2_with fail
          go_roundw
          case rel => exact ⟨0 + 1, by omega, by go_num, Lib.hid HN.out.1, Lib.hid HN.out.2, hq5, hB5⟩
          case measure => simp [intOf]; omega
        · go_wp2_with fail
          refine bodyPost_ret (v := .agg #[.int .i64 10, .int .i64 0]) ?_ rfl ⟨ret_fault (HB.out 10 (badAt_dir HE0.out HO2.out (HD.out.trans (by rw [tk]; rfl))) (by decide)) rfl, ?_⟩
          · simp [results, Tryz.results38, go_sem, q0, q1, World.cell?_alloc_lt, qz]
          · have hZ := (hB4.setCell (p := ⟨w.heap.size, 0, none⟩) (Nat.le_refl _) (.int .i64 10)).setCell (p := ⟨w.heap.size, 1, none⟩) (Nat.le_refl _) (.int .i64 0)
            exact hZ.alloc hZ.size _
      · have hml : m < l.length := by omega
        obtain ⟨b', o', hbo, hbb, z0, _, _, _⟩ := (EnRd.at_ (hl.below hB1) hml)
        injection hbo with hbo
        injection hbo with hbo1 hbo2
        subst hbo1 hbo2
        obtain ⟨n, hn⟩ : ∃ n, n = Pt.cmp l[m].P yp.data.toList := ⟨_, rfl⟩
        have HO := Lib.hid (order_at (y := ⟨yp, yk, yt, yo⟩) hml rfl hn.symm)
        have hszm := (HS.out.at_ hml).1
        have cC := fun W => less_any l[m].p yp W hszm hsz.1
        rw [show Pt.cmp l[m].p.data.toList yp.data.toList = n from hn.symm] at cC
        clear hn
        generalize l[m].p = zp at z0 cC hszm
        have hbw : b < w1.heap.size := Nat.lt_of_lt_of_le hbb hB1.size
        have tm : decide ((0 : Int) < ((m + 1 : Nat) : Int)) = true := decide_eq_true (by omega)
        have hwm : IntKind.i64.wrap ((m : Nat) : Int) = (m : Int) := IntWalk.i64_in _ (by omega)
        have hi1 : (m : Int) + 1 < (l.length : Int) := by omega
        have hi0 : (0 : Int) ≤ (m : Int) + 1 := by omega
        have hi2 : ((m : Int) + 1).toNat = m + 1 := by omega
        have hi3 : (m : Int) < (l.length : Int) := by omega
        obtain ⟨y0, y1, y2, y3, yfr, yz⟩ := hy1.four
        go_upto_region 9 with fail
        go_cut [44] (fun v wx => v = .bool (decide (0 ≤ n)) ∧ Below w1.heap.size w1 wx)
        case first =>
          go_region_held3 (fun W => W.cell? ⟨b, o + m * 4, none⟩ = some (.string zp) ∧ W.cell? ⟨gy, 0, none⟩ = some (.string yp))
            (first | go_keep | exact ⟨z0, y0⟩ | exact ⟨(hb2.cell (p := ⟨b, o + m * 4, none⟩) hbw).trans z0, (hb2.cell (p := ⟨gy, 0, none⟩) yz).trans y0⟩)
            (first
              | (go_at_call 73; refine (cC _).mono ?_; rintro e w2 ⟨rfl, hb2'⟩; have hb2 : Below w1.heap.size w1 w2 := (Below.drew (Below.refl w1.heap.size w1)).trans (hb2'.mono (Nat.le_refl _))))
          all_goals go_wp2_with fail
          all_goals go_meet
          all_goals exact ⟨congrArg Value.bool (by rw [Bool.eq_iff_iff]; simp), hb2⟩
        case rest =>
          obtain ⟨rfl, hb2⟩ := hcut
          have hB2 := hB1.trans (hb2.mono hB1.size)
          have hq2 := hq1'.below hb2 hq1'.lt
          have hy2 := hy1.below hb2 hy1.lt
          clear hB1 hq1' hy1 q0 q1 qf qz z0 y0 y1 y2 y3 yfr yz cC tm hwm hi1 hi0 hi2 hi3 hb2 hbw hbb
          generalize hwc : wc = w2 at *
          clear hwc
          rcases tn : decide (0 ≤ n) with _ | _
          rotate_left
          · obtain ⟨q0, q1, qf, qz⟩ := hq2.two
            have HBB := Lib.hid (HB.out 2 (badAt_order HE0.out (by rw [HO.out, tn])) (by decide))
            go_wp2_with fail
            refine bodyPost_ret (v := .agg #[.int .i64 2, .int .i64 (m + 1)]) ?_ rfl ⟨ret_fault HBB.out rfl, ?_⟩
            · simp [results, Tryz.results38, go_sem, q0, q1]
            · exact (hB2.setCell (by simp) _).setCell (by simp) _
          have HO2 := Lib.hid (HO.out.trans tn)
          clear HO
          obtain ⟨q0, q1, qf, qz⟩ := hq2.two
          obtain ⟨y0, y1, y2, y3, yfr, yz⟩ := hy2.four
          go_wp2_with fail
          refine (refCut_any yp w2 (by omega)).mono ?_
          rintro e w3 ⟨rfl, hD⟩
          have hB3 := hB2.trans (hD.below (B := w.heap.size))
          have hq3 := hq2.below (hD.below (B := w2.heap.size)) hq2.lt
          have hl3 := hl.below hB3
          clear q0 q1 qf qz y0 y1 y2 y3 yfr yz hy2
          obtain ⟨sd, hsd⟩ : ∃ sd : ByteArray, sd = ⟨(Pt.dirOf yp.data.toList).toArray⟩ := ⟨_, rfl⟩
          have hsl : sd.data.toList = Pt.dirOf yp.data.toList := by rw [hsd]
          have hst : Pt.str (Pt.dirOf yp.data.toList) = .string sd := by rw [hsd]; rfl
          obtain ⟨sn, hsn⟩ : ∃ sn, Pt.str (Pt.nameOf yp.data.toList) = .string sn := ⟨_, rfl⟩
          rw [hst, hsn]
          have cG := refGet_any (some ⟨b, o, none⟩) c (l.take ((m + 1))) sd w3 ((EnRd.take hl3 _).more hB3.size) (by rw [List.length_take]; omega)
          rw [show (l.take ((m + 1))).length = (m + 1) by rw [List.length_take]; omega, hsl] at cG
          clear hsd hsl hst hsn hl3 hD
          go_wp2_with fail
          refine cG.mono ?_
          rintro e w4 ⟨r, rfl, hr, hb4⟩
          clear cG
          have hB4 := hB3.trans (hb4.mono hB3.size)
          have hq4 := hq3.below hb4 hq3.lt
          have HD := Lib.hid (dirBad_of hr)
          clear hr hb4 hB3 hq3
          generalize r.getD En.zero = d at HD
          generalize r.isSome = ok at HD
          obtain ⟨dp, dk, dt, dop⟩ := d
          simp only [En.agg, En.cells]
          dsimp only at HD
          obtain ⟨q0, q1, qf, qz⟩ := hq4.two
          rcases ok with _ | _
          · go_wp2_with fail
            refine bodyPost_ret (v := .agg #[.int .i64 10, .int .i64 (m + 1)]) ?_ rfl ⟨ret_fault (HB.out 10 (badAt_dir HE0.out HO2.out (HD.out.trans rfl)) (by decide)) rfl, ?_⟩
            · simp [results, Tryz.results38, go_sem, q0, q1, World.cell?_alloc_lt, qz]
            · have hZ := (hB4.setCell (p := ⟨w.heap.size, 0, none⟩) (Nat.le_refl _) (.int .i64 10)).setCell (p := ⟨w.heap.size, 1, none⟩) (Nat.le_refl _) (.int .i64 (m + 1))
              exact hZ.alloc hZ.size _
          rcases tk : (dk != 2) with _ | _
          · have HN := Lib.hid (HG.out (badAt_fine HE0.out HO2.out (HD.out.trans (by rw [tk]; rfl))))
            have hB5 := hB4.alloc hB4.size (.cells #[.string dp, .int .i64 dk, .string dt, .bool dop] 45)
            have hq5 := hq4.alloc (.cells #[.string dp, .int .i64 dk, .string dt, .bool dop] 45)
            go_wp2_with fail
            go_roundw
            case rel => exact ⟨(m + 1) + 1, by omega, by go_num, Lib.hid HN.out.1, Lib.hid HN.out.2, hq5, hB5⟩
            case measure => simp [intOf]; omega
          · go_wp2_with fail
            refine bodyPost_ret (v := .agg #[.int .i64 10, .int .i64 (m + 1)]) ?_ rfl ⟨ret_fault (HB.out 10 (badAt_dir HE0.out HO2.out (HD.out.trans (by rw [tk]; rfl))) (by decide)) rfl, ?_⟩
            · simp [results, Tryz.results38, go_sem, q0, q1, World.cell?_alloc_lt, qz]
            · have hZ := (hB4.setCell (p := ⟨w.heap.size, 0, none⟩) (Nat.le_refl _) (.int .i64 10)).setCell (p := ⟨w.heap.size, 1, none⟩) (Nat.le_refl _) (.int .i64 (m + 1))
              exact hZ.alloc hZ.size _
    · obtain rfl : k = l.length := by omega
      have HZ : Hid (Tr.wrong l layer = (0, 0)) := Lib.hid (by rw [HW.out, List.drop_length]; rfl)
      obtain ⟨q0, q1, qf, qz⟩ := hq.two
      go_wp2_with fail
      refine bodyPost_ret (v := .agg #[.int .i64 0, .int .i64 0]) ?_ rfl ⟨ret_fault HZ.out rfl, ?_⟩
      · simp [results, Tryz.results38, go_sem, q0, q1]
      · exact (hB.setCell (by simp) _).setCell (by simp) _
end Go.Proofs.YtjppfhgkanbemabGreatDoor
