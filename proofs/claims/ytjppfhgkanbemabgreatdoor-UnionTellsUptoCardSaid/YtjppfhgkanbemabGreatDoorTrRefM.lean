/-
  The document's Move. (Printed by wip/genrefmove.py.)
-/
import Derived.Test.YtjppfhgkanbemabGreatDoorMB
import Derived.Test.YtjppfhgkanbemabGreatDoorTrRefR
namespace Go.Proofs.YtjppfhgkanbemabGreatDoor
open Go.RowKit Go.Shelf Go.Sort

/-- What the document's Move answers. -/
def RefMoveRel (l : List En) (s d : Pt.Bs) (w : World) (e : Ending) (w' : World) : Prop :=
  ∃ A' c', e = .returned (.tuple #[.slice A' (Tr.move l s d).1.length c', .int .i64 (Tr.move l s d).2]) ∧ (Tr.move l s d).1.length ≤ c' ∧ EnRd w' w'.heap.size A' (Tr.move l s d).1 ∧ Below w.heap.size w w'

set_option maxHeartbeats 4000000 in
set_option maxRecDepth 100000 in
theorem refMove_any (A : Option Addr) (c : Nat) (l : List En) (s d : ByteArray) (w : World) (hl : EnRd w w.heap.size A l) (hc : l.length ≤ c) (hs : Sm l) (hsz : s.size < 4294967281) (hdz : d.size < 4294967281) (hn : l.length ≤ 1048576) :
    Calls Tryz.prog 57 #[.slice A l.length c, .string s, .string d] w (RefMoveRel l s.data.toList d.data.toList w) := by
  obtain ⟨i0, hi, hz0, hz1, hz2⟩ := info_parts info_en
  have c1 := fun W h => refWrongT_any A c l false W h hc hs (by omega)
  obtain ⟨pt, hpt⟩ : ∃ pr, pr = Tr.wrong l false := ⟨_, rfl⟩
  rw [← hpt] at c1
  have HT := Lib.hid hpt.symm
  have HS := Lib.hid hs
  obtain ⟨y, y'⟩ := pt
  clear hpt hs
  dsimp only at c1
  have hB0 := Below.refl w.heap.size w
  unfold RefMoveRel
  go_enter Tryz.func57, Tryz.ntmps57
  go_wp2_with fail
  refine (c1 w hl).mono ?_
  rintro e w1 ⟨rfl, hb⟩
  have hB1 := hB0.trans (hb.mono hB0.size)
  clear hb hB0 c1
  have hB2 := hB1.alloc hB1.size (.cells #[.int .i64 y, .int .i64 y'] 51)
  have hq2 := Blk.new w1 51 [.int .i64 y, .int .i64 y']
  clear hB1
  rcases ty : (y != 0) with _ | _
  rotate_left
  · have HO : Hid (Tr.move l s.data.toList d.data.toList = ([], y)) := Lib.hid (move_bad (by unfold Tr.moveErr; rw [HT.out, if_pos (by simpa using ty)]) (by simpa using ty))
    go_wp2_with fail
    generalize w1.alloc (.cells #[.int .i64 y, .int .i64 y'] 51) = w2 at *
    generalize w1.heap.size = g1 at *
    obtain ⟨q0, q1, qf, qz⟩ := hq2.two
    go_quiet (fail)
    go_wp2_with fail
    go_ret2
    exact ⟨none, 0, by rw [HO.out]; rfl, by rw [HO.out]; exact Nat.zero_le _, by rw [HO.out]; exact Rd.nil, below_drewN hB2 _⟩
  have HT0 : Hid ((Tr.wrong l false).1 = 0) := Lib.hid (by rw [HT.out]; simpa using ty)
  have hl80 := ((Tr.wrong_zero l false).1 HT0.out).1
  have RT := Lib.hid ((Tr.wrong_zero l false).1 HT0.out).2
  go_wp2_with fail
  generalize w1.alloc (.cells #[.int .i64 y, .int .i64 y'] 51) = w2 at *
  clear hq2
  obtain ⟨M, hM⟩ : ∃ M, M = Tr.movesErr l s.data.toList d.data.toList := ⟨_, rfl⟩
  have HV := Lib.hid (show ∀ e, M = e → e ≠ 0 → Tr.move l s.data.toList d.data.toList = ([], e) from fun e h h0 => move_bad (by unfold Tr.moveErr; rw [if_neg (by simp [HT0.out]), ← hM, h, if_pos h0]) h0)
  have HSAME := Lib.hid (show M = 0 → s.data.toList = d.data.toList → Tr.move l s.data.toList d.data.toList = (l, 0) from fun h h2 => by rw [← h2]; exact Tr.move_same HT0.out (by rw [h2] at hM ⊢; exact hM.symm.trans h))
  have HBADM := Lib.hid (show M = 0 → ∀ x ∈ l, Tr.mv s.data.toList x.P → Pt.clean (Tr.renE s.data.toList d.data.toList x).P = false → Tr.move l s.data.toList d.data.toList = ([], 4) from fun h x hx hm hc => Tr.refMove_bad HT0.out (hM.symm.trans h) hx hm hc)
  have HGOODM := Lib.hid (show M = 0 → s.data.toList ≠ d.data.toList → (∀ e ∈ Tr.movedO l s.data.toList d.data.toList, Pt.clean e.P = true) → Tr.move l s.data.toList d.data.toList = (Tr.insAll (Tr.movedO l s.data.toList d.data.toList) (Tr.outside (Tr.outside l s.data.toList) d.data.toList), 0) from fun h h2 h3 => Tr.refMove_good HT0.out (hM.symm.trans h) h2 h3)
  unfold Tr.movesErr at hM
  have HM := Lib.hid hM
  clear hM
  have hB10 := hB2
  refine (refGet_any A c l s w2 ((hl.below hB10).more hB10.size) (by omega)).mono ?_
  rintro e w11 ⟨r, rfl, hr, hb⟩
  have hB11 := hB10.trans (hb.mono hB10.size)
  have HR := Lib.hid hr
  clear hr hb hB10
  have HM0 := Lib.hid (show r.isSome = false → M = 6 from fun h => by
    rw [HM.out, if_pos (.inl (by rw [← HR.out]; exact Option.not_isSome_iff_eq_none.1 (by rw [h]; decide)))])
  have HM1 := Lib.hid (show s.data.toList = [] → M = 6 from fun h => by rw [HM.out, if_pos (.inr h)])
  have HM2 := Lib.hid (show r.isSome = true → s.data.toList ≠ [] → M = if Pt.clean d.data.toList = false then 7 else if s.data.toList = d.data.toList then 0 else if Pt.under d.data.toList s.data.toList = true then 8 else
      if Tr.dirErr l (Pt.dirOf d.data.toList) ≠ 0 then Tr.dirErr l (Pt.dirOf d.data.toList) else Tr.destErr l (r.getD En.zero) d.data.toList from fun h h0 => by
    rw [HM.out, if_neg, ← HR.out]
    rintro (h1 | h1)
    · rw [← HR.out] at h1; rw [h1] at h; cases h
    · exact h0 h1)
  clear HM HR
  generalize r.getD En.zero = x at HM2
  generalize r.isSome = ok at HM0 HM2
  obtain ⟨xp, xk, xt, xo⟩ := x
  simp only [En.agg, En.cells]
  have hB12 := hB11.alloc hB11.size (.cells #[.string xp, .int .i64 xk, .string xt, .bool xo] 45)
  have hx12 := Blk.new w11 45 [.string xp, .int .i64 xk, .string xt, .bool xo]
  clear hB11
  cases ok
  · have HO := Lib.hid (HV.out _ (HM0.out rfl) (by decide))
    go_wp2_with fail
    go_ret2
    exact ⟨none, 0, by rw [HO.out]; rfl, by rw [HO.out]; exact Nat.zero_le _, by rw [HO.out]; exact Rd.nil, hB12⟩
  rcases empty_cases s with ⟨hE, g1, g2⟩ | ⟨hE, g1, g2⟩
  · have HO := Lib.hid (HV.out _ (HM1.out hE) (by decide))
    clear hE
    go_wp2_with fail
    go_ret2
    exact ⟨none, 0, by rw [HO.out]; rfl, by rw [HO.out]; exact Nat.zero_le _, by rw [HO.out]; exact Rd.nil, hB12⟩
  have HM := Lib.hid (HM2.out rfl hE)
  have HS0 := Lib.hid hE
  clear hE HM0 HM1 HM2
  go_wp2_with fail
  generalize w11.alloc (.cells #[.string xp, .int .i64 xk, .string xt, .bool xo] 45) = w12 at *
  generalize w11.heap.size = gx at *
  refine (refClean_any d w12 hdz).mono ?_
  rintro e w13 ⟨rfl, hb⟩
  have hB13 := hB12.trans (hb.mono hB12.size)
  have hx13 := hx12.below hb hx12.lt
  clear hb hB12 hx12
  rcases tc : Pt.clean d.data.toList with _ | _
  · have HO := Lib.hid (HV.out _ (HM.out.trans (if_pos tc)) (by decide))
    clear HM
    go_wp2_with fail
    go_ret2
    exact ⟨none, 0, by rw [HO.out]; rfl, by rw [HO.out]; exact Nat.zero_le _, by rw [HO.out]; exact Rd.nil, hB13⟩
  have HM := Lib.hid (HM.out.trans (if_neg (by rw [tc]; decide)))
  have HDN := Lib.hid (Tr.clean_ne tc)
  have hd80 : d.size ≤ 80 := by have h1 := Tr.clean_len tc; rw [size_length] at h1; exact h1
  rcases te : (s.toList == d.toList) with _ | _
  rotate_left
  · have HO := Lib.hid (HSAME.out (HM.out.trans (if_pos (by rw [toList_beq] at te; simpa using te))) (by rw [toList_beq] at te; simpa using te))
    clear HM
    go_wp2_with fail
    go_ret2
    exact ⟨A, c, by rw [HO.out] <;> rfl, by rw [HO.out]; exact hc, by rw [HO.out]; exact (hl.below hB13).more hB13.size, hB13⟩
  have HM := Lib.hid (HM.out.trans (if_neg (by rw [toList_beq] at te; simpa using te)))
  have HSD := Lib.hid (show s.data.toList ≠ d.data.toList by rw [toList_beq] at te; simpa using te)
  go_wp2_with fail
  refine (refUnder_any d s w13 (by omega)).mono ?_
  rintro e w13 ⟨rfl, rfl⟩
  rcases tu : Pt.under d.data.toList s.data.toList with _ | _
  rotate_left
  · have HO := Lib.hid (HV.out _ (HM.out.trans (if_pos tu)) (by decide))
    clear HM
    go_wp2_with fail
    go_ret2
    exact ⟨none, 0, by rw [HO.out]; rfl, by rw [HO.out]; exact Nat.zero_le _, by rw [HO.out]; exact Rd.nil, hB13⟩
  have HM := Lib.hid (HM.out.trans (if_neg (by rw [tu]; decide)))
  go_wp2_with fail
  refine (refCut_any d _ (by omega)).mono ?_
  rintro e w14 ⟨rfl, hD⟩
  have hB14 := hB13.trans (hD.below (B := w.heap.size))
  have hx14 := hx13.below (hD.below (B := w13.heap.size)) hx13.lt
  clear hD hB13 hx13
  obtain ⟨sd, hsd⟩ : ∃ sd : ByteArray, sd = ⟨(Pt.dirOf d.data.toList).toArray⟩ := ⟨_, rfl⟩
  have hsl : sd.data.toList = Pt.dirOf d.data.toList := by rw [hsd]
  have hst : Pt.str (Pt.dirOf d.data.toList) = .string sd := by rw [hsd]; rfl
  obtain ⟨sn, hsn⟩ : ∃ sn, Pt.str (Pt.nameOf d.data.toList) = .string sn := ⟨_, rfl⟩
  rw [hst, hsn]
  have hlt : sd.size < d.size := by have := Tr.dir_short HDN.out; rw [← hsl, size_length, size_length] at this; exact this
  have HM := Lib.hid HM.out
  rw [← hsl] at HM
  clear hsd hsl hst hsn
  go_wp2_with fail
  refine (refGet_any A c l sd w14 ((hl.below hB14).more hB14.size) (by omega)).mono ?_
  rintro e w15 ⟨r2, rfl, hr, hb⟩
  have hB15 := hB14.trans (hb.mono hB14.size)
  have hx15 := hx14.below hb hx14.lt
  have HR := Lib.hid hr
  clear hr hb hB14 hx14
  have HN := Lib.hid (show r2.isSome = false → M = 6 from fun h => by rw [HM.out, dirErr_none (by rw [← HR.out]; exact h)]; rfl)
  have HK := Lib.hid (show r2.isSome = true → ((r2.getD En.zero).k != 2) = true → M = 10 from fun h h2 => by rw [HM.out, dirErr_kind HR.out h h2]; rfl)
  have HG := Lib.hid (show r2.isSome = true → ((r2.getD En.zero).k != 2) = false → M = Tr.destErr l ⟨xp, xk, xt, xo⟩ d.data.toList from fun h h2 => by rw [HM.out, dirErr_ok HR.out h h2]; rfl)
  clear HR HM
  generalize r2.getD En.zero = y at HN HK HG
  generalize r2.isSome = ok at HN HK HG
  obtain ⟨dp, dk, dt, dop⟩ := y
  simp only [En.agg, En.cells]
  dsimp only at HN HK HG
  have hB16 := hB15.alloc hB15.size (.cells #[.string dp, .int .i64 dk, .string dt, .bool dop] 45)
  have hx16 := hx15.alloc (.cells #[.string dp, .int .i64 dk, .string dt, .bool dop] 45)
  clear hB15 hx15
  cases ok
  · have HO := Lib.hid (HV.out _ (HN.out rfl) (by decide))
    go_wp2_with fail
    go_ret2
    exact ⟨none, 0, by rw [HO.out]; rfl, by rw [HO.out]; exact Nat.zero_le _, by rw [HO.out]; exact Rd.nil, hB16⟩
  rcases tk : (dk != 2) with _ | _
  rotate_left
  · have HO := Lib.hid (HV.out _ (HK.out rfl tk) (by decide))
    go_wp2_with fail
    go_ret2
    exact ⟨none, 0, by rw [HO.out]; rfl, by rw [HO.out]; exact Nat.zero_le _, by rw [HO.out]; exact Rd.nil, hB16⟩
  have HM := Lib.hid (HG.out rfl tk)
  clear HN HK HG
  go_wp2_with fail
  generalize w15.alloc (.cells #[.string dp, .int .i64 dk, .string dt, .bool dop] 45) = w16 at *
  refine (refGet_any A c l d w16 ((hl.below hB16).more hB16.size) (by omega)).mono ?_
  rintro e w17 ⟨r3, rfl, hr, hb⟩
  have hB17 := hB16.trans (hb.mono hB16.size)
  have hx17 := hx16.below hb hx16.lt
  have HR := Lib.hid hr
  clear hr hb hB16 hx16
  have HN := Lib.hid (show r3.isSome = false → M = 0 from fun h => by
    rw [HM.out]; unfold Tr.destErr; rw [← HR.out]; cases r3 with
    | none => rfl
    | some _ => cases h)
  have HG := Lib.hid (show r3.isSome = true → M = if xk ≠ 2 ∧ (r3.getD En.zero).k = 2 then 9 else if xk = 2 ∧ (r3.getD En.zero).k ≠ 2 then 10 else if Tr.names l d.data.toList ≠ [] then 11 else 0 from fun h => by
    rw [HM.out]; unfold Tr.destErr; rw [← HR.out]; cases r3 with
    | none => cases h
    | some y0 =>
      dsimp only [Option.getD]
      have h5 := Tr.list_names RT.out HDN.out HR.out.symm
      by_cases h6 : Tr.names l d.data.toList = []
      · rw [if_neg (c := (Tr.list l d.data.toList).2 = 0 ∧ _) (fun h => h5.1 h h6), if_neg (c := Tr.names l d.data.toList ≠ []) (fun h => h h6)]
      · rw [if_pos (c := (Tr.list l d.data.toList).2 = 0 ∧ _) (h5.2 h6), if_pos (c := Tr.names l d.data.toList ≠ []) h6])
  clear HR HM
  generalize r3.getD En.zero = y at HG
  generalize r3.isSome = ok at HN HG
  obtain ⟨yp, yk, yt, yo⟩ := y
  simp only [En.agg, En.cells]
  dsimp only at HG
  have hB18 := hB17.alloc hB17.size (.cells #[.string yp, .int .i64 yk, .string yt, .bool yo] 45)
  have hx18 := hx17.alloc (.cells #[.string yp, .int .i64 yk, .string yt, .bool yo] 45)
  have hy18 := Blk.new w17 45 [.string yp, .int .i64 yk, .string yt, .bool yo]
  cases ok
  · have HM00 := Lib.hid (HN.out rfl)
    clear HN HG hB17 hx17
    go_wp2_with fail
    generalize w17.alloc (.cells #[.string yp, .int .i64 yk, .string yt, .bool yo] 45) = w18 at *
    refine (refWithout_any A c l s w18 ((hl.below hB18).more hB18.size) hsz (by omega)).mono ?_
    rintro e w20 ⟨v20, rfl, ho20, hb⟩
    have hB20 := hB18.trans (hb.mono hB18.size)
    clear hb hB18
    obtain ⟨A20, c20, rfl, _, rd20⟩ := EnOwn.rd ho20
    clear ho20
    have hl20 := outside_le l s.data.toList
    go_wp2_with fail
    refine (refWithout_any A20 c20 _ d w20 rd20 hdz (by omega)).mono ?_
    rintro e w21 ⟨v21, rfl, ho21, hb⟩
    have hB21 := hB20.trans (hb.mono hB20.size)
    have ho21 : EnOwn w21 w.heap.size v21 _ := own_base ho21 hB20.size
    clear hb hB20 rd20
    have hl21 := outside_le (Tr.outside l s.data.toList) d.data.toList
    have HGM := Lib.hid (HGOODM.out HM00.out HSD.out)
    have HBM := Lib.hid (HBADM.out HM00.out)
    have HBS := Lib.hid (show Tr.Srt (Tr.outside (Tr.outside l s.data.toList) d.data.toList) ∧ Sm (Tr.outside (Tr.outside l s.data.toList) d.data.toList) from ⟨Tr.srt_filter (Tr.srt_filter RT.out.2.1 _) _, fun e he => HS.out e ((List.mem_filter.1 (List.mem_filter.1 he).1).1)⟩)
    clear HGOODM HBADM HSAME HV HM00
    generalize Tr.outside (Tr.outside l s.data.toList) d.data.toList = B0 at *
    go_wp2_with fail
    go_loopw [16, 99] (fun v i wr => ∃ k : Nat, k ≤ l.length ∧ i = .int .i64 k ∧ EnOwn wr w.heap.size v (Tr.insAll (Tr.movedO (l.take k) s.data.toList d.data.toList) B0) ∧ Hid (∀ e ∈ Tr.movedO (l.take k) s.data.toList d.data.toList, Pt.clean e.P = true ∧ e.t.size < 4294967281) ∧ Below w.heap.size w wr) (fun _ i _ => l.length - (intOf i).toNat)
    case atStart => exact ⟨0, Nat.zero_le _, rfl, ho21, Lib.hid (fun _ h => nomatch h), hB21⟩
    case round =>
      obtain ⟨k, hk, rfl, hown, HC, hB⟩ := hrel
      clear hB21 ho21
      by_cases hlt : k < l.length
      · obtain ⟨b, o, rfl, hb, h0, h1, h2, h3⟩ := (EnRd.at_ (hl.below hB) hlt)
        have HY := Lib.hid (Tr.movedO_yes (s := s.data.toList) (d := d.data.toList) hlt)
        have HNO := Lib.hid (Tr.movedO_no (s := s.data.toList) (d := d.data.toList) hlt)
        have HBAD := Lib.hid (HBM.out l[k] (List.getElem_mem hlt))
        have hle : (Tr.movedO (l.take k) s.data.toList d.data.toList).length ≤ k := Nat.le_trans (Tr.movedO_le _ _ _) (by rw [List.length_take]; omega)
        have hzz := Tr.clean_len (Tr.entry_clean (RT.out.1 _ (List.getElem_mem hlt)))
        have hyt := (HS.out.at_ hlt).2
        generalize l[k] = z at h0 h1 h2 h3 HY HNO HBAD hzz hyt
        obtain ⟨yp, yk, yt, yo⟩ := z
        have hzz : yp.size ≤ 80 := by rw [← size_length]; exact hzz
        dsimp only at h0 h1 h2 h3 hyt
        rcases te : (yp.toList == s.toList) with _ | _
        rotate_left
        · have hq : yp.data.toList = s.data.toList := by rw [toList_beq] at te; simpa using te
          have hle2 : s.size ≤ yp.size := by
            have := congrArg List.length hq
            rw [size_length, size_length] at this; omega
          have HST : Hid (Tr.mv s.data.toList (⟨yp, yk, yt, yo⟩ : En).P) := Lib.hid (.inl hq)
          obtain ⟨np, hnp⟩ : ∃ np, np = d ++ yp.extract s.size yp.size := ⟨_, rfl⟩
          have hnz : np.size < 4294967281 := by rw [hnp]; simp; omega
          have HP : Hid (Tr.renE s.data.toList d.data.toList ⟨yp, yk, yt, yo⟩ = ⟨np, yk, yt, yo⟩) := Lib.hid (by
            refine Tr.renE_eq ?_ rfl rfl rfl
            rw [Tr.ren_mv HST.out, hnp, ← ren_bytes]; rfl)
          clear hq
          go_wp2_with fail
          clear h0 h1 h2 h3 hb
          rw [← hnp]
          clear hnp
          have hy5 := Blk.new wr 45 [.string np, .int .i64 yk, .string yt, .bool yo]
          have hB5 := hB.alloc hB.size (.cells #[.string np, .int .i64 yk, .string yt, .bool yo] 45)
          have ho5 : EnOwn _ w.heap.size u16 _ := own_alloc hown (.cells #[.string np, .int .i64 yk, .string yt, .bool yo] 45)
          clear hB hown
          generalize wr.alloc (.cells #[.string np, .int .i64 yk, .string yt, .bool yo] 45) = w5 at *
          refine (refClean_any np w5 (by omega)).mono ?_
          rintro e w6 ⟨rfl, hb6⟩
          have hB6 := hB5.trans (hb6.mono hB5.size)
          have hy6 := hy5.below hb6 hy5.lt
          have ho6 : EnOwn w6 w.heap.size u16 _ := own_below ho5 hb6 (Nat.le_refl _)
          clear hb6 hB5 hy5 ho5
          obtain ⟨y0, y1, y2, y3, yfr, yz⟩ := hy6.four
          rcases tc : Pt.clean np.data.toList with _ | _
          · have HO := Lib.hid (HBAD.out HST.out (by rw [HP.out]; exact tc))
            clear HBAD HY HNO
            go_wp2_with fail
            go_ret2
            exact ⟨none, 0, by rw [HO.out]; rfl, by rw [HO.out]; exact Nat.zero_le _, by rw [HO.out]; exact Rd.nil, hB6⟩
          · have HN := Lib.hid (HY.out HST.out)
            rw [HP.out] at HN
            have HCL := Lib.hid (show ∀ e ∈ Tr.movedO (l.take (k + 1)) s.data.toList d.data.toList, Pt.clean e.P = true ∧ e.t.size < 4294967281 from fun e he => by
              rw [HN.out] at he
              rcases List.mem_append.1 he with he | he
              · exact HC.out e he
              · rw [List.mem_singleton.1 he]; exact ⟨tc, hyt⟩)
            clear HBAD HY HNO
            obtain ⟨A6, c6, hv6, hc6, rd6⟩ := EnOwn.rd ho6
            subst hv6
            have hsm6 : Sm (Tr.insAll (Tr.movedO (l.take k) s.data.toList d.data.toList) B0) := fun e he => by
              rcases Tr.mem_insAll_or he with h | h
              · have h1 := Tr.clean_len (HC.out e h).1
                have h2 : e.P.length = e.p.size := size_length e.p
                exact ⟨by omega, (HC.out e h).2⟩
              · exact HBS.out.2 e h
            have hsr6 : Tr.Srt (Tr.insAll (Tr.movedO (l.take k) s.data.toList d.data.toList) B0) := Tr.srt_insAll HBS.out.1
            have hnl6 : (Tr.insAll (Tr.movedO (l.take k) s.data.toList d.data.toList) B0).length ≤ 4000000 := by
              have h1 := Tr.insAll_le (Tr.movedO (l.take k) s.data.toList d.data.toList) B0
              omega
            have cW := with_any A6 c6 _ ⟨np, yk, yt, yo⟩ w6 rd6 hsm6 hsr6 (by have h1 := Tr.clean_len tc; rw [size_length] at h1; show np.size < _; omega) hnl6
            dsimp only at cW
            have HIN : Hid (Tr.ins ⟨np, yk, yt, yo⟩ (Tr.insAll (Tr.movedO (l.take k) s.data.toList d.data.toList) B0) = Tr.insAll (Tr.movedO (l.take (k + 1)) s.data.toList d.data.toList) B0) := Lib.hid (by rw [HN.out, Tr.insAll_snoc])
            rw [HIN.out] at cW
            clear hsm6 hsr6 hnl6 ho6
            go_wp2_with fail
            refine cW.mono ?_
            rintro e w9 ⟨v9, rfl, ho9, hb⟩
            have hB9 := hB6.trans (hb.mono hB6.size)
            have ho9 : EnOwn w9 w.heap.size v9 _ := own_base ho9 hB6.size
            clear hb cW
            go_wp2_with fail
            go_roundw
            case rel => exact ⟨k + 1, by omega, by go_num, ho9, HCL, hB9⟩
            case measure => simp [intOf]; omega
        have hq : ¬ yp.data.toList = s.data.toList := by rw [toList_beq] at te; simpa using te
        go_wp2_with fail
        refine (refUnder_any yp s _ (by omega)).mono ?_
        rintro e w' ⟨rfl, rfl⟩
        rcases tu : Pt.under yp.data.toList s.data.toList with _ | _
        rotate_left
        · have hlen : s.size < yp.size := by
            have := Tr.under_len HS0.out tu
            rw [size_length, size_length] at this; exact this
          have hle2 : s.size ≤ yp.size := Nat.le_of_lt hlen
          have HST : Hid (Tr.mv s.data.toList (⟨yp, yk, yt, yo⟩ : En).P) := Lib.hid (.inr tu)
          obtain ⟨np, hnp⟩ : ∃ np, np = d ++ yp.extract s.size yp.size := ⟨_, rfl⟩
          have hnz : np.size < 4294967281 := by rw [hnp]; simp; omega
          have HP : Hid (Tr.renE s.data.toList d.data.toList ⟨yp, yk, yt, yo⟩ = ⟨np, yk, yt, yo⟩) := Lib.hid (by
            refine Tr.renE_eq ?_ rfl rfl rfl
            rw [Tr.ren_mv HST.out, hnp, ← ren_bytes]; rfl)
          clear hq
          go_wp2_with fail
          clear h0 h1 h2 h3 hb
          rw [← hnp]
          clear hnp
          have hy5 := Blk.new wr 45 [.string np, .int .i64 yk, .string yt, .bool yo]
          have hB5 := hB.alloc hB.size (.cells #[.string np, .int .i64 yk, .string yt, .bool yo] 45)
          have ho5 : EnOwn _ w.heap.size u16 _ := own_alloc hown (.cells #[.string np, .int .i64 yk, .string yt, .bool yo] 45)
          clear hB hown
          generalize wr.alloc (.cells #[.string np, .int .i64 yk, .string yt, .bool yo] 45) = w5 at *
          refine (refClean_any np w5 (by omega)).mono ?_
          rintro e w6 ⟨rfl, hb6⟩
          have hB6 := hB5.trans (hb6.mono hB5.size)
          have hy6 := hy5.below hb6 hy5.lt
          have ho6 : EnOwn w6 w.heap.size u16 _ := own_below ho5 hb6 (Nat.le_refl _)
          clear hb6 hB5 hy5 ho5
          obtain ⟨y0, y1, y2, y3, yfr, yz⟩ := hy6.four
          rcases tc : Pt.clean np.data.toList with _ | _
          · have HO := Lib.hid (HBAD.out HST.out (by rw [HP.out]; exact tc))
            clear HBAD HY HNO
            go_wp2_with fail
            go_ret2
            exact ⟨none, 0, by rw [HO.out]; rfl, by rw [HO.out]; exact Nat.zero_le _, by rw [HO.out]; exact Rd.nil, hB6⟩
          · have HN := Lib.hid (HY.out HST.out)
            rw [HP.out] at HN
            have HCL := Lib.hid (show ∀ e ∈ Tr.movedO (l.take (k + 1)) s.data.toList d.data.toList, Pt.clean e.P = true ∧ e.t.size < 4294967281 from fun e he => by
              rw [HN.out] at he
              rcases List.mem_append.1 he with he | he
              · exact HC.out e he
              · rw [List.mem_singleton.1 he]; exact ⟨tc, hyt⟩)
            clear HBAD HY HNO
            obtain ⟨A6, c6, hv6, hc6, rd6⟩ := EnOwn.rd ho6
            subst hv6
            have hsm6 : Sm (Tr.insAll (Tr.movedO (l.take k) s.data.toList d.data.toList) B0) := fun e he => by
              rcases Tr.mem_insAll_or he with h | h
              · have h1 := Tr.clean_len (HC.out e h).1
                have h2 : e.P.length = e.p.size := size_length e.p
                exact ⟨by omega, (HC.out e h).2⟩
              · exact HBS.out.2 e h
            have hsr6 : Tr.Srt (Tr.insAll (Tr.movedO (l.take k) s.data.toList d.data.toList) B0) := Tr.srt_insAll HBS.out.1
            have hnl6 : (Tr.insAll (Tr.movedO (l.take k) s.data.toList d.data.toList) B0).length ≤ 4000000 := by
              have h1 := Tr.insAll_le (Tr.movedO (l.take k) s.data.toList d.data.toList) B0
              omega
            have cW := with_any A6 c6 _ ⟨np, yk, yt, yo⟩ w6 rd6 hsm6 hsr6 (by have h1 := Tr.clean_len tc; rw [size_length] at h1; show np.size < _; omega) hnl6
            dsimp only at cW
            have HIN : Hid (Tr.ins ⟨np, yk, yt, yo⟩ (Tr.insAll (Tr.movedO (l.take k) s.data.toList d.data.toList) B0) = Tr.insAll (Tr.movedO (l.take (k + 1)) s.data.toList d.data.toList) B0) := Lib.hid (by rw [HN.out, Tr.insAll_snoc])
            rw [HIN.out] at cW
            clear hsm6 hsr6 hnl6 ho6
            go_wp2_with fail
            refine cW.mono ?_
            rintro e w9 ⟨v9, rfl, ho9, hb⟩
            have hB9 := hB6.trans (hb.mono hB6.size)
            have ho9 : EnOwn w9 w.heap.size v9 _ := own_base ho9 hB6.size
            clear hb cW
            go_wp2_with fail
            go_roundw
            case rel => exact ⟨k + 1, by omega, by go_num, ho9, HCL, hB9⟩
            case measure => simp [intOf]; omega
        · have HN := Lib.hid (HNO.out (fun h => h.elim hq (fun h => by
            have h : Pt.under yp.data.toList s.data.toList = true := h
            rw [tu] at h; cases h)))
          have hB5 := hB.alloc hB.size (.cells #[.string yp, .int .i64 yk, .string yt, .bool yo] 45)
          have ho5 : EnOwn _ w.heap.size u16 _ := own_alloc hown (.cells #[.string yp, .int .i64 yk, .string yt, .bool yo] 45)
          clear HY HNO HBAD hq
          go_wp2_with fail
          go_roundw
          case rel => exact ⟨k + 1, by omega, by go_num, by rw [HN.out]; exact ho5, by rw [HN.out]; exact HC, hB5⟩
          case measure => simp [intOf]; omega
      · obtain rfl : k = l.length := by omega
        rw [List.take_length] at hown HC
        have HO := Lib.hid (HGM.out (fun e he => (HC.out e he).1))
        obtain ⟨A6, c6, hv6, hc6, rd6⟩ := EnOwn.rd hown
        subst hv6
        clear hown HGM HBM
        go_wp2_with fail
        go_ret2
        exact ⟨A6, c6, by rw [HO.out] <;> rfl, by rw [HO.out]; exact hc6, by rw [HO.out]; exact rd6, hB⟩
  have HM := Lib.hid (HG.out rfl)
  clear HN HG hB17 hx17
  obtain ⟨x0, x1, x2, x3, xfr, xz⟩ := hx18.four
  obtain ⟨y0, y1, y2, y3, yfr, yz⟩ := hy18.four
  clear hx18 hy18
  rcases ta : (xk == 2) with _ | _ <;> rcases tb : (yk == 2) with _ | _
  · have ta2 : (xk != 2) = true := by simp [bne, ta]
    have tb2 : (yk != 2) = true := by simp [bne, tb]
    have HMN := Lib.hid (HM.out.trans ((if_neg (fun h => by rw [h.2] at tb; cases tb)).trans (if_neg (fun h => by rw [h.1] at ta; cases ta))))
    clear HM
    go_wp2_with fail
    generalize w17.alloc (.cells #[.string yp, .int .i64 yk, .string yt, .bool yo] 45) = w18 at *
    refine (refNames_any A c l d w18 ((hl.below hB18).more hB18.size) HS.out (by omega)).mono ?_
    rintro e w19 ⟨v5, rfl, ho5, hb⟩
    have hB19 := hB18.trans (hb.mono hB18.size)
    clear hb hB18
    obtain ⟨A5, c5, rfl, _⟩ := StrOwn.form ho5
    clear ho5
    rcases hnm : Tr.names l d.data.toList with _ | ⟨n0, nr⟩
    · have HM00 := Lib.hid (HMN.out.trans (if_neg (fun h => h hnm)))
      rw [show ([] : List Pt.Bs).length = 0 from rfl]
      clear HMN hnm
      go_wp2_with fail
      refine (refWithout_any A c l s w19 ((hl.below hB19).more hB19.size) hsz (by omega)).mono ?_
      rintro e w20 ⟨v20, rfl, ho20, hb⟩
      have hB20 := hB19.trans (hb.mono hB19.size)
      clear hb hB19
      obtain ⟨A20, c20, rfl, _, rd20⟩ := EnOwn.rd ho20
      clear ho20
      have hl20 := outside_le l s.data.toList
      go_wp2_with fail
      refine (refWithout_any A20 c20 _ d w20 rd20 hdz (by omega)).mono ?_
      rintro e w21 ⟨v21, rfl, ho21, hb⟩
      have hB21 := hB20.trans (hb.mono hB20.size)
      have ho21 : EnOwn w21 w.heap.size v21 _ := own_base ho21 hB20.size
      clear hb hB20 rd20
      have hl21 := outside_le (Tr.outside l s.data.toList) d.data.toList
      have HGM := Lib.hid (HGOODM.out HM00.out HSD.out)
      have HBM := Lib.hid (HBADM.out HM00.out)
      have HBS := Lib.hid (show Tr.Srt (Tr.outside (Tr.outside l s.data.toList) d.data.toList) ∧ Sm (Tr.outside (Tr.outside l s.data.toList) d.data.toList) from ⟨Tr.srt_filter (Tr.srt_filter RT.out.2.1 _) _, fun e he => HS.out e ((List.mem_filter.1 (List.mem_filter.1 he).1).1)⟩)
      clear HGOODM HBADM HSAME HV HM00
      generalize Tr.outside (Tr.outside l s.data.toList) d.data.toList = B0 at *
      go_wp2_with fail
      go_loopw [16, 99] (fun v i wr => ∃ k : Nat, k ≤ l.length ∧ i = .int .i64 k ∧ EnOwn wr w.heap.size v (Tr.insAll (Tr.movedO (l.take k) s.data.toList d.data.toList) B0) ∧ Hid (∀ e ∈ Tr.movedO (l.take k) s.data.toList d.data.toList, Pt.clean e.P = true ∧ e.t.size < 4294967281) ∧ Below w.heap.size w wr) (fun _ i _ => l.length - (intOf i).toNat)
      case atStart => exact ⟨0, Nat.zero_le _, rfl, ho21, Lib.hid (fun _ h => nomatch h), hB21⟩
      case round =>
        obtain ⟨k, hk, rfl, hown, HC, hB⟩ := hrel
        clear hB21 ho21
        by_cases hlt : k < l.length
        · obtain ⟨b, o, rfl, hb, h0, h1, h2, h3⟩ := (EnRd.at_ (hl.below hB) hlt)
          have HY := Lib.hid (Tr.movedO_yes (s := s.data.toList) (d := d.data.toList) hlt)
          have HNO := Lib.hid (Tr.movedO_no (s := s.data.toList) (d := d.data.toList) hlt)
          have HBAD := Lib.hid (HBM.out l[k] (List.getElem_mem hlt))
          have hle : (Tr.movedO (l.take k) s.data.toList d.data.toList).length ≤ k := Nat.le_trans (Tr.movedO_le _ _ _) (by rw [List.length_take]; omega)
          have hzz := Tr.clean_len (Tr.entry_clean (RT.out.1 _ (List.getElem_mem hlt)))
          have hyt := (HS.out.at_ hlt).2
          generalize l[k] = z at h0 h1 h2 h3 HY HNO HBAD hzz hyt
          obtain ⟨yp, yk, yt, yo⟩ := z
          have hzz : yp.size ≤ 80 := by rw [← size_length]; exact hzz
          dsimp only at h0 h1 h2 h3 hyt
          rcases te : (yp.toList == s.toList) with _ | _
          rotate_left
          · have hq : yp.data.toList = s.data.toList := by rw [toList_beq] at te; simpa using te
            have hle2 : s.size ≤ yp.size := by
              have := congrArg List.length hq
              rw [size_length, size_length] at this; omega
            have HST : Hid (Tr.mv s.data.toList (⟨yp, yk, yt, yo⟩ : En).P) := Lib.hid (.inl hq)
            obtain ⟨np, hnp⟩ : ∃ np, np = d ++ yp.extract s.size yp.size := ⟨_, rfl⟩
            have hnz : np.size < 4294967281 := by rw [hnp]; simp; omega
            have HP : Hid (Tr.renE s.data.toList d.data.toList ⟨yp, yk, yt, yo⟩ = ⟨np, yk, yt, yo⟩) := Lib.hid (by
              refine Tr.renE_eq ?_ rfl rfl rfl
              rw [Tr.ren_mv HST.out, hnp, ← ren_bytes]; rfl)
            clear hq
            go_wp2_with fail
            clear h0 h1 h2 h3 hb
            rw [← hnp]
            clear hnp
            have hy5 := Blk.new wr 45 [.string np, .int .i64 yk, .string yt, .bool yo]
            have hB5 := hB.alloc hB.size (.cells #[.string np, .int .i64 yk, .string yt, .bool yo] 45)
            have ho5 : EnOwn _ w.heap.size u16 _ := own_alloc hown (.cells #[.string np, .int .i64 yk, .string yt, .bool yo] 45)
            clear hB hown
            generalize wr.alloc (.cells #[.string np, .int .i64 yk, .string yt, .bool yo] 45) = w5 at *
            refine (refClean_any np w5 (by omega)).mono ?_
            rintro e w6 ⟨rfl, hb6⟩
            have hB6 := hB5.trans (hb6.mono hB5.size)
            have hy6 := hy5.below hb6 hy5.lt
            have ho6 : EnOwn w6 w.heap.size u16 _ := own_below ho5 hb6 (Nat.le_refl _)
            clear hb6 hB5 hy5 ho5
            obtain ⟨y0, y1, y2, y3, yfr, yz⟩ := hy6.four
            rcases tc : Pt.clean np.data.toList with _ | _
            · have HO := Lib.hid (HBAD.out HST.out (by rw [HP.out]; exact tc))
              clear HBAD HY HNO
              go_wp2_with fail
              go_ret2
              exact ⟨none, 0, by rw [HO.out]; rfl, by rw [HO.out]; exact Nat.zero_le _, by rw [HO.out]; exact Rd.nil, hB6⟩
            · have HN := Lib.hid (HY.out HST.out)
              rw [HP.out] at HN
              have HCL := Lib.hid (show ∀ e ∈ Tr.movedO (l.take (k + 1)) s.data.toList d.data.toList, Pt.clean e.P = true ∧ e.t.size < 4294967281 from fun e he => by
                rw [HN.out] at he
                rcases List.mem_append.1 he with he | he
                · exact HC.out e he
                · rw [List.mem_singleton.1 he]; exact ⟨tc, hyt⟩)
              clear HBAD HY HNO
              obtain ⟨A6, c6, hv6, hc6, rd6⟩ := EnOwn.rd ho6
              subst hv6
              have hsm6 : Sm (Tr.insAll (Tr.movedO (l.take k) s.data.toList d.data.toList) B0) := fun e he => by
                rcases Tr.mem_insAll_or he with h | h
                · have h1 := Tr.clean_len (HC.out e h).1
                  have h2 : e.P.length = e.p.size := size_length e.p
                  exact ⟨by omega, (HC.out e h).2⟩
                · exact HBS.out.2 e h
              have hsr6 : Tr.Srt (Tr.insAll (Tr.movedO (l.take k) s.data.toList d.data.toList) B0) := Tr.srt_insAll HBS.out.1
              have hnl6 : (Tr.insAll (Tr.movedO (l.take k) s.data.toList d.data.toList) B0).length ≤ 4000000 := by
                have h1 := Tr.insAll_le (Tr.movedO (l.take k) s.data.toList d.data.toList) B0
                omega
              have cW := with_any A6 c6 _ ⟨np, yk, yt, yo⟩ w6 rd6 hsm6 hsr6 (by have h1 := Tr.clean_len tc; rw [size_length] at h1; show np.size < _; omega) hnl6
              dsimp only at cW
              have HIN : Hid (Tr.ins ⟨np, yk, yt, yo⟩ (Tr.insAll (Tr.movedO (l.take k) s.data.toList d.data.toList) B0) = Tr.insAll (Tr.movedO (l.take (k + 1)) s.data.toList d.data.toList) B0) := Lib.hid (by rw [HN.out, Tr.insAll_snoc])
              rw [HIN.out] at cW
              clear hsm6 hsr6 hnl6 ho6
              go_wp2_with fail
              refine cW.mono ?_
              rintro e w9 ⟨v9, rfl, ho9, hb⟩
              have hB9 := hB6.trans (hb.mono hB6.size)
              have ho9 : EnOwn w9 w.heap.size v9 _ := own_base ho9 hB6.size
              clear hb cW
              go_wp2_with fail
              go_roundw
              case rel => exact ⟨k + 1, by omega, by go_num, ho9, HCL, hB9⟩
              case measure => simp [intOf]; omega
          have hq : ¬ yp.data.toList = s.data.toList := by rw [toList_beq] at te; simpa using te
          go_wp2_with fail
          refine (refUnder_any yp s _ (by omega)).mono ?_
          rintro e w' ⟨rfl, rfl⟩
          rcases tu : Pt.under yp.data.toList s.data.toList with _ | _
          rotate_left
          · have hlen : s.size < yp.size := by
              have := Tr.under_len HS0.out tu
              rw [size_length, size_length] at this; exact this
            have hle2 : s.size ≤ yp.size := Nat.le_of_lt hlen
            have HST : Hid (Tr.mv s.data.toList (⟨yp, yk, yt, yo⟩ : En).P) := Lib.hid (.inr tu)
            obtain ⟨np, hnp⟩ : ∃ np, np = d ++ yp.extract s.size yp.size := ⟨_, rfl⟩
            have hnz : np.size < 4294967281 := by rw [hnp]; simp; omega
            have HP : Hid (Tr.renE s.data.toList d.data.toList ⟨yp, yk, yt, yo⟩ = ⟨np, yk, yt, yo⟩) := Lib.hid (by
              refine Tr.renE_eq ?_ rfl rfl rfl
              rw [Tr.ren_mv HST.out, hnp, ← ren_bytes]; rfl)
            clear hq
            go_wp2_with fail
            clear h0 h1 h2 h3 hb
            rw [← hnp]
            clear hnp
            have hy5 := Blk.new wr 45 [.string np, .int .i64 yk, .string yt, .bool yo]
            have hB5 := hB.alloc hB.size (.cells #[.string np, .int .i64 yk, .string yt, .bool yo] 45)
            have ho5 : EnOwn _ w.heap.size u16 _ := own_alloc hown (.cells #[.string np, .int .i64 yk, .string yt, .bool yo] 45)
            clear hB hown
            generalize wr.alloc (.cells #[.string np, .int .i64 yk, .string yt, .bool yo] 45) = w5 at *
            refine (refClean_any np w5 (by omega)).mono ?_
            rintro e w6 ⟨rfl, hb6⟩
            have hB6 := hB5.trans (hb6.mono hB5.size)
            have hy6 := hy5.below hb6 hy5.lt
            have ho6 : EnOwn w6 w.heap.size u16 _ := own_below ho5 hb6 (Nat.le_refl _)
            clear hb6 hB5 hy5 ho5
            obtain ⟨y0, y1, y2, y3, yfr, yz⟩ := hy6.four
            rcases tc : Pt.clean np.data.toList with _ | _
            · have HO := Lib.hid (HBAD.out HST.out (by rw [HP.out]; exact tc))
              clear HBAD HY HNO
              go_wp2_with fail
              go_ret2
              exact ⟨none, 0, by rw [HO.out]; rfl, by rw [HO.out]; exact Nat.zero_le _, by rw [HO.out]; exact Rd.nil, hB6⟩
            · have HN := Lib.hid (HY.out HST.out)
              rw [HP.out] at HN
              have HCL := Lib.hid (show ∀ e ∈ Tr.movedO (l.take (k + 1)) s.data.toList d.data.toList, Pt.clean e.P = true ∧ e.t.size < 4294967281 from fun e he => by
                rw [HN.out] at he
                rcases List.mem_append.1 he with he | he
                · exact HC.out e he
                · rw [List.mem_singleton.1 he]; exact ⟨tc, hyt⟩)
              clear HBAD HY HNO
              obtain ⟨A6, c6, hv6, hc6, rd6⟩ := EnOwn.rd ho6
              subst hv6
              have hsm6 : Sm (Tr.insAll (Tr.movedO (l.take k) s.data.toList d.data.toList) B0) := fun e he => by
                rcases Tr.mem_insAll_or he with h | h
                · have h1 := Tr.clean_len (HC.out e h).1
                  have h2 : e.P.length = e.p.size := size_length e.p
                  exact ⟨by omega, (HC.out e h).2⟩
                · exact HBS.out.2 e h
              have hsr6 : Tr.Srt (Tr.insAll (Tr.movedO (l.take k) s.data.toList d.data.toList) B0) := Tr.srt_insAll HBS.out.1
              have hnl6 : (Tr.insAll (Tr.movedO (l.take k) s.data.toList d.data.toList) B0).length ≤ 4000000 := by
                have h1 := Tr.insAll_le (Tr.movedO (l.take k) s.data.toList d.data.toList) B0
                omega
              have cW := with_any A6 c6 _ ⟨np, yk, yt, yo⟩ w6 rd6 hsm6 hsr6 (by have h1 := Tr.clean_len tc; rw [size_length] at h1; show np.size < _; omega) hnl6
              dsimp only at cW
              have HIN : Hid (Tr.ins ⟨np, yk, yt, yo⟩ (Tr.insAll (Tr.movedO (l.take k) s.data.toList d.data.toList) B0) = Tr.insAll (Tr.movedO (l.take (k + 1)) s.data.toList d.data.toList) B0) := Lib.hid (by rw [HN.out, Tr.insAll_snoc])
              rw [HIN.out] at cW
              clear hsm6 hsr6 hnl6 ho6
              go_wp2_with fail
              refine cW.mono ?_
              rintro e w9 ⟨v9, rfl, ho9, hb⟩
              have hB9 := hB6.trans (hb.mono hB6.size)
              have ho9 : EnOwn w9 w.heap.size v9 _ := own_base ho9 hB6.size
              clear hb cW
              go_wp2_with fail
              go_roundw
              case rel => exact ⟨k + 1, by omega, by go_num, ho9, HCL, hB9⟩
              case measure => simp [intOf]; omega
          · have HN := Lib.hid (HNO.out (fun h => h.elim hq (fun h => by
              have h : Pt.under yp.data.toList s.data.toList = true := h
              rw [tu] at h; cases h)))
            have hB5 := hB.alloc hB.size (.cells #[.string yp, .int .i64 yk, .string yt, .bool yo] 45)
            have ho5 : EnOwn _ w.heap.size u16 _ := own_alloc hown (.cells #[.string yp, .int .i64 yk, .string yt, .bool yo] 45)
            clear HY HNO HBAD hq
            go_wp2_with fail
            go_roundw
            case rel => exact ⟨k + 1, by omega, by go_num, by rw [HN.out]; exact ho5, by rw [HN.out]; exact HC, hB5⟩
            case measure => simp [intOf]; omega
        · obtain rfl : k = l.length := by omega
          rw [List.take_length] at hown HC
          have HO := Lib.hid (HGM.out (fun e he => (HC.out e he).1))
          obtain ⟨A6, c6, hv6, hc6, rd6⟩ := EnOwn.rd hown
          subst hv6
          clear hown HGM HBM
          go_wp2_with fail
          go_ret2
          exact ⟨A6, c6, by rw [HO.out] <;> rfl, by rw [HO.out]; exact hc6, by rw [HO.out]; exact rd6, hB⟩
    · have HO := Lib.hid (HV.out _ (HMN.out.trans (if_pos (by rw [hnm]; exact List.cons_ne_nil _ _))) (by decide))
      obtain ⟨MM, hMM⟩ : ∃ MM, MM = (n0 :: nr).length := ⟨_, rfl⟩
      have hpos : (0 : Int) < (MM : Int) := by rw [hMM, List.length_cons]; omega
      rw [← hMM]
      clear HMN hnm hMM
      go_wp2_with fail
      go_ret2
      exact ⟨none, 0, by rw [HO.out]; rfl, by rw [HO.out]; exact Nat.zero_le _, by rw [HO.out]; exact Rd.nil, hB19⟩
  · have ta2 : (xk != 2) = true := by simp [bne, ta]
    have tb2 : (yk != 2) = false := by simp [bne, tb]
    have HO := Lib.hid (HV.out _ (HM.out.trans (if_pos ⟨by simpa using ta2, by simpa using tb⟩)) (by decide))
    clear HM
    go_wp2_with fail
    go_ret2
    exact ⟨none, 0, by rw [HO.out]; rfl, by rw [HO.out]; exact Nat.zero_le _, by rw [HO.out]; exact Rd.nil, hB18⟩
  · have ta2 : (xk != 2) = false := by simp [bne, ta]
    have tb2 : (yk != 2) = true := by simp [bne, tb]
    have HO := Lib.hid (HV.out _ (HM.out.trans ((if_neg (fun h => by rw [h.2] at tb; cases tb)).trans (if_pos ⟨by simpa using ta, by simpa using tb2⟩))) (by decide))
    clear HM
    go_wp2_with fail
    go_ret2
    exact ⟨none, 0, by rw [HO.out]; rfl, by rw [HO.out]; exact Nat.zero_le _, by rw [HO.out]; exact Rd.nil, hB18⟩
  · have ta2 : (xk != 2) = false := by simp [bne, ta]
    have tb2 : (yk != 2) = false := by simp [bne, tb]
    have HMN := Lib.hid (HM.out.trans ((if_neg (fun h => h.1 (by simpa using ta))).trans (if_neg (fun h => h.2 (by simpa using tb)))))
    clear HM
    go_wp2_with fail
    generalize w17.alloc (.cells #[.string yp, .int .i64 yk, .string yt, .bool yo] 45) = w18 at *
    refine (refNames_any A c l d w18 ((hl.below hB18).more hB18.size) HS.out (by omega)).mono ?_
    rintro e w19 ⟨v5, rfl, ho5, hb⟩
    have hB19 := hB18.trans (hb.mono hB18.size)
    clear hb hB18
    obtain ⟨A5, c5, rfl, _⟩ := StrOwn.form ho5
    clear ho5
    rcases hnm : Tr.names l d.data.toList with _ | ⟨n0, nr⟩
    · have HM00 := Lib.hid (HMN.out.trans (if_neg (fun h => h hnm)))
      rw [show ([] : List Pt.Bs).length = 0 from rfl]
      clear HMN hnm
      go_wp2_with fail
      refine (refWithout_any A c l s w19 ((hl.below hB19).more hB19.size) hsz (by omega)).mono ?_
      rintro e w20 ⟨v20, rfl, ho20, hb⟩
      have hB20 := hB19.trans (hb.mono hB19.size)
      clear hb hB19
      obtain ⟨A20, c20, rfl, _, rd20⟩ := EnOwn.rd ho20
      clear ho20
      have hl20 := outside_le l s.data.toList
      go_wp2_with fail
      refine (refWithout_any A20 c20 _ d w20 rd20 hdz (by omega)).mono ?_
      rintro e w21 ⟨v21, rfl, ho21, hb⟩
      have hB21 := hB20.trans (hb.mono hB20.size)
      have ho21 : EnOwn w21 w.heap.size v21 _ := own_base ho21 hB20.size
      clear hb hB20 rd20
      have hl21 := outside_le (Tr.outside l s.data.toList) d.data.toList
      have HGM := Lib.hid (HGOODM.out HM00.out HSD.out)
      have HBM := Lib.hid (HBADM.out HM00.out)
      have HBS := Lib.hid (show Tr.Srt (Tr.outside (Tr.outside l s.data.toList) d.data.toList) ∧ Sm (Tr.outside (Tr.outside l s.data.toList) d.data.toList) from ⟨Tr.srt_filter (Tr.srt_filter RT.out.2.1 _) _, fun e he => HS.out e ((List.mem_filter.1 (List.mem_filter.1 he).1).1)⟩)
      clear HGOODM HBADM HSAME HV HM00
      generalize Tr.outside (Tr.outside l s.data.toList) d.data.toList = B0 at *
      go_wp2_with fail
      go_loopw [16, 99] (fun v i wr => ∃ k : Nat, k ≤ l.length ∧ i = .int .i64 k ∧ EnOwn wr w.heap.size v (Tr.insAll (Tr.movedO (l.take k) s.data.toList d.data.toList) B0) ∧ Hid (∀ e ∈ Tr.movedO (l.take k) s.data.toList d.data.toList, Pt.clean e.P = true ∧ e.t.size < 4294967281) ∧ Below w.heap.size w wr) (fun _ i _ => l.length - (intOf i).toNat)
      case atStart => exact ⟨0, Nat.zero_le _, rfl, ho21, Lib.hid (fun _ h => nomatch h), hB21⟩
      case round =>
        obtain ⟨k, hk, rfl, hown, HC, hB⟩ := hrel
        clear hB21 ho21
        by_cases hlt : k < l.length
        · obtain ⟨b, o, rfl, hb, h0, h1, h2, h3⟩ := (EnRd.at_ (hl.below hB) hlt)
          have HY := Lib.hid (Tr.movedO_yes (s := s.data.toList) (d := d.data.toList) hlt)
          have HNO := Lib.hid (Tr.movedO_no (s := s.data.toList) (d := d.data.toList) hlt)
          have HBAD := Lib.hid (HBM.out l[k] (List.getElem_mem hlt))
          have hle : (Tr.movedO (l.take k) s.data.toList d.data.toList).length ≤ k := Nat.le_trans (Tr.movedO_le _ _ _) (by rw [List.length_take]; omega)
          have hzz := Tr.clean_len (Tr.entry_clean (RT.out.1 _ (List.getElem_mem hlt)))
          have hyt := (HS.out.at_ hlt).2
          generalize l[k] = z at h0 h1 h2 h3 HY HNO HBAD hzz hyt
          obtain ⟨yp, yk, yt, yo⟩ := z
          have hzz : yp.size ≤ 80 := by rw [← size_length]; exact hzz
          dsimp only at h0 h1 h2 h3 hyt
          rcases te : (yp.toList == s.toList) with _ | _
          rotate_left
          · have hq : yp.data.toList = s.data.toList := by rw [toList_beq] at te; simpa using te
            have hle2 : s.size ≤ yp.size := by
              have := congrArg List.length hq
              rw [size_length, size_length] at this; omega
            have HST : Hid (Tr.mv s.data.toList (⟨yp, yk, yt, yo⟩ : En).P) := Lib.hid (.inl hq)
            obtain ⟨np, hnp⟩ : ∃ np, np = d ++ yp.extract s.size yp.size := ⟨_, rfl⟩
            have hnz : np.size < 4294967281 := by rw [hnp]; simp; omega
            have HP : Hid (Tr.renE s.data.toList d.data.toList ⟨yp, yk, yt, yo⟩ = ⟨np, yk, yt, yo⟩) := Lib.hid (by
              refine Tr.renE_eq ?_ rfl rfl rfl
              rw [Tr.ren_mv HST.out, hnp, ← ren_bytes]; rfl)
            clear hq
            go_wp2_with fail
            clear h0 h1 h2 h3 hb
            rw [← hnp]
            clear hnp
            have hy5 := Blk.new wr 45 [.string np, .int .i64 yk, .string yt, .bool yo]
            have hB5 := hB.alloc hB.size (.cells #[.string np, .int .i64 yk, .string yt, .bool yo] 45)
            have ho5 : EnOwn _ w.heap.size u16 _ := own_alloc hown (.cells #[.string np, .int .i64 yk, .string yt, .bool yo] 45)
            clear hB hown
            generalize wr.alloc (.cells #[.string np, .int .i64 yk, .string yt, .bool yo] 45) = w5 at *
            refine (refClean_any np w5 (by omega)).mono ?_
            rintro e w6 ⟨rfl, hb6⟩
            have hB6 := hB5.trans (hb6.mono hB5.size)
            have hy6 := hy5.below hb6 hy5.lt
            have ho6 : EnOwn w6 w.heap.size u16 _ := own_below ho5 hb6 (Nat.le_refl _)
            clear hb6 hB5 hy5 ho5
            obtain ⟨y0, y1, y2, y3, yfr, yz⟩ := hy6.four
            rcases tc : Pt.clean np.data.toList with _ | _
            · have HO := Lib.hid (HBAD.out HST.out (by rw [HP.out]; exact tc))
              clear HBAD HY HNO
              go_wp2_with fail
              go_ret2
              exact ⟨none, 0, by rw [HO.out]; rfl, by rw [HO.out]; exact Nat.zero_le _, by rw [HO.out]; exact Rd.nil, hB6⟩
            · have HN := Lib.hid (HY.out HST.out)
              rw [HP.out] at HN
              have HCL := Lib.hid (show ∀ e ∈ Tr.movedO (l.take (k + 1)) s.data.toList d.data.toList, Pt.clean e.P = true ∧ e.t.size < 4294967281 from fun e he => by
                rw [HN.out] at he
                rcases List.mem_append.1 he with he | he
                · exact HC.out e he
                · rw [List.mem_singleton.1 he]; exact ⟨tc, hyt⟩)
              clear HBAD HY HNO
              obtain ⟨A6, c6, hv6, hc6, rd6⟩ := EnOwn.rd ho6
              subst hv6
              have hsm6 : Sm (Tr.insAll (Tr.movedO (l.take k) s.data.toList d.data.toList) B0) := fun e he => by
                rcases Tr.mem_insAll_or he with h | h
                · have h1 := Tr.clean_len (HC.out e h).1
                  have h2 : e.P.length = e.p.size := size_length e.p
                  exact ⟨by omega, (HC.out e h).2⟩
                · exact HBS.out.2 e h
              have hsr6 : Tr.Srt (Tr.insAll (Tr.movedO (l.take k) s.data.toList d.data.toList) B0) := Tr.srt_insAll HBS.out.1
              have hnl6 : (Tr.insAll (Tr.movedO (l.take k) s.data.toList d.data.toList) B0).length ≤ 4000000 := by
                have h1 := Tr.insAll_le (Tr.movedO (l.take k) s.data.toList d.data.toList) B0
                omega
              have cW := with_any A6 c6 _ ⟨np, yk, yt, yo⟩ w6 rd6 hsm6 hsr6 (by have h1 := Tr.clean_len tc; rw [size_length] at h1; show np.size < _; omega) hnl6
              dsimp only at cW
              have HIN : Hid (Tr.ins ⟨np, yk, yt, yo⟩ (Tr.insAll (Tr.movedO (l.take k) s.data.toList d.data.toList) B0) = Tr.insAll (Tr.movedO (l.take (k + 1)) s.data.toList d.data.toList) B0) := Lib.hid (by rw [HN.out, Tr.insAll_snoc])
              rw [HIN.out] at cW
              clear hsm6 hsr6 hnl6 ho6
              go_wp2_with fail
              refine cW.mono ?_
              rintro e w9 ⟨v9, rfl, ho9, hb⟩
              have hB9 := hB6.trans (hb.mono hB6.size)
              have ho9 : EnOwn w9 w.heap.size v9 _ := own_base ho9 hB6.size
              clear hb cW
              go_wp2_with fail
              go_roundw
              case rel => exact ⟨k + 1, by omega, by go_num, ho9, HCL, hB9⟩
              case measure => simp [intOf]; omega
          have hq : ¬ yp.data.toList = s.data.toList := by rw [toList_beq] at te; simpa using te
          go_wp2_with fail
          refine (refUnder_any yp s _ (by omega)).mono ?_
          rintro e w' ⟨rfl, rfl⟩
          rcases tu : Pt.under yp.data.toList s.data.toList with _ | _
          rotate_left
          · have hlen : s.size < yp.size := by
              have := Tr.under_len HS0.out tu
              rw [size_length, size_length] at this; exact this
            have hle2 : s.size ≤ yp.size := Nat.le_of_lt hlen
            have HST : Hid (Tr.mv s.data.toList (⟨yp, yk, yt, yo⟩ : En).P) := Lib.hid (.inr tu)
            obtain ⟨np, hnp⟩ : ∃ np, np = d ++ yp.extract s.size yp.size := ⟨_, rfl⟩
            have hnz : np.size < 4294967281 := by rw [hnp]; simp; omega
            have HP : Hid (Tr.renE s.data.toList d.data.toList ⟨yp, yk, yt, yo⟩ = ⟨np, yk, yt, yo⟩) := Lib.hid (by
              refine Tr.renE_eq ?_ rfl rfl rfl
              rw [Tr.ren_mv HST.out, hnp, ← ren_bytes]; rfl)
            clear hq
            go_wp2_with fail
            clear h0 h1 h2 h3 hb
            rw [← hnp]
            clear hnp
            have hy5 := Blk.new wr 45 [.string np, .int .i64 yk, .string yt, .bool yo]
            have hB5 := hB.alloc hB.size (.cells #[.string np, .int .i64 yk, .string yt, .bool yo] 45)
            have ho5 : EnOwn _ w.heap.size u16 _ := own_alloc hown (.cells #[.string np, .int .i64 yk, .string yt, .bool yo] 45)
            clear hB hown
            generalize wr.alloc (.cells #[.string np, .int .i64 yk, .string yt, .bool yo] 45) = w5 at *
            refine (refClean_any np w5 (by omega)).mono ?_
            rintro e w6 ⟨rfl, hb6⟩
            have hB6 := hB5.trans (hb6.mono hB5.size)
            have hy6 := hy5.below hb6 hy5.lt
            have ho6 : EnOwn w6 w.heap.size u16 _ := own_below ho5 hb6 (Nat.le_refl _)
            clear hb6 hB5 hy5 ho5
            obtain ⟨y0, y1, y2, y3, yfr, yz⟩ := hy6.four
            rcases tc : Pt.clean np.data.toList with _ | _
            · have HO := Lib.hid (HBAD.out HST.out (by rw [HP.out]; exact tc))
              clear HBAD HY HNO
              go_wp2_with fail
              go_ret2
              exact ⟨none, 0, by rw [HO.out]; rfl, by rw [HO.out]; exact Nat.zero_le _, by rw [HO.out]; exact Rd.nil, hB6⟩
            · have HN := Lib.hid (HY.out HST.out)
              rw [HP.out] at HN
              have HCL := Lib.hid (show ∀ e ∈ Tr.movedO (l.take (k + 1)) s.data.toList d.data.toList, Pt.clean e.P = true ∧ e.t.size < 4294967281 from fun e he => by
                rw [HN.out] at he
                rcases List.mem_append.1 he with he | he
                · exact HC.out e he
                · rw [List.mem_singleton.1 he]; exact ⟨tc, hyt⟩)
              clear HBAD HY HNO
              obtain ⟨A6, c6, hv6, hc6, rd6⟩ := EnOwn.rd ho6
              subst hv6
              have hsm6 : Sm (Tr.insAll (Tr.movedO (l.take k) s.data.toList d.data.toList) B0) := fun e he => by
                rcases Tr.mem_insAll_or he with h | h
                · have h1 := Tr.clean_len (HC.out e h).1
                  have h2 : e.P.length = e.p.size := size_length e.p
                  exact ⟨by omega, (HC.out e h).2⟩
                · exact HBS.out.2 e h
              have hsr6 : Tr.Srt (Tr.insAll (Tr.movedO (l.take k) s.data.toList d.data.toList) B0) := Tr.srt_insAll HBS.out.1
              have hnl6 : (Tr.insAll (Tr.movedO (l.take k) s.data.toList d.data.toList) B0).length ≤ 4000000 := by
                have h1 := Tr.insAll_le (Tr.movedO (l.take k) s.data.toList d.data.toList) B0
                omega
              have cW := with_any A6 c6 _ ⟨np, yk, yt, yo⟩ w6 rd6 hsm6 hsr6 (by have h1 := Tr.clean_len tc; rw [size_length] at h1; show np.size < _; omega) hnl6
              dsimp only at cW
              have HIN : Hid (Tr.ins ⟨np, yk, yt, yo⟩ (Tr.insAll (Tr.movedO (l.take k) s.data.toList d.data.toList) B0) = Tr.insAll (Tr.movedO (l.take (k + 1)) s.data.toList d.data.toList) B0) := Lib.hid (by rw [HN.out, Tr.insAll_snoc])
              rw [HIN.out] at cW
              clear hsm6 hsr6 hnl6 ho6
              go_wp2_with fail
              refine cW.mono ?_
              rintro e w9 ⟨v9, rfl, ho9, hb⟩
              have hB9 := hB6.trans (hb.mono hB6.size)
              have ho9 : EnOwn w9 w.heap.size v9 _ := own_base ho9 hB6.size
              clear hb cW
              go_wp2_with fail
              go_roundw
              case rel => exact ⟨k + 1, by omega, by go_num, ho9, HCL, hB9⟩
              case measure => simp [intOf]; omega
          · have HN := Lib.hid (HNO.out (fun h => h.elim hq (fun h => by
              have h : Pt.under yp.data.toList s.data.toList = true := h
              rw [tu] at h; cases h)))
            have hB5 := hB.alloc hB.size (.cells #[.string yp, .int .i64 yk, .string yt, .bool yo] 45)
            have ho5 : EnOwn _ w.heap.size u16 _ := own_alloc hown (.cells #[.string yp, .int .i64 yk, .string yt, .bool yo] 45)
            clear HY HNO HBAD hq
            go_wp2_with fail
            go_roundw
            case rel => exact ⟨k + 1, by omega, by go_num, by rw [HN.out]; exact ho5, by rw [HN.out]; exact HC, hB5⟩
            case measure => simp [intOf]; omega
        · obtain rfl : k = l.length := by omega
          rw [List.take_length] at hown HC
          have HO := Lib.hid (HGM.out (fun e he => (HC.out e he).1))
          obtain ⟨A6, c6, hv6, hc6, rd6⟩ := EnOwn.rd hown
          subst hv6
          clear hown HGM HBM
          go_wp2_with fail
          go_ret2
          exact ⟨A6, c6, by rw [HO.out] <;> rfl, by rw [HO.out]; exact hc6, by rw [HO.out]; exact rd6, hB⟩
    · have HO := Lib.hid (HV.out _ (HMN.out.trans (if_pos (by rw [hnm]; exact List.cons_ne_nil _ _))) (by decide))
      obtain ⟨MM, hMM⟩ : ∃ MM, MM = (n0 :: nr).length := ⟨_, rfl⟩
      have hpos : (0 : Int) < (MM : Int) := by rw [hMM, List.length_cons]; omega
      rw [← hMM]
      clear HMN hnm hMM
      go_wp2_with fail
      go_ret2
      exact ⟨none, 0, by rw [HO.out]; rfl, by rw [HO.out]; exact Nat.zero_le _, by rw [HO.out]; exact Rd.nil, hB19⟩
end Go.Proofs.YtjppfhgkanbemabGreatDoor
