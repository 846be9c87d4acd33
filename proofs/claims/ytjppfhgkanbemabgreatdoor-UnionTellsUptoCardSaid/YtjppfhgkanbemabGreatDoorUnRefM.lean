/-
  The document's MoveUnion. (Printed by wip/genunrefm.py.)
-/
import Derived.Test.YtjppfhgkanbemabGreatDoorUnRefP
namespace Go.Proofs.YtjppfhgkanbemabGreatDoor
open Go.RowKit Go.Shelf Go.Sort

set_option maxHeartbeats 4000000 in
set_option maxRecDepth 100000 in
theorem refMoveU_any (N : Nat) (A A' : Option Addr) (c c' : Nat) (u : Un) (s d : ByteArray) (w : World) (hu : UnRd w N A A' c c' u) (hN : N ≤ w.heap.size) (hs : UnSm u) (hsz : s.size < 4294967281) (hdz : d.size < 4294967281) :
    Calls Tryz.prog 26 #[.agg #[.slice A u.U.length c, .slice A' u.L.length c'], .string s, .string d] w (RefUnRes N (Tr.moveU u s.data.toList d.data.toList) w) := by
  have HS := Lib.hid hs
  have HUN := Lib.hid hu
  have HU : Hid (UnRd w w.heap.size A A' c c' u) := Lib.hid (hu.more hN)
  clear hs hu
  obtain ⟨R, hR⟩ : ∃ R, R = Tr.moveU u s.data.toList d.data.toList := ⟨_, rfl⟩
  rw [← hR]
  have HPT := Lib.hid (Tr.parts (u := u))
  have HPB : Hid ((Tr.seenU u).2 ≠ 0 → R = (Un.zero, (Tr.seenU u).2)) := Lib.hid (fun h => hR.trans (Tr.moveU_bad rfl h))
  have HPN : Hid ((Tr.seenU u).2 = 0 → (Tr.move (Tr.seenU u).1 s.data.toList d.data.toList).2 ≠ 0 → R = (Un.zero, (Tr.move (Tr.seenU u).1 s.data.toList d.data.toList).2)) := Lib.hid (fun h h2 => hR.trans (Tr.moveU_no h rfl h2))
  have HPO : Hid ((Tr.seenU u).2 = 0 → (Tr.move (Tr.seenU u).1 s.data.toList d.data.toList).2 = 0 → R = Tr.fin u (if s.data.toList = d.data.toList then u.U else Tr.setAll (Tr.dropE (Tr.belowU u) (if (Tr.get (Tr.seenU u).1 d.data.toList).isSome then Tr.dropE (Tr.belowU u) u.U d.data.toList else u.U) s.data.toList) (Tr.movedO (Tr.seenU u).1 s.data.toList d.data.toList)) ∧ (Tr.Right false (Tr.seenU u).1 → Tr.MoveOk (Tr.seenU u).1 s d)) := Lib.hid (fun h h2 => ⟨hR.trans (Tr.moveU_ok h h2), fun hr => Tr.movok hr h2⟩)
  clear hR
  have hB0 := ((Below.refl w.heap.size w).alloc (Nat.le_refl _) (.cells #[.slice A u.U.length c, .slice A' u.L.length c'] 33))
  have hq0 := Blk.new w 33 [.slice A u.U.length c, .slice A' u.L.length c']
  have hB0 := hB0.alloc hB0.size (.cells #[.slice none 0 0, .slice none 0 0] 33)
  have hq0 := hq0.alloc (.cells #[.slice none 0 0, .slice none 0 0] 33)
  have hz0 := Blk.new (w.alloc (.cells #[.slice A u.U.length c, .slice A' u.L.length c'] 33)) 33 [.slice none 0 0, .slice none 0 0]
  have hsz0 : ((w.alloc (.cells #[.slice A u.U.length c, .slice A' u.L.length c'] 33)).alloc (.cells #[.slice none 0 0, .slice none 0 0] 33)).heap.size = w.heap.size + 2 := by simp only [World.size_alloc]
  simp only [World.size_alloc] at hz0
  go_enter Tryz.func26, Tryz.ntmps26
  go_upto_region 1 with fail
  generalize ((w.alloc (.cells #[.slice A u.U.length c, .slice A' u.L.length c'] 33)).alloc (.cells #[.slice none 0 0, .slice none 0 0] 33)) = w0 at *
  have cS := fun W h => refSeenU_any A A' c c' u W h HS.out
  unfold SeenRel at cS
  have HML := Lib.hid (fun h : (Tr.seenU u).2 = 0 => Tr.merge_low (Tr.seenU_zero.1 h))
  obtain ⟨T, hT⟩ : ∃ T, T = Tr.seenU u := ⟨_, rfl⟩
  rw [← hT] at HPT HPB HPN HPO HML
  simp only [← hT] at cS
  clear hT
  obtain ⟨S, se⟩ := T
  dsimp only at cS HPT HPB HPN HPO HML
  obtain ⟨q0, q1, qf, qz⟩ := hq0.two
  go_wp2_with fail
  clear q0 q1 qf qz
  refine (cS w0 ((HU.out.below hB0).more hB0.size)).mono ?_
  rintro e w4 ⟨v4, rfl, ho4, hb⟩
  have hB4 := hB0.trans (hb.mono hB0.size)
  have hq4 := hq0.below hb hq0.lt
  have hz4 := hz0.below hb hz0.lt
  clear hb hB0 hq0 hz0 cS
  obtain ⟨AS, cS, rfl, hcS, hrS⟩ := EnOwn.rd ho4
  clear ho4
  rcases te : (se != 0) with _ | _
  rotate_left
  · have HF := Lib.hid (HPB.out (by simpa using te))
    obtain ⟨z0, z1, zf, zz⟩ := hz4.two
    go_wp2_with fail
    refine bodyPost_ret (v := .tuple #[.agg #[.slice none 0 0, .slice none 0 0], .int .i64 se]) ?_ rfl ?_
    · simp [results, Tryz.results26, go_sem, z0, z1]
    rw [HF.out]
    exact RefUnRes.none ((hB4.setCell (p := ⟨w.heap.size + 1, 0, none⟩) (by show w.heap.size ≤ w.heap.size + 1; omega) (.slice none 0 0)).setCell (p := ⟨w.heap.size + 1, 1, none⟩) (by show w.heap.size ≤ w.heap.size + 1; omega) (.slice none 0 0))
  have hse : se = 0 := by simpa using te
  have HP := Lib.hid (HPT.out hse)
  have HN := Lib.hid (HPN.out hse)
  have HO := Lib.hid (HPO.out hse)
  have HMM := Lib.hid (HML.out hse)
  clear HPT HPN HPO HPB HML te
  subst hse
  go_wp2_with fail
  refine (refMove_any AS cS S s d w4 hrS hcS (Tr.right_sm HP.out.sr) hsz hdz (by have := HP.out.sl; omega)).mono ?_
  rintro e w5 ⟨A5, c5, rfl, _, _, hb⟩
  have hB5 := hB4.trans (hb.mono hB4.size)
  have hq5 := hq4.below hb hq4.lt
  have hz5 := hz4.below hb hz4.lt
  have hrS5 : EnRd w5 w5.heap.size AS S := (Rd.below hrS hb).more hb.size
  clear hb hB4 hq4 hz4 hrS
  generalize (Tr.move S s.data.toList d.data.toList).2 = pe at *
  rcases tp : (pe != 0) with _ | _
  rotate_left
  · have HF := Lib.hid (HN.out (by simpa using tp))
    obtain ⟨z0, z1, zf, zz⟩ := hz5.two
    go_wp2_with fail
    refine bodyPost_ret (v := .tuple #[.agg #[.slice none 0 0, .slice none 0 0], .int .i64 pe]) ?_ rfl ?_
    · simp [results, Tryz.results26, go_sem, z0, z1]
    rw [HF.out]
    exact RefUnRes.none ((hB5.setCell (p := ⟨w.heap.size + 1, 0, none⟩) (by show w.heap.size ≤ w.heap.size + 1; omega) (.slice none 0 0)).setCell (p := ⟨w.heap.size + 1, 1, none⟩) (by show w.heap.size ≤ w.heap.size + 1; omega) (.slice none 0 0))
  have HF0 := Lib.hid (HO.out (by simpa using tp)).1
  have HM := Lib.hid ((HO.out (by simpa using tp)).2 HP.out.sr)
  clear HN HO
  have hul := HP.out.ul
  have HOK0 : Hid (Tr.Ok u.U 80) := Lib.hid ⟨HP.out.ur.2.1, fun y hy => Tr.right_ne HP.out.ur hy, Tr.right_sm HP.out.ur, HP.out.ul⟩
  rcases te2 : (s.toList == d.toList) with _ | _
  rotate_left
  · have HF : Hid (R = (u, 0)) := Lib.hid (by rw [HF0.out, if_pos (by rw [toList_beq] at te2; simpa using te2), fin_ok (by omega)])
    obtain ⟨q0, q1, qf, qz⟩ := hq5.two
    obtain ⟨z0, z1, zf, zz⟩ := hz5.two
    go_wp2_with fail
    refine bodyPost_ret (v := .tuple #[.agg #[.slice A u.U.length c, .slice A' u.L.length c'], .int .i64 0]) ?_ rfl ?_
    · simp [results, Tryz.results26, go_sem, z0, z1]
    rw [HF.out]
    have hB9 := ((hB5.setCell (p := ⟨w.heap.size + 1, 0, none⟩) (by show w.heap.size ≤ w.heap.size + 1; omega) (.slice A u.U.length c)).setCell (p := ⟨w.heap.size + 1, 1, none⟩) (by show w.heap.size ≤ w.heap.size + 1; omega) (.slice A' u.L.length c'))
    exact ⟨A, A', c, c', rfl, un_far_self (HUN.out.below (hB9.mono hN)) (Nat.le_trans hN hB9.size), hB9⟩
  have HF1 := Lib.hid (HF0.out)
  rw [if_neg (show ¬ s.data.toList = d.data.toList by rw [toList_beq] at te2; simpa using te2)] at HF1
  clear HF0
  obtain ⟨q0, q1, qf, qz⟩ := hq5.two
  have cM := refMerge_any A' c' u.L w5 ((HU.out.below hB5).more hB5.size).low (fun l hl => HS.out.1 l (List.mem_cons_of_mem _ hl))
  unfold MergeRel at cM
  rw [HMM.out] at cM
  dsimp only at cM
  go_wp2_with fail
  clear q0 q1 qf qz
  refine cM.mono ?_
  rintro e w8 ⟨vB, rfl, hoB, hb⟩
  have hB8 := hB5.trans (hb.mono hB5.size)
  have hq8 := hq5.below hb hq5.lt
  have hz8 := hz5.below hb hz5.lt
  have hrS8 : EnRd w8 w8.heap.size AS S := (Rd.below hrS5 hb).more hb.size
  clear hb hB5 hq5 hz5 cM hrS5
  obtain ⟨AB, cB, rfl, hcB, hrB⟩ := EnOwn.rd hoB
  clear hoB
  obtain ⟨q0, q1, qf, qz⟩ := hq8.two
  go_wp2_with fail
  clear q0 q1 qf qz
  refine (refGet_any AS cS S d w8 hrS8 (by have := HP.out.sl; omega)).mono ?_
  rintro e w9 ⟨r, rfl, hr, hb⟩
  have hB9 := hB8.trans (hb.mono hB8.size)
  have hq9 := hq8.below hb hq8.lt
  have hz9 := hz8.below hb hz8.lt
  have hrS9 : EnRd w9 w9.heap.size AS S := (Rd.below hrS8 hb).more hb.size
  have hrB9 : EnRd w9 w9.heap.size AB (Tr.belowU u) := (Rd.below hrB hb).more hb.size
  clear hb hB8 hq8 hz8 hrS8 hrB
  rw [← hr] at HF1
  clear hr
  generalize r.isSome = b at *
  generalize r.getD En.zero = y at *
  obtain ⟨yp, yk, yt, yo⟩ := y
  simp only [En.agg, En.cells]
  have hB10 := hB9.alloc hB9.size (.cells #[.string yp, .int .i64 yk, .string yt, .bool yo] 45)
  have hq10 := hq9.alloc (.cells #[.string yp, .int .i64 yk, .string yt, .bool yo] 45)
  have hz10 := hz9.alloc (.cells #[.string yp, .int .i64 yk, .string yt, .bool yo] 45)
  have hrS10 : EnRd (w9.alloc (.cells #[.string yp, .int .i64 yk, .string yt, .bool yo] 45)) (w9.alloc (.cells #[.string yp, .int .i64 yk, .string yt, .bool yo] 45)).heap.size AS S := (Rd.alloc hrS9 (Nat.le_refl _) _).more (by simp)
  have hrB10 : EnRd (w9.alloc (.cells #[.string yp, .int .i64 yk, .string yt, .bool yo] 45)) (w9.alloc (.cells #[.string yp, .int .i64 yk, .string yt, .bool yo] 45)).heap.size AB (Tr.belowU u) := (Rd.alloc hrB9 (Nat.le_refl _) _).more (by simp)
  clear hB9 hq9 hz9 hrS9 hrB9
  obtain ⟨U1, hU1⟩ : ∃ U1, U1 = if b = true then Tr.dropE (Tr.belowU u) u.U d.data.toList else u.U := ⟨_, rfl⟩
  have HU1 := Lib.hid hU1
  rw [← hU1] at HF1
  clear hU1
  have HOK1 : Hid (Tr.Ok U1 161) := Lib.hid (by
    rw [HU1.out]
    split
    · exact Tr.ok_drop _ HOK0.out HM.out.d0 HM.out.dl
    · exact HOK0.out.more (by omega))
  have hbl : (Tr.belowU u).length ≤ 1000000 := by have := HP.out.bl; omega
  have HBL := Lib.hid hbl
  clear hbl
  go_upto_region 12 with fail
  generalize w9.alloc (.cells #[.string yp, .int .i64 yk, .string yt, .bool yo] 45) = w10 at *
  generalize w9.heap.size = gy at *
  have hrU10 : EnRd w10 w10.heap.size A u.U := ((HU.out.below hB10).more hB10.size).up
  go_upto_if 57 with fail
  go_cut [14] (fun v wx => ∃ A1 c1, v = .slice A1 U1.length c1 ∧ EnRd wx wx.heap.size A1 U1 ∧ Below w10.heap.size w10 wx)
  case first =>
    cases b
    · go_wp2_with fail
      go_meet
      case rel => exact ⟨A, c, by rw [HU1.out]; rfl, by rw [HU1.out]; exact hrU10, Below.refl _ _⟩
    · go_wp2_with fail
      refine (refDrop_any A AB c cB u.U (Tr.belowU u) d w10 hrU10 hrB10 (HOK0.out.more (by omega)) HBL.out HM.out.d0 HM.out.dl).mono ?_
      rintro e w11 ⟨v11, rfl, ho11, hb11⟩
      obtain ⟨A11, c11, rfl, hc11, hr11⟩ := EnOwn.rd ho11
      go_wp2_with fail
      go_meet
      case rel => exact ⟨A11, c11, by rw [HU1.out]; rfl, by rw [HU1.out]; exact hr11, hb11⟩
  case rest =>
  clear hrU10 HU1
  obtain ⟨A1, c1, rfl, hr1, hb⟩ := hcut
  generalize wc = w11 at *
  have hB11 := hB10.trans (hb.mono hB10.size)
  have hq11 := hq10.below hb hq10.lt
  have hz11 := hz10.below hb hz10.lt
  have hrS11 : EnRd w11 w11.heap.size AS S := (Rd.below hrS10 hb).more hb.size
  have hrB11 : EnRd w11 w11.heap.size AB (Tr.belowU u) := (Rd.below hrB10 hb).more hb.size
  clear hb hB10 hq10 hz10 hrS10 hrB10
  have HOK2 : Hid (Tr.Ok (Tr.dropE (Tr.belowU u) U1 s.data.toList) 242) := Lib.hid (Tr.ok_drop _ HOK1.out HM.out.s0 HM.out.sl)
  go_wp2_with fail
  refine (refDrop_any A1 AB c1 cB U1 (Tr.belowU u) s w11 hr1 hrB11 (HOK1.out.more (by omega)) HBL.out HM.out.s0 HM.out.sl).mono ?_
  rintro e w12 ⟨v12, rfl, ho12, hb⟩
  have hB12 := hB11.trans (hb.mono hB11.size)
  have hq12 := hq11.below hb hq11.lt
  have hz12 := hz11.below hb hz11.lt
  have hrS12 : EnRd w12 w12.heap.size AS S := (Rd.below hrS11 hb).more hb.size
  have hbs2 := hb.size
  have hbs1 : w.heap.size + 1 < w11.heap.size := hz11.lt
  generalize w11.heap.size = bs at ho12 hbs1 hbs2
  clear hb hB11 hq11 hz11 hrS11 hrB11 hr1 HBL
  obtain ⟨U2, hU2⟩ : ∃ U2, U2 = Tr.dropE (Tr.belowU u) U1 s.data.toList := ⟨_, rfl⟩
  rw [← hU2] at HOK2 ho12 HF1
  clear hU2 HOK1
  have HOKA : Hid (∀ k, k ≤ S.length → Tr.Ok (Tr.setAll U2 (Tr.movedO (S.take k) s.data.toList d.data.toList)) 7000) := Lib.hid (fun k hk => by
    have hml : (Tr.movedO (S.take k) s.data.toList d.data.toList).length ≤ 80 := by
      unfold Tr.movedO
      rw [List.length_map]
      refine Nat.le_trans (List.length_filter_le _ _) ?_
      rw [List.length_take]
      have := HP.out.sl; omega
    refine (Tr.ok_all HOK2.out fun e he => HM.out.mv e ?_).more (by omega)
    obtain ⟨y, hy, h1, h2⟩ := Tr.mem_movedO.1 he
    exact Tr.mem_movedO.2 ⟨y, List.mem_of_mem_take hy, h1, h2⟩)
  clear HOK2 HOK0
  have hSl : S.length ≤ 80 := HP.out.sl
  go_wp2_with fail
  go_loopw [14, 68] (fun v i wr => ∃ (k : Nat), k ≤ S.length ∧ i = .int .i64 k ∧ EnOwn wr bs v (Tr.setAll U2 (Tr.movedO (S.take k) s.data.toList d.data.toList)) ∧ Below w12.heap.size w12 wr ∧ Below w.heap.size w wr) (fun _ i _ => S.length - (intOf i).toNat)
  case atStart => exact ⟨0, Nat.zero_le _, rfl, ho12, Below.refl _ _, hB12⟩
  case round =>
    clear ho12
    obtain ⟨k, hk, rfl, hor, hbr, hB⟩ := hrel
    by_cases hlt : k < S.length
    · obtain ⟨b2, o2, hA, hbb, h0, h1, h2, h3⟩ := EnRd.at_ ((Rd.below hrS12 hbr).more hbr.size) hlt
      subst hA
      have HOKK := Lib.hid (HOKA.out k hk)
      have hkl := HOKK.out.len
      have HY := Lib.hid (Tr.movedO_yes (s := s.data.toList) (d := d.data.toList) hlt)
      have HNO := Lib.hid (Tr.movedO_no (s := s.data.toList) (d := d.data.toList) hlt)
      have HME := Lib.hid (show Tr.mv s.data.toList S[k].P → (Tr.renE s.data.toList d.data.toList S[k]).P ≠ [] ∧ (Tr.renE s.data.toList d.data.toList S[k]).p.size ≤ 80 ∧ (Tr.renE s.data.toList d.data.toList S[k]).t.size < 4294967281 from fun h => HM.out.mv _ (Tr.mem_movedO.2 ⟨S[k], List.getElem_mem hlt, h, rfl⟩))
      have hzz := (Sm.at_ (Tr.right_sm HP.out.sr) hlt).1
      generalize S[k] = z at h0 h1 h2 h3 HY HNO HME hzz
      obtain ⟨yp, yk, yt, yo⟩ := z
      dsimp only at h0 h1 h2 h3 hzz
      obtain ⟨LK, hLK⟩ : ∃ LK, LK = Tr.setAll U2 (Tr.movedO (S.take k) s.data.toList d.data.toList) := ⟨_, rfl⟩
      have HLK := Lib.hid hLK
      rw [← hLK] at hor HOKK hkl
      clear hLK
      have HSt := Lib.hid (ren_at (s := s) (d := d) (y := yp) yk yt yo)
      rcases te3 : (yp.toList == s.toList) with _ | _
      rotate_left
      · have hq : yp.data.toList = s.data.toList := by rw [toList_beq] at te3; simpa using te3
        have HMV : Hid (Tr.mv s.data.toList yp.data.toList) := Lib.hid (.inl hq)
        have hle2 : s.size ≤ yp.size := by rw [← size_length s, ← size_length yp, hq]; exact Nat.le_refl _
        clear hq
        have HRN := Lib.hid (HSt.out HMV.out)
        have HN := Lib.hid (HY.out HMV.out)
        have HE := Lib.hid (HME.out HMV.out)
        rw [HRN.out] at HN HE
        obtain ⟨np, hnp⟩ : ∃ np, np = d ++ yp.extract s.size yp.size := ⟨_, rfl⟩
        rw [← hnp] at HN HE
        clear HY HNO HME HSt HRN
        obtain ⟨AK, cK, rfl, hcK, hrK⟩ := EnOwn.rd hor
        have hrK2 : EnRd (wr.alloc (.cells #[.string np, .int .i64 yk, .string yt, .bool yo] 45)) (wr.alloc (.cells #[.string np, .int .i64 yk, .string yt, .bool yo] 45)).heap.size AK LK := (Rd.alloc hrK (Nat.le_refl _) _).more (by simp)
        have hbw := hbr.trans ((Below.refl wr.heap.size wr).alloc (Nat.le_refl _) (.cells #[.string np, .int .i64 yk, .string yt, .bool yo] 45)|>.mono hbr.size)
        have hBw := hB.alloc hB.size (.cells #[.string np, .int .i64 yk, .string yt, .bool yo] 45)
        have hyw := Blk.new wr 45 [.string np, .int .i64 yk, .string yt, .bool yo]
        go_wp2_with fail
        try rw [← hnp]
        refine (refSet_any np.size AK cK LK ⟨np, yk, yt, yo⟩ (wr.alloc (.cells #[.string np, .int .i64 yk, .string yt, .bool yo] 45)) hrK2 (HOKK.out.more (by have h8 : np.size ≤ 80 := HE.out.2.1; omega)) (by have h8 : np.size ≤ 80 := HE.out.2.1; omega) HE.out.1 (Nat.le_of_eq (size_length np)) (by show np.size < 4294967281; have h8 : np.size ≤ 80 := HE.out.2.1; omega) HE.out.2.2).mono ?_
        rintro e w20 ⟨v20, rfl, ho20, hb20⟩
        have ho20 : EnOwn w20 bs v20 _ := own_base ho20 (Nat.le_trans hbs2 hbw.size)
        go_wp2_with fail
        go_roundw
        case rel => exact ⟨k + 1, hlt, by go_num, by rw [HN.out, Tr.setAll_snoc, ← HLK.out]; exact ho20, hbw.trans (hb20.mono hbw.size), hBw.trans (hb20.mono hBw.size)⟩
        case measure => simp [intOf]; omega
      have hq : ¬ yp.data.toList = s.data.toList := by rw [toList_beq] at te3; simpa using te3
      go_wp2_with fail
      refine (refUnder_any yp s _ (by omega)).mono ?_
      rintro e w' ⟨rfl, rfl⟩
      rcases tu : Pt.under yp.data.toList s.data.toList with _ | _
      rotate_left
      · have HMV : Hid (Tr.mv s.data.toList yp.data.toList) := Lib.hid (.inr tu)
        have hle2 : s.size ≤ yp.size := by
          have := Tr.under_len HM.out.s0 tu
          rw [size_length, size_length] at this; omega
        clear hq
        have HRN := Lib.hid (HSt.out HMV.out)
        have HN := Lib.hid (HY.out HMV.out)
        have HE := Lib.hid (HME.out HMV.out)
        rw [HRN.out] at HN HE
        obtain ⟨np, hnp⟩ : ∃ np, np = d ++ yp.extract s.size yp.size := ⟨_, rfl⟩
        rw [← hnp] at HN HE
        clear HY HNO HME HSt HRN
        obtain ⟨AK, cK, rfl, hcK, hrK⟩ := EnOwn.rd hor
        have hrK2 : EnRd (wr.alloc (.cells #[.string np, .int .i64 yk, .string yt, .bool yo] 45)) (wr.alloc (.cells #[.string np, .int .i64 yk, .string yt, .bool yo] 45)).heap.size AK LK := (Rd.alloc hrK (Nat.le_refl _) _).more (by simp)
        have hbw := hbr.trans ((Below.refl wr.heap.size wr).alloc (Nat.le_refl _) (.cells #[.string np, .int .i64 yk, .string yt, .bool yo] 45)|>.mono hbr.size)
        have hBw := hB.alloc hB.size (.cells #[.string np, .int .i64 yk, .string yt, .bool yo] 45)
        have hyw := Blk.new wr 45 [.string np, .int .i64 yk, .string yt, .bool yo]
        go_wp2_with fail
        try rw [← hnp]
        refine (refSet_any np.size AK cK LK ⟨np, yk, yt, yo⟩ (wr.alloc (.cells #[.string np, .int .i64 yk, .string yt, .bool yo] 45)) hrK2 (HOKK.out.more (by have h8 : np.size ≤ 80 := HE.out.2.1; omega)) (by have h8 : np.size ≤ 80 := HE.out.2.1; omega) HE.out.1 (Nat.le_of_eq (size_length np)) (by show np.size < 4294967281; have h8 : np.size ≤ 80 := HE.out.2.1; omega) HE.out.2.2).mono ?_
        rintro e w20 ⟨v20, rfl, ho20, hb20⟩
        have ho20 : EnOwn w20 bs v20 _ := own_base ho20 (Nat.le_trans hbs2 hbw.size)
        go_wp2_with fail
        go_roundw
        case rel => exact ⟨k + 1, hlt, by go_num, by rw [HN.out, Tr.setAll_snoc, ← HLK.out]; exact ho20, hbw.trans (hb20.mono hbw.size), hBw.trans (hb20.mono hBw.size)⟩
        case measure => simp [intOf]; omega
      · have HN := Lib.hid (HNO.out (show ¬ (yp.data.toList = s.data.toList ∨ Pt.under yp.data.toList s.data.toList = true) from fun h => h.elim hq (fun h => by rw [tu] at h; cases h)))
        clear HY HNO HME hq
        go_wp2_with fail
        go_roundw
        case rel => exact ⟨k + 1, hlt, by go_num, by rw [HN.out, ← HLK.out]; exact own_alloc hor _, hbr.trans ((Below.refl _ _).alloc hbr.size _), hB.alloc hB.size _⟩
        case measure => simp [intOf]; omega
    · obtain rfl : k = S.length := by omega
      rw [List.take_length] at hor
      obtain ⟨V, hV⟩ : ∃ V, V = Tr.setAll U2 (Tr.movedO S s.data.toList d.data.toList) := ⟨_, rfl⟩
      have HF := HF1
      rw [← hV] at HF hor
      clear hV HF1 HOKA
      obtain ⟨AV, cV, rfl, hcV, hrV⟩ := EnOwn.rd hor
      have hq9 := hq12.below hbr hq12.lt
      have hz9 := hz12.below hbr hz12.lt
      have hB9 := hB
      clear hbr hq12 hz12 hB12 hB hrS12
      generalize wr = w9 at *
      have cDn := done_any A A' AV c c' cV u V w9
      obtain ⟨q0, q1, qf, qz⟩ := hq9.two
      by_cases h80 : 80 < V.length
      · have HRR := Lib.hid (HF.out.trans (fin_no h80))
        simp only [if_pos h80] at cDn
        clear HF h80
        go_wp2_with fail
        clear q0 q1 qf qz
        refine cDn.mono ?_
        rintro e w7 ⟨rfl, hb⟩
        have hz7 := hz9.below hb hz9.lt
        have hB7 := hB9.trans (hb.mono hB9.size)
        obtain ⟨z0, z1, zf, zz⟩ := hz7.two
        go_wp2_with fail
        refine bodyPost_ret (v := .tuple #[.agg #[.slice none 0 0, .slice none 0 0], .int .i64 5]) ?_ rfl ?_
        · simp [results, Tryz.results26, go_sem, z0, z1]
        rw [HRR.out]
        exact RefUnRes.none ((hB7.setCell (p := ⟨w.heap.size + 1, 0, none⟩) (by show w.heap.size ≤ w.heap.size + 1; omega) (.slice none 0 0)).setCell (p := ⟨w.heap.size + 1, 1, none⟩) (by show w.heap.size ≤ w.heap.size + 1; omega) (.slice none 0 0))
      · have HRR := Lib.hid (HF.out.trans (fin_ok h80))
        simp only [if_neg h80] at cDn
        clear HF h80
        go_wp2_with fail
        clear q0 q1 qf qz
        refine cDn.mono ?_
        rintro e w7 ⟨rfl, hb⟩
        have hz7 := hz9.below hb hz9.lt
        have hB7 := hB9.trans (hb.mono hB9.size)
        obtain ⟨z0, z1, zf, zz⟩ := hz7.two
        go_wp2_with fail
        have hgz : w.heap.size + 1 < w9.heap.size := hz9.lt
        have ho7 : EnOwn w7 bs (.slice AV V.length cV) V := own_below hor hb (Nat.le_refl _)
        have hne : some (w.heap.size + 1) ≠ (Value.slice AV V.length cV).ownBlock := own_ne ho7 (.inl hbs1)
        refine bodyPost_ret (v := .tuple #[.agg #[.slice AV V.length cV, .slice A' u.L.length c'], .int .i64 0]) ?_ rfl ?_
        · simp [results, Tryz.results26, go_sem, z0, z1]
        rw [HRR.out]
        have hB8 := ((hB7.setCell (p := ⟨w.heap.size + 1, 0, none⟩) (by show w.heap.size ≤ w.heap.size + 1; omega) (.slice AV V.length cV)).setCell (p := ⟨w.heap.size + 1, 1, none⟩) (by show w.heap.size ≤ w.heap.size + 1; omega) (.slice A' u.L.length c'))
        exact ⟨_, _, _, _, rfl, un_far2 (HUN.out.below (hB8.mono hN)) (Nat.le_trans hN hB8.size) (own_base (own_far (own_far ho7 hne 0 _) hne 1 _) (by omega)), hB8⟩
end Go.Proofs.YtjppfhgkanbemabGreatDoor
