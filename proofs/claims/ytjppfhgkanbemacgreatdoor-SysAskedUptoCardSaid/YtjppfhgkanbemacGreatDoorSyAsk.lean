/-
  SysAsked's own walk. (Printed by wip/gensydr.py.)
-/
import Derived.Test.YtjppfhgkanbemacGreatDoorSyDr
namespace Go.Proofs.YtjppfhgkanbemacGreatDoor
open Go.RowKit Go.Shelf Go.Sort

set_option maxHeartbeats 1000000 in
set_option maxRecDepth 100000 in
theorem sysAsked_any (A A' : Option Addr) (c c' : Nat) (u : Un) (Al : Option Addr) (cl : Nat) (l : List Ca) (w : World) (hu : UnRd w w.heap.size A A' c c' u) (hs : UnSm u) (hl : CasRd w Al l) (hsm : ∀ x ∈ l, CaSm x) (hn : l.length ≤ 4000000) :
    Calls Tryz.prog 6 #[.agg #[.slice A u.U.length c, .slice A' u.L.length c'], .slice Al l.length cl] w fun e w' => e = .returned (.bool true) ∧ Below w.heap.size w w' := by
  obtain ⟨i0, hif, hi0, hi1, hi2⟩ := info_parts info_ca
  obtain ⟨j0, hjf, hj0, hj1, hj2⟩ := info_parts info_an
  have HS := Lib.hid hs
  have HU := Lib.hid hu
  have HL := Lib.hid hl
  have HSM := Lib.hid hsm
  have hb0 := ((Below.refl w.heap.size w).alloc (Nat.le_refl _) (.cells #[.slice A u.U.length c, .slice A' u.L.length c'] 26))
  have hq0 := (Blk.new w 26 [.slice A u.U.length c, .slice A' u.L.length c'])
  clear hu hs hl hsm
  obtain ⟨r, hr⟩ : ∃ r, r = Sy.play u l := ⟨_, rfl⟩
  have hlen : r.2.2 = 0 → r.2.1.length = l.length ∧ l.length ≤ 80 := by rw [hr]; exact fun h => ⟨(Sy.play_len h).1, (Sy.play_len h).2.1⟩
  have hok : r.2.2 = 0 → Tr.Fine r.1.1 ∧ Tr.seenU r.1.1 = (r.1.2.1, 0) ∧ r.1.1.L = u.L ∧ r.1.2.1.length ≤ 80 ∧ Tr.Right false r.1.2.1 := by rw [hr]; exact Sy.play_ok2
  have hdr : r.2.2 = 0 → Sy.play u (Sy.drop Sy.notAsked l r.2.1) = (r.1, Sy.dropA Sy.notAsked l r.2.1, 0) := by rw [hr]; exact Sy.play_drop Sy.asked_same
  have HR := Lib.hid hr.symm
  have HLN := Lib.hid hlen
  have HOK := Lib.hid hok
  have HDR := Lib.hid hdr
  clear hr hlen hok hdr
  obtain ⟨⟨u2, T2, n2⟩, an, e2⟩ := r
  dsimp only at HLN HOK HDR
  go_enter Tryz.func6, Tryz.ntmps6
  go_upto_region 1 with fail
  generalize w.alloc (.cells #[.slice A u.U.length c, .slice A' u.L.length c'] 26) = w0 at *
  go_wp2_with fail
  refine (law6Alive_any w0).mono ?_
  rintro e w1 ⟨rfl, hb⟩
  have hB1 := hb0.trans (hb.mono hb0.size)
  have hq1 := hq0.below hb hq0.lt
  clear hb hb0 hq0
  obtain ⟨q0, q1, qf, qz⟩ := hq1.two
  have cP := play_any A A' Al c c' cl u l w1 ((HU.out.below hB1).more hB1.size) HS.out (HL.out.below hB1) HSM.out hn
  rw [HR.out] at cP
  unfold PlayRel at cP
  dsimp only at cP
  have HC := Lib.hid cP
  clear cP HR
  go_wp2_with fail
  clear q0 q1 qf qz
  refine HC.out.mono ?_
  rintro e w2 ⟨A2, A2', c2, c2', AT2, cT2, va, rfl, hU2, hT2, -, hO2, hb⟩
  have hB2 := hB1.trans (hb.mono hB1.size)
  have hq2 := hq1.below hb hq1.lt
  clear hb hB1 hq1 HC
  have hb3 := (Below.refl w2.heap.size w2).alloc (Nat.le_refl _) (.cells #[.slice A2 u2.U.length c2, .slice A2' u2.L.length c2', .slice AT2 T2.length cT2, .int .i64 n2] 33)
  have hB3 := hB2.trans (hb3.mono hB2.size)
  have hq3 := hq2.below hb3 hq2.lt
  have hU3 := (hU2.below hb3).more hb3.size
  have hT3 := (Rd.below hT2 hb3).more hb3.size
  have hO3 := rd_ans hO2 hb3
  have hs3 := Blk.new w2 33 [.slice A2 u2.U.length c2, .slice A2' u2.L.length c2', .slice AT2 T2.length cT2, .int .i64 n2]
  clear hb3 hB2 hq2 hU2 hT2 hO2
  go_upto_region 4 with fail
  change Code.wp _ _ _ _ (w2.alloc (.cells #[.slice A2 u2.U.length c2, .slice A2' u2.L.length c2', .slice AT2 T2.length cT2, .int .i64 n2] 33))
  generalize w2.alloc (.cells #[.slice A2 u2.U.length c2, .slice A2' u2.L.length c2', .slice AT2 T2.length cT2, .int .i64 n2] 33) = w3 at *
  generalize w2.heap.size = gs at *
  rcases te : (e2 != 0) with _ | _
  rotate_left
  · go_wp2_with fail
    go_ret
    exact ⟨rfl, hB3⟩
  have he2 : e2 = 0 := by simpa using te
  subst he2
  obtain ⟨hal, hl80⟩ := HLN.out rfl
  have hal1 : an.length ≤ l.length := Nat.le_of_eq hal
  have hal2 : l.length ≤ an.length := Nat.le_of_eq hal.symm
  have HAL := Lib.hid hal
  obtain ⟨hfine, -, -, hTl, -⟩ := HOK.out rfl
  have HF := Lib.hid hfine
  have hdr := HDR.out rfl
  have HDR2 := Lib.hid hdr
  have HL3 := Lib.hid (HL.out.below hB3)
  obtain ⟨Aa, ca, rfl, hat⟩ := hO3.at_
  have HAT := Lib.hid hat
  clear hfine hdr HDR HOK HLN hO3 hat HL te hal
  go_wp2_with fail
  go_loopw [8, 9, 28] (fun u8 u9 i wr => ∃ k : Nat, k ≤ l.length ∧ i = .int .i64 k ∧ Hid (wr.ownsRow w3.heap.size 50 9 u8 (Sy.drop Sy.notAsked (l.take k) (an.take k)).length ((Sy.drop Sy.notAsked (l.take k) (an.take k)).flatMap Ca.cells)) ∧ Hid (Wants w3 wr w3.heap.size u9 (Sy.dropA Sy.notAsked (l.take k) (an.take k))) ∧ Below w3.heap.size w3 wr) (fun _ _ i _ => l.length - (intOf i).toNat)
  case atStart => exact ⟨0, Nat.zero_le _, rfl, Lib.hid (World.ownsRow_nil _ _ _ _), Lib.hid (Wants.nil _ _ _), Below.refl _ _⟩
  case round =>
    obtain ⟨k, hk, rfl, HG, HW, hB⟩ := hrel
    by_cases hlt : k < l.length
    · have hka : k < an.length := by omega
      obtain ⟨bc, oc, rfl, hbc, c0, c1, c2q, c3, c4, c5, c6, c7, c8⟩ := HL3.out k hlt
      obtain ⟨ba, oa, Ak, ck, rfl, hba, p0, p1, p2, p3, pn⟩ := HAT.out k hka
      have hG : Sy.drop Sy.notAsked (l.take (k + 1)) (an.take (k + 1)) = Sy.drop Sy.notAsked (l.take k) (an.take k) ++ (if Sy.notAsked l[k] an[k] = true then [l[k]] else []) := by
        rw [List.take_succ_eq_append_getElem hlt, List.take_succ_eq_append_getElem hka]
        exact (Sy.drop_snoc _ _ _ _ (by simp only [List.length_take]; omega)).1
      have hW : Sy.dropA Sy.notAsked (l.take (k + 1)) (an.take (k + 1)) = Sy.dropA Sy.notAsked (l.take k) (an.take k) ++ (if Sy.notAsked l[k] an[k] = true then [an[k]] else []) := by
        rw [List.take_succ_eq_append_getElem hlt, List.take_succ_eq_append_getElem hka]
        exact (Sy.drop_snoc _ _ _ _ (by simp only [List.length_take]; omega)).2
      have hgl := (Sy.drop_lens (f := Sy.notAsked) (l.take k) (an.take k))
      have hgk : (l.take k).length ≤ k := by rw [List.length_take]; omega
      have hGl := Nat.le_trans hgl.2 hgk
      have hDl := Nat.le_trans (Nat.le_of_eq hgl.1.symm) hGl
      clear hgl hgk
      generalize Sy.drop Sy.notAsked (l.take k) (an.take k) = G at HG hG hGl
      generalize Sy.dropA Sy.notAsked (l.take k) (an.take k) = D at HW hW hDl
      generalize l[k] = y at c0 c1 c2q c3 c4 c5 c6 c7 c8 hG hW
      generalize an[k] = x at p0 p1 p2 p3 pn hG hW
      obtain ⟨yk, yo, yf, yn, ym, yp, yt, yx, ya⟩ := y
      dsimp only at c0 c1 c2q c3 c4 c5 c6 c7 c8
      have hbc' : bc < wr.heap.size := Nat.lt_of_lt_of_le hbc hB.size
      have hba' : ba < wr.heap.size := Nat.lt_of_lt_of_le hba hB.size
      replace c0 : wr.cell? ⟨bc, oc + k * 9, none⟩ = _ := (hB.cell (p := ⟨bc, oc + k * 9, none⟩) hbc).trans c0
      replace c1 : wr.cell? ⟨bc, oc + k * 9 + 1, none⟩ = _ := (hB.cell (p := ⟨bc, oc + k * 9 + 1, none⟩) hbc).trans c1
      replace c2q : wr.cell? ⟨bc, oc + k * 9 + 2, none⟩ = _ := (hB.cell (p := ⟨bc, oc + k * 9 + 2, none⟩) hbc).trans c2q
      replace c3 : wr.cell? ⟨bc, oc + k * 9 + 3, none⟩ = _ := (hB.cell (p := ⟨bc, oc + k * 9 + 3, none⟩) hbc).trans c3
      replace c4 : wr.cell? ⟨bc, oc + k * 9 + 4, none⟩ = _ := (hB.cell (p := ⟨bc, oc + k * 9 + 4, none⟩) hbc).trans c4
      replace c5 : wr.cell? ⟨bc, oc + k * 9 + 5, none⟩ = _ := (hB.cell (p := ⟨bc, oc + k * 9 + 5, none⟩) hbc).trans c5
      replace c6 : wr.cell? ⟨bc, oc + k * 9 + 6, none⟩ = _ := (hB.cell (p := ⟨bc, oc + k * 9 + 6, none⟩) hbc).trans c6
      replace c7 : wr.cell? ⟨bc, oc + k * 9 + 7, none⟩ = _ := (hB.cell (p := ⟨bc, oc + k * 9 + 7, none⟩) hbc).trans c7
      replace c8 : wr.cell? ⟨bc, oc + k * 9 + 8, none⟩ = _ := (hB.cell (p := ⟨bc, oc + k * 9 + 8, none⟩) hbc).trans c8
      have p0' : w3.cell? ⟨ba, oa + k * 4, none⟩ = _ := p0
      have p1' : w3.cell? ⟨ba, oa + k * 4 + 1, none⟩ = _ := p1
      have p2' : w3.cell? ⟨ba, oa + k * 4 + 2, none⟩ = _ := p2
      have p3' : w3.cell? ⟨ba, oa + k * 4 + 3, none⟩ = _ := p3
      clear p0 p1 p2 p3
      have hb1 := (Below.refl wr.heap.size wr).alloc (Nat.le_refl _) (.cells #[.int .i64 yk, .int .i64 yo, .int .i64 yf, .int .i64 yn, .int .i64 ym, .string yp, .string yt, .string yx, .bool ya] 50)
      have hc1 := Blk.new wr 50 [.int .i64 yk, .int .i64 yo, .int .i64 yf, .int .i64 yn, .int .i64 ym, .string yp, .string yt, .string yx, .bool ya]
      have hBq := hB.trans (hb1.mono hB.size)
      have hoG := own_below HG.out hb1 (Nat.le_refl _)
      have HW1 := Lib.hid (HW.out.below hb1 (Nat.le_refl _))
      have hgc : w3.heap.size ≤ wr.heap.size := hB.size
      have hgz : wr.heap.size < (wr.alloc (.cells #[.int .i64 yk, .int .i64 yo, .int .i64 yf, .int .i64 yn, .int .i64 ym, .string yp, .string yt, .string yx, .bool ya] 50)).heap.size := by simp only [World.size_alloc]; omega
      have hgcG : ∀ q, u8.ownBlock = some q → q < wr.heap.size := fun q e => (World.ownsRow.lt HG.out q e).2
      have hgcW : ∀ q, u9.ownBlock = some q → q < wr.heap.size := fun q e => by
        obtain ⟨vs, _, g2, _⟩ := HW.out
        exact (World.ownsRow.lt g2 q e).2
      have HGG := Lib.hid hG
      have HWW := Lib.hid hW
      clear HG HW hG hW hb1 hB
      go_upto_region 11 with fail
      change Code.wp _ _ _ _ (wr.alloc (.cells #[.int .i64 yk, .int .i64 yo, .int .i64 yf, .int .i64 yn, .int .i64 ym, .string yp, .string yt, .string yx, .bool ya] 50))
      generalize wr.alloc (.cells #[.int .i64 yk, .int .i64 yo, .int .i64 yf, .int .i64 yn, .int .i64 ym, .string yp, .string yt, .string yx, .bool ya] 50) = wq at *
      generalize wr.heap.size = gc at *
      have g0 : wq.cell? ⟨gc, 0, none⟩ = some (.int .i64 yk) := hc1.cell 0
      have g1 : wq.cell? ⟨gc, 1, none⟩ = some (.int .i64 yo) := hc1.cell 1
      have g2 : wq.cell? ⟨gc, 2, none⟩ = some (.int .i64 yf) := hc1.cell 2
      have g3 : wq.cell? ⟨gc, 3, none⟩ = some (.int .i64 yn) := hc1.cell 3
      have g4 : wq.cell? ⟨gc, 4, none⟩ = some (.int .i64 ym) := hc1.cell 4
      have g5 : wq.cell? ⟨gc, 5, none⟩ = some (.string yp) := hc1.cell 5
      have g6 : wq.cell? ⟨gc, 6, none⟩ = some (.string yt) := hc1.cell 6
      have g7 : wq.cell? ⟨gc, 7, none⟩ = some (.string yx) := hc1.cell 7
      have g8 : wq.cell? ⟨gc, 8, none⟩ = some (.bool ya) := hc1.cell 8
      have p0 := (hBq.cell (p := ⟨ba, oa + k * 4, none⟩) hba).trans p0'
      have p1 := (hBq.cell (p := ⟨ba, oa + k * 4 + 1, none⟩) hba).trans p1'
      have p2 := (hBq.cell (p := ⟨ba, oa + k * 4 + 2, none⟩) hba).trans p2'
      have p3 := (hBq.cell (p := ⟨ba, oa + k * 4 + 3, none⟩) hba).trans p3'
      clear c0 c1 c2q c3 c4 c5 c6 c7 c8 p0' p1' p2' p3'
      rcases t1 : (yk != 11) with _ | _
      · have hf : Sy.notAsked ⟨yk, yo, yf, yn, ym, yp, yt, yx, ya⟩ x = false := by unfold Sy.notAsked; dsimp only; rw [t1]; rfl
        rw [hf] at HGG HWW
        simp only [Bool.false_eq_true, if_false, List.append_nil] at HGG HWW
        go_wp2_with fail
        go_roundw
        case rel => exact ⟨k + 1, hlt, by go_num, by rw [HGG.out]; exact Lib.hid hoG, by rw [HWW.out]; exact HW1, hBq⟩
        case measure => simp [intOf]; omega
      rcases t2 : (yk != 12) with _ | _
      · have hf : Sy.notAsked ⟨yk, yo, yf, yn, ym, yp, yt, yx, ya⟩ x = false := by unfold Sy.notAsked; dsimp only; rw [t1, t2]; rfl
        rw [hf] at HGG HWW
        simp only [Bool.false_eq_true, if_false, List.append_nil] at HGG HWW
        go_wp2_with fail
        go_roundw
        case rel => exact ⟨k + 1, hlt, by go_num, by rw [HGG.out]; exact Lib.hid hoG, by rw [HWW.out]; exact HW1, hBq⟩
        case measure => simp [intOf]; omega
      · have hf : Sy.notAsked ⟨yk, yo, yf, yn, ym, yp, yt, yx, ya⟩ x = true := by unfold Sy.notAsked; dsimp only; rw [t1, t2]; rfl
        rw [hf] at HGG HWW
        simp only [if_true] at HGG HWW
        obtain ⟨vs, hv1, hv2, hv3⟩ := HW1.out
        have HV3 := Lib.hid hv3
        have hneG : some gc ≠ u8.ownBlock := fun e => by have := hgcG gc e.symm; omega
        have hneW : some gc ≠ u9.ownBlock := fun e => by have := hgcW gc e.symm; omega
        clear hv3 HW1
        have p0' : w3.cell? ⟨ba, oa + k * 4, none⟩ = some (.int .i64 x.err) := (hBq.cell (p := ⟨ba, oa + k * 4, none⟩) hba).symm.trans p0
        have p1' : w3.cell? ⟨ba, oa + k * 4 + 1, none⟩ = some (.int .i64 x.n) := (hBq.cell (p := ⟨ba, oa + k * 4 + 1, none⟩) hba).symm.trans p1
        have p2' : w3.cell? ⟨ba, oa + k * 4 + 2, none⟩ = some (.string x.text) := (hBq.cell (p := ⟨ba, oa + k * 4 + 2, none⟩) hba).symm.trans p2
        have p3' : w3.cell? ⟨ba, oa + k * 4 + 3, none⟩ = some (.slice Ak x.names.length ck) := (hBq.cell (p := ⟨ba, oa + k * 4 + 3, none⟩) hba).symm.trans p3
        go_upto_region 12 with fail
        have hoGd : wq.drew.ownsRow w3.heap.size 50 9 u8 G.length (G.flatMap Ca.cells) := hoG
        have hoWd : wq.drew.ownsRow w3.heap.size 41 4 u9 D.length (anCells D vs) := hv2
        have hBd : Below w3.heap.size w3 wq.drew := hBq.drew
        have hcd : Blk wq.drew gc 50 [.int .i64 yk, .int .i64 yo, .int .i64 yf, .int .i64 yn, .int .i64 ym, .string yp, .string yt, .string yx, .bool ya] := hc1.drew
        have hBb1 := hBd.alloc hBd.size (.cells #[.int .i64 yk, .int .i64 yo, .int .i64 yf, .int .i64 yn, .int .i64 ym, .string yp, .string yt, .string yx, .bool ya] 50)
        have hBb := hBb1.alloc hBb1.size (.cells #[.int .i64 x.err, .int .i64 x.n, .string x.text, .slice Ak x.names.length ck] 41)
        have hoGb := own_alloc (own_alloc hoGd (.cells #[.int .i64 yk, .int .i64 yo, .int .i64 yf, .int .i64 yn, .int .i64 ym, .string yp, .string yt, .string yx, .bool ya] 50)) (.cells #[.int .i64 x.err, .int .i64 x.n, .string x.text, .slice Ak x.names.length ck] 41)
        have hoWb := own_alloc (own_alloc hoWd (.cells #[.int .i64 yk, .int .i64 yo, .int .i64 yf, .int .i64 yn, .int .i64 ym, .string yp, .string yt, .string yx, .bool ya] 50)) (.cells #[.int .i64 x.err, .int .i64 x.n, .string x.text, .slice Ak x.names.length ck] 41)
        have hcb := (hcd.alloc (.cells #[.int .i64 yk, .int .i64 yo, .int .i64 yf, .int .i64 yn, .int .i64 ym, .string yp, .string yt, .string yx, .bool ya] 50)).alloc (.cells #[.int .i64 x.err, .int .i64 x.n, .string x.text, .slice Ak x.names.length ck] 41)
        have hlCb := (Blk.new wq.drew 50 [.int .i64 yk, .int .i64 yo, .int .i64 yf, .int .i64 yn, .int .i64 ym, .string yp, .string yt, .string yx, .bool ya]).alloc (.cells #[.int .i64 x.err, .int .i64 x.n, .string x.text, .slice Ak x.names.length ck] 41)
        have hlAb := Blk.new (wq.drew.alloc (.cells #[.int .i64 yk, .int .i64 yo, .int .i64 yf, .int .i64 yn, .int .i64 ym, .string yp, .string yt, .string yx, .bool ya] 50)) 41 [.int .i64 x.err, .int .i64 x.n, .string x.text, .slice Ak x.names.length ck]
        have hBc1 := hBd.alloc hBd.size (.cells #[.int .i64 x.err, .int .i64 x.n, .string x.text, .slice Ak x.names.length ck] 41)
        have hBc := hBc1.alloc hBc1.size (.cells #[.int .i64 yk, .int .i64 yo, .int .i64 yf, .int .i64 yn, .int .i64 ym, .string yp, .string yt, .string yx, .bool ya] 50)
        have hoGc := own_alloc (own_alloc hoGd (.cells #[.int .i64 x.err, .int .i64 x.n, .string x.text, .slice Ak x.names.length ck] 41)) (.cells #[.int .i64 yk, .int .i64 yo, .int .i64 yf, .int .i64 yn, .int .i64 ym, .string yp, .string yt, .string yx, .bool ya] 50)
        have hoWc := own_alloc (own_alloc hoWd (.cells #[.int .i64 x.err, .int .i64 x.n, .string x.text, .slice Ak x.names.length ck] 41)) (.cells #[.int .i64 yk, .int .i64 yo, .int .i64 yf, .int .i64 yn, .int .i64 ym, .string yp, .string yt, .string yx, .bool ya] 50)
        have hcc := (hcd.alloc (.cells #[.int .i64 x.err, .int .i64 x.n, .string x.text, .slice Ak x.names.length ck] 41)).alloc (.cells #[.int .i64 yk, .int .i64 yo, .int .i64 yf, .int .i64 yn, .int .i64 ym, .string yp, .string yt, .string yx, .bool ya] 50)
        have hlCc := Blk.new (wq.drew.alloc (.cells #[.int .i64 x.err, .int .i64 x.n, .string x.text, .slice Ak x.names.length ck] 41)) 50 [.int .i64 yk, .int .i64 yo, .int .i64 yf, .int .i64 yn, .int .i64 ym, .string yp, .string yt, .string yx, .bool ya]
        have hlAc := (Blk.new wq.drew 41 [.int .i64 x.err, .int .i64 x.n, .string x.text, .slice Ak x.names.length ck]).alloc (.cells #[.int .i64 yk, .int .i64 yo, .int .i64 yf, .int .i64 yn, .int .i64 ym, .string yp, .string yt, .string yx, .bool ya] 50)
        simp only [World.size_alloc] at hlAb hlCc
        have hneAb : some (wq.drew.heap.size + 1) ≠ u8.ownBlock := fun e => by
          have := hgcG _ e.symm
          have h2 : wq.drew.heap.size = wq.heap.size := rfl
          omega
        have hneAc : some wq.drew.heap.size ≠ u8.ownBlock := fun e => by
          have := hgcG _ e.symm
          have h2 : wq.drew.heap.size = wq.heap.size := rfl
          omega
        go_region_held3 (fun W => W.cell? ⟨gc, 0, none⟩ = some (.int .i64 yk) ∧ W.cell? ⟨gc, 1, none⟩ = some (.int .i64 yo) ∧ W.cell? ⟨gc, 2, none⟩ = some (.int .i64 yf) ∧ W.cell? ⟨gc, 3, none⟩ = some (.int .i64 yn) ∧ W.cell? ⟨gc, 4, none⟩ = some (.int .i64 ym) ∧ W.cell? ⟨gc, 5, none⟩ = some (.string yp) ∧ W.cell? ⟨gc, 6, none⟩ = some (.string yt) ∧ W.cell? ⟨gc, 7, none⟩ = some (.string yx) ∧ W.cell? ⟨gc, 8, none⟩ = some (.bool ya) ∧ W.cell? ⟨ba, oa + k * 4, none⟩ = some (.int .i64 x.err) ∧ W.cell? ⟨ba, oa + k * 4 + 1, none⟩ = some (.int .i64 x.n) ∧ W.cell? ⟨ba, oa + k * 4 + 2, none⟩ = some (.string x.text) ∧ W.cell? ⟨ba, oa + k * 4 + 3, none⟩ = some (.slice Ak x.names.length ck))
          (first
            | exact ⟨g0, g1, g2, g3, g4, g5, g6, g7, g8, p0, p1, p2, p3⟩
            | exact ⟨hc9.cell 0, hc9.cell 1, hc9.cell 2, hc9.cell 3, hc9.cell 4, hc9.cell 5, hc9.cell 6, hc9.cell 7, hc9.cell 8, k0, k1, k2, k3⟩
            | exact ⟨hc8.cell 0, hc8.cell 1, hc8.cell 2, hc8.cell 3, hc8.cell 4, hc8.cell 5, hc8.cell 6, hc8.cell 7, hc8.cell 8, m0, m1, m2, m3⟩
            | exact ⟨(hc8.alloc _).cell 0, (hc8.alloc _).cell 1, (hc8.alloc _).cell 2, (hc8.alloc _).cell 3, (hc8.alloc _).cell 4, (hc8.alloc _).cell 5, (hc8.alloc _).cell 6, (hc8.alloc _).cell 7, (hc8.alloc _).cell 8, m0, m1, m2, m3⟩
            | go_keep)
          (first
            | (refine step_appB w8 rfl _ _ _ rfl w3.heap.size 41 j0 _ 4 56 Tryz.underlying34 hjf hj0 hj1 hj2 rfl (by decide) u9 _ _ rfl hoW8 _ _ [.int .i64 x.err, .int .i64 x.n, .string x.text, .slice Ak x.names.length ck] rfl hA8 rfl (by simp [Value.oneCell']) (by omega) (by decide) hB8.size ?_
               intro v9 w9 own9 hg9 hat9
               have hB9 := below_grown hB8 hg9 hB8.size (fun q hq => (World.ownsRow.lt hoW8 q hq).1)
               have hoG9 := own_other hoG8 hoW8 ca_ne_an hg9
               have hc9 := hc8.grown hg9 hneW
               have k0 := (hB9.cell (p := ⟨ba, oa + k * 4, none⟩) hba).trans p0'
               have k1 := (hB9.cell (p := ⟨ba, oa + k * 4 + 1, none⟩) hba).trans p1'
               have k2 := (hB9.cell (p := ⟨ba, oa + k * 4 + 2, none⟩) hba).trans p2'
               have k3 := (hB9.cell (p := ⟨ba, oa + k * 4 + 3, none⟩) hba).trans p3')
            | (refine step_app1 w8 rfl _ _ _ rfl w3.heap.size 41 j0 _ 4 56 Tryz.underlying34 hjf hj0 hj1 hj2 rfl (by decide) u9 _ _ rfl hoW8 [.int .i64 x.err, .int .i64 x.n, .string x.text, .slice Ak x.names.length ck] rfl rfl (by simp [Value.oneCell']) (by omega) (by decide) hB8.size _ rfl ?_
               intro v9 w9 own9 hg9 hat9
               have hB9 := below_grown hB8 hg9 hB8.size (fun q hq => (World.ownsRow.lt hoW8 q hq).1)
               have hoG9 := own_other hoG8 hoW8 ca_ne_an hg9
               have hc9 := hc8.grown hg9 hneW
               have k0 := (hB9.cell (p := ⟨ba, oa + k * 4, none⟩) hba).trans p0'
               have k1 := (hB9.cell (p := ⟨ba, oa + k * 4 + 1, none⟩) hba).trans p1'
               have k2 := (hB9.cell (p := ⟨ba, oa + k * 4 + 2, none⟩) hba).trans p2'
               have k3 := (hB9.cell (p := ⟨ba, oa + k * 4 + 3, none⟩) hba).trans p3')
            | (refine step_app1 wq.drew rfl _ _ _ rfl w3.heap.size 50 i0 _ 9 96 Tryz.underlying27 hif hi0 hi1 hi2 rfl (by decide) u8 _ _ rfl hoGd [.int .i64 yk, .int .i64 yo, .int .i64 yf, .int .i64 yn, .int .i64 ym, .string yp, .string yt, .string yx, .bool ya] rfl rfl (by simp [Value.oneCell']) (by omega) (by decide) hBd.size _ rfl ?_
               intro v8 w8 hoG8 hg8 hat8
               have hB8 := below_grown hBd hg8 hBd.size (fun q hq => (World.ownsRow.lt hoGd q hq).1)
               have hoW8 := own_other hoWd hoGd ca_ne_an.symm hg8
               have hc8 := hcd.grown hg8 hneG
               have m0 := (hB8.cell (p := ⟨ba, oa + k * 4, none⟩) hba).trans p0'
               have m1 := (hB8.cell (p := ⟨ba, oa + k * 4 + 1, none⟩) hba).trans p1'
               have m2 := (hB8.cell (p := ⟨ba, oa + k * 4 + 2, none⟩) hba).trans p2'
               have m3 := (hB8.cell (p := ⟨ba, oa + k * 4 + 3, none⟩) hba).trans p3')
            | (refine step_appB ((wq.drew.alloc (.cells #[.int .i64 yk, .int .i64 yo, .int .i64 yf, .int .i64 yn, .int .i64 ym, .string yp, .string yt, .string yx, .bool ya] 50)).alloc (.cells #[.int .i64 x.err, .int .i64 x.n, .string x.text, .slice Ak x.names.length ck] 41)) rfl _ _ _ rfl w3.heap.size 50 i0 _ 9 96 Tryz.underlying27 hif hi0 hi1 hi2 rfl (by decide) u8 _ _ rfl hoGb _ _ [.int .i64 yk, .int .i64 yo, .int .i64 yf, .int .i64 yn, .int .i64 ym, .string yp, .string yt, .string yx, .bool ya] rfl hlCb rfl (by simp [Value.oneCell']) (by omega) (by decide) hBb.size ?_
               intro v8 w8 hoG8 hg8 hat8
               have hB8 := below_grown hBb hg8 hBb.size (fun q hq => (World.ownsRow.lt hoGb q hq).1)
               have hoW8 := own_other hoWb hoGb ca_ne_an.symm hg8
               have hc8 := hcb.grown hg8 hneG
               have hA8 := hlAb.grown hg8 hneAb
               have m0 := (hB8.cell (p := ⟨ba, oa + k * 4, none⟩) hba).trans p0'
               have m1 := (hB8.cell (p := ⟨ba, oa + k * 4 + 1, none⟩) hba).trans p1'
               have m2 := (hB8.cell (p := ⟨ba, oa + k * 4 + 2, none⟩) hba).trans p2'
               have m3 := (hB8.cell (p := ⟨ba, oa + k * 4 + 3, none⟩) hba).trans p3')
            | (refine step_appB ((wq.drew.alloc (.cells #[.int .i64 x.err, .int .i64 x.n, .string x.text, .slice Ak x.names.length ck] 41)).alloc (.cells #[.int .i64 yk, .int .i64 yo, .int .i64 yf, .int .i64 yn, .int .i64 ym, .string yp, .string yt, .string yx, .bool ya] 50)) rfl _ _ _ rfl w3.heap.size 50 i0 _ 9 96 Tryz.underlying27 hif hi0 hi1 hi2 rfl (by decide) u8 _ _ rfl hoGc _ _ [.int .i64 yk, .int .i64 yo, .int .i64 yf, .int .i64 yn, .int .i64 ym, .string yp, .string yt, .string yx, .bool ya] rfl hlCc rfl (by simp [Value.oneCell']) (by omega) (by decide) hBc.size ?_
               intro v8 w8 hoG8 hg8 hat8
               have hB8 := below_grown hBc hg8 hBc.size (fun q hq => (World.ownsRow.lt hoGc q hq).1)
               have hoW8 := own_other hoWc hoGc ca_ne_an.symm hg8
               have hc8 := hcc.grown hg8 hneG
               have hA8 := hlAc.grown hg8 hneAc
               have m0 := (hB8.cell (p := ⟨ba, oa + k * 4, none⟩) hba).trans p0'
               have m1 := (hB8.cell (p := ⟨ba, oa + k * 4 + 1, none⟩) hba).trans p1'
               have m2 := (hB8.cell (p := ⟨ba, oa + k * 4 + 2, none⟩) hba).trans p2'
               have m3 := (hB8.cell (p := ⟨ba, oa + k * 4 + 3, none⟩) hba).trans p3'))
        all_goals
          have HG9 : Hid (w9.ownsRow w3.heap.size 50 9 v8 (G ++ [(⟨yk, yo, yf, yn, ym, yp, yt, yx, ya⟩ : Ca)]).length ((G ++ [(⟨yk, yo, yf, yn, ym, yp, yt, yx, ya⟩ : Ca)]).flatMap Ca.cells)) := Lib.hid (by
            rw [List.length_append, List.flatMap_append]
            exact hoG9)
          have HW9 := Lib.hid (Wants.snoc hv1 HV3.out pn own9 rfl)
          clear hoG9 own9 hg9 hg8 hoG8 hoW8 hc8 hc9 hoG hv2 hoGd hoWd hcd hat8 hat9 hBb1 hBb hBc1 hlCc hoGb hoWb hcb hlCb hlAb hBc hoGc hoWc hcc hlAc hneAb hneAc
          clear g0 g1 g2 g3 g4 g5 g6 g7 g8 p0 p1 p2 p3 m0 m1 m2 m3 k0 k1 k2 k3 hc1
          go_wp2_with fail
          go_roundw
          case rel => exact ⟨k + 1, hlt, by go_num, by rw [HGG.out]; exact HG9, by rw [HWW.out]; exact HW9, hB9⟩
          case measure => simp [intOf]; omega
    · obtain rfl : k = l.length := by omega
      have hta : an.take l.length = an := by rw [← HAL.out, List.take_length]
      rw [List.take_length, hta] at HG HW
      have hnm : ∀ a ∈ Sy.dropA Sy.notAsked l an, a.names.length ≤ 80 := by
        have := Sy.play_names (u := u) (l := Sy.drop Sy.notAsked l an)
        rw [HDR2.out] at this
        exact this
      have hgl := Sy.drop_lens (f := Sy.notAsked) l an
      have hg1 := hgl.2
      have hg2 := Nat.le_trans (Nat.le_of_eq hgl.1.symm) hg1
      clear hgl
      have hdm : ∀ y ∈ Sy.drop Sy.notAsked l an, CaSm y := fun y hy => HSM.out y (Sy.drop_mem hy)
      have HNM := Lib.hid hnm
      have HDM := Lib.hid hdm
      have hdr := HDR2.out
      clear hnm hdm HDR2 hta HAT HL3
      generalize Sy.drop Sy.notAsked l an = G at *
      generalize Sy.dropA Sy.notAsked l an = bn at *
      obtain ⟨m, hm⟩ : ∃ m, m = bn.length := ⟨_, rfl⟩
      obtain ⟨Ag, cg, rfl⟩ := own_slice HG.out
      have HDR3 := Lib.hid hdr
      have hBw := hB3.trans (hB.mono hB3.size)
      have hq4 := hq3.below hB hq3.lt
      obtain ⟨q0, q1, qf, qz⟩ := hq4.two
      have cP := play_any A A' Ag c c' cg u G wr ((HU.out.below hBw).more hBw.size) HS.out (cas_own HG.out) HDM.out (by omega)
      rw [HDR3.out] at cP
      unfold PlayRel at cP
      dsimp only at cP
      have HC := Lib.hid cP
      clear cP hdr HDR3 HG
      go_wp2_with fail
      clear q0 q1 qf qz
      refine HC.out.mono ?_
      rintro e w5 ⟨A3, A3', c3, c3', AT3, cT3, vb, rfl, hU5, hT5, -, hO5, hb⟩
      have hB5 := hB.trans (hb.mono hB.size)
      have HW5 := HW.out.below hb (Nat.le_refl _)
      clear hb HC hB HW hBw hq4
      have hb6 := (Below.refl w5.heap.size w5).alloc (Nat.le_refl _) (.cells #[.slice A3 u2.U.length c3, .slice A3' u2.L.length c3', .slice AT3 T2.length cT3, .int .i64 n2] 33)
      have hB6 := hB5.trans (hb6.mono hB5.size)
      have hU6 := (hU5.below hb6).more hb6.size
      have hT6 := (Rd.below hT5 hb6).more hb6.size
      have hO6 := rd_ans hO5 hb6
      have HW6 := HW5.below hb6 (Nat.le_refl _)
      have hx6 := Blk.new w5 33 [.slice A3 u2.U.length c3, .slice A3' u2.L.length c3', .slice AT3 T2.length cT3, .int .i64 n2]
      clear hb6 hB5 hU5 hT5 hO5 HW5
      go_upto_region 15 with fail
      change Code.wp _ _ _ _ (w5.alloc (.cells #[.slice A3 u2.U.length c3, .slice A3' u2.L.length c3', .slice AT3 T2.length cT3, .int .i64 n2] 33))
      generalize w5.alloc (.cells #[.slice A3 u2.U.length c3, .slice A3' u2.L.length c3', .slice AT3 T2.length cT3, .int .i64 n2] 33) = w6 at *
      generalize w5.heap.size = gx at *
      have hs6 := hs3.below hB6 hs3.lt
      have hV6 := (hU3.below hB6).more hB6.size
      have hY6 := (Rd.below hT3 hB6).more hB6.size
      have hP6 := HW6.rd hB6
      obtain ⟨Ab, cb, hvb, -⟩ := hO6.at_
      obtain ⟨Aw, cw, hvw, -⟩ := hP6.at_
      rw [← hm] at hvb hvw
      subst hvb hvw
      have hBB := hB3.trans (hB6.mono hB3.size)
      clear HW6 hB6 hU3 hT3 hs3 hq3 hB3
      obtain ⟨s0, s1, s2, s3, sf, sz⟩ := hs6.four
      obtain ⟨x0, x1, x2, x3, xf, xz⟩ := hx6.four
      have cSS := sameShown_any u2 T2 n2 A2 A2' A3 A3' AT2 AT3 c2 c2' c3 c3' cT2 cT3 w6 hV6 hU6 hY6 hT6 (unSm_fine HF.out) (by omega)
      have HCS := Lib.hid cSS
      clear cSS hV6 hU6 hY6 hT6
      have HM := Lib.hid hm
      have hmb : m ≤ 80 := by omega
      clear hm hs6 hx6
      go_wp2_with fail
      clear s0 s1 s2 s3 sf sz x0 x1 x2 x3 xf xz
      refine HCS.out.mono ?_
      rintro e w8 ⟨rfl, hb⟩
      have hB8 := hBB.trans (hb.mono hBB.size)
      have hO8 := rd_ans hO6 hb
      have hP8 := rd_ans hP6 hb
      clear hb hBB hO6 hP6 HCS
      obtain ⟨Ab', cb', hva, hata⟩ := hO8.at_
      obtain ⟨Aw', cw', hvb, hatb⟩ := hP8.at_
      injection hva with hva1 hva2 hva3
      injection hvb with hvb1 hvb2 hvb3
      subst hva1 hva3 hvb1 hvb3
      have HATA := Lib.hid hata
      have HATB := Lib.hid hatb
      clear hata hatb hO8 hP8 hva2 hvb2
      have hmm : m ≤ bn.length := Nat.le_of_eq HM.out
      go_wp2_with fail
      go_loopw [77] (fun i wr => ∃ k : Nat, k ≤ m ∧ i = .int .i64 k ∧ Below w8.heap.size w8 wr) (fun i _ => m - (intOf i).toNat)
      case atStart => exact ⟨0, Nat.zero_le _, rfl, Below.refl _ _⟩
      case round =>
        obtain ⟨k, hk, rfl, hB⟩ := hrel
        by_cases hlt : k < m
        · have hkl : k < bn.length := by omega
          obtain ⟨b, o, Ak, ck, rfl, hbz, p0, p1, p2, p3, pn⟩ := HATA.out k hkl
          obtain ⟨b', o', Bk, dk, rfl, hbz', r0, r1, r2, r3, rn⟩ := HATB.out k hkl
          have hnn := HNM.out bn[k] (List.getElem_mem hkl)
          generalize bn[k] = x at p0 p1 p2 p3 pn r0 r1 r2 r3 rn hnn
          have hbr : b < wr.heap.size := Nat.lt_of_lt_of_le hbz hB.size
          have hbr' : b' < wr.heap.size := Nat.lt_of_lt_of_le hbz' hB.size
          replace p0 : wr.cell? ⟨b, o + k * 4, none⟩ = _ := (hB.cell (p := ⟨b, o + k * 4, none⟩) hbz).trans p0
          replace p1 : wr.cell? ⟨b, o + k * 4 + 1, none⟩ = _ := (hB.cell (p := ⟨b, o + k * 4 + 1, none⟩) hbz).trans p1
          replace p2 : wr.cell? ⟨b, o + k * 4 + 2, none⟩ = _ := (hB.cell (p := ⟨b, o + k * 4 + 2, none⟩) hbz).trans p2
          replace p3 : wr.cell? ⟨b, o + k * 4 + 3, none⟩ = _ := (hB.cell (p := ⟨b, o + k * 4 + 3, none⟩) hbz).trans p3
          replace r0 : wr.cell? ⟨b', o' + k * 4, none⟩ = _ := (hB.cell (p := ⟨b', o' + k * 4, none⟩) hbz').trans r0
          replace r1 : wr.cell? ⟨b', o' + k * 4 + 1, none⟩ = _ := (hB.cell (p := ⟨b', o' + k * 4 + 1, none⟩) hbz').trans r1
          replace r2 : wr.cell? ⟨b', o' + k * 4 + 2, none⟩ = _ := (hB.cell (p := ⟨b', o' + k * 4 + 2, none⟩) hbz').trans r2
          replace r3 : wr.cell? ⟨b', o' + k * 4 + 3, none⟩ = _ := (hB.cell (p := ⟨b', o' + k * 4 + 3, none⟩) hbz').trans r3
          have pn := (Rd.below pn hB).more hB.size
          have rn := (Rd.below rn hB).more hB.size
          go_wp2_with fail
          go_region_held3 (fun W => W.cell? ⟨b, o + k * 4, none⟩ = some (.int .i64 x.err) ∧ W.cell? ⟨b, o + k * 4 + 1, none⟩ = some (.int .i64 x.n) ∧ W.cell? ⟨b, o + k * 4 + 2, none⟩ = some (.string x.text) ∧ W.cell? ⟨b, o + k * 4 + 3, none⟩ = some (.slice Ak x.names.length ck) ∧ W.cell? ⟨b', o' + k * 4, none⟩ = some (.int .i64 x.err) ∧ W.cell? ⟨b', o' + k * 4 + 1, none⟩ = some (.int .i64 x.n) ∧ W.cell? ⟨b', o' + k * 4 + 2, none⟩ = some (.string x.text) ∧ W.cell? ⟨b', o' + k * 4 + 3, none⟩ = some (.slice Bk x.names.length dk))
            (first | exact ⟨p0, p1, p2, p3, r0, r1, r2, r3⟩ | exact hS6 | go_keep)
            (first | (go_at_call 17; refine (sameAnswer_any x Ak Bk ck dk _ (by exact pn) (by exact rn) (by omega)).mono ?_; rintro e w6 ⟨rfl, hb6⟩; have hS6 : w6.cell? ⟨b, o + k * 4, none⟩ = some (.int .i64 x.err) ∧ w6.cell? ⟨b, o + k * 4 + 1, none⟩ = some (.int .i64 x.n) ∧ w6.cell? ⟨b, o + k * 4 + 2, none⟩ = some (.string x.text) ∧ w6.cell? ⟨b, o + k * 4 + 3, none⟩ = some (.slice Ak x.names.length ck) ∧ w6.cell? ⟨b', o' + k * 4, none⟩ = some (.int .i64 x.err) ∧ w6.cell? ⟨b', o' + k * 4 + 1, none⟩ = some (.int .i64 x.n) ∧ w6.cell? ⟨b', o' + k * 4 + 2, none⟩ = some (.string x.text) ∧ w6.cell? ⟨b', o' + k * 4 + 3, none⟩ = some (.slice Bk x.names.length dk) := ⟨(hb6.cell (p := ⟨b, o + k * 4, none⟩) (by exact hbr)).trans p0, (hb6.cell (p := ⟨b, o + k * 4 + 1, none⟩) (by exact hbr)).trans p1, (hb6.cell (p := ⟨b, o + k * 4 + 2, none⟩) (by exact hbr)).trans p2, (hb6.cell (p := ⟨b, o + k * 4 + 3, none⟩) (by exact hbr)).trans p3, (hb6.cell (p := ⟨b', o' + k * 4, none⟩) (by exact hbr')).trans r0, (hb6.cell (p := ⟨b', o' + k * 4 + 1, none⟩) (by exact hbr')).trans r1, (hb6.cell (p := ⟨b', o' + k * 4 + 2, none⟩) (by exact hbr')).trans r2, (hb6.cell (p := ⟨b', o' + k * 4 + 3, none⟩) (by exact hbr')).trans r3⟩))
          all_goals
            have hb' : Below wr.heap.size wr w6 := ((Below.refl _ wr).drew).trans hb6
            clear p0 p1 p2 p3 r0 r1 r2 r3 pn rn
            go_wp2_with fail
            go_roundw
            case rel => exact ⟨k + 1, hlt, by go_num, hB.trans (hb'.mono hB.size)⟩
            case measure => simp [intOf]; omega
        · obtain rfl : k = m := by omega
          go_wp2_with fail
          go_ret
          exact ⟨rfl, hB8.trans (hB.mono hB8.size)⟩
end Go.Proofs.YtjppfhgkanbemacGreatDoor
