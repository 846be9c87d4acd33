/-
  The document's Without and Remove.
-/
import Derived.Test.YtjppfhgkanbemabGreatDoorTrRefP
namespace Go.Proofs.YtjppfhgkanbemabGreatDoor
open Go.RowKit Go.Shelf Go.Sort

set_option maxHeartbeats 4000000 in
theorem refWithout_any (A : Option Addr) (c : Nat) (l : List En) (p : ByteArray) (w : World) (hl : EnRd w w.heap.size A l) (hp : p.size < 4294967281) (hn : l.length ≤ 1000000) :
    Calls Tryz.prog 92 #[.slice A l.length c, .string p] w fun e w' => ∃ v, e = .returned v ∧ EnOwn w' w.heap.size v (Tr.outside l p.data.toList) ∧ Below w.heap.size w w' := by
  obtain ⟨i0, hi, hz0, hz1, hz2⟩ := info_parts info_en
  have hB0 := Below.refl w.heap.size w
  go_enter Tryz.func92, Tryz.ntmps92
  go_wp2_with fail
  go_loopw [5, 10] (fun v i wr => ∃ k : Nat, k ≤ l.length ∧ i = .int .i64 k ∧ EnOwn wr w.heap.size v (Tr.outside (l.take k) p.data.toList) ∧ Below w.heap.size w wr) (fun _ i _ => l.length - (intOf i).toNat)
  case atStart => exact ⟨0, Nat.zero_le _, rfl, EnOwn.nil _ _, hB0⟩
  case round =>
    obtain ⟨k, hk, rfl, hown, hB⟩ := hrel
    clear hB0
    by_cases hlt : k < l.length
    · obtain ⟨b, o, rfl, hb, h0, h1, h2, h3⟩ := (EnRd.at_ (hl.below hB) hlt)
      have KY := Lib.hid (outside_yes (p := p.data.toList) hlt)
      have KN := Lib.hid (outside_no (p := p.data.toList) hlt)
      have hle : (Tr.outside (l.take k) p.data.toList).length ≤ k := Nat.le_trans (outside_le _ _) (by rw [List.length_take]; omega)
      unfold En.P at KY KN
      generalize l[k] = z at h0 h1 h2 h3 KY KN
      obtain ⟨yp, yk, yt, yo⟩ := z
      dsimp only at h0 h1 h2 h3 KY KN
      have hy5 := Blk.new wr 45 [.string yp, .int .i64 yk, .string yt, .bool yo]
      have hB5 := hB.alloc hB.size (.cells #[.string yp, .int .i64 yk, .string yt, .bool yo] 45)
      have ho5 : EnOwn _ w.heap.size u5 _ := own_alloc hown (.cells #[.string yp, .int .i64 yk, .string yt, .bool yo] 45)
      rcases tq : (yp.toList == p.toList) with _ | _
      rotate_left
      · have tq2 : (yp.toList != p.toList) = false := by rw [bne, tq]; rfl
        have HN := Lib.hid (KN.out (.inl (by rw [toList_beq] at tq; simpa using tq)))
        clear KY KN
        go_wp2_with fail
        go_roundw
        case rel => exact ⟨k + 1, by omega, by go_num, by rw [HN.out]; exact ho5, hB5⟩
        case measure => simp [intOf]; omega
      have tq2 : (yp.toList != p.toList) = true := by rw [bne, tq]; rfl
      have hne : ¬ yp.data.toList = p.data.toList := by rw [toList_beq] at tq; simpa using tq
      have HNE := Lib.hid hne
      clear hne
      go_wp2_with fail
      refine (refUnder_any yp p _ (by omega)).mono ?_
      rintro e w' ⟨rfl, rfl⟩
      clear h0 h1 h2 h3 hb hB hown
      generalize wr.alloc (.cells #[.string yp, .int .i64 yk, .string yt, .bool yo] 45) = w5 at *
      generalize wr.heap.size = gy at *
      obtain ⟨y0, y1, y2, y3, yfr, yz⟩ := hy5.four
      rcases tu : Pt.under yp.data.toList p.data.toList with _ | _
      rotate_left
      · have HN := Lib.hid (KN.out (.inr tu))
        clear KY KN
        go_wp2_with fail
        go_roundw
        case rel => exact ⟨k + 1, by omega, by go_num, by rw [HN.out]; exact ho5, hB5⟩
        case measure => simp [intOf]; omega
      · have HN := Lib.hid (KY.out HNE.out tu)
        clear KY KN
        go_wp2_with (at_builtin; go_must (refine wpList_app1 w5 rfl _ _ _ rfl w.heap.size 45 i0 _ 4 48 Tryz.underlying30 hi hz0 hz1 hz2 rfl (by decide) u5 _ _ rfl ho5 [.string yp, .int .i64 yk, .string yt, .bool yo] rfl rfl (by simp [Value.oneCell']) (by omega) (by decide) hB5.size _ rfl ?_); intro v9 w9 own9 hg9 _)
        go_roundw
        case rel => exact ⟨k + 1, by omega, by go_num, EnOwn.snoc (y := ⟨yp, yk, yt, yo⟩) own9 HN.out, hB5.grown hg9 hB5.size (fun q e' => (World.ownsRow.lt ho5 q e').1)⟩
        case measure => simp [intOf]; omega
    · obtain rfl : k = l.length := by omega
      rw [List.take_length] at hown
      go_wp2_with fail
      go_ret
      exact ⟨_, rfl, hown, hB⟩

set_option maxHeartbeats 4000000 in
set_option maxRecDepth 100000 in
theorem refRemove_any (A : Option Addr) (c : Nat) (l : List En) (p : ByteArray) (w : World) (hl : EnRd w w.heap.size A l) (hc : l.length ≤ c) (hs : Sm l) (hp : p.size < 4294967281) (hn : l.length ≤ 2305843009213693952) :
    Calls Tryz.prog 53 #[.slice A l.length c, .string p] w (RemRel l p.data.toList w) := by
  have c1 := fun W h => refWrongT_any A c l false W h hc hs hn
  obtain ⟨pt, hpt⟩ : ∃ pr, pr = Tr.wrong l false := ⟨_, rfl⟩
  rw [← hpt] at c1
  have HT := Lib.hid hpt.symm
  have HS := Lib.hid hs
  obtain ⟨y, y'⟩ := pt
  clear hpt hs
  dsimp only at c1
  have hB0 := Below.refl w.heap.size w
  unfold RemRel
  go_enter Tryz.func53, Tryz.ntmps53
  go_wp2_with fail
  refine (c1 w hl).mono ?_
  rintro e w1 ⟨rfl, hb⟩
  have hB1 := hB0.trans (hb.mono hB0.size)
  clear hb hB0 c1
  have hB2 := hB1.alloc hB1.size (.cells #[.int .i64 y, .int .i64 y'] 51)
  have hq2 := Blk.new w1 51 [.int .i64 y, .int .i64 y']
  clear hB1
  rcases ty : (y != 0) with _ | _
  rotate_left
  · have HO : Hid (Tr.remove l p.data.toList = ([], y)) := Lib.hid (rem_bad (by unfold Tr.removeErr; rw [HT.out, if_pos (by simpa using ty)]) (by simpa using ty))
    go_wp2_with fail
    generalize w1.alloc (.cells #[.int .i64 y, .int .i64 y'] 51) = w2 at *
    generalize w1.heap.size = g1 at *
    obtain ⟨q0, q1, qf, qz⟩ := hq2.two
    go_quiet (fail)
    go_wp2_with fail
    go_ret2
    exact ⟨_, ret_rem HO.out, by rw [HO.out]; exact EnOwn.nil _ _, below_drewN hB2 _⟩
  have HT0 : Hid ((Tr.wrong l false).1 = 0) := Lib.hid (by rw [HT.out]; simpa using ty)
  have hl80 := ((Tr.wrong_zero l false).1 HT0.out).1
  have RT := Lib.hid ((Tr.wrong_zero l false).1 HT0.out).2
  have HE2 := Lib.hid (show ∀ e, (if p.data.toList = [] ∨ Tr.get l p.data.toList = none then 6 else if Tr.full l p.data.toList = true then 11 else 0) = e → Tr.removeErr l p.data.toList = e from fun e he => by unfold Tr.removeErr; rw [if_neg (by simp [HT0.out]), he])
  go_wp2_with fail
  generalize w1.alloc (.cells #[.int .i64 y, .int .i64 y'] 51) = w2 at *
  clear hq2
  refine (refGet_any A c l p w2 ((hl.below hB2).more hB2.size) hn).mono ?_
  rintro e w3 ⟨r, rfl, hr, hb⟩
  have hB3 := hB2.trans (hb.mono hB2.size)
  have HR := Lib.hid hr
  clear hb hB2 hr
  have HN := Lib.hid (show r.isSome = false → Tr.remove l p.data.toList = ([], 6) from fun h => rem_bad (HE2.out 6 (if_pos (.inr (by rw [← HR.out]; exact Option.not_isSome_iff_eq_none.1 (by rw [h]; decide))))) (by decide))
  have HZ := Lib.hid (show p.data.toList = [] → Tr.remove l p.data.toList = ([], 6) from fun h => rem_bad (HE2.out 6 (if_pos (.inl h))) (by decide))
  have HF1 := Lib.hid (show r.isSome = true → p.data.toList ≠ [] → Tr.full l p.data.toList = true → Tr.remove l p.data.toList = ([], 11) from fun h h0 h2 => rem_bad (HE2.out 11 (by rw [if_neg (fun h3 => h3.elim h0 (fun h4 => by rw [← HR.out] at h4; rw [h4] at h; cases h)), if_pos h2])) (by decide))
  have HF0 := Lib.hid (show r.isSome = true → p.data.toList ≠ [] → Tr.full l p.data.toList = false → Tr.remove l p.data.toList = (Tr.outside l p.data.toList, 0) from fun h h0 h2 => rem_good (HE2.out 0 (by rw [if_neg (fun h3 => h3.elim h0 (fun h4 => by rw [← HR.out] at h4; rw [h4] at h; cases h)), if_neg (by rw [h2]; decide)])) (outside_without h2).symm)
  have HFN := Lib.hid (show p.data.toList ≠ [] → Tr.full l p.data.toList = !(Tr.names l p.data.toList).isEmpty from fun h => Tr.full_names RT.out h)
  clear HR HE2
  generalize r.getD En.zero = d at *
  generalize r.isSome = ok at HN HF1 HF0
  obtain ⟨dp, dk, dt, dop⟩ := d
  simp only [En.agg, En.cells]
  have hB4 := hB3.alloc hB3.size (.cells #[.string dp, .int .i64 dk, .string dt, .bool dop] 45)
  clear hB3
  cases ok
  · have HO := Lib.hid (HN.out rfl)
    go_wp2_with fail
    go_ret2
    exact ⟨_, ret_rem HO.out, by rw [HO.out]; exact EnOwn.nil _ _, hB4⟩
  rcases empty_cases p with ⟨hE, g1, g2⟩ | ⟨hE, g1, g2⟩
  · have HO := Lib.hid (HZ.out hE)
    clear hE
    go_wp2_with fail
    go_ret2
    exact ⟨_, ret_rem HO.out, by rw [HO.out]; exact EnOwn.nil _ _, hB4⟩
  have HG1 := Lib.hid (HF1.out rfl hE)
  have HG0 := Lib.hid (HF0.out rfl hE)
  have HGN := Lib.hid (HFN.out hE)
  clear hE HZ HN HF1 HF0 HFN
  go_wp2_with fail
  generalize w3.alloc (.cells #[.string dp, .int .i64 dk, .string dt, .bool dop] 45) = w4 at *
  refine (refNames_any A c l p w4 ((hl.below hB4).more hB4.size) HS.out (by omega)).mono ?_
  rintro e w5 ⟨v5, rfl, ho5, hb⟩
  have hB5 := hB4.trans (hb.mono hB4.size)
  clear hb hB4
  obtain ⟨A5, c5, rfl, _⟩ := StrOwn.form ho5
  clear ho5
  rcases hnm : Tr.names l p.data.toList with _ | ⟨n0, nr⟩
  · have HO := Lib.hid (HG0.out (by rw [HGN.out, hnm]; rfl))
    rw [show ([] : List Pt.Bs).length = 0 from rfl]
    clear HG1 HG0 HGN hnm
    go_wp2_with fail
    refine (refWithout_any A c l p w5 ((hl.below hB5).more hB5.size) hp (by omega)).mono ?_
    rintro e w6 ⟨v6, rfl, ho6, hb⟩
    have hB6 := hB5.trans (hb.mono hB5.size)
    have ho6 : EnOwn w6 w.heap.size v6 _ := own_base ho6 hB5.size
    clear hb
    go_wp2_with fail
    go_ret2
    exact ⟨_, ret_rem HO.out, by rw [HO.out]; exact ho6, hB6⟩
  · have HO := Lib.hid (HG1.out (by rw [HGN.out, hnm]; rfl))
    obtain ⟨M, hM⟩ : ∃ M, M = (n0 :: nr).length := ⟨_, rfl⟩
    have hpos : (0 : Int) < (M : Int) := by rw [hM, List.length_cons]; omega
    rw [← hM]
    clear HG1 HG0 HGN hnm hM
    go_wp2_with fail
    go_ret2
    exact ⟨_, ret_rem HO.out, by rw [HO.out]; exact EnOwn.nil _ _, hB5⟩
end Go.Proofs.YtjppfhgkanbemabGreatDoor
