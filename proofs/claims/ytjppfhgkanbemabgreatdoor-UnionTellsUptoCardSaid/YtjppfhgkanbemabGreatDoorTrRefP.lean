/-
  The document's Put. (Printed by wip/genrefp.py.)
-/
import Derived.Test.YtjppfhgkanbemabGreatDoorTrRefN
import Derived.Test.YtjppfhgkanbemabGreatDoorTrRefC
import Derived.Test.YtjppfhgkanbemabGreatDoorTrWith
namespace Go.Proofs.YtjppfhgkanbemabGreatDoor
open Go.RowKit Go.Shelf Go.Sort

set_option maxHeartbeats 4000000 in
set_option maxRecDepth 100000 in
theorem refPut_any (A : Option Addr) (c : Nat) (l : List En) (xp : ByteArray) (xk : Int) (xt : ByteArray) (xo : Bool) (w : World) (hl : EnRd w w.heap.size A l) (hc : l.length ≤ c) (hs : Sm l) (hxp : xp.size < 4294967281) (hxt : xt.size < 4294967281) (hn : l.length ≤ 2305843009213693952) :
    Calls Tryz.prog 48 #[.slice A l.length c, .agg #[.string xp, .int .i64 xk, .string xt, .bool xo]] w (PutRel l ⟨xp, xk, xt, xo⟩ w) := by
  obtain ⟨x, hx⟩ : ∃ x : En, x = ⟨xp, xk, xt, xo⟩ := ⟨_, rfl⟩
  have HX := Lib.hid hx
  rw [← hx]
  have c1 := fun W h => refWrongT_any A c l false W h hc hs hn
  obtain ⟨pt, hpt⟩ : ∃ pr, pr = Tr.wrong l false := ⟨_, rfl⟩
  rw [← hpt] at c1
  have HT := Lib.hid hpt.symm
  have HS := Lib.hid hs
  obtain ⟨y, y'⟩ := pt
  clear hpt hs hx
  dsimp only at c1
  have hB0 := (Below.refl w.heap.size w).alloc (Nat.le_refl _) (.cells #[.string xp, .int .i64 xk, .string xt, .bool xo] 45)
  have hx0 := Blk.new w 45 [.string xp, .int .i64 xk, .string xt, .bool xo]
  unfold PutRel
  go_enter Tryz.func48, Tryz.ntmps48
  go_wp2_with fail
  generalize w.alloc (.cells #[.string xp, .int .i64 xk, .string xt, .bool xo] 45) = w0 at *
  refine (c1 w0 ((hl.below hB0).more hB0.size)).mono ?_
  rintro e w1 ⟨rfl, hb⟩
  have hB1 := hB0.trans (hb.mono hB0.size)
  have hx1 := hx0.below hb hx0.lt
  clear hb hB0 hx0 c1
  have hB2 := hB1.alloc hB1.size (.cells #[.int .i64 y, .int .i64 y'] 51)
  have hq2 := Blk.new w1 51 [.int .i64 y, .int .i64 y']
  have hx2 := hx1.alloc (.cells #[.int .i64 y, .int .i64 y'] 51)
  clear hB1 hx1
  rcases ty : (y != 0) with _ | _
  rotate_left
  · have HO : Hid (Tr.put l x = ([], y)) := Lib.hid (put_bad (by unfold Tr.putErr; rw [HT.out, if_pos (by simpa using ty)]) (by simpa using ty))
    go_wp2_with fail
    generalize w1.alloc (.cells #[.int .i64 y, .int .i64 y'] 51) = w2 at *
    generalize w1.heap.size = g1 at *
    obtain ⟨q0, q1, qf, qz⟩ := hq2.two
    go_quiet (fail)
    go_wp2_with fail
    go_ret2
    exact ⟨_, ret_put HO.out, by rw [HO.out]; exact EnOwn.nil _ _, below_drewN hB2 _⟩
  have HT0 : Hid ((Tr.wrong l false).1 = 0) := Lib.hid (by rw [HT.out]; simpa using ty)
  have hl80 := ((Tr.wrong_zero l false).1 HT0.out).1
  have RT := Lib.hid ((Tr.wrong_zero l false).1 HT0.out).2
  obtain ⟨x0, x1, x2, x3, xfr, xz⟩ := hx2.four
  go_wp2_with fail
  generalize w1.alloc (.cells #[.int .i64 y, .int .i64 y'] 51) = w2 at *
  clear hq2
  have cE := refEntry_any ⟨xp, xk, xt, xo⟩ false w2 hxp hxt
  have hre : Tr.entry (⟨xp, xk, xt, xo⟩ : En) false = Tr.entry x false := by rw [HX.out]
  rw [hre] at cE
  clear hre
  dsimp only at cE
  have HE1 := Lib.hid (show Tr.entry x false ≠ 0 → Tr.put l x = ([], Tr.entry x false) from fun h => put_bad (by unfold Tr.putErr; rw [if_neg (by simp [HT0.out]), if_pos h]) h)
  have HE2 := Lib.hid (show Tr.entry x false = 0 → ∀ e, (if Tr.dirErr l (Pt.dirOf x.P) ≠ 0 then Tr.dirErr l (Pt.dirOf x.P) else Tr.kindErr l x) = e → Tr.putErr l x = e from fun h e he => by unfold Tr.putErr; rw [if_neg (by simp [HT0.out]), if_neg (by simp [h]), he])
  have HE3 := Lib.hid (show Tr.entry x false = 0 → x.P ≠ [] from fun h => Tr.clean_ne (Tr.entry_clean h))
  generalize Tr.entry x false = z at cE HE1 HE2 HE3
  refine cE.mono ?_
  rintro e w3 ⟨rfl, hb⟩
  have hB3 := hB2.trans (hb.mono hB2.size)
  have hx3 := hx2.below hb hx2.lt
  clear hb hB2 hx2 cE x0 x1 x2 x3 xfr xz
  obtain ⟨x0, x1, x2, x3, xfr, xz⟩ := hx3.four
  rcases tz : (z != 0) with _ | _
  rotate_left
  · have HO := Lib.hid (HE1.out (by simpa using tz))
    go_wp2_with fail
    go_ret2
    exact ⟨_, ret_put HO.out, by rw [HO.out]; exact EnOwn.nil _ _, hB3⟩
  have hz0 : z = 0 := by simpa using tz
  have HP2 := Lib.hid (HE2.out hz0)
  have HP3 := Lib.hid (HE3.out hz0)
  clear HE1 HE2 HE3 hz0
  go_wp2_with fail
  refine (refCut_any xp _ (by omega)).mono ?_
  rintro e w4 ⟨rfl, hD⟩
  have hB4 := hB3.trans (hD.below (B := w.heap.size))
  have hx4 := hx3.below (hD.below (B := w3.heap.size)) hx3.lt
  clear hD hB3 hx3 x0 x1 x2 x3 xfr xz
  obtain ⟨sd, hsd⟩ : ∃ sd : ByteArray, sd = ⟨(Pt.dirOf xp.data.toList).toArray⟩ := ⟨_, rfl⟩
  have hsl : sd.data.toList = Pt.dirOf xp.data.toList := by rw [hsd]
  have hst : Pt.str (Pt.dirOf xp.data.toList) = .string sd := by rw [hsd]; rfl
  obtain ⟨sn, hsn⟩ : ∃ sn, Pt.str (Pt.nameOf xp.data.toList) = .string sn := ⟨_, rfl⟩
  rw [hst, hsn]
  have hxP : x.P = xp.data.toList := by rw [HX.out]; rfl
  have hxk : x.k = xk := by rw [HX.out]
  have hlt : sd.size < xp.size := by have := Tr.dir_short HP3.out; rw [hxP, ← hsl, size_length, size_length] at this; exact this
  have HD := Lib.hid (show Pt.dirOf x.P = sd.data.toList by rw [hxP, hsl])
  clear hsd hsl hst hsn
  go_wp2_with fail
  refine (refGet_any A c l sd w4 ((hl.below hB4).more hB4.size) hn).mono ?_
  rintro e w5 ⟨r, rfl, hr, hb⟩
  have hB5 := hB4.trans (hb.mono hB4.size)
  have hx5 := hx4.below hb hx4.lt
  have HR := Lib.hid hr
  clear hr hb hB4 hx4
  have HN := Lib.hid (show r.isSome = false → Tr.put l x = ([], 6) from fun h => put_bad (HP2.out _ (by rw [HD.out, dirErr_none (by rw [← HR.out]; exact h)]; rfl)) (by decide))
  have HK := Lib.hid (show r.isSome = true → ((r.getD En.zero).k != 2) = true → Tr.put l x = ([], 10) from fun h h2 => put_bad (HP2.out _ (by rw [HD.out, dirErr_kind HR.out h h2]; rfl)) (by decide))
  have HG := Lib.hid (show r.isSome = true → ((r.getD En.zero).k != 2) = false → ∀ e, Tr.kindErr l x = e → Tr.putErr l x = e from fun h h2 e he => HP2.out _ (by rw [HD.out, dirErr_ok HR.out h h2, he]; rfl))
  clear HR HP2 HD
  generalize r.getD En.zero = d at HN HK HG
  generalize r.isSome = ok at HN HK HG
  obtain ⟨dp, dk, dt, dop⟩ := d
  simp only [En.agg, En.cells]
  dsimp only at HN HK HG
  have hB6 := hB5.alloc hB5.size (.cells #[.string dp, .int .i64 dk, .string dt, .bool dop] 45)
  have hx6 := hx5.alloc (.cells #[.string dp, .int .i64 dk, .string dt, .bool dop] 45)
  clear hB5
  cases ok
  · have HO := Lib.hid (HN.out rfl)
    go_wp2_with fail
    go_ret2
    exact ⟨_, ret_put HO.out, by rw [HO.out]; exact EnOwn.nil _ _, hB6⟩
  rcases tk : (dk != 2) with _ | _
  rotate_left
  · have HO := Lib.hid (HK.out rfl tk)
    go_wp2_with fail
    go_ret2
    exact ⟨_, ret_put HO.out, by rw [HO.out]; exact EnOwn.nil _ _, hB6⟩
  have HG2 := Lib.hid (HG.out rfl tk)
  clear HN HK HG
  obtain ⟨x0, x1, x2, x3, xfr, xz⟩ := hx6.four
  go_wp2_with fail
  generalize w5.alloc (.cells #[.string dp, .int .i64 dk, .string dt, .bool dop] 45) = w6 at *
  clear hx5 x0 x1 x2 x3 xfr xz
  refine (refGet_any A c l xp w6 ((hl.below hB6).more hB6.size) hn).mono ?_
  rintro e w7 ⟨r3, rfl, hr, hb⟩
  rw [← hxP] at hr
  have hB7 := hB6.trans (hb.mono hB6.size)
  have hx7 := hx6.below hb hx6.lt
  have HR := Lib.hid hr
  clear hr hb hB6 hx6
  have HK7 := Lib.hid (show r3.isSome = true → (((r3.getD En.zero).k == 2) != (xk == 2)) = true → Tr.put l x = ([], 7) from fun h h2 => put_bad (HG2.out 7 (by
    unfold Tr.kindErr; rw [← HR.out]; cases r3 with
    | none => cases h
    | some y => exact if_pos (by rw [hxk]; simpa using h2))) (by decide))
  have HK0 := Lib.hid (show r3.isSome = true → (((r3.getD En.zero).k == 2) != (xk == 2)) = false → Tr.put l x = (Tr.ins x l, 0) from fun h h2 => put_good (HG2.out 0 (by
    unfold Tr.kindErr; rw [← HR.out]; cases r3 with
    | none => cases h
    | some y => exact if_neg (by rw [hxk]; simpa using h2))) rfl)
  have HL5 := Lib.hid (show r3.isSome = false → l.length = 80 → Tr.put l x = ([], 5) from fun h h2 => put_bad (HG2.out 5 (by
    unfold Tr.kindErr; rw [← HR.out]; cases r3 with
    | none => exact if_pos h2
    | some y => cases h)) (by decide))
  have HL0 := Lib.hid (show r3.isSome = false → l.length ≠ 80 → Tr.put l x = (Tr.ins x l, 0) from fun h h2 => put_good (HG2.out 0 (by
    unfold Tr.kindErr; rw [← HR.out]; cases r3 with
    | none => exact if_neg h2
    | some y => cases h)) rfl)
  clear HR HG2
  generalize r3.getD En.zero = y3 at HK7 HK0
  generalize r3.isSome = ok at HK7 HK0 HL5 HL0
  obtain ⟨yp, yk, yt, yo⟩ := y3
  simp only [En.agg, En.cells]
  dsimp only at HK7 HK0
  have hB8 := hB7.alloc hB7.size (.cells #[.string yp, .int .i64 yk, .string yt, .bool yo] 45)
  have hx8 := hx7.alloc (.cells #[.string yp, .int .i64 yk, .string yt, .bool yo] 45)
  have hy8 := Blk.new w7 45 [.string yp, .int .i64 yk, .string yt, .bool yo]
  have cW := fun W h => with_any A c l x W h HS.out RT.out.2.1 (by rw [HX.out]; exact hxp) (by omega)
  have hcw : (Value.agg #[.string x.p, .int .i64 x.k, .string x.t, .bool x.o]) = .agg #[.string xp, .int .i64 xk, .string xt, .bool xo] := by rw [HX.out]
  rw [hcw] at cW
  clear hcw
  obtain ⟨x0, x1, x2, x3, xfr, xz⟩ := hx8.four
  obtain ⟨y0, y1, y2, y3, yfr, yz⟩ := hy8.four
  cases ok
  · by_cases h80 : l.length = 80
    · have HO := Lib.hid (HL5.out rfl h80)
      have h80' : (80 : Int) ≤ (l.length : Int) := by omega
      clear h80 HK7 HK0 HL5 HL0 cW
      go_wp2_with fail
      go_ret2
      exact ⟨_, ret_put HO.out, by rw [HO.out]; exact EnOwn.nil _ _, hB8⟩
    · have HO := Lib.hid (HL0.out rfl h80)
      have h80' : ¬ ((80 : Int) ≤ (l.length : Int)) := by omega
      clear h80 HK7 HK0 HL5 HL0
      go_wp2_with fail
      generalize w7.alloc (.cells #[.string yp, .int .i64 yk, .string yt, .bool yo] 45) = w8 at *
      refine (cW w8 ((hl.below hB8).more hB8.size)).mono ?_
      rintro e w9 ⟨v9, rfl, ho9, hb⟩
      have hB9 := hB8.trans (hb.mono hB8.size)
      have ho9 : EnOwn w9 w.heap.size v9 _ := own_base ho9 hB8.size
      clear hb cW
      go_wp2_with fail
      go_ret2
      exact ⟨_, ret_put HO.out, by rw [HO.out]; exact ho9, hB9⟩
  · rcases ta : (yk == 2) with _ | _ <;> rcases tb : (xk == 2) with _ | _
    · have HO := Lib.hid (HK0.out rfl (by rw [ta, tb]; rfl))
      clear HK7 HK0 HL5 HL0
      go_wp2_with fail
      generalize w7.alloc (.cells #[.string yp, .int .i64 yk, .string yt, .bool yo] 45) = w8 at *
      refine (cW w8 ((hl.below hB8).more hB8.size)).mono ?_
      rintro e w9 ⟨v9, rfl, ho9, hb⟩
      have hB9 := hB8.trans (hb.mono hB8.size)
      have ho9 : EnOwn w9 w.heap.size v9 _ := own_base ho9 hB8.size
      clear hb cW
      go_wp2_with fail
      go_ret2
      exact ⟨_, ret_put HO.out, by rw [HO.out]; exact ho9, hB9⟩
    · have HO := Lib.hid (HK7.out rfl (by rw [ta, tb]; rfl))
      clear HK7 HK0 HL5 HL0 cW
      go_wp2_with fail
      go_ret2
      exact ⟨_, ret_put HO.out, by rw [HO.out]; exact EnOwn.nil _ _, hB8⟩
    · have HO := Lib.hid (HK7.out rfl (by rw [ta, tb]; rfl))
      clear HK7 HK0 HL5 HL0 cW
      go_wp2_with fail
      go_ret2
      exact ⟨_, ret_put HO.out, by rw [HO.out]; exact EnOwn.nil _ _, hB8⟩
    · have HO := Lib.hid (HK0.out rfl (by rw [ta, tb]; rfl))
      clear HK7 HK0 HL5 HL0
      go_wp2_with fail
      generalize w7.alloc (.cells #[.string yp, .int .i64 yk, .string yt, .bool yo] 45) = w8 at *
      refine (cW w8 ((hl.below hB8).more hB8.size)).mono ?_
      rintro e w9 ⟨v9, rfl, ho9, hb⟩
      have hB9 := hB8.trans (hb.mono hB8.size)
      have ho9 : EnOwn w9 w.heap.size v9 _ := own_base ho9 hB8.size
      clear hb cW
      go_wp2_with fail
      go_ret2
      exact ⟨_, ret_put HO.out, by rw [HO.out]; exact ho9, hB9⟩
end Go.Proofs.YtjppfhgkanbemabGreatDoor
