/-
  The walk of TreeRight: it returns true. (Printed by wip/gentright.py.)
-/
import Derived.Test.YtjppfhgkanbemabDoorTrBack
namespace Go.Proofs.YtjppfhgkanbemabDoor
open Go.RowKit Go.Shelf Go.Sort

theorem bne_of {a b : List UInt8} {v : Bool} (h : (a == b) = v) : (a != b) = !v := by rw [bne, h]

set_option maxHeartbeats 8000000 in
set_option maxRecDepth 100000 in
theorem treeRight_any (A : Option Addr) (c : Nat) (l : List En) (x : En) (p q : ByteArray) (w : World) (hl : EnRd w w.heap.size A l) (hc : l.length ≤ c) (hs : Sm l) (hxp : x.p.size < 4294967281) (hxt : x.t.size < 4294967281) (hp : p.size < 4294967281) (hq : q.size < 4294967281) (hn : l.length ≤ 1048576) :
    Calls Tryd.prog 5 #[.slice A l.length c, x.agg, .string p, .string q] w fun e w' => e = .returned (.bool true) ∧ Below w.heap.size w w' := by
  have hfd := field_faultC
  obtain ⟨z, hz⟩ : ∃ z, z = x := ⟨_, rfl⟩
  have HX := Lib.hid hz
  clear hz
  obtain ⟨xp, xk, xt, xo⟩ := x
  dsimp only at hxp hxt
  show Calls Tryd.prog 5 #[.slice A l.length c, .agg #[.string xp, .int .i64 xk, .string xt, .bool xo], .string p, .string q] w _
  have HS := Lib.hid hs
  clear hs
  have hB0 := (Below.refl w.heap.size w).alloc (Nat.le_refl _) (.cells #[.string xp, .int .i64 xk, .string xt, .bool xo] 32)
  have hx_0 := Blk.new w 32 [.string xp, .int .i64 xk, .string xt, .bool xo]
  go_enter Tryd.func5, Tryd.ntmps5
  go_wp2_with fail
  generalize w.alloc (.cells #[.string xp, .int .i64 xk, .string xt, .bool xo] 32) = w0 at *
  refine (trAlive_any w0).mono ?_
  rintro e w1 ⟨rfl, hb⟩
  have hB1 := hB0.trans (hb.mono hB0.size)
  have hx_1 := hx_0.below hb hx_0.lt
  clear hb hB0 hx_0
  go_wp2_with fail
  have c1 := wrongT_any A c l w1 ((hl.below hB1).more hB1.size) hc HS.out (by omega)
  obtain ⟨pt, hpt⟩ : ∃ pr, pr = Tr.wrong l false := ⟨_, rfl⟩
  rw [← hpt] at c1
  have HT := Lib.hid hpt.symm
  obtain ⟨y, y'⟩ := pt
  clear hpt
  dsimp only at c1
  refine c1.mono ?_
  rintro e w2 ⟨rfl, hb⟩
  have hB2 := hB1.trans (hb.mono hB1.size)
  have hx_2 := hx_1.below hb hx_1.lt
  clear hb hB1 hx_1
  clear c1
  rcases ty : (y != 0) with _ | _
  rotate_left
  · go_wp2_with fail
    go_ret
    exact ⟨rfl, hB2⟩
  have HT0 : Hid ((Tr.wrong l false).1 = 0) := Lib.hid (by rw [HT.out]; simpa using ty)
  have RT := Lib.hid ((Tr.wrong_zero l false).1 HT0.out).2
  go_wp2_with fail
  refine (get_any A c l q w2 ((hl.below hB2).more hB2.size) HS.out hq (by omega)).mono ?_
  rintro e w3 ⟨r, rfl, hr, hb⟩
  have hB3 := hB2.trans (hb.mono hB2.size)
  have hx_3 := hx_2.below hb hx_2.lt
  clear hb hB2 hx_2
  have HR := Lib.hid (hr.2 (.inl RT.out.2.1))
  clear hr
  obtain ⟨d, hd⟩ : ∃ d, d = r.getD En.zero := ⟨_, rfl⟩
  obtain ⟨ok, hok⟩ : ∃ ok, ok = r.isSome := ⟨_, rfl⟩
  rw [← hd, ← hok]
  have HD := Lib.hid hd.symm
  have HK := Lib.hid hok.symm
  clear hd hok
  obtain ⟨up, uk, ut, uo⟩ := d
  simp only [En.agg, En.cells]
  have hB4 := hB3.alloc hB3.size (.cells #[.string up, .int .i64 uk, .string ut, .bool uo] 32)
  have hu_4 := Blk.new w3 32 [.string up, .int .i64 uk, .string ut, .bool uo]
  have hx_4 := hx_3.alloc (.cells #[.string up, .int .i64 uk, .string ut, .bool uo] 32)
  clear hB3
  obtain ⟨x0, x1, x2, x3, xfr, xz⟩ := hx_3.four
  go_wp2_with fail
  clear x0 x1 x2 x3 xfr xz
  generalize w3.alloc (.cells #[.string up, .int .i64 uk, .string ut, .bool uo] 32) = w4 at *
  clear hx_3
  have cP := put_any A c l xp xk xt xo w4 ((hl.below hB4).more hB4.size) hc HS.out hxp hxt (by omega)
  rw [← HX.out] at cP
  unfold PutRel at cP
  obtain ⟨ov, hov⟩ : ∃ ov, ov = Tr.put l z := ⟨_, rfl⟩
  rw [← hov] at cP
  have HO := Lib.hid hov.symm
  clear hov
  obtain ⟨res, err⟩ := ov
  dsimp only at cP
  refine cP.mono ?_
  rintro e w5 ⟨v, rfl, ho, hb⟩
  have ho5 : EnOwn w5 w.heap.size v res := own_base ho hB4.size
  clear ho cP
  have hB5 := hB4.trans (hb.mono hB4.size)
  have hx_5 := hx_4.below hb hx_4.lt
  have hu_5 := hu_4.below hb hu_4.lt
  clear hb hB4 hx_4 hu_4
  rcases te : (err == 0) with _ | _
  · go_wp2_with fail
    clear HO ho5
    have cR := remove_any A c l p w5 ((hl.below hB5).more hB5.size) hc HS.out hp (by omega)
    unfold RemRel at cR
    obtain ⟨ov, hov⟩ : ∃ ov, ov = Tr.remove l p.data.toList := ⟨_, rfl⟩
    rw [← hov] at cR
    have HM := Lib.hid hov.symm
    clear hov
    obtain ⟨rem, er2⟩ := ov
    dsimp only at cR
    refine cR.mono ?_
    rintro e w6 ⟨v2, rfl, ho, hb⟩
    have ho6 : EnOwn w6 w.heap.size v2 rem := own_base ho hB5.size
    clear ho cR
    have hB6 := hB5.trans (hb.mono hB5.size)
    have hx_6 := hx_5.below hb hx_5.lt
    have hu_6 := hu_5.below hb hu_5.lt
    clear hb hB5 hx_5 hu_5
    rcases t2 : (er2 == 0) with _ | _
    · go_wp2_with fail
      go_ret
      exact ⟨rfl, hB6⟩
    have hre : Tr.removeErr l p.data.toList = 0 := by
      have h := HM.out
      unfold Tr.remove at h
      by_cases h0 : Tr.removeErr l p.data.toList = 0
      · exact h0
      · rw [if_pos h0] at h
        injection h with _ h
        rw [h] at h0
        exact absurd (by simpa using t2) h0
    have hrem : rem = Tr.without l p.data.toList := by
      have h := HM.out
      unfold Tr.remove at h
      rw [if_neg (by simp [hre])] at h
      injection h with h _
      exact h.symm
    have RR := Lib.hid (show rem.length ≤ 80 ∧ Tr.Right false rem from ⟨by rw [hrem]; exact Nat.le_trans (Tr.without_len _ _) (Tr.remove_ok hre).1, by rw [hrem]; exact Tr.remove_right hre⟩)
    have HG1 := Lib.hid (show Tr.get rem p.data.toList = none by rw [hrem]; exact Tr.get_without_same (Tr.remove_ok hre).2.2.1)
    have HG2 := Lib.hid (show (q.toList == p.toList) = false → Tr.get rem q.data.toList = Tr.get l q.data.toList from fun h => by rw [hrem]; exact Tr.get_without_other RT.out.2.1 (by rw [toList_beq] at h; simpa using h))
    have hwr : Hid ((Tr.wrong rem false).1 = 0) := Lib.hid ((Tr.wrong_zero rem false).2 RR.out)
    have hrl := RR.out.1
    have HSR := Lib.hid (Tr.right_sm RR.out.2)
    clear hrem hre HM
    obtain ⟨A2, c2, rfl, hc2, rd2⟩ := EnOwn.rd ho6
    clear ho6
    go_wp2_with fail
    refine (get_any A2 c2 rem p w6 rd2 HSR.out hp (by omega)).mono ?_
    rintro e w7 ⟨r2, rfl, hr, hb⟩
    have h2 := hr.2 (.inl RR.out.2.2.1)
    rw [HG1.out] at h2
    subst h2
    have rd3 := (Rd.below rd2 hb).more hb.size
    clear rd2 hr HG1
    have hB7 := hB6.trans (hb.mono hB6.size)
    have hx_7 := hx_6.below hb hx_6.lt
    have hu_7 := hu_6.below hb hu_6.lt
    clear hb hB6 hx_6 hu_6
    rw [show (none : Option En).isSome = false from rfl]
    obtain ⟨d, hd⟩ : ∃ d, d = (none : Option En).getD En.zero := ⟨_, rfl⟩
    rw [← hd]
    clear hd
    obtain ⟨mp, mk, mt, mo⟩ := d
    simp only [En.agg, En.cells]
    have hB8 := hB7.alloc hB7.size (.cells #[.string mp, .int .i64 mk, .string mt, .bool mo] 32)
    have hm_8 := Blk.new w7 32 [.string mp, .int .i64 mk, .string mt, .bool mo]
    have hx_8 := hx_7.alloc (.cells #[.string mp, .int .i64 mk, .string mt, .bool mo] 32)
    have hu_8 := hu_7.alloc (.cells #[.string mp, .int .i64 mk, .string mt, .bool mo] 32)
    clear hB7
    obtain ⟨x0, x1, x2, x3, xfr, xz⟩ := hx_7.four
    obtain ⟨u0, u1, u2, u3, ufr, uz⟩ := hu_7.four
    go_wp2_with fail
    clear x0 x1 x2 x3 xfr xz u0 u1 u2 u3 ufr uz
    have rd4 := (Rd.alloc rd3 (Nat.le_refl _) (.cells #[.string mp, .int .i64 mk, .string mt, .bool mo] 32)).more (B' := (w7.alloc (.cells #[.string mp, .int .i64 mk, .string mt, .bool mo] 32)).heap.size) (by rw [World.size_alloc]; exact Nat.le_succ _)
    generalize w7.alloc (.cells #[.string mp, .int .i64 mk, .string mt, .bool mo] 32) = w8 at *
    clear rd3
    clear hx_7 hu_7
    refine (get_any A2 c2 rem q w8 rd4 HSR.out hq (by omega)).mono ?_
    rintro e w9 ⟨r3, rfl, hr, hb⟩
    have HR3 := Lib.hid (hr.2 (.inl RR.out.2.2.1))
    have rd5 := (Rd.below rd4 hb).more hb.size
    clear rd4 hr
    have hB9 := hB8.trans (hb.mono hB8.size)
    have hx_9 := hx_8.below hb hx_8.lt
    have hu_9 := hu_8.below hb hu_8.lt
    have hm_9 := hm_8.below hb hm_8.lt
    clear hb hB8 hx_8 hu_8 hm_8
    rcases tq : (q.toList == p.toList) with _ | _
    · have tq2 := bne_of tq
      have h3 := HR3.out.trans ((HG2.out tq).trans HR.out.symm)
      subst h3
      rw [HD.out, HK.out]
      simp only [En.agg, En.cells]
      have hB10 := hB9.alloc hB9.size (.cells #[.string up, .int .i64 uk, .string ut, .bool uo] 32)
      have hv_10 := Blk.new w9 32 [.string up, .int .i64 uk, .string ut, .bool uo]
      have hx_10 := hx_9.alloc (.cells #[.string up, .int .i64 uk, .string ut, .bool uo] 32)
      have hu_10 := hu_9.alloc (.cells #[.string up, .int .i64 uk, .string ut, .bool uo] 32)
      have hm_10 := hm_9.alloc (.cells #[.string up, .int .i64 uk, .string ut, .bool uo] 32)
      have rd6 := (Rd.alloc rd5 (Nat.le_refl _) (.cells #[.string up, .int .i64 uk, .string ut, .bool uo] 32)).more (B' := (w9.alloc (.cells #[.string up, .int .i64 uk, .string ut, .bool uo] 32)).heap.size) (by rw [World.size_alloc]; exact Nat.le_succ _)
      go_wp2_with fail
      generalize w9.alloc (.cells #[.string up, .int .i64 uk, .string ut, .bool uo] 32) = w10 at *
      generalize w9.heap.size = gv at *
      have cW := wrongT_any A2 c2 rem w10 rd6 hc2 HSR.out (by omega)
      obtain ⟨pw, hpw⟩ : ∃ pw, pw = Tr.wrong rem false := ⟨_, rfl⟩
      rw [← hpw] at cW hwr
      obtain ⟨z1, z2⟩ := pw
      dsimp only at cW hwr
      obtain rfl : z1 = 0 := hwr.out
      clear hpw hwr
      refine cW.mono ?_
      rintro e w11 ⟨rfl, hb⟩
      have hB11 := hB10.trans (hb.mono hB10.size)
      have hx_11 := hx_10.below hb hx_10.lt
      have hu_11 := hu_10.below hb hu_10.lt
      have hm_11 := hm_10.below hb hm_10.lt
      have hv_11 := hv_10.below hb hv_10.lt
      obtain ⟨x0, x1, x2, x3, xfr, xz⟩ := hx_11.four
      obtain ⟨u0, u1, u2, u3, ufr, uz⟩ := hu_11.four
      obtain ⟨m0, m1, m2, m3, mfr, mz⟩ := hm_11.four
      obtain ⟨v0, v1, v2, v3, vfr, vz⟩ := hv_11.four
      go_wp2_with fail
      go_ret
      exact ⟨rfl, hB11⟩
    · have tq2 := bne_of tq
      generalize r3.getD En.zero = d
      generalize r3.isSome = ok3
      obtain ⟨np, nk, nt, no⟩ := d
      simp only [En.agg, En.cells]
      have hB10 := hB9.alloc hB9.size (.cells #[.string np, .int .i64 nk, .string nt, .bool no] 32)
      have hn_10 := Blk.new w9 32 [.string np, .int .i64 nk, .string nt, .bool no]
      have hx_10 := hx_9.alloc (.cells #[.string np, .int .i64 nk, .string nt, .bool no] 32)
      have hu_10 := hu_9.alloc (.cells #[.string np, .int .i64 nk, .string nt, .bool no] 32)
      have hm_10 := hm_9.alloc (.cells #[.string np, .int .i64 nk, .string nt, .bool no] 32)
      have rd6 := (Rd.alloc rd5 (Nat.le_refl _) (.cells #[.string np, .int .i64 nk, .string nt, .bool no] 32)).more (B' := (w9.alloc (.cells #[.string np, .int .i64 nk, .string nt, .bool no] 32)).heap.size) (by rw [World.size_alloc]; exact Nat.le_succ _)
      go_wp2_with fail
      generalize w9.alloc (.cells #[.string np, .int .i64 nk, .string nt, .bool no] 32) = w10 at *
      generalize w9.heap.size = gv at *
      have cW := wrongT_any A2 c2 rem w10 rd6 hc2 HSR.out (by omega)
      obtain ⟨pw, hpw⟩ : ∃ pw, pw = Tr.wrong rem false := ⟨_, rfl⟩
      rw [← hpw] at cW hwr
      obtain ⟨z1, z2⟩ := pw
      dsimp only at cW hwr
      obtain rfl : z1 = 0 := hwr.out
      clear hpw hwr
      refine cW.mono ?_
      rintro e w11 ⟨rfl, hb⟩
      have hB11 := hB10.trans (hb.mono hB10.size)
      have hx_11 := hx_10.below hb hx_10.lt
      have hu_11 := hu_10.below hb hu_10.lt
      have hm_11 := hm_10.below hb hm_10.lt
      have hn_11 := hn_10.below hb hn_10.lt
      obtain ⟨x0, x1, x2, x3, xfr, xz⟩ := hx_11.four
      obtain ⟨u0, u1, u2, u3, ufr, uz⟩ := hu_11.four
      obtain ⟨m0, m1, m2, m3, mfr, mz⟩ := hm_11.four
      obtain ⟨n0, n1, n2, n3, nfr, nz⟩ := hn_11.four
      go_wp2_with fail
      go_ret
      exact ⟨rfl, hB11⟩
  · have hpe : Tr.putErr l z = 0 := by
      have h := HO.out
      unfold Tr.put at h
      by_cases h0 : Tr.putErr l z = 0
      · exact h0
      · rw [if_pos h0] at h
        injection h with _ h
        rw [h] at h0
        exact absurd (by simpa using te) h0
    have hres : res = Tr.ins z l := by
      have h := HO.out
      unfold Tr.put at h
      rw [if_neg (by simp [hpe])] at h
      injection h with h _
      exact h.symm
    have hzp := Tr.clean_ne (Tr.entry_clean (Tr.put_ok hpe).2.2.1)
    have HPE := Lib.hid (show z.P = xp.data.toList by rw [HX.out]; rfl)
    have RP := Lib.hid (show res.length ≤ 80 ∧ Tr.Right false res from by rw [hres]; exact ⟨Tr.put_len hpe, Tr.put_right hpe⟩)
    have HI1 := Lib.hid (show Tr.get res xp.data.toList = some ⟨xp, xk, xt, xo⟩ by rw [hres, ← HPE.out, ← HX.out]; exact Tr.get_ins_same RT.out.2.1 hzp)
    have HI2 := Lib.hid (show (q.toList == xp.toList) = false → Tr.get res q.data.toList = Tr.get l q.data.toList from fun h => by rw [hres]; exact Tr.get_ins_other RT.out.2.1 (by rw [HPE.out]; rw [toList_beq] at h; simpa using h))
    have hwp : Hid ((Tr.wrong res false).1 = 0) := Lib.hid ((Tr.wrong_zero res false).2 RP.out)
    have hpl := RP.out.1
    have HSP := Lib.hid (Tr.right_sm RP.out.2)
    clear hres hpe HO hzp HPE
    obtain ⟨A1, c1', rfl, hc1, rd1⟩ := EnOwn.rd ho5
    clear ho5
    obtain ⟨x0, x1, x2, x3, xfr, xz⟩ := hx_5.four
    go_wp2_with fail
    clear x0 x1 x2 x3 xfr xz
    refine (get_any A1 c1' res xp w5 rd1 HSP.out hxp (by omega)).mono ?_
    rintro e w6 ⟨r1, rfl, hr, hb⟩
    have h2 := hr.2 (.inl RP.out.2.2.1)
    rw [HI1.out] at h2
    subst h2
    have rd2 := (Rd.below rd1 hb).more hb.size
    clear rd1 hr HI1
    have hB6 := hB5.trans (hb.mono hB5.size)
    have hx_6 := hx_5.below hb hx_5.lt
    have hu_6 := hu_5.below hb hu_5.lt
    clear hb hB5 hx_5 hu_5
    rw [show ((some (⟨xp, xk, xt, xo⟩ : En)).getD En.zero).agg = .agg #[.string xp, .int .i64 xk, .string xt, .bool xo] from rfl, show (some (⟨xp, xk, xt, xo⟩ : En)).isSome = true from rfl]
    have hB7 := hB6.alloc hB6.size (.cells #[.string xp, .int .i64 xk, .string xt, .bool xo] 32)
    have hs_7 := Blk.new w6 32 [.string xp, .int .i64 xk, .string xt, .bool xo]
    have hx_7 := hx_6.alloc (.cells #[.string xp, .int .i64 xk, .string xt, .bool xo] 32)
    have hu_7 := hu_6.alloc (.cells #[.string xp, .int .i64 xk, .string xt, .bool xo] 32)
    have rd3 := (Rd.alloc rd2 (Nat.le_refl _) (.cells #[.string xp, .int .i64 xk, .string xt, .bool xo] 32)).more (B' := (w6.alloc (.cells #[.string xp, .int .i64 xk, .string xt, .bool xo] 32)).heap.size) (by rw [World.size_alloc]; exact Nat.le_succ _)
    go_wp2_with fail
    generalize w6.alloc (.cells #[.string xp, .int .i64 xk, .string xt, .bool xo] 32) = w7 at *
    clear rd2 hB6 hx_6 hu_6
    refine (get_any A1 c1' res q w7 rd3 HSP.out hq (by omega)).mono ?_
    rintro e w8 ⟨r3, rfl, hr, hb⟩
    have HR3 := Lib.hid (hr.2 (.inl RP.out.2.2.1))
    have rd4 := (Rd.below rd3 hb).more hb.size
    clear rd3 hr
    have hB8 := hB7.trans (hb.mono hB7.size)
    have hx_8 := hx_7.below hb hx_7.lt
    have hu_8 := hu_7.below hb hu_7.lt
    have hs_8 := hs_7.below hb hs_7.lt
    clear hb hB7 hx_7 hu_7 hs_7
    rcases tq : (q.toList == xp.toList) with _ | _
    · have tq2 := bne_of tq
      have h3 := HR3.out.trans ((HI2.out tq).trans HR.out.symm)
      subst h3
      rw [HD.out, HK.out]
      simp only [En.agg, En.cells]
      have hB9 := hB8.alloc hB8.size (.cells #[.string up, .int .i64 uk, .string ut, .bool uo] 32)
      have hv_9 := Blk.new w8 32 [.string up, .int .i64 uk, .string ut, .bool uo]
      have hx_9 := hx_8.alloc (.cells #[.string up, .int .i64 uk, .string ut, .bool uo] 32)
      have hu_9 := hu_8.alloc (.cells #[.string up, .int .i64 uk, .string ut, .bool uo] 32)
      have hs_9 := hs_8.alloc (.cells #[.string up, .int .i64 uk, .string ut, .bool uo] 32)
      have rd5 := (Rd.alloc rd4 (Nat.le_refl _) (.cells #[.string up, .int .i64 uk, .string ut, .bool uo] 32)).more (B' := (w8.alloc (.cells #[.string up, .int .i64 uk, .string ut, .bool uo] 32)).heap.size) (by rw [World.size_alloc]; exact Nat.le_succ _)
      go_wp2_with fail
      generalize w8.alloc (.cells #[.string up, .int .i64 uk, .string ut, .bool uo] 32) = w9 at *
      generalize w8.heap.size = gv at *
      have cW := wrongT_any A1 c1' res w9 rd5 hc1 HSP.out (by omega)
      obtain ⟨pw, hpw⟩ : ∃ pw, pw = Tr.wrong res false := ⟨_, rfl⟩
      rw [← hpw] at cW hwp
      obtain ⟨z1, z2⟩ := pw
      dsimp only at cW hwp
      obtain rfl : z1 = 0 := hwp.out
      clear hpw hwp
      refine cW.mono ?_
      rintro e w10 ⟨rfl, hb⟩
      have hB10 := hB9.trans (hb.mono hB9.size)
      have hx_10 := hx_9.below hb hx_9.lt
      have hu_10 := hu_9.below hb hu_9.lt
      have hs_10 := hs_9.below hb hs_9.lt
      have hv_10 := hv_9.below hb hv_9.lt
      obtain ⟨x0, x1, x2, x3, xfr, xz⟩ := hx_10.four
      obtain ⟨u0, u1, u2, u3, ufr, uz⟩ := hu_10.four
      obtain ⟨s0, s1, s2, s3, sfr, sz⟩ := hs_10.four
      obtain ⟨v0, v1, v2, v3, vfr, vz⟩ := hv_10.four
      go_wp2_with fail
      clear x0 x1 x2 x3 xfr xz u0 u1 u2 u3 ufr uz s0 s1 s2 s3 sfr sz v0 v1 v2 v3 vfr vz
      clear HR3 cW rd5 HSP RP tq tq2
      have cR := remove_any A c l p w10 ((hl.below hB10).more hB10.size) hc HS.out hp (by omega)
      unfold RemRel at cR
      obtain ⟨ov, hov⟩ : ∃ ov, ov = Tr.remove l p.data.toList := ⟨_, rfl⟩
      rw [← hov] at cR
      have HM := Lib.hid hov.symm
      clear hov
      obtain ⟨rem, er2⟩ := ov
      dsimp only at cR
      refine cR.mono ?_
      rintro e w11 ⟨v2, rfl, ho, hb⟩
      have ho11 : EnOwn w11 w.heap.size v2 rem := own_base ho hB10.size
      clear ho cR
      have hB11 := hB10.trans (hb.mono hB10.size)
      have hx_11 := hx_10.below hb hx_10.lt
      have hu_11 := hu_10.below hb hu_10.lt
      clear hb hB10 hx_10 hu_10
      rcases t2 : (er2 == 0) with _ | _
      · go_wp2_with fail
        go_ret
        exact ⟨rfl, hB11⟩
      have hre : Tr.removeErr l p.data.toList = 0 := by
        have h := HM.out
        unfold Tr.remove at h
        by_cases h0 : Tr.removeErr l p.data.toList = 0
        · exact h0
        · rw [if_pos h0] at h
          injection h with _ h
          rw [h] at h0
          exact absurd (by simpa using t2) h0
      have hrem : rem = Tr.without l p.data.toList := by
        have h := HM.out
        unfold Tr.remove at h
        rw [if_neg (by simp [hre])] at h
        injection h with h _
        exact h.symm
      have RR := Lib.hid (show rem.length ≤ 80 ∧ Tr.Right false rem from ⟨by rw [hrem]; exact Nat.le_trans (Tr.without_len _ _) (Tr.remove_ok hre).1, by rw [hrem]; exact Tr.remove_right hre⟩)
      have HG1 := Lib.hid (show Tr.get rem p.data.toList = none by rw [hrem]; exact Tr.get_without_same (Tr.remove_ok hre).2.2.1)
      have HG2 := Lib.hid (show (q.toList == p.toList) = false → Tr.get rem q.data.toList = Tr.get l q.data.toList from fun h => by rw [hrem]; exact Tr.get_without_other RT.out.2.1 (by rw [toList_beq] at h; simpa using h))
      have hwr : Hid ((Tr.wrong rem false).1 = 0) := Lib.hid ((Tr.wrong_zero rem false).2 RR.out)
      have hrl := RR.out.1
      have HSR := Lib.hid (Tr.right_sm RR.out.2)
      clear hrem hre HM
      obtain ⟨A2, c2, rfl, hc2, rd2⟩ := EnOwn.rd ho11
      clear ho11
      go_wp2_with fail
      refine (get_any A2 c2 rem p w11 rd2 HSR.out hp (by omega)).mono ?_
      rintro e w12 ⟨r2, rfl, hr, hb⟩
      have h2 := hr.2 (.inl RR.out.2.2.1)
      rw [HG1.out] at h2
      subst h2
      have rd3 := (Rd.below rd2 hb).more hb.size
      clear rd2 hr HG1
      have hB12 := hB11.trans (hb.mono hB11.size)
      have hx_12 := hx_11.below hb hx_11.lt
      have hu_12 := hu_11.below hb hu_11.lt
      clear hb hB11 hx_11 hu_11
      rw [show (none : Option En).isSome = false from rfl]
      obtain ⟨d, hd⟩ : ∃ d, d = (none : Option En).getD En.zero := ⟨_, rfl⟩
      rw [← hd]
      clear hd
      obtain ⟨mp, mk, mt, mo⟩ := d
      simp only [En.agg, En.cells]
      have hB13 := hB12.alloc hB12.size (.cells #[.string mp, .int .i64 mk, .string mt, .bool mo] 32)
      have hm_13 := Blk.new w12 32 [.string mp, .int .i64 mk, .string mt, .bool mo]
      have hx_13 := hx_12.alloc (.cells #[.string mp, .int .i64 mk, .string mt, .bool mo] 32)
      have hu_13 := hu_12.alloc (.cells #[.string mp, .int .i64 mk, .string mt, .bool mo] 32)
      clear hB12
      obtain ⟨x0, x1, x2, x3, xfr, xz⟩ := hx_12.four
      obtain ⟨u0, u1, u2, u3, ufr, uz⟩ := hu_12.four
      go_wp2_with fail
      clear x0 x1 x2 x3 xfr xz u0 u1 u2 u3 ufr uz
      have rd4 := (Rd.alloc rd3 (Nat.le_refl _) (.cells #[.string mp, .int .i64 mk, .string mt, .bool mo] 32)).more (B' := (w12.alloc (.cells #[.string mp, .int .i64 mk, .string mt, .bool mo] 32)).heap.size) (by rw [World.size_alloc]; exact Nat.le_succ _)
      generalize w12.alloc (.cells #[.string mp, .int .i64 mk, .string mt, .bool mo] 32) = w13 at *
      clear rd3
      clear hx_12 hu_12
      refine (get_any A2 c2 rem q w13 rd4 HSR.out hq (by omega)).mono ?_
      rintro e w14 ⟨r3, rfl, hr, hb⟩
      have HR3 := Lib.hid (hr.2 (.inl RR.out.2.2.1))
      have rd5 := (Rd.below rd4 hb).more hb.size
      clear rd4 hr
      have hB14 := hB13.trans (hb.mono hB13.size)
      have hx_14 := hx_13.below hb hx_13.lt
      have hu_14 := hu_13.below hb hu_13.lt
      have hm_14 := hm_13.below hb hm_13.lt
      clear hb hB13 hx_13 hu_13 hm_13
      rcases tq : (q.toList == p.toList) with _ | _
      · have tq2 := bne_of tq
        have h3 := HR3.out.trans ((HG2.out tq).trans HR.out.symm)
        subst h3
        rw [HD.out, HK.out]
        simp only [En.agg, En.cells]
        have hB15 := hB14.alloc hB14.size (.cells #[.string up, .int .i64 uk, .string ut, .bool uo] 32)
        have hv_15 := Blk.new w14 32 [.string up, .int .i64 uk, .string ut, .bool uo]
        have hx_15 := hx_14.alloc (.cells #[.string up, .int .i64 uk, .string ut, .bool uo] 32)
        have hu_15 := hu_14.alloc (.cells #[.string up, .int .i64 uk, .string ut, .bool uo] 32)
        have hm_15 := hm_14.alloc (.cells #[.string up, .int .i64 uk, .string ut, .bool uo] 32)
        have rd6 := (Rd.alloc rd5 (Nat.le_refl _) (.cells #[.string up, .int .i64 uk, .string ut, .bool uo] 32)).more (B' := (w14.alloc (.cells #[.string up, .int .i64 uk, .string ut, .bool uo] 32)).heap.size) (by rw [World.size_alloc]; exact Nat.le_succ _)
        go_wp2_with fail
        generalize w14.alloc (.cells #[.string up, .int .i64 uk, .string ut, .bool uo] 32) = w15 at *
        generalize w14.heap.size = gv at *
        have cW := wrongT_any A2 c2 rem w15 rd6 hc2 HSR.out (by omega)
        obtain ⟨pw, hpw⟩ : ∃ pw, pw = Tr.wrong rem false := ⟨_, rfl⟩
        rw [← hpw] at cW hwr
        obtain ⟨z1, z2⟩ := pw
        dsimp only at cW hwr
        obtain rfl : z1 = 0 := hwr.out
        clear hpw hwr
        refine cW.mono ?_
        rintro e w16 ⟨rfl, hb⟩
        have hB16 := hB15.trans (hb.mono hB15.size)
        have hx_16 := hx_15.below hb hx_15.lt
        have hu_16 := hu_15.below hb hu_15.lt
        have hm_16 := hm_15.below hb hm_15.lt
        have hv_16 := hv_15.below hb hv_15.lt
        obtain ⟨x0, x1, x2, x3, xfr, xz⟩ := hx_16.four
        obtain ⟨u0, u1, u2, u3, ufr, uz⟩ := hu_16.four
        obtain ⟨m0, m1, m2, m3, mfr, mz⟩ := hm_16.four
        obtain ⟨v0, v1, v2, v3, vfr, vz⟩ := hv_16.four
        go_wp2_with fail
        go_ret
        exact ⟨rfl, hB16⟩
      · have tq2 := bne_of tq
        generalize r3.getD En.zero = d
        generalize r3.isSome = ok3
        obtain ⟨np, nk, nt, no⟩ := d
        simp only [En.agg, En.cells]
        have hB15 := hB14.alloc hB14.size (.cells #[.string np, .int .i64 nk, .string nt, .bool no] 32)
        have hn_15 := Blk.new w14 32 [.string np, .int .i64 nk, .string nt, .bool no]
        have hx_15 := hx_14.alloc (.cells #[.string np, .int .i64 nk, .string nt, .bool no] 32)
        have hu_15 := hu_14.alloc (.cells #[.string np, .int .i64 nk, .string nt, .bool no] 32)
        have hm_15 := hm_14.alloc (.cells #[.string np, .int .i64 nk, .string nt, .bool no] 32)
        have rd6 := (Rd.alloc rd5 (Nat.le_refl _) (.cells #[.string np, .int .i64 nk, .string nt, .bool no] 32)).more (B' := (w14.alloc (.cells #[.string np, .int .i64 nk, .string nt, .bool no] 32)).heap.size) (by rw [World.size_alloc]; exact Nat.le_succ _)
        go_wp2_with fail
        generalize w14.alloc (.cells #[.string np, .int .i64 nk, .string nt, .bool no] 32) = w15 at *
        generalize w14.heap.size = gv at *
        have cW := wrongT_any A2 c2 rem w15 rd6 hc2 HSR.out (by omega)
        obtain ⟨pw, hpw⟩ : ∃ pw, pw = Tr.wrong rem false := ⟨_, rfl⟩
        rw [← hpw] at cW hwr
        obtain ⟨z1, z2⟩ := pw
        dsimp only at cW hwr
        obtain rfl : z1 = 0 := hwr.out
        clear hpw hwr
        refine cW.mono ?_
        rintro e w16 ⟨rfl, hb⟩
        have hB16 := hB15.trans (hb.mono hB15.size)
        have hx_16 := hx_15.below hb hx_15.lt
        have hu_16 := hu_15.below hb hu_15.lt
        have hm_16 := hm_15.below hb hm_15.lt
        have hn_16 := hn_15.below hb hn_15.lt
        obtain ⟨x0, x1, x2, x3, xfr, xz⟩ := hx_16.four
        obtain ⟨u0, u1, u2, u3, ufr, uz⟩ := hu_16.four
        obtain ⟨m0, m1, m2, m3, mfr, mz⟩ := hm_16.four
        obtain ⟨n0, n1, n2, n3, nfr, nz⟩ := hn_16.four
        go_wp2_with fail
        go_ret
        exact ⟨rfl, hB16⟩
    · have tq2 := bne_of tq
      generalize r3.getD En.zero = d
      generalize r3.isSome = ok3
      obtain ⟨np, nk, nt, no⟩ := d
      simp only [En.agg, En.cells]
      have hB9 := hB8.alloc hB8.size (.cells #[.string np, .int .i64 nk, .string nt, .bool no] 32)
      have hn_9 := Blk.new w8 32 [.string np, .int .i64 nk, .string nt, .bool no]
      have hx_9 := hx_8.alloc (.cells #[.string np, .int .i64 nk, .string nt, .bool no] 32)
      have hu_9 := hu_8.alloc (.cells #[.string np, .int .i64 nk, .string nt, .bool no] 32)
      have hs_9 := hs_8.alloc (.cells #[.string np, .int .i64 nk, .string nt, .bool no] 32)
      have rd5 := (Rd.alloc rd4 (Nat.le_refl _) (.cells #[.string np, .int .i64 nk, .string nt, .bool no] 32)).more (B' := (w8.alloc (.cells #[.string np, .int .i64 nk, .string nt, .bool no] 32)).heap.size) (by rw [World.size_alloc]; exact Nat.le_succ _)
      go_wp2_with fail
      generalize w8.alloc (.cells #[.string np, .int .i64 nk, .string nt, .bool no] 32) = w9 at *
      generalize w8.heap.size = gv at *
      have cW := wrongT_any A1 c1' res w9 rd5 hc1 HSP.out (by omega)
      obtain ⟨pw, hpw⟩ : ∃ pw, pw = Tr.wrong res false := ⟨_, rfl⟩
      rw [← hpw] at cW hwp
      obtain ⟨z1, z2⟩ := pw
      dsimp only at cW hwp
      obtain rfl : z1 = 0 := hwp.out
      clear hpw hwp
      refine cW.mono ?_
      rintro e w10 ⟨rfl, hb⟩
      have hB10 := hB9.trans (hb.mono hB9.size)
      have hx_10 := hx_9.below hb hx_9.lt
      have hu_10 := hu_9.below hb hu_9.lt
      have hs_10 := hs_9.below hb hs_9.lt
      have hn_10 := hn_9.below hb hn_9.lt
      obtain ⟨x0, x1, x2, x3, xfr, xz⟩ := hx_10.four
      obtain ⟨u0, u1, u2, u3, ufr, uz⟩ := hu_10.four
      obtain ⟨s0, s1, s2, s3, sfr, sz⟩ := hs_10.four
      obtain ⟨n0, n1, n2, n3, nfr, nz⟩ := hn_10.four
      go_wp2_with fail
      clear x0 x1 x2 x3 xfr xz u0 u1 u2 u3 ufr uz s0 s1 s2 s3 sfr sz n0 n1 n2 n3 nfr nz
      clear HR3 cW rd5 HSP RP tq tq2 HI2
      have cR := remove_any A c l p w10 ((hl.below hB10).more hB10.size) hc HS.out hp (by omega)
      unfold RemRel at cR
      obtain ⟨ov, hov⟩ : ∃ ov, ov = Tr.remove l p.data.toList := ⟨_, rfl⟩
      rw [← hov] at cR
      have HM := Lib.hid hov.symm
      clear hov
      obtain ⟨rem, er2⟩ := ov
      dsimp only at cR
      refine cR.mono ?_
      rintro e w11 ⟨v2, rfl, ho, hb⟩
      have ho11 : EnOwn w11 w.heap.size v2 rem := own_base ho hB10.size
      clear ho cR
      have hB11 := hB10.trans (hb.mono hB10.size)
      have hx_11 := hx_10.below hb hx_10.lt
      have hu_11 := hu_10.below hb hu_10.lt
      clear hb hB10 hx_10 hu_10
      rcases t2 : (er2 == 0) with _ | _
      · go_wp2_with fail
        go_ret
        exact ⟨rfl, hB11⟩
      have hre : Tr.removeErr l p.data.toList = 0 := by
        have h := HM.out
        unfold Tr.remove at h
        by_cases h0 : Tr.removeErr l p.data.toList = 0
        · exact h0
        · rw [if_pos h0] at h
          injection h with _ h
          rw [h] at h0
          exact absurd (by simpa using t2) h0
      have hrem : rem = Tr.without l p.data.toList := by
        have h := HM.out
        unfold Tr.remove at h
        rw [if_neg (by simp [hre])] at h
        injection h with h _
        exact h.symm
      have RR := Lib.hid (show rem.length ≤ 80 ∧ Tr.Right false rem from ⟨by rw [hrem]; exact Nat.le_trans (Tr.without_len _ _) (Tr.remove_ok hre).1, by rw [hrem]; exact Tr.remove_right hre⟩)
      have HG1 := Lib.hid (show Tr.get rem p.data.toList = none by rw [hrem]; exact Tr.get_without_same (Tr.remove_ok hre).2.2.1)
      have HG2 := Lib.hid (show (q.toList == p.toList) = false → Tr.get rem q.data.toList = Tr.get l q.data.toList from fun h => by rw [hrem]; exact Tr.get_without_other RT.out.2.1 (by rw [toList_beq] at h; simpa using h))
      have hwr : Hid ((Tr.wrong rem false).1 = 0) := Lib.hid ((Tr.wrong_zero rem false).2 RR.out)
      have hrl := RR.out.1
      have HSR := Lib.hid (Tr.right_sm RR.out.2)
      clear hrem hre HM
      obtain ⟨A2, c2, rfl, hc2, rd2⟩ := EnOwn.rd ho11
      clear ho11
      go_wp2_with fail
      refine (get_any A2 c2 rem p w11 rd2 HSR.out hp (by omega)).mono ?_
      rintro e w12 ⟨r2, rfl, hr, hb⟩
      have h2 := hr.2 (.inl RR.out.2.2.1)
      rw [HG1.out] at h2
      subst h2
      have rd3 := (Rd.below rd2 hb).more hb.size
      clear rd2 hr HG1
      have hB12 := hB11.trans (hb.mono hB11.size)
      have hx_12 := hx_11.below hb hx_11.lt
      have hu_12 := hu_11.below hb hu_11.lt
      clear hb hB11 hx_11 hu_11
      rw [show (none : Option En).isSome = false from rfl]
      obtain ⟨d, hd⟩ : ∃ d, d = (none : Option En).getD En.zero := ⟨_, rfl⟩
      rw [← hd]
      clear hd
      obtain ⟨mp, mk, mt, mo⟩ := d
      simp only [En.agg, En.cells]
      have hB13 := hB12.alloc hB12.size (.cells #[.string mp, .int .i64 mk, .string mt, .bool mo] 32)
      have hm_13 := Blk.new w12 32 [.string mp, .int .i64 mk, .string mt, .bool mo]
      have hx_13 := hx_12.alloc (.cells #[.string mp, .int .i64 mk, .string mt, .bool mo] 32)
      have hu_13 := hu_12.alloc (.cells #[.string mp, .int .i64 mk, .string mt, .bool mo] 32)
      clear hB12
      obtain ⟨x0, x1, x2, x3, xfr, xz⟩ := hx_12.four
      obtain ⟨u0, u1, u2, u3, ufr, uz⟩ := hu_12.four
      go_wp2_with fail
      clear x0 x1 x2 x3 xfr xz u0 u1 u2 u3 ufr uz
      have rd4 := (Rd.alloc rd3 (Nat.le_refl _) (.cells #[.string mp, .int .i64 mk, .string mt, .bool mo] 32)).more (B' := (w12.alloc (.cells #[.string mp, .int .i64 mk, .string mt, .bool mo] 32)).heap.size) (by rw [World.size_alloc]; exact Nat.le_succ _)
      generalize w12.alloc (.cells #[.string mp, .int .i64 mk, .string mt, .bool mo] 32) = w13 at *
      clear rd3
      clear hx_12 hu_12
      refine (get_any A2 c2 rem q w13 rd4 HSR.out hq (by omega)).mono ?_
      rintro e w14 ⟨r3, rfl, hr, hb⟩
      have HR3 := Lib.hid (hr.2 (.inl RR.out.2.2.1))
      have rd5 := (Rd.below rd4 hb).more hb.size
      clear rd4 hr
      have hB14 := hB13.trans (hb.mono hB13.size)
      have hx_14 := hx_13.below hb hx_13.lt
      have hu_14 := hu_13.below hb hu_13.lt
      have hm_14 := hm_13.below hb hm_13.lt
      clear hb hB13 hx_13 hu_13 hm_13
      rcases tq : (q.toList == p.toList) with _ | _
      · have tq2 := bne_of tq
        have h3 := HR3.out.trans ((HG2.out tq).trans HR.out.symm)
        subst h3
        rw [HD.out, HK.out]
        simp only [En.agg, En.cells]
        have hB15 := hB14.alloc hB14.size (.cells #[.string up, .int .i64 uk, .string ut, .bool uo] 32)
        have hv_15 := Blk.new w14 32 [.string up, .int .i64 uk, .string ut, .bool uo]
        have hx_15 := hx_14.alloc (.cells #[.string up, .int .i64 uk, .string ut, .bool uo] 32)
        have hu_15 := hu_14.alloc (.cells #[.string up, .int .i64 uk, .string ut, .bool uo] 32)
        have hm_15 := hm_14.alloc (.cells #[.string up, .int .i64 uk, .string ut, .bool uo] 32)
        have rd6 := (Rd.alloc rd5 (Nat.le_refl _) (.cells #[.string up, .int .i64 uk, .string ut, .bool uo] 32)).more (B' := (w14.alloc (.cells #[.string up, .int .i64 uk, .string ut, .bool uo] 32)).heap.size) (by rw [World.size_alloc]; exact Nat.le_succ _)
        go_wp2_with fail
        generalize w14.alloc (.cells #[.string up, .int .i64 uk, .string ut, .bool uo] 32) = w15 at *
        generalize w14.heap.size = gv at *
        have cW := wrongT_any A2 c2 rem w15 rd6 hc2 HSR.out (by omega)
        obtain ⟨pw, hpw⟩ : ∃ pw, pw = Tr.wrong rem false := ⟨_, rfl⟩
        rw [← hpw] at cW hwr
        obtain ⟨z1, z2⟩ := pw
        dsimp only at cW hwr
        obtain rfl : z1 = 0 := hwr.out
        clear hpw hwr
        refine cW.mono ?_
        rintro e w16 ⟨rfl, hb⟩
        have hB16 := hB15.trans (hb.mono hB15.size)
        have hx_16 := hx_15.below hb hx_15.lt
        have hu_16 := hu_15.below hb hu_15.lt
        have hm_16 := hm_15.below hb hm_15.lt
        have hv_16 := hv_15.below hb hv_15.lt
        obtain ⟨x0, x1, x2, x3, xfr, xz⟩ := hx_16.four
        obtain ⟨u0, u1, u2, u3, ufr, uz⟩ := hu_16.four
        obtain ⟨m0, m1, m2, m3, mfr, mz⟩ := hm_16.four
        obtain ⟨v0, v1, v2, v3, vfr, vz⟩ := hv_16.four
        go_wp2_with fail
        go_ret
        exact ⟨rfl, hB16⟩
      · have tq2 := bne_of tq
        generalize r3.getD En.zero = d
        generalize r3.isSome = ok3
        obtain ⟨np, nk, nt, no⟩ := d
        simp only [En.agg, En.cells]
        have hB15 := hB14.alloc hB14.size (.cells #[.string np, .int .i64 nk, .string nt, .bool no] 32)
        have hn_15 := Blk.new w14 32 [.string np, .int .i64 nk, .string nt, .bool no]
        have hx_15 := hx_14.alloc (.cells #[.string np, .int .i64 nk, .string nt, .bool no] 32)
        have hu_15 := hu_14.alloc (.cells #[.string np, .int .i64 nk, .string nt, .bool no] 32)
        have hm_15 := hm_14.alloc (.cells #[.string np, .int .i64 nk, .string nt, .bool no] 32)
        have rd6 := (Rd.alloc rd5 (Nat.le_refl _) (.cells #[.string np, .int .i64 nk, .string nt, .bool no] 32)).more (B' := (w14.alloc (.cells #[.string np, .int .i64 nk, .string nt, .bool no] 32)).heap.size) (by rw [World.size_alloc]; exact Nat.le_succ _)
        go_wp2_with fail
        generalize w14.alloc (.cells #[.string np, .int .i64 nk, .string nt, .bool no] 32) = w15 at *
        generalize w14.heap.size = gv at *
        have cW := wrongT_any A2 c2 rem w15 rd6 hc2 HSR.out (by omega)
        obtain ⟨pw, hpw⟩ : ∃ pw, pw = Tr.wrong rem false := ⟨_, rfl⟩
        rw [← hpw] at cW hwr
        obtain ⟨z1, z2⟩ := pw
        dsimp only at cW hwr
        obtain rfl : z1 = 0 := hwr.out
        clear hpw hwr
        refine cW.mono ?_
        rintro e w16 ⟨rfl, hb⟩
        have hB16 := hB15.trans (hb.mono hB15.size)
        have hx_16 := hx_15.below hb hx_15.lt
        have hu_16 := hu_15.below hb hu_15.lt
        have hm_16 := hm_15.below hb hm_15.lt
        have hn_16 := hn_15.below hb hn_15.lt
        obtain ⟨x0, x1, x2, x3, xfr, xz⟩ := hx_16.four
        obtain ⟨u0, u1, u2, u3, ufr, uz⟩ := hu_16.four
        obtain ⟨m0, m1, m2, m3, mfr, mz⟩ := hm_16.four
        obtain ⟨n0, n1, n2, n3, nfr, nz⟩ := hn_16.four
        go_wp2_with fail
        go_ret
        exact ⟨rfl, hB16⟩
end Go.Proofs.YtjppfhgkanbemabDoor
