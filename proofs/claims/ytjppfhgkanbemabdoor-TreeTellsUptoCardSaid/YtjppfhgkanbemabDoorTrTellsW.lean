/-
  The walk of TreeTells: it returns true. (Printed by wip/genttells.py.)
-/
import Derived.Test.YtjppfhgkanbemabDoorTrRefM
import Derived.Test.YtjppfhgkanbemabDoorTrRight
namespace Go.Proofs.YtjppfhgkanbemabDoor
open Go.RowKit Go.Shelf Go.Sort

theorem put_bound (l : List En) (x : En) : (Tr.put l x).1.length ≤ 9223372036854775807 := by
  unfold Tr.put
  split
  · simp
  · rename_i h
    have := Tr.put_len (t := l) (e := x) (by simpa using h)
    show (Tr.ins x l).length ≤ _
    omega
theorem rem_bound (l : List En) (p : Pt.Bs) (hl : l.length ≤ 9223372036854775807) : (Tr.remove l p).1.length ≤ 9223372036854775807 := by
  unfold Tr.remove
  split
  · simp
  · exact Nat.le_trans (Tr.without_len l p) hl
theorem list_bound (l : List En) (p : Pt.Bs) (hl : l.length ≤ 9223372036854775807) : (Tr.list l p).1.length ≤ 9223372036854775807 := by
  unfold Tr.list
  split
  · simp
  · exact Nat.le_trans (names_le l p) hl
theorem move_bound (l : List En) (s d : Pt.Bs) (hl : l.length ≤ 9223372036854775807) : (Tr.move l s d).1.length ≤ 9223372036854775807 := by
  unfold Tr.move
  split
  · simp
  · exact Nat.le_trans (Tr.move_len l s d) hl

set_option maxHeartbeats 8000000 in
set_option maxRecDepth 100000 in
theorem treeTells_any (A : Option Addr) (c : Nat) (l : List En) (x : En) (p q : ByteArray) (w : World) (hl : EnRd w w.heap.size A l) (hc : l.length ≤ c) (hs : Sm l) (hxp : x.p.size < 4294967281) (hxt : x.t.size < 4294967281) (hp : p.size < 4294967281) (hq : q.size < 4294967281) (hn : l.length ≤ 1048576) :
    Calls Tryd.prog 4 #[.slice A l.length c, x.agg, .string p, .string q] w fun e w' => e = .returned (.bool true) ∧ Below w.heap.size w w' := by
  have hfd := field_faultC
  obtain ⟨z, hz⟩ : ∃ z, z = x := ⟨_, rfl⟩
  have HX := Lib.hid hz
  clear hz
  obtain ⟨xp, xk, xt, xo⟩ := x
  dsimp only at hxp hxt
  show Calls Tryd.prog 4 #[.slice A l.length c, .agg #[.string xp, .int .i64 xk, .string xt, .bool xo], .string p, .string q] w _
  have HS := Lib.hid hs
  clear hs
  have hB0 := (Below.refl w.heap.size w).alloc (Nat.le_refl _) (.cells #[.string xp, .int .i64 xk, .string xt, .bool xo] 32)
  have hx0 := Blk.new w 32 [.string xp, .int .i64 xk, .string xt, .bool xo]
  go_enter Tryd.func4, Tryd.ntmps4
  go_wp2_with fail
  generalize w.alloc (.cells #[.string xp, .int .i64 xk, .string xt, .bool xo] 32) = w0 at *
  have c1 := fun W h => wrongT_any A c l W h hc HS.out (by omega)
  have c2 := fun W h => refWrongT_any A c l false W h hc HS.out (by omega)
  obtain ⟨pt, hpt⟩ : ∃ pr, pr = Tr.wrong l false := ⟨_, rfl⟩
  rw [← hpt] at c1 c2
  have HT := Lib.hid hpt.symm
  obtain ⟨y, y'⟩ := pt
  clear hpt
  dsimp only at c1 c2
  refine (c1 w0 ((hl.below hB0).more hB0.size)).mono ?_
  rintro e w1 ⟨rfl, hb⟩
  have hB1 := hB0.trans (hb.mono hB0.size)
  have hx1 := hx0.below hb hx0.lt
  clear hb hB0 hx0
  go_wp2_with fail
  refine (c2 w1 ((hl.below hB1).more hB1.size)).mono ?_
  rintro e w2 ⟨rfl, hb⟩
  have hB2 := hB1.trans (hb.mono hB1.size)
  have hx2 := hx1.below hb hx1.lt
  clear hb hB1 hx1
  go_wp2_with fail
  refine (c2 w2 ((hl.below hB2).more hB2.size)).mono ?_
  rintro e w3 ⟨rfl, hb⟩
  have hB3 := hB2.trans (hb.mono hB2.size)
  have hx3 := hx2.below hb hx2.lt
  clear hb hB2 hx2 c1 c2
  have HL1 := Lib.hid (show (Tr.put l ⟨xp, xk, xt, xo⟩).1.length ≤ 9223372036854775807 from put_bound l _)
  have HL2 := Lib.hid (show (Tr.remove l p.data.toList).1.length ≤ 9223372036854775807 from rem_bound l _ (by omega))
  have HL3 := Lib.hid (show (Tr.move l p.data.toList q.data.toList).1.length ≤ 9223372036854775807 from move_bound l _ _ (by omega))
  rcases ty : (y == 0) with _ | _
  · obtain ⟨x0, x1, x2, x3, xfr, xz⟩ := hx3.four
    go_wp2_with fail
    clear x0 x1 x2 x3 xfr xz
    refine (put_any A c l xp xk xt xo w3 ((hl.below hB3).more hB3.size) hc HS.out hxp hxt (by omega)).mono ?_
    rintro e w4 ⟨v1, rfl, ho1, hb⟩
    have hB4 := hB3.trans (hb.mono hB3.size)
    have hx4 := hx3.below hb hx3.lt
    obtain ⟨A1, c1', rfl, _, rd1⟩ := EnOwn.rd ho1
    clear hb hB3 hx3 ho1
    obtain ⟨x0, x1, x2, x3, xfr, xz⟩ := hx4.four
    go_wp2_with fail
    clear x0 x1 x2 x3 xfr xz
    refine (refPut_any A c l xp xk xt xo w4 ((hl.below hB4).more hB4.size) hc HS.out hxp hxt (by omega)).mono ?_
    rintro e w5 ⟨v2, rfl, ho2, hb⟩
    have hB5 := hB4.trans (hb.mono hB4.size)
    have rd1 := (Rd.below rd1 hb).more hb.size
    obtain ⟨A2, c2', rfl, _, rd2⟩ := EnOwn.rd ho2
    clear hb hB4 ho2
    generalize (Tr.put l ⟨xp, xk, xt, xo⟩).2 = err1 at *
    generalize (Tr.put l ⟨xp, xk, xt, xo⟩).1 = m1 at *
    have hm1 := HL1.out
    go_wp2_with fail
    refine (same_any A1 A2 c1' c2' m1 m1 w5 rd1 rd2 hm1 rfl).mono ?_
    rintro e w6 ⟨rfl, hb⟩
    have hB6 := hB5.trans (hb.mono hB5.size)
    clear hb hB5 rd1 rd2 hm1
    go_wp2_with fail
    refine (remove_any A c l p w6 ((hl.below hB6).more hB6.size) hc HS.out hp (by omega)).mono ?_
    rintro e w7 ⟨v3, rfl, ho3, hb⟩
    have hB7 := hB6.trans (hb.mono hB6.size)
    obtain ⟨A3, c3', rfl, _, rd3⟩ := EnOwn.rd ho3
    clear hb hB6 ho3
    go_wp2_with fail
    refine (refRemove_any A c l p w7 ((hl.below hB7).more hB7.size) hc HS.out hp (by omega)).mono ?_
    rintro e w8 ⟨v4, rfl, ho4, hb⟩
    have hB8 := hB7.trans (hb.mono hB7.size)
    have rd3 := (Rd.below rd3 hb).more hb.size
    obtain ⟨A4, c4', rfl, _, rd4⟩ := EnOwn.rd ho4
    clear hb hB7 ho4
    generalize (Tr.remove l p.data.toList).2 = err2 at *
    generalize (Tr.remove l p.data.toList).1 = m2 at *
    have hm2 := HL2.out
    go_wp2_with fail
    refine (same_any A3 A4 c3' c4' m2 m2 w8 rd3 rd4 hm2 rfl).mono ?_
    rintro e w9 ⟨rfl, hb⟩
    have hB9 := hB8.trans (hb.mono hB8.size)
    clear hb hB8 rd3 rd4 hm2
    go_wp2_with fail
    refine (move_any A c l p q w9 ((hl.below hB9).more hB9.size) hc HS.out hp hq (by omega)).mono ?_
    rintro e w10 ⟨v5, rfl, ho5, hb⟩
    have hB10 := hB9.trans (hb.mono hB9.size)
    obtain ⟨A5, c5', rfl, _, rd5⟩ := EnOwn.rd ho5
    clear hb hB9 ho5
    go_wp2_with fail
    refine (refMove_any A c l p q w10 ((hl.below hB10).more hB10.size) hc HS.out hp hq hn).mono ?_
    rintro e w11 ⟨A6, c6', rfl, hc6, rd6, hb⟩
    have hB11 := hB10.trans (hb.mono hB10.size)
    have rd5 := (Rd.below rd5 hb).more hb.size
    clear hb hB10
    generalize (Tr.move l p.data.toList q.data.toList).2 = err3 at *
    generalize (Tr.move l p.data.toList q.data.toList).1 = m3 at *
    have hm3 := HL3.out
    go_wp2_with fail
    refine (same_any A5 A6 c5' c6' m3 m3 w11 rd5 rd6 hm3 rfl).mono ?_
    rintro e w12 ⟨rfl, hb⟩
    have hB12 := hB11.trans (hb.mono hB11.size)
    go_wp2_with fail
    go_ret
    exact ⟨rfl, hB12⟩
  · have RT := Lib.hid ((Tr.wrong_zero l false).1 (by rw [HT.out]; simpa using ty)).2
    go_wp2_with fail
    refine (get_any A c l p w3 ((hl.below hB3).more hB3.size) HS.out hp (by omega)).mono ?_
    rintro e w4 ⟨r, rfl, hr, hb⟩
    have hB4 := hB3.trans (hb.mono hB3.size)
    have hx4 := hx3.below hb hx3.lt
    have HR := Lib.hid (hr.2 (.inl RT.out.2.1))
    clear hr hb hB3 hx3
    have HR2 := Lib.hid (show ∀ r2, r2 = Tr.get l p.data.toList → r2 = r from fun r2 h => h.trans HR.out.symm)
    clear HR
    obtain ⟨d, hd⟩ : ∃ d, d = r.getD En.zero := ⟨_, rfl⟩
    obtain ⟨ok, hok⟩ : ∃ ok, ok = r.isSome := ⟨_, rfl⟩
    rw [← hd, ← hok]
    have HD := Lib.hid hd.symm
    have HK := Lib.hid hok.symm
    clear hd hok
    obtain ⟨up, uk, ut, uo⟩ := d
    simp only [En.agg, En.cells]
    have hB5 := hB4.alloc hB4.size (.cells #[.string up, .int .i64 uk, .string ut, .bool uo] 32)
    have hu5 := Blk.new w4 32 [.string up, .int .i64 uk, .string ut, .bool uo]
    have hx5 := hx4.alloc (.cells #[.string up, .int .i64 uk, .string ut, .bool uo] 32)
    go_wp2_with fail
    generalize w4.alloc (.cells #[.string up, .int .i64 uk, .string ut, .bool uo] 32) = w5 at *
    generalize w4.heap.size = gu at *
    clear hB4 hx4
    refine (refGet_any A c l p w5 ((hl.below hB5).more hB5.size) (by omega)).mono ?_
    rintro e w6 ⟨r2, rfl, hr, hb⟩
    have h2 := HR2.out r2 hr
    subst h2
    rw [HD.out, HK.out]
    simp only [En.agg, En.cells]
    have hB6 := hB5.trans (hb.mono hB5.size)
    have hx6 := hx5.below hb hx5.lt
    have hu6 := hu5.below hb hu5.lt
    clear hr hb hB5 hx5 hu5 HR2 HD HK
    have hB7 := hB6.alloc hB6.size (.cells #[.string up, .int .i64 uk, .string ut, .bool uo] 32)
    have ha7 := Blk.new w6 32 [.string up, .int .i64 uk, .string ut, .bool uo]
    have hu7 := hu6.alloc (.cells #[.string up, .int .i64 uk, .string ut, .bool uo] 32)
    have hx7 := hx6.alloc (.cells #[.string up, .int .i64 uk, .string ut, .bool uo] 32)
    go_wp2_with fail
    generalize w6.alloc (.cells #[.string up, .int .i64 uk, .string ut, .bool uo] 32) = w7 at *
    generalize w6.heap.size = ga at *
    clear hB6 hx6 hu6
    refine (list_any A c l p w7 ((hl.below hB7).more hB7.size) HS.out RT.out.2.1 hp (by omega)).mono ?_
    rintro e w8 ⟨v8, rfl, ho8, hb⟩
    have hB8 := hB7.trans (hb.mono hB7.size)
    have hx8 := hx7.below hb hx7.lt
    have hu8 := hu7.below hb hu7.lt
    have ha8 := ha7.below hb ha7.lt
    clear hb hB7 hx7 hu7 ha7
    obtain ⟨A8, c8, rfl, rd8⟩ := StrOwn.form ho8
    clear ho8
    go_wp2_with fail
    refine (refList_any A c l p w8 ((hl.below hB8).more hB8.size) HS.out (by omega)).mono ?_
    rintro e w9 ⟨v9, rfl, ho9, hb⟩
    have hB9 := hB8.trans (hb.mono hB8.size)
    have hx9 := hx8.below hb hx8.lt
    have hu9 := hu8.below hb hu8.lt
    have ha9 := ha8.below hb ha8.lt
    have rd8 : StrRd w9 w9.heap.size A8 _ := (Rd.below rd8 hb).more hb.size
    clear hb hB8 hx8 hu8 ha8
    obtain ⟨A9, c9, rfl, rd9⟩ := StrOwn.form ho9
    clear ho9
    have HLL := Lib.hid (show (Tr.list l p.data.toList).1.length ≤ 9223372036854775807 from list_bound l _ (by omega))
    generalize (Tr.list l p.data.toList).2 = err0 at *
    generalize (Tr.list l p.data.toList).1 = m0 at *
    obtain ⟨u0, u1, u2, u3, ufr, uz⟩ := hu9.four
    obtain ⟨a0, a1, a2, a3, afr, az⟩ := ha9.four
    go_wp2_with fail
    clear u0 u1 u2 u3 ufr uz a0 a1 a2 a3 afr az hu9 ha9
    refine (sameTexts_any A8 A9 c8 c9 m0 m0 w9 rd8 rd9 HLL.out rfl).mono ?_
    rintro e w10 ⟨rfl, hb⟩
    have hB10 := hB9.trans (hb.mono hB9.size)
    have hx10 := hx9.below hb hx9.lt
    clear hb hB9 hx9 rd8 rd9 HLL
    obtain ⟨x0, x1, x2, x3, xfr, xz⟩ := hx10.four
    go_wp2_with fail
    clear x0 x1 x2 x3 xfr xz
    refine (put_any A c l xp xk xt xo w10 ((hl.below hB10).more hB10.size) hc HS.out hxp hxt (by omega)).mono ?_
    rintro e w11 ⟨v1, rfl, ho1, hb⟩
    have hB11 := hB10.trans (hb.mono hB10.size)
    have hx11 := hx10.below hb hx10.lt
    obtain ⟨A1, c1', rfl, _, rd1⟩ := EnOwn.rd ho1
    clear hb hB10 hx10 ho1
    obtain ⟨x0, x1, x2, x3, xfr, xz⟩ := hx11.four
    go_wp2_with fail
    clear x0 x1 x2 x3 xfr xz
    refine (refPut_any A c l xp xk xt xo w11 ((hl.below hB11).more hB11.size) hc HS.out hxp hxt (by omega)).mono ?_
    rintro e w12 ⟨v2, rfl, ho2, hb⟩
    have hB12 := hB11.trans (hb.mono hB11.size)
    have rd1 := (Rd.below rd1 hb).more hb.size
    obtain ⟨A2, c2', rfl, _, rd2⟩ := EnOwn.rd ho2
    clear hb hB11 ho2
    generalize (Tr.put l ⟨xp, xk, xt, xo⟩).2 = err1 at *
    generalize (Tr.put l ⟨xp, xk, xt, xo⟩).1 = m1 at *
    have hm1 := HL1.out
    go_wp2_with fail
    refine (same_any A1 A2 c1' c2' m1 m1 w12 rd1 rd2 hm1 rfl).mono ?_
    rintro e w13 ⟨rfl, hb⟩
    have hB13 := hB12.trans (hb.mono hB12.size)
    clear hb hB12 rd1 rd2 hm1
    go_wp2_with fail
    refine (remove_any A c l p w13 ((hl.below hB13).more hB13.size) hc HS.out hp (by omega)).mono ?_
    rintro e w14 ⟨v3, rfl, ho3, hb⟩
    have hB14 := hB13.trans (hb.mono hB13.size)
    obtain ⟨A3, c3', rfl, _, rd3⟩ := EnOwn.rd ho3
    clear hb hB13 ho3
    go_wp2_with fail
    refine (refRemove_any A c l p w14 ((hl.below hB14).more hB14.size) hc HS.out hp (by omega)).mono ?_
    rintro e w15 ⟨v4, rfl, ho4, hb⟩
    have hB15 := hB14.trans (hb.mono hB14.size)
    have rd3 := (Rd.below rd3 hb).more hb.size
    obtain ⟨A4, c4', rfl, _, rd4⟩ := EnOwn.rd ho4
    clear hb hB14 ho4
    generalize (Tr.remove l p.data.toList).2 = err2 at *
    generalize (Tr.remove l p.data.toList).1 = m2 at *
    have hm2 := HL2.out
    go_wp2_with fail
    refine (same_any A3 A4 c3' c4' m2 m2 w15 rd3 rd4 hm2 rfl).mono ?_
    rintro e w16 ⟨rfl, hb⟩
    have hB16 := hB15.trans (hb.mono hB15.size)
    clear hb hB15 rd3 rd4 hm2
    go_wp2_with fail
    refine (move_any A c l p q w16 ((hl.below hB16).more hB16.size) hc HS.out hp hq (by omega)).mono ?_
    rintro e w17 ⟨v5, rfl, ho5, hb⟩
    have hB17 := hB16.trans (hb.mono hB16.size)
    obtain ⟨A5, c5', rfl, _, rd5⟩ := EnOwn.rd ho5
    clear hb hB16 ho5
    go_wp2_with fail
    refine (refMove_any A c l p q w17 ((hl.below hB17).more hB17.size) hc HS.out hp hq hn).mono ?_
    rintro e w18 ⟨A6, c6', rfl, hc6, rd6, hb⟩
    have hB18 := hB17.trans (hb.mono hB17.size)
    have rd5 := (Rd.below rd5 hb).more hb.size
    clear hb hB17
    generalize (Tr.move l p.data.toList q.data.toList).2 = err3 at *
    generalize (Tr.move l p.data.toList q.data.toList).1 = m3 at *
    have hm3 := HL3.out
    go_wp2_with fail
    refine (same_any A5 A6 c5' c6' m3 m3 w18 rd5 rd6 hm3 rfl).mono ?_
    rintro e w19 ⟨rfl, hb⟩
    have hB19 := hB18.trans (hb.mono hB18.size)
    go_wp2_with fail
    go_ret
    exact ⟨rfl, hB19⟩
end Go.Proofs.YtjppfhgkanbemabDoor
