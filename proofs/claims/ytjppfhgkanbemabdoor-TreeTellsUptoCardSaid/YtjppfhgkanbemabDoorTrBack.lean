/-
  The walk of TreeBack: it returns true.
-/
import Derived.Test.YtjppfhgkanbemabDoorTrMvAlive
import Derived.Test.YtjppfhgkanbemabDoorTrSame
namespace Go.Proofs.YtjppfhgkanbemabDoor
open Go.RowKit Go.Shelf Go.Sort

set_option maxHeartbeats 4000000 in
set_option maxRecDepth 100000 in
theorem treeBack_any (A : Option Addr) (c : Nat) (l : List En) (x : En) (w : World) (hl : EnRd w w.heap.size A l) (hc : l.length ≤ c) (hs : Sm l) (hxp : x.p.size < 4294967281) (hxt : x.t.size < 4294967281) (hn : l.length ≤ 1048576) :
    Calls Tryd.prog 6 #[.slice A l.length c, x.agg] w fun e w' => e = .returned (.bool true) ∧ Below w.heap.size w w' := by
  obtain ⟨z, hz⟩ : ∃ z, z = x := ⟨_, rfl⟩
  have HX := Lib.hid hz
  clear hz
  obtain ⟨xp, xk, xt, xo⟩ := x
  dsimp only at hxp hxt
  show Calls Tryd.prog 6 #[.slice A l.length c, .agg #[.string xp, .int .i64 xk, .string xt, .bool xo]] w _
  have HS := Lib.hid hs
  clear hs
  have hB0 := (Below.refl w.heap.size w).alloc (Nat.le_refl _) (.cells #[.string xp, .int .i64 xk, .string xt, .bool xo] 32)
  have hx0 := Blk.new w 32 [.string xp, .int .i64 xk, .string xt, .bool xo]
  go_enter Tryd.func6, Tryd.ntmps6
  go_wp2_with fail
  generalize w.alloc (.cells #[.string xp, .int .i64 xk, .string xt, .bool xo] 32) = w0 at *
  refine (trAlive_any w0).mono ?_
  rintro e w1 ⟨rfl, hb⟩
  have hB1 := hB0.trans (hb.mono hB0.size)
  have hx1 := hx0.below hb hx0.lt
  clear hb hB0 hx0
  obtain ⟨x0, x1, x2, x3, xfr, xz⟩ := hx1.four
  go_wp2_with fail
  clear x0 x1 x2 x3 xfr xz
  refine (get_any A c l xp w1 ((hl.below hB1).more hB1.size) HS.out hxp (by omega)).mono ?_
  rintro e w2 ⟨r, rfl, hr, hb⟩
  have hB2 := hB1.trans (hb.mono hB1.size)
  have hx2 := hx1.below hb hx1.lt
  have HR := Lib.hid hr.2
  clear hr hb hB1 hx1
  have HG := Lib.hid (show Tr.Srt l → r.isSome = false → Tr.get l z.P = none from fun h h2 => by
    rw [HX.out]
    have h3 := HR.out (.inl h)
    rw [← show r = Tr.get l (⟨xp, xk, xt, xo⟩ : En).P from h3]
    exact Option.not_isSome_iff_eq_none.1 (by rw [h2]; decide))
  clear HR
  generalize r.getD En.zero = y at *
  generalize r.isSome = ok at HG
  obtain ⟨dp, dk, dt, dop⟩ := y
  simp only [En.agg, En.cells]
  have hB3 := hB2.alloc hB2.size (.cells #[.string dp, .int .i64 dk, .string dt, .bool dop] 32)
  have hx3 := hx2.alloc (.cells #[.string dp, .int .i64 dk, .string dt, .bool dop] 32)
  clear hB2
  obtain ⟨x0, x1, x2, x3, xfr, xz⟩ := hx2.four
  go_wp2_with fail
  clear x0 x1 x2 x3 xfr xz hx2
  generalize w2.alloc (.cells #[.string dp, .int .i64 dk, .string dt, .bool dop] 32) = w3 at *
  have cP := put_any A c l xp xk xt xo w3 ((hl.below hB3).more hB3.size) hc HS.out hxp hxt (by omega)
  rw [← HX.out] at cP
  unfold PutRel at cP
  obtain ⟨ov, hov⟩ : ∃ ov, ov = Tr.put l z := ⟨_, rfl⟩
  rw [← hov] at cP
  have HO := Lib.hid hov.symm
  clear hov
  obtain ⟨res, err⟩ := ov
  dsimp only at cP
  refine cP.mono ?_
  rintro e w4 ⟨v, rfl, ho4, hb⟩
  have hB4 := hB3.trans (hb.mono hB3.size)
  have hx4 := hx3.below hb hx3.lt
  have ho4 : EnOwn w4 w.heap.size v res := own_base ho4 hB3.size
  clear hb hB3 hx3 cP
  rcases te : (err != 0) with _ | _
  rotate_left
  · cases ok
    · go_wp2_with fail
      go_ret
      exact ⟨rfl, hB4⟩
    · go_wp2_with fail
      go_ret
      exact ⟨rfl, hB4⟩
  cases ok
  rotate_left
  · go_wp2_with fail
    go_ret
    exact ⟨rfl, hB4⟩
  have hpe : Tr.putErr l z = 0 := by
    have h := HO.out
    unfold Tr.put at h
    by_cases h0 : Tr.putErr l z = 0
    · exact h0
    · rw [if_pos h0] at h
      injection h with _ h
      rw [h] at h0
      exact absurd (by simpa using te) h0
  have hres : res = Tr.ins z l := by
    have h := HO.out
    unfold Tr.put at h
    rw [if_neg (by simp [hpe])] at h
    injection h with h _
    exact h.symm
  have HRR := Lib.hid (Tr.put_right hpe)
  have hlen := Tr.put_len hpe
  have HB := Lib.hid (Tr.back hpe (HG.out (Tr.put_ok hpe).2.1.2.1 rfl))
  rw [← hres] at HB HRR hlen
  have HSM := Lib.hid (Tr.right_sm HRR.out)
  have HPE := Lib.hid (show z.P = xp.data.toList by rw [HX.out]; rfl)
  clear hres hpe HG HRR HO
  obtain ⟨A5, c5, rfl, hc5, rd5⟩ := EnOwn.rd ho4
  clear ho4
  obtain ⟨x0, x1, x2, x3, xfr, xz⟩ := hx4.four
  go_wp2_with fail
  clear x0 x1 x2 x3 xfr xz
  have cR := remove_any A5 c5 res xp w4 rd5 hc5 HSM.out hxp (by omega)
  unfold RemRel at cR
  rw [← HPE.out, HB.out] at cR
  dsimp only at cR
  refine cR.mono ?_
  rintro e w6 ⟨v6, rfl, ho6, hb⟩
  have hB6 := hB4.trans (hb.mono hB4.size)
  clear hb hB4 cR rd5
  obtain ⟨A6, c6, rfl, hc6, rd6⟩ := EnOwn.rd ho6
  clear ho6
  go_wp2_with fail
  refine (same_any A A6 c c6 l l w6 ((hl.below hB6).more hB6.size) rd6 (by omega) rfl).mono ?_
  rintro e w7 ⟨rfl, hb⟩
  have hB7 := hB6.trans (hb.mono hB6.size)
  go_wp2_with fail
  go_ret
  exact ⟨rfl, hB7⟩
end Go.Proofs.YtjppfhgkanbemabDoor
