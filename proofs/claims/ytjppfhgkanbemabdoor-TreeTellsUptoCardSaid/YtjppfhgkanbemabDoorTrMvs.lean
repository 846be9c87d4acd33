/-
  tree.moves, and the comparison of tree.Move's sort.
-/
import Derived.Test.YtjppfhgkanbemabDoorTrList
import Derived.Test.YtjppfhgkanbemabDoorTrMvPure
namespace Go.Proofs.YtjppfhgkanbemabDoor
open Go.RowKit Go.Shelf Go.Sort

set_option maxHeartbeats 800000 in
theorem move1_any (x y : En) (hx : x.p.size < 4294967281) (hy : y.p.size < 4294967281) (W : World) : Calls Tryd.prog 40 #[.agg x.cells.toArray, .agg y.cells.toArray] W fun e w' => e = .returned (.int .i64 (Pt.cmp x.P y.P)) ∧ Gr W w' := by
  obtain ⟨xp, xk, xt, xo⟩ := x
  obtain ⟨yp, yk, yt, yo⟩ := y
  simp only [En.cells]
  dsimp only at hx hy
  go_enter Tryd.func40, Tryd.ntmps40
  go_wp2_with fail
  refine (cmp_gr xp yp _ hx hy).mono ?_
  rintro e w1 ⟨rfl, q, os, rfl⟩
  go_wp2_with fail
  go_ret
  refine ⟨rfl, ?_⟩
  obtain ⟨n, os', h⟩ := ((Gr.refl W).alloc (.cells #[.string xp, .int .i64 xk, .string xt, .bool xo] 32)).alloc (.cells #[.string yp, .int .i64 yk, .string yt, .bool yo] 32)
  rw [h]
  exact ⟨n + q, os' ++ os, by show grow (grow ((W.drewN n).drewN q) os') os = _; rw [grow_grow, World.drewN_drewN]⟩

theorem ret_int {m n : Int} (h : m = n) : Ending.returned (.int .i64 n) = .returned (.int .i64 m) := by rw [h]

set_option maxHeartbeats 4000000 in
set_option maxRecDepth 100000 in
theorem moves_any (A : Option Addr) (c : Nat) (l : List En) (s d : ByteArray) (w : World) (hl : EnRd w w.heap.size A l) (hs : Sm l) (hsrt : Tr.Srt l) (hsz : s.size < 4294967281) (hdz : d.size < 4294967281) (hn : l.length ≤ 4000000) :
    Calls Tryd.prog 37 #[.slice A l.length c, .string s, .string d] w fun e w' => e = .returned (.int .i64 (Tr.movesErr l s.data.toList d.data.toList)) ∧ Below w.heap.size w w' := by
  have HS := Lib.hid hs
  have HSR := Lib.hid hsrt
  clear hs hsrt
  obtain ⟨M, hM⟩ : ∃ M, M = Tr.movesErr l s.data.toList d.data.toList := ⟨_, rfl⟩
  rw [← hM]
  unfold Tr.movesErr at hM
  have HM := Lib.hid hM
  clear hM
  have hB0 := Below.refl w.heap.size w
  go_enter Tryd.func37, Tryd.ntmps37
  go_wp2_with fail
  refine (get_any A c l s w hl HS.out hsz (by omega)).mono ?_
  rintro e w1 ⟨r, rfl, hr, hb⟩
  have hB1 := hB0.trans (hb.mono hB0.size)
  have HR := Lib.hid (hr.2 (.inl HSR.out))
  clear hr hb hB0
  have HM0 := Lib.hid (show r.isSome = false → M = 6 from fun h => by
    rw [HM.out, if_pos (.inl (by rw [← HR.out]; exact Option.not_isSome_iff_eq_none.1 (by rw [h]; decide)))])
  have HM1 := Lib.hid (show s.data.toList = [] → M = 6 from fun h => by rw [HM.out, if_pos (.inr h)])
  have HM2 := Lib.hid (show r.isSome = true → s.data.toList ≠ [] → M = if Pt.clean d.data.toList = false then 7 else if s.data.toList = d.data.toList then 0 else if Pt.under d.data.toList s.data.toList = true then 8 else
      if Tr.dirErr l (Pt.dirOf d.data.toList) ≠ 0 then Tr.dirErr l (Pt.dirOf d.data.toList) else Tr.destErr l (r.getD En.zero) d.data.toList from fun h h0 => by
    rw [HM.out, if_neg, ← HR.out]
    rintro (h1 | h1)
    · rw [← HR.out] at h1; rw [h1] at h; cases h
    · exact h0 h1)
  clear HM HR
  generalize r.getD En.zero = x at HM2
  generalize r.isSome = ok at HM0 HM2
  obtain ⟨xp, xk, xt, xo⟩ := x
  simp only [En.agg, En.cells]
  have hB2 := hB1.alloc hB1.size (.cells #[.string xp, .int .i64 xk, .string xt, .bool xo] 32)
  have hx2 := Blk.new w1 32 [.string xp, .int .i64 xk, .string xt, .bool xo]
  clear hB1
  cases ok
  · have HO := Lib.hid (HM0.out rfl)
    go_wp2_with fail
    go_ret
    exact ⟨ret_int HO.out, hB2⟩
  rcases empty_cases s with ⟨hE, g1, g2⟩ | ⟨hE, g1, g2⟩
  · have HO := Lib.hid (HM1.out hE)
    clear hE
    go_wp2_with fail
    go_ret
    exact ⟨ret_int HO.out, hB2⟩
  have HM := Lib.hid (HM2.out rfl hE)
  clear hE HM0 HM1 HM2
  go_wp2_with fail
  generalize w1.alloc (.cells #[.string xp, .int .i64 xk, .string xt, .bool xo] 32) = w2 at *
  generalize w1.heap.size = gx at *
  refine (clean_any d w2 (by omega)).mono ?_
  rintro e w3 ⟨rfl, hb⟩
  have hB3 := hB2.trans (hb.mono hB2.size)
  have hx3 := hx2.below hb hx2.lt
  clear hb hB2 hx2
  rcases tc : Pt.clean d.data.toList with _ | _
  · have HO := Lib.hid (HM.out.trans (if_pos tc))
    clear HM
    go_wp2_with fail
    go_ret
    exact ⟨ret_int HO.out, hB3⟩
  have HM := Lib.hid (HM.out.trans (if_neg (by rw [tc]; decide)))
  have HDN := Lib.hid (Tr.clean_ne tc)
  rcases te : (s.toList == d.toList) with _ | _
  rotate_left
  · have HO := Lib.hid (HM.out.trans (if_pos (by rw [toList_beq] at te; simpa using te)))
    clear HM
    go_wp2_with fail
    go_ret
    exact ⟨ret_int HO.out, hB3⟩
  have HM := Lib.hid (HM.out.trans (if_neg (by rw [toList_beq] at te; simpa using te)))
  go_wp2_with fail
  refine (under_any d s w3 (by omega)).mono ?_
  rintro e w3 ⟨rfl, rfl⟩
  rcases tu : Pt.under d.data.toList s.data.toList with _ | _
  rotate_left
  · have HO := Lib.hid (HM.out.trans (if_pos tu))
    clear HM
    go_wp2_with fail
    go_ret
    exact ⟨ret_int HO.out, hB3⟩
  have HM := Lib.hid (HM.out.trans (if_neg (by rw [tu]; decide)))
  go_wp2_with fail
  refine (cut_any d _ (by omega)).mono ?_
  rintro e w4 ⟨rfl, hD⟩
  have hB4 := hB3.trans (hD.below (B := w.heap.size))
  have hx4 := hx3.below (hD.below (B := w3.heap.size)) hx3.lt
  clear hD hB3 hx3
  obtain ⟨sd, hsd⟩ : ∃ sd : ByteArray, sd = ⟨(Pt.dirOf d.data.toList).toArray⟩ := ⟨_, rfl⟩
  have hsl : sd.data.toList = Pt.dirOf d.data.toList := by rw [hsd]
  have hst : Pt.str (Pt.dirOf d.data.toList) = .string sd := by rw [hsd]; rfl
  obtain ⟨sn, hsn⟩ : ∃ sn, Pt.str (Pt.nameOf d.data.toList) = .string sn := ⟨_, rfl⟩
  rw [hst, hsn]
  have hlt : sd.size < d.size := by have := Tr.dir_short HDN.out; rw [← hsl, size_length, size_length] at this; exact this
  have HM := Lib.hid HM.out
  rw [← hsl] at HM
  clear hsd hsl hst hsn
  go_wp2_with fail
  refine (get_any A c l sd w4 ((hl.below hB4).more hB4.size) HS.out (by omega) (by omega)).mono ?_
  rintro e w5 ⟨r2, rfl, hr, hb⟩
  have hB5 := hB4.trans (hb.mono hB4.size)
  have hx5 := hx4.below hb hx4.lt
  have HR := Lib.hid (hr.2 (.inl HSR.out))
  clear hr hb hB4 hx4
  have HN := Lib.hid (show r2.isSome = false → M = 6 from fun h => by rw [HM.out, dirErr_none (by rw [← HR.out]; exact h)]; rfl)
  have HK := Lib.hid (show r2.isSome = true → ((r2.getD En.zero).k != 2) = true → M = 10 from fun h h2 => by rw [HM.out, dirErr_kind HR.out h h2]; rfl)
  have HG := Lib.hid (show r2.isSome = true → ((r2.getD En.zero).k != 2) = false → M = Tr.destErr l ⟨xp, xk, xt, xo⟩ d.data.toList from fun h h2 => by rw [HM.out, dirErr_ok HR.out h h2]; rfl)
  clear HR HM
  generalize r2.getD En.zero = y at HN HK HG
  generalize r2.isSome = ok at HN HK HG
  obtain ⟨dp, dk, dt, dop⟩ := y
  simp only [En.agg, En.cells]
  dsimp only at HN HK HG
  have hB6 := hB5.alloc hB5.size (.cells #[.string dp, .int .i64 dk, .string dt, .bool dop] 32)
  have hx6 := hx5.alloc (.cells #[.string dp, .int .i64 dk, .string dt, .bool dop] 32)
  clear hB5 hx5
  cases ok
  · have HO := Lib.hid (HN.out rfl)
    go_wp2_with fail
    go_ret
    exact ⟨ret_int HO.out, hB6⟩
  rcases tk : (dk != 2) with _ | _
  rotate_left
  · have HO := Lib.hid (HK.out rfl tk)
    go_wp2_with fail
    go_ret
    exact ⟨ret_int HO.out, hB6⟩
  have HM := Lib.hid (HG.out rfl tk)
  clear HN HK HG
  go_wp2_with fail
  generalize w5.alloc (.cells #[.string dp, .int .i64 dk, .string dt, .bool dop] 32) = w6 at *
  refine (get_any A c l d w6 ((hl.below hB6).more hB6.size) HS.out hdz (by omega)).mono ?_
  rintro e w7 ⟨r3, rfl, hr, hb⟩
  have hB7 := hB6.trans (hb.mono hB6.size)
  have hx7 := hx6.below hb hx6.lt
  have HR := Lib.hid (hr.2 (.inl HSR.out))
  clear hr hb hB6 hx6
  have HN := Lib.hid (show r3.isSome = false → M = 0 from fun h => by
    rw [HM.out]; unfold Tr.destErr; rw [← HR.out]; cases r3 with
    | none => rfl
    | some _ => cases h)
  have HG := Lib.hid (show r3.isSome = true → M = if xk ≠ 2 ∧ (r3.getD En.zero).k = 2 then 9 else if xk = 2 ∧ (r3.getD En.zero).k ≠ 2 then 10 else if (Tr.list l d.data.toList).2 = 0 ∧ (Tr.list l d.data.toList).1 ≠ [] then 11 else 0 from fun h => by
    rw [HM.out]; unfold Tr.destErr; rw [← HR.out]; cases r3 with
    | none => cases h
    | some _ => rfl)
  clear HR HM
  generalize r3.getD En.zero = y at HG
  generalize r3.isSome = ok at HN HG
  obtain ⟨yp, yk, yt, yo⟩ := y
  simp only [En.agg, En.cells]
  dsimp only at HG
  have hB8 := hB7.alloc hB7.size (.cells #[.string yp, .int .i64 yk, .string yt, .bool yo] 32)
  have hx8 := hx7.alloc (.cells #[.string yp, .int .i64 yk, .string yt, .bool yo] 32)
  have hy8 := Blk.new w7 32 [.string yp, .int .i64 yk, .string yt, .bool yo]
  cases ok
  · have HO := Lib.hid (HN.out rfl)
    go_wp2_with fail
    go_ret
    exact ⟨ret_int HO.out, hB8⟩
  have HM := Lib.hid (HG.out rfl)
  clear HN HG hB7 hx7
  have hcL := fun W h => list_any A c l d W h HS.out HSR.out hdz hn
  unfold ListRel at hcL
  generalize Tr.list l d.data.toList = L at HM hcL
  obtain ⟨x0, x1, x2, x3, xfr, xz⟩ := hx8.four
  obtain ⟨y0, y1, y2, y3, yfr, yz⟩ := hy8.four
  clear hx8 hy8
  rcases ta : (xk == 2) with _ | _ <;> rcases tb : (yk == 2) with _ | _
  · have ta2 : (xk != 2) = true := by simp [bne, ta]
    have tb2 : (yk != 2) = true := by simp [bne, tb]
    have HC1 := Lib.hid (show ¬ (xk ≠ 2 ∧ yk = 2) from fun h => by rw [h.2] at tb; cases tb)
    have HC2 := Lib.hid (show ¬ (xk = 2 ∧ yk ≠ 2) from fun h => by rw [h.1] at ta; cases ta)
    have HM := Lib.hid (HM.out.trans ((if_neg (fun h => HC1.out h)).trans (if_neg (fun h => HC2.out h))))
    clear HC1 HC2
    go_wp2_with fail
    generalize w7.alloc (.cells #[.string yp, .int .i64 yk, .string yt, .bool yo] 32) = w8 at *
    refine (hcL w8 ((hl.below hB8).more hB8.size)).mono ?_
    rintro e w9 ⟨v, rfl, ho, hb⟩
    have hB9 := hB8.trans (hb.mono hB8.size)
    clear hb hB8 hcL
    obtain ⟨m, er⟩ := L
    dsimp only at ho HM ⊢
    obtain ⟨A2, c2, hv⟩ : ∃ A2 c2, v = .slice A2 m.length c2 := by
      rcases own_shape ho with ⟨h1, h2⟩ | ⟨g, cap, h1, _, _, _⟩
      · exact ⟨none, 0, by rw [h1, h2]⟩
      · exact ⟨_, _, h1⟩
    subst hv
    clear ho
    rcases tl : (er == 0) with _ | _
    · have HO := Lib.hid (HM.out.trans (if_neg (fun h => by rw [h.1] at tl; cases tl)))
      clear HM
      go_wp2_with fail
      go_ret
      exact ⟨ret_int HO.out, hB9⟩
    · by_cases hm : m.length = 0
      · have HO := Lib.hid (HM.out.trans (if_neg (fun h => h.2 (List.length_eq_zero_iff.1 hm))))
        have hm' : ¬ ((0 : Int) < (m.length : Int)) := by omega
        clear HM hm
        go_wp2_with fail
        go_ret
        exact ⟨ret_int HO.out, hB9⟩
      · have HO := Lib.hid (HM.out.trans (if_pos ⟨by simpa using tl, fun h => hm (by rw [h]; rfl)⟩))
        have hm' : (0 : Int) < (m.length : Int) := by omega
        clear HM hm
        go_wp2_with fail
        go_ret
        exact ⟨ret_int HO.out, hB9⟩
  · have ta2 : (xk != 2) = true := by simp [bne, ta]
    have tb2 : (yk != 2) = false := by simp [bne, tb]
    have HO := Lib.hid (HM.out.trans (if_pos ⟨by simpa using ta2, by simpa using tb⟩))
    clear HM hcL
    go_wp2_with fail
    go_ret
    exact ⟨ret_int HO.out, hB8⟩
  · have ta2 : (xk != 2) = false := by simp [bne, ta]
    have tb2 : (yk != 2) = true := by simp [bne, tb]
    have HO := Lib.hid (HM.out.trans ((if_neg (fun h => by rw [h.2] at tb; cases tb)).trans (if_pos ⟨by simpa using ta, by simpa using tb2⟩)))
    clear HM hcL
    go_wp2_with fail
    go_ret
    exact ⟨ret_int HO.out, hB8⟩
  · have ta2 : (xk != 2) = false := by simp [bne, ta]
    have tb2 : (yk != 2) = false := by simp [bne, tb]
    have HC1 := Lib.hid (show ¬ (xk ≠ 2 ∧ yk = 2) from fun h => h.1 (by simpa using ta))
    have HC2 := Lib.hid (show ¬ (xk = 2 ∧ yk ≠ 2) from fun h => h.2 (by simpa using tb))
    have HM := Lib.hid (HM.out.trans ((if_neg (fun h => HC1.out h)).trans (if_neg (fun h => HC2.out h))))
    clear HC1 HC2
    go_wp2_with fail
    generalize w7.alloc (.cells #[.string yp, .int .i64 yk, .string yt, .bool yo] 32) = w8 at *
    refine (hcL w8 ((hl.below hB8).more hB8.size)).mono ?_
    rintro e w9 ⟨v, rfl, ho, hb⟩
    have hB9 := hB8.trans (hb.mono hB8.size)
    clear hb hB8 hcL
    obtain ⟨m, er⟩ := L
    dsimp only at ho HM ⊢
    obtain ⟨A2, c2, hv⟩ : ∃ A2 c2, v = .slice A2 m.length c2 := by
      rcases own_shape ho with ⟨h1, h2⟩ | ⟨g, cap, h1, _, _, _⟩
      · exact ⟨none, 0, by rw [h1, h2]⟩
      · exact ⟨_, _, h1⟩
    subst hv
    clear ho
    rcases tl : (er == 0) with _ | _
    · have HO := Lib.hid (HM.out.trans (if_neg (fun h => by rw [h.1] at tl; cases tl)))
      clear HM
      go_wp2_with fail
      go_ret
      exact ⟨ret_int HO.out, hB9⟩
    · by_cases hm : m.length = 0
      · have HO := Lib.hid (HM.out.trans (if_neg (fun h => h.2 (List.length_eq_zero_iff.1 hm))))
        have hm' : ¬ ((0 : Int) < (m.length : Int)) := by omega
        clear HM hm
        go_wp2_with fail
        go_ret
        exact ⟨ret_int HO.out, hB9⟩
      · have HO := Lib.hid (HM.out.trans (if_pos ⟨by simpa using tl, fun h => hm (by rw [h]; rfl)⟩))
        have hm' : (0 : Int) < (m.length : Int) := by omega
        clear HM hm
        go_wp2_with fail
        go_ret
        exact ⟨ret_int HO.out, hB9⟩
end Go.Proofs.YtjppfhgkanbemabDoor
