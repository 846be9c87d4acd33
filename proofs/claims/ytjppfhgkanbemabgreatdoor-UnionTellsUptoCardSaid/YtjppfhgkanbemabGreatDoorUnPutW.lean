/-
  union.Put and union.Remove. (Printed by wip/genunput.py.)
-/
import Derived.Test.YtjppfhgkanbemabGreatDoorUnEndW
namespace Go.Proofs.YtjppfhgkanbemabGreatDoor
open Go.RowKit Go.Shelf Go.Sort

/-- What a fine union's parts are, in one. -/
structure Tr.Parts (u : Un) (S : List En) : Prop where
  ur : Tr.Right true u.U
  ul : u.U.length ≤ 80
  sr : Tr.Right false S
  sl : S.length ≤ 80
  br : Tr.Right false (Tr.belowU u)
  bl : (Tr.belowU u).length ≤ 80
  ll : u.L.length ≤ 4
  lls : ∀ l ∈ u.L, l.length ≤ 80
theorem Tr.parts {u : Un} (h : (Tr.seenU u).2 = 0) : Tr.Parts u (Tr.seenU u).1 := by
  have hf := Tr.seenU_zero.1 h
  obtain ⟨a1, a2, a3, a4, a5, a6, a7, a8⟩ := Tr.fine_parts hf
  refine ⟨a2, a1, by rw [a5]; exact a8, by rw [a5]; exact a6, a4, a3, hf.1, fun l hl => (Tr.mergeL_layers hf.2 l ?_).1⟩
  exact List.mem_cons_of_mem _ hl
theorem Tr.put_zero {t : List En} {e : En} (h : (Tr.put t e).2 = 0) : Tr.putErr t e = 0 := by
  unfold Tr.put at h
  by_cases hp : Tr.putErr t e = 0
  · exact hp
  · rw [if_pos hp] at h; exact h
theorem Tr.rem_zero {t : List En} {p : Pt.Bs} (h : (Tr.remove t p).2 = 0) : Tr.removeErr t p = 0 := by
  unfold Tr.remove at h
  by_cases hp : Tr.removeErr t p = 0
  · exact hp
  · rw [if_pos hp] at h; exact h
theorem Tr.put_fit {t : List En} {e : En} (h : (Tr.put t e).2 = 0) : e.P ≠ [] ∧ e.p.size ≤ 80 := by
  obtain ⟨_, _, h3, _⟩ := Tr.put_ok (Tr.put_zero h)
  have h4 := Tr.entry_clean h3
  have h5 := Tr.clean_len h4
  have h6 : e.P.length = e.p.size := size_length e.p
  exact ⟨Tr.clean_ne h4, by omega⟩
theorem Tr.get_fit {b : Bool} {t : List En} {p : ByteArray} (ht : Tr.Right b t) (h0 : p.data.toList ≠ []) (h : Tr.get t p.data.toList ≠ none) : p.size ≤ 80 := by
  rcases g : Tr.get t p.data.toList with _ | x
  · exact absurd g h
  · obtain ⟨h1, h2⟩ := Tr.get_some h0 g
    have h3 := Tr.clean_len (Tr.entry_clean (ht.1 x h1))
    rw [h2, size_length] at h3
    exact h3
theorem Tr.rem_fit {t : List En} {p : ByteArray} (h : (Tr.remove t p.data.toList).2 = 0) : p.data.toList ≠ [] ∧ p.size ≤ 80 := by
  obtain ⟨_, h2, h3, h4, _⟩ := Tr.remove_ok (Tr.rem_zero h)
  exact ⟨h3, Tr.get_fit h2 h3 h4⟩
theorem Tr.putU_bad {u : Un} {e : En} {x : Int} (h : (Tr.seenU u).2 = x) (hx : x ≠ 0) : Tr.putU u e = (Un.zero, x) := by unfold Tr.putU; rw [h, if_pos hx]
theorem Tr.putU_no {u : Un} {e : En} {x : Int} (h : (Tr.seenU u).2 = 0) (h2 : (Tr.put (Tr.seenU u).1 e).2 = x) (hx : x ≠ 0) : Tr.putU u e = (Un.zero, x) := by unfold Tr.putU; rw [h, if_neg (by simp), h2, if_pos hx]
theorem Tr.putU_ok {u : Un} {e : En} (h : (Tr.seenU u).2 = 0) (h2 : (Tr.put (Tr.seenU u).1 e).2 = 0) : Tr.putU u e = Tr.fin u (Tr.setP u.U e) := by unfold Tr.putU; rw [h, if_neg (by simp), h2, if_neg (by simp)]
theorem Tr.remU_bad {u : Un} {p : Pt.Bs} {x : Int} (h : (Tr.seenU u).2 = x) (hx : x ≠ 0) : Tr.removeU u p = (Un.zero, x) := by unfold Tr.removeU; rw [h, if_pos hx]
theorem Tr.remU_no {u : Un} {p : Pt.Bs} {x : Int} (h : (Tr.seenU u).2 = 0) (h2 : (Tr.remove (Tr.seenU u).1 p).2 = x) (hx : x ≠ 0) : Tr.removeU u p = (Un.zero, x) := by unfold Tr.removeU; rw [h, if_neg (by simp), h2, if_pos hx]
theorem Tr.remU_ok {u : Un} {p : Pt.Bs} (h : (Tr.seenU u).2 = 0) (h2 : (Tr.remove (Tr.seenU u).1 p).2 = 0) : Tr.removeU u p = Tr.fin u (Tr.dropE (Tr.belowU u) u.U p) := by unfold Tr.removeU; rw [h, if_neg (by simp), h2, if_neg (by simp)]
theorem Tr.drop_le (B U : List En) (p : Pt.Bs) : (Tr.dropE B U p).length ≤ U.length + p.length + 1 := by
  have h1 := outside_le U p
  unfold Tr.dropE
  split
  · have h2 := Tr.setE_le p.length (Tr.outside U p) (Tr.whiteEn p)
    omega
  · omega
theorem Kp.below {w w' : World} {base g : Nat} {v : Value} {l : List En} (h : Kp w base g v l) (hb : Below w.heap.size w w') (hB : base ≤ w.heap.size) : Kp w' base g v l := h.keep (BelowX.of hb hB)

set_option maxHeartbeats 8000000 in
set_option maxRecDepth 100000 in
theorem putU_any (A A' : Option Addr) (c c' : Nat) (u : Un) (xp : ByteArray) (xk : Int) (xt : ByteArray) (xo : Bool) (w : World) (hu : UnRd w w.heap.size A A' c c' u) (hs : UnSm u) (hxp : xp.size < 4294967281) (hxt : xt.size < 4294967281) :
    Calls Tryz.prog 20 #[.agg #[.slice A u.U.length c, .slice A' u.L.length c'], .agg #[.string xp, .int .i64 xk, .string xt, .bool xo]] w (UnResL w.heap.size (Tr.putU u ⟨xp, xk, xt, xo⟩) w) := by
  have HS := Lib.hid hs
  have HU := Lib.hid hu
  clear hs hu
  obtain ⟨R, hR⟩ : ∃ R, R = Tr.putU u ⟨xp, xk, xt, xo⟩ := ⟨_, rfl⟩
  rw [← hR]
  have HPT := Lib.hid (Tr.parts (u := u))
  have HPB : Hid ((Tr.seenU u).2 ≠ 0 → R = (Un.zero, (Tr.seenU u).2)) := Lib.hid (fun h => hR.trans (Tr.putU_bad rfl h))
  have HPN : Hid ((Tr.seenU u).2 = 0 → (Tr.put (Tr.seenU u).1 ⟨xp, xk, xt, xo⟩).2 ≠ 0 → R = (Un.zero, (Tr.put (Tr.seenU u).1 ⟨xp, xk, xt, xo⟩).2)) := Lib.hid (fun h h2 => hR.trans (Tr.putU_no h rfl h2))
  have HPO : Hid ((Tr.seenU u).2 = 0 → (Tr.put (Tr.seenU u).1 ⟨xp, xk, xt, xo⟩).2 = 0 → R = Tr.fin u (Tr.setP u.U ⟨xp, xk, xt, xo⟩) ∧ (⟨xp, xk, xt, xo⟩ : En).P ≠ [] ∧ xp.size ≤ 80) := Lib.hid (fun h h2 => ⟨hR.trans (Tr.putU_ok h h2), Tr.put_fit h2⟩)
  clear hR
  have hB0 := ((Below.refl w.heap.size w).alloc (Nat.le_refl _) (.cells #[.slice A u.U.length c, .slice A' u.L.length c'] 33))
  have hq0 := Blk.new w 33 [.slice A u.U.length c, .slice A' u.L.length c']
  have hB0 := hB0.alloc hB0.size (.cells #[.string xp, .int .i64 xk, .string xt, .bool xo] 45)
  have hq0 := hq0.alloc (.cells #[.string xp, .int .i64 xk, .string xt, .bool xo] 45)
  have hx0 := Blk.new (w.alloc (.cells #[.slice A u.U.length c, .slice A' u.L.length c'] 33)) 45 [.string xp, .int .i64 xk, .string xt, .bool xo]
  have hB0 := hB0.alloc hB0.size (.cells #[.slice none 0 0, .slice none 0 0] 33)
  have hq0 := hq0.alloc (.cells #[.slice none 0 0, .slice none 0 0] 33)
  have hx0 := hx0.alloc (.cells #[.slice none 0 0, .slice none 0 0] 33)
  have hz0 := Blk.new ((w.alloc (.cells #[.slice A u.U.length c, .slice A' u.L.length c'] 33)).alloc (.cells #[.string xp, .int .i64 xk, .string xt, .bool xo] 45)) 33 [.slice none 0 0, .slice none 0 0]
  have hsz0 : (((w.alloc (.cells #[.slice A u.U.length c, .slice A' u.L.length c'] 33)).alloc (.cells #[.string xp, .int .i64 xk, .string xt, .bool xo] 45)).alloc (.cells #[.slice none 0 0, .slice none 0 0] 33)).heap.size = w.heap.size + 3 := by simp only [World.size_alloc]
  simp only [World.size_alloc] at hz0 hx0
  go_enter Tryz.func20, Tryz.ntmps20
  go_upto_region 1 with fail
  generalize (((w.alloc (.cells #[.slice A u.U.length c, .slice A' u.L.length c'] 33)).alloc (.cells #[.string xp, .int .i64 xk, .string xt, .bool xo] 45)).alloc (.cells #[.slice none 0 0, .slice none 0 0] 33)) = w0 at *
  have hU0 : UnRd w0 w0.heap.size A A' c c' u := (HU.out.below hB0).more hB0.size
  have cB := begin_any w.heap.size A A' c c' u w0 hq0 hU0 HS.out
  unfold BeginRel at cB
  clear hU0
  obtain ⟨T, hT⟩ : ∃ T, T = Tr.seenU u := ⟨_, rfl⟩
  rw [← hT] at cB HPT HPB HPN HPO
  clear hT
  obtain ⟨S, se⟩ := T
  dsimp only at cB HPT HPB HPN HPO
  go_wp2_with fail
  refine cB.mono ?_
  rintro e w4 ⟨gc, base, B, rfl, hch, hBB, hgc, hb⟩
  have HBB := Lib.hid hBB
  have hB4 := hB0.trans (hb.mono hB0.size)
  have hq4 := hq0.below hb hq0.lt
  have hz4 := hz0.below hb hz0.lt
  have hx4 := hx0.below hb hx0.lt
  have hgb := hch.lt
  have hbw := hch.size
  obtain ⟨vU, vB, vS, hc4, ho4, hkB, hkS⟩ := hch.ex
  clear hb hBB hB0 hq0 hz0 hx0 hch cB
  obtain ⟨AS, cS, hvS, hcS, hrS, hnS⟩ := hkS
  subst hvS
  obtain ⟨k0, k1, k2, k3, kf, kz⟩ := hc4.four
  rcases te : (se != 0) with _ | _
  rotate_left
  · have HF := Lib.hid (HPB.out (by simpa using te))
    obtain ⟨z0, z1, zf, zz⟩ := hz4.two
    go_wp2_with fail
    go_region
    all_goals
      go_wp2_with fail
      refine bodyPost_ret (v := .tuple #[.agg #[.slice none 0 0, .slice none 0 0], .int .i64 se]) ?_ rfl ?_
      · simp [results, Tryz.results20, go_sem, z0, z1]
      rw [HF.out]
      exact UnResL.none (((hB4.setCell (p := ⟨w.heap.size + 1 + 1, 0, none⟩) (by show w.heap.size ≤ w.heap.size + 1 + 1; omega) (.slice none 0 0)).setCell (p := ⟨w.heap.size + 1 + 1, 1, none⟩) (by show w.heap.size ≤ w.heap.size + 1 + 1; omega) (.slice none 0 0)).drew)
  have hse : se = 0 := by simpa using te
  have HP := Lib.hid (HPT.out hse)
  have HN := Lib.hid (HPN.out hse)
  have HO := Lib.hid (HPO.out hse)
  have hBe : B = Tr.belowU u := HBB.out hse
  subst hBe
  clear HPT HPN HPO HPB HBB te
  subst hse
  go_upto_region 4 with fail
  obtain ⟨e0, e1, e2, e3, ef, ez⟩ := hx4.four
  have hrS4 : EnRd w4 w4.heap.size AS S := Rd.more hrS hbw
  obtain ⟨pe, hpe⟩ : ∃ pe, pe = (Tr.put S ⟨xp, xk, xt, xo⟩).2 := ⟨_, rfl⟩
  rw [← hpe] at HN HO
  go_cut [8] (fun ev wx => ev = .int .i64 pe ∧ Below w4.heap.size w4 wx)
  case first =>
    go_region_held3 (fun W => W.cell? ⟨gc, 2, none⟩ = some (.slice AS S.length cS) ∧ W.cell? ⟨w.heap.size + 1, 0, none⟩ = some (.string xp) ∧ W.cell? ⟨w.heap.size + 1, 1, none⟩ = some (.int .i64 xk) ∧ W.cell? ⟨w.heap.size + 1, 2, none⟩ = some (.string xt) ∧ W.cell? ⟨w.heap.size + 1, 3, none⟩ = some (.bool xo))
      (first | exact ⟨k2, e0, e1, e2, e3⟩ | exact hS6 | go_keep)
      (first | (go_at_call 45; refine (put_any AS cS S xp xk xt xo _ (by exact hrS4) hcS (Tr.right_sm HP.out.sr) hxp hxt (by have := HP.out.sl; omega)).mono ?_; rintro e w6 ⟨v6, rfl, _, hb6⟩; have hS6 : w6.cell? ⟨gc, 2, none⟩ = some (.slice AS S.length cS) ∧ w6.cell? ⟨w.heap.size + 1, 0, none⟩ = some (.string xp) ∧ w6.cell? ⟨w.heap.size + 1, 1, none⟩ = some (.int .i64 xk) ∧ w6.cell? ⟨w.heap.size + 1, 2, none⟩ = some (.string xt) ∧ w6.cell? ⟨w.heap.size + 1, 3, none⟩ = some (.bool xo) := ⟨(hb6.cell (p := ⟨gc, 2, none⟩) hc4.lt).trans k2, (hb6.cell (p := ⟨w.heap.size + 1, 0, none⟩) hx4.lt).trans e0, (hb6.cell (p := ⟨w.heap.size + 1, 1, none⟩) hx4.lt).trans e1, (hb6.cell (p := ⟨w.heap.size + 1, 2, none⟩) hx4.lt).trans e2, (hb6.cell (p := ⟨w.heap.size + 1, 3, none⟩) hx4.lt).trans e3⟩))
    all_goals
      go_wp2_with fail
      go_meet
      case rel => exact ⟨by rw [hpe], ((Below.refl _ w4).drew).trans hb6⟩
  case rest =>
  obtain ⟨rfl, hb5⟩ := hcut
  clear hpe
  generalize wc = w5 at *
  have hx5 := hx4.below hb5 hx4.lt
  have hB5 := hB4.trans (hb5.mono hB4.size)
  have hq5 := hq4.below hb5 hq4.lt
  have hz5 := hz4.below hb5 hz4.lt
  have hc5 := hc4.below hb5 hc4.lt
  have ho5 : EnOwn w5 base vU u.U := own_below ho4 hb5 (Nat.le_refl _)
  have hkB5 := hkB.below hb5 hbw
  have hbw5 := Nat.le_trans hbw hb5.size
  clear hb5 hB4 hq4 hz4 hx4 hc4 ho4 hkB hbw hrS hrS4 k0 k1 k2 k3 kf kz e0 e1 e2 e3 ef ez
  rcases tp : (pe != 0) with _ | _
  rotate_left
  · have HF := Lib.hid (HN.out (by simpa using tp))
    obtain ⟨z0, z1, zf, zz⟩ := hz5.two
    go_wp2_with fail
    refine bodyPost_ret (v := .tuple #[.agg #[.slice none 0 0, .slice none 0 0], .int .i64 pe]) ?_ rfl ?_
    · simp [results, Tryz.results20, go_sem, z0, z1]
    rw [HF.out]
    exact UnResL.none ((hB5.setCell (p := ⟨w.heap.size + 1 + 1, 0, none⟩) (by show w.heap.size ≤ w.heap.size + 1 + 1; omega) (.slice none 0 0)).setCell (p := ⟨w.heap.size + 1 + 1, 1, none⟩) (by show w.heap.size ≤ w.heap.size + 1 + 1; omega) (.slice none 0 0))
  have HF := Lib.hid (HO.out (by simpa using tp)).1
  have hfit := (HO.out (by simpa using tp)).2
  clear HN HO
  obtain ⟨e0, e1, e2, e3, ef, ez⟩ := hx5.four
  have HLEN : Hid ((Tr.setP u.U ⟨xp, xk, xt, xo⟩).length ≤ 2000000) := Lib.hid (by
    have h1 := Tr.setP_le u.U ⟨xp, xk, xt, xo⟩
    have h2 := HP.out.ul
    have h3 : (⟨xp, xk, xt, xo⟩ : En).P.length = xp.size := size_length xp
    have h4 := hfit.2
    omega)
  go_wp2_with fail
  clear e0 e1 e2 e3 ef ez
  refine (set_any xp.size gc base vB _ _ vU u.U ⟨xp, xk, xt, xo⟩ w5 hc5 ho5 hgb hbw5 HP.out.ur.2.1 (fun y hy => Tr.right_ne HP.out.ur hy) (Tr.right_sm HP.out.ur) hfit.1 (Nat.le_of_eq (size_length xp)) hxp hxt (by have := HP.out.ul; have := hfit.2; omega)).mono ?_
  rintro e w6 ⟨rfl, v6, hc6, ho6, hg6⟩
  have hx56 : BelowX base gc w5 w6 := hg6.belowX hbw5 (own_lt ho5)
  have hq6 := hq5.keepX hx56 (by omega) (by omega)
  have hz6 := hz5.keepX hx56 (by omega) (by omega)
  have hB6 := hB5.trans (hx56.below (by omega) (by omega))
  have hbw6 : base ≤ w6.heap.size := Nat.le_trans hbw5 hx56.size
  clear hg6 hx56 hq5 hz5 hc5 ho5 hB5
  go_wp2_with fail
  have hl6 : TsRd w6 w6.heap.size A' u.L := ((HU.out.below hB6).more hB6.size).low
  refine (end_any gc w.heap.size base vB _ _ v6 _ A A' c c' u w6 hc6 ho6 hbw6 hq6 hl6 (by have := HP.out.ll; omega) (fun l hl => by have := HP.out.lls l hl; omega) HLEN.out).mono ?_
  rintro e w7 ⟨A7, A7', c7, c7', rfl, hf7, hb7⟩
  have hz7 := hz6.below hb7 hz6.lt
  have hB7 := hB6.trans (hb7.mono hB6.size)
  rw [← HF.out] at hf7
  rw [← HF.out]
  obtain ⟨z0, z1, zf, zz⟩ := hz7.two
  go_wp2_with fail
  refine bodyPost_ret (v := .tuple #[.agg #[.slice A7 R.1.U.length c7, .slice A7' R.1.L.length c7'], .int .i64 R.2]) ?_ rfl ?_
  · simp [results, Tryz.results20, go_sem, z0, z1]
  exact ⟨_, _, _, _, rfl, ((hf7.set (p := ⟨w.heap.size + 1 + 1, 0, none⟩) (by show w.heap.size + 1 + 1 < base; omega) _).set (p := ⟨w.heap.size + 1 + 1, 1, none⟩) (by show w.heap.size + 1 + 1 < base; omega) _).less (by omega), (hB7.setCell (p := ⟨w.heap.size + 1 + 1, 0, none⟩) (by show w.heap.size ≤ w.heap.size + 1 + 1; omega) _).setCell (p := ⟨w.heap.size + 1 + 1, 1, none⟩) (by show w.heap.size ≤ w.heap.size + 1 + 1; omega) _⟩

set_option maxHeartbeats 8000000 in
set_option maxRecDepth 100000 in
theorem removeU_any (A A' : Option Addr) (c c' : Nat) (u : Un) (s : ByteArray) (w : World) (hu : UnRd w w.heap.size A A' c c' u) (hs : UnSm u) (hsz : s.size < 4294967281) :
    Calls Tryz.prog 23 #[.agg #[.slice A u.U.length c, .slice A' u.L.length c'], .string s] w (UnResL w.heap.size (Tr.removeU u s.data.toList) w) := by
  have HS := Lib.hid hs
  have HU := Lib.hid hu
  clear hs hu
  obtain ⟨R, hR⟩ : ∃ R, R = Tr.removeU u s.data.toList := ⟨_, rfl⟩
  rw [← hR]
  have HPT := Lib.hid (Tr.parts (u := u))
  have HPB : Hid ((Tr.seenU u).2 ≠ 0 → R = (Un.zero, (Tr.seenU u).2)) := Lib.hid (fun h => hR.trans (Tr.remU_bad rfl h))
  have HPN : Hid ((Tr.seenU u).2 = 0 → (Tr.remove (Tr.seenU u).1 s.data.toList).2 ≠ 0 → R = (Un.zero, (Tr.remove (Tr.seenU u).1 s.data.toList).2)) := Lib.hid (fun h h2 => hR.trans (Tr.remU_no h rfl h2))
  have HPO : Hid ((Tr.seenU u).2 = 0 → (Tr.remove (Tr.seenU u).1 s.data.toList).2 = 0 → R = Tr.fin u (Tr.dropE (Tr.belowU u) u.U s.data.toList) ∧ s.data.toList ≠ [] ∧ s.size ≤ 80) := Lib.hid (fun h h2 => ⟨hR.trans (Tr.remU_ok h h2), Tr.rem_fit h2⟩)
  clear hR
  have hB0 := ((Below.refl w.heap.size w).alloc (Nat.le_refl _) (.cells #[.slice A u.U.length c, .slice A' u.L.length c'] 33))
  have hq0 := Blk.new w 33 [.slice A u.U.length c, .slice A' u.L.length c']
  have hB0 := hB0.alloc hB0.size (.cells #[.slice none 0 0, .slice none 0 0] 33)
  have hq0 := hq0.alloc (.cells #[.slice none 0 0, .slice none 0 0] 33)
  have hz0 := Blk.new (w.alloc (.cells #[.slice A u.U.length c, .slice A' u.L.length c'] 33)) 33 [.slice none 0 0, .slice none 0 0]
  have hsz0 : ((w.alloc (.cells #[.slice A u.U.length c, .slice A' u.L.length c'] 33)).alloc (.cells #[.slice none 0 0, .slice none 0 0] 33)).heap.size = w.heap.size + 2 := by simp only [World.size_alloc]
  simp only [World.size_alloc] at hz0
  go_enter Tryz.func23, Tryz.ntmps23
  go_upto_region 1 with fail
  generalize ((w.alloc (.cells #[.slice A u.U.length c, .slice A' u.L.length c'] 33)).alloc (.cells #[.slice none 0 0, .slice none 0 0] 33)) = w0 at *
  have hU0 : UnRd w0 w0.heap.size A A' c c' u := (HU.out.below hB0).more hB0.size
  have cB := begin_any w.heap.size A A' c c' u w0 hq0 hU0 HS.out
  unfold BeginRel at cB
  clear hU0
  obtain ⟨T, hT⟩ : ∃ T, T = Tr.seenU u := ⟨_, rfl⟩
  rw [← hT] at cB HPT HPB HPN HPO
  clear hT
  obtain ⟨S, se⟩ := T
  dsimp only at cB HPT HPB HPN HPO
  go_wp2_with fail
  refine cB.mono ?_
  rintro e w4 ⟨gc, base, B, rfl, hch, hBB, hgc, hb⟩
  have HBB := Lib.hid hBB
  have hB4 := hB0.trans (hb.mono hB0.size)
  have hq4 := hq0.below hb hq0.lt
  have hz4 := hz0.below hb hz0.lt
  have hgb := hch.lt
  have hbw := hch.size
  obtain ⟨vU, vB, vS, hc4, ho4, hkB, hkS⟩ := hch.ex
  clear hb hBB hB0 hq0 hz0 hch cB
  obtain ⟨AS, cS, hvS, hcS, hrS, hnS⟩ := hkS
  subst hvS
  obtain ⟨k0, k1, k2, k3, kf, kz⟩ := hc4.four
  rcases te : (se != 0) with _ | _
  rotate_left
  · have HF := Lib.hid (HPB.out (by simpa using te))
    obtain ⟨z0, z1, zf, zz⟩ := hz4.two
    go_wp2_with fail
    go_region
    all_goals
      go_wp2_with fail
      refine bodyPost_ret (v := .tuple #[.agg #[.slice none 0 0, .slice none 0 0], .int .i64 se]) ?_ rfl ?_
      · simp [results, Tryz.results23, go_sem, z0, z1]
      rw [HF.out]
      exact UnResL.none (((hB4.setCell (p := ⟨w.heap.size + 1, 0, none⟩) (by show w.heap.size ≤ w.heap.size + 1; omega) (.slice none 0 0)).setCell (p := ⟨w.heap.size + 1, 1, none⟩) (by show w.heap.size ≤ w.heap.size + 1; omega) (.slice none 0 0)).drew)
  have hse : se = 0 := by simpa using te
  have HP := Lib.hid (HPT.out hse)
  have HN := Lib.hid (HPN.out hse)
  have HO := Lib.hid (HPO.out hse)
  have hBe : B = Tr.belowU u := HBB.out hse
  subst hBe
  clear HPT HPN HPO HPB HBB te
  subst hse
  have hrS4 : EnRd w4 w4.heap.size AS S := Rd.more hrS hbw
  go_wp2_with fail
  refine (remove_any AS cS S s w4 hrS4 hcS (Tr.right_sm HP.out.sr) hsz (by have := HP.out.sl; omega)).mono ?_
  rintro e w5 ⟨v5, rfl, _, hb5⟩
  have hB5 := hB4.trans (hb5.mono hB4.size)
  have hq5 := hq4.below hb5 hq4.lt
  have hz5 := hz4.below hb5 hz4.lt
  have hc5 := hc4.below hb5 hc4.lt
  have ho5 : EnOwn w5 base vU u.U := own_below ho4 hb5 (Nat.le_refl _)
  have hkB5 := hkB.below hb5 hbw
  have hbw5 := Nat.le_trans hbw hb5.size
  clear hb5 hB4 hq4 hz4 hc4 ho4 hkB hbw hrS hrS4 k0 k1 k2 k3 kf kz
  generalize (Tr.remove S s.data.toList).2 = pe at *
  rcases tp : (pe != 0) with _ | _
  rotate_left
  · have HF := Lib.hid (HN.out (by simpa using tp))
    obtain ⟨z0, z1, zf, zz⟩ := hz5.two
    go_wp2_with fail
    refine bodyPost_ret (v := .tuple #[.agg #[.slice none 0 0, .slice none 0 0], .int .i64 pe]) ?_ rfl ?_
    · simp [results, Tryz.results23, go_sem, z0, z1]
    rw [HF.out]
    exact UnResL.none ((hB5.setCell (p := ⟨w.heap.size + 1, 0, none⟩) (by show w.heap.size ≤ w.heap.size + 1; omega) (.slice none 0 0)).setCell (p := ⟨w.heap.size + 1, 1, none⟩) (by show w.heap.size ≤ w.heap.size + 1; omega) (.slice none 0 0))
  have HF := Lib.hid (HO.out (by simpa using tp)).1
  have hfit := (HO.out (by simpa using tp)).2
  clear HN HO
  have HLEN : Hid ((Tr.dropE (Tr.belowU u) u.U s.data.toList).length ≤ 2000000) := Lib.hid (by
    have h1 := Tr.drop_le (Tr.belowU u) u.U s.data.toList
    have h2 := HP.out.ul
    have h3 := size_length s
    have h4 := hfit.2
    omega)
  go_wp2_with fail
  refine (drop_any gc base vU vB _ _ u.U (Tr.belowU u) s w5 hc5 ho5 hkB5 hgb hbw5 HP.out.ur.2.1 (fun y hy => Tr.right_ne HP.out.ur hy) (Tr.right_sm HP.out.ur) HP.out.br.2.1 (Tr.right_sm HP.out.br) (by have := HP.out.bl; omega) hfit.1 hsz (by have := HP.out.ul; have := hfit.2; omega)).mono ?_
  rintro e w6 ⟨rfl, v6, hc6, ho6, hg6⟩
  have hx56 : BelowX base gc w5 w6 := hg6.belowX hbw5 (own_lt ho5)
  have hq6 := hq5.keepX hx56 (by omega) (by omega)
  have hz6 := hz5.keepX hx56 (by omega) (by omega)
  have hB6 := hB5.trans (hx56.below (by omega) (by omega))
  have hbw6 : base ≤ w6.heap.size := Nat.le_trans hbw5 hx56.size
  clear hg6 hx56 hq5 hz5 hc5 ho5 hB5
  go_wp2_with fail
  have hl6 : TsRd w6 w6.heap.size A' u.L := ((HU.out.below hB6).more hB6.size).low
  refine (end_any gc w.heap.size base vB _ _ v6 _ A A' c c' u w6 hc6 ho6 hbw6 hq6 hl6 (by have := HP.out.ll; omega) (fun l hl => by have := HP.out.lls l hl; omega) HLEN.out).mono ?_
  rintro e w7 ⟨A7, A7', c7, c7', rfl, hf7, hb7⟩
  have hz7 := hz6.below hb7 hz6.lt
  have hB7 := hB6.trans (hb7.mono hB6.size)
  rw [← HF.out] at hf7
  rw [← HF.out]
  obtain ⟨z0, z1, zf, zz⟩ := hz7.two
  go_wp2_with fail
  refine bodyPost_ret (v := .tuple #[.agg #[.slice A7 R.1.U.length c7, .slice A7' R.1.L.length c7'], .int .i64 R.2]) ?_ rfl ?_
  · simp [results, Tryz.results23, go_sem, z0, z1]
  exact ⟨_, _, _, _, rfl, ((hf7.set (p := ⟨w.heap.size + 1, 0, none⟩) (by show w.heap.size + 1 < base; omega) _).set (p := ⟨w.heap.size + 1, 1, none⟩) (by show w.heap.size + 1 < base; omega) _).less (by omega), (hB7.setCell (p := ⟨w.heap.size + 1, 0, none⟩) (by show w.heap.size ≤ w.heap.size + 1; omega) _).setCell (p := ⟨w.heap.size + 1, 1, none⟩) (by show w.heap.size ≤ w.heap.size + 1; omega) _⟩
end Go.Proofs.YtjppfhgkanbemabGreatDoor
