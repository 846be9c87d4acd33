/-
  union.Move. (Printed by wip/genunmove.py.)
-/
import Derived.Test.YtjppfhgkanbemabGreatDoorUnPutW
namespace Go.Proofs.YtjppfhgkanbemabGreatDoor
open Go.RowKit Go.Shelf Go.Sort

/-- A layer that may be set in. -/
structure Tr.Ok (U : List En) (n : Nat) : Prop where
  srt : Tr.Srt U
  ne : ∀ x ∈ U, x.P ≠ []
  sm : Sm U
  len : U.length ≤ n
theorem Tr.Ok.more {U : List En} {n m : Nat} (h : Tr.Ok U n) (hm : n ≤ m) : Tr.Ok U m := ⟨h.srt, h.ne, h.sm, Nat.le_trans h.len hm⟩
theorem Tr.ok_set {U : List En} {n : Nat} {e : En} (h : Tr.Ok U n) (he : e.P ≠ []) (h1 : e.p.size ≤ 80) (h2 : e.t.size < 4294967281) : Tr.Ok (Tr.setP U e) (n + 81) :=
  ⟨(Tr.setP_mem h.srt h.ne he).1, (Tr.setP_mem h.srt h.ne he).2, Tr.setE_sm _ h.srt h.ne he h.sm (by omega) h2, by
    have a := Tr.setP_le U e
    have b : e.P.length = e.p.size := size_length e.p
    have := h.len
    omega⟩
theorem Tr.ok_drop (B : List En) {U : List En} {n : Nat} {p : ByteArray} (h : Tr.Ok U n) (hp : p.data.toList ≠ []) (h1 : p.size ≤ 80) : Tr.Ok (Tr.dropE B U p.data.toList) (n + 81) := by
  have h0 : Tr.Ok (Tr.outside U p.data.toList) n := ⟨Tr.srt_filter h.srt _, fun x hx => h.ne x (List.mem_filter.1 hx).1, fun x hx => h.sm x (List.mem_filter.1 hx).1, Nat.le_trans (outside_le _ _) h.len⟩
  unfold Tr.dropE
  split
  · rw [white_is]
    exact Tr.ok_set (e := ⟨p, 4, ⟨#[]⟩, false⟩) h0 hp h1 (by show (0 : Nat) < 4294967281; decide)
  · exact h0.more (by omega)
theorem Tr.ok_all : ∀ {xs U : List En} {n : Nat}, Tr.Ok U n → (∀ e ∈ xs, e.P ≠ [] ∧ e.p.size ≤ 80 ∧ e.t.size < 4294967281) → Tr.Ok (Tr.setAll U xs) (n + 81 * xs.length)
  | [], _, _, h, _ => h
  | x :: xs, U, n, h, hx => by
    have h1 := hx x (List.mem_cons_self ..)
    have := Tr.ok_all (xs := xs) (Tr.ok_set h h1.1 h1.2.1 h1.2.2) fun e he => hx e (List.mem_cons_of_mem _ he)
    refine this.more ?_
    rw [List.length_cons]; omega
theorem Tr.move_zero {t : List En} {s d : Pt.Bs} (h : (Tr.move t s d).2 = 0) : Tr.moveErr t s d = 0 := by
  unfold Tr.move at h
  by_cases hp : Tr.moveErr t s d = 0
  · exact hp
  · rw [if_pos hp] at h; exact h
/-- What a move that is let through gives. -/
structure Tr.MoveOk (S : List En) (s d : ByteArray) : Prop where
  s0 : s.data.toList ≠ []
  sl : s.size ≤ 80
  d0 : d.data.toList ≠ []
  dl : d.size ≤ 80
  mv : ∀ e ∈ Tr.movedO S s.data.toList d.data.toList, e.P ≠ [] ∧ e.p.size ≤ 80 ∧ e.t.size < 4294967281
theorem Tr.movok {S : List En} {s d : ByteArray} (hS : Tr.Right false S) (h : (Tr.move S s.data.toList d.data.toList).2 = 0) : Tr.MoveOk S s d := by
  have h0 := Tr.move_zero h
  obtain ⟨_, _, m3, _, _⟩ := Tr.move_ok h0
  obtain ⟨x, hx, hs0, hcd, _⟩ := Tr.moves_ok m3
  have hd := Tr.clean_len hcd
  rw [size_length] at hd
  refine ⟨hs0, Tr.get_fit hS hs0 (by rw [hx]; exact fun h => by cases h), Tr.clean_ne hcd, hd, fun e he => ?_⟩
  have hc := Tr.moved_clean h0 e he
  have hl := Tr.clean_len hc
  have e1 : e.P.length = e.p.size := size_length e.p
  refine ⟨Tr.clean_ne hc, by omega, ?_⟩
  obtain ⟨y, hy, _, rfl⟩ := Tr.mem_movedO.1 he
  rw [Tr.renE_t]
  exact (Tr.right_sm hS y hy).2
theorem Tr.moveU_bad {u : Un} {s d : Pt.Bs} {x : Int} (h : (Tr.seenU u).2 = x) (hx : x ≠ 0) : Tr.moveU u s d = (Un.zero, x) := by unfold Tr.moveU; rw [h, if_pos hx]
theorem Tr.moveU_no {u : Un} {s d : Pt.Bs} {x : Int} (h : (Tr.seenU u).2 = 0) (h2 : (Tr.move (Tr.seenU u).1 s d).2 = x) (hx : x ≠ 0) : Tr.moveU u s d = (Un.zero, x) := by unfold Tr.moveU; rw [h, if_neg (by simp), h2, if_pos hx]
theorem Tr.moveU_ok {u : Un} {s d : Pt.Bs} (h : (Tr.seenU u).2 = 0) (h2 : (Tr.move (Tr.seenU u).1 s d).2 = 0) : Tr.moveU u s d = Tr.fin u (if s = d then u.U else Tr.setAll (Tr.dropE (Tr.belowU u) (if (Tr.get (Tr.seenU u).1 d).isSome then Tr.dropE (Tr.belowU u) u.U d else u.U) s) (Tr.movedO (Tr.seenU u).1 s d)) := by unfold Tr.moveU Tr.moveV; rw [h, if_neg (by simp), h2, if_neg (by simp)]
theorem ren_at {s d y : ByteArray} (k : Int) (t : ByteArray) (o : Bool) (h : Tr.mv s.data.toList y.data.toList) : Tr.renE s.data.toList d.data.toList ⟨y, k, t, o⟩ = ⟨d ++ y.extract s.size y.size, k, t, o⟩ := by
  unfold Tr.renE
  rcases Decidable.em (y.data.toList = s.data.toList) with h1 | h1
  · rw [if_pos (show (⟨y, k, t, o⟩ : En).P = _ from h1), ← ren_bytes]
    rw [h1, List.drop_length, List.append_nil]
  · rw [if_neg (show ¬ (⟨y, k, t, o⟩ : En).P = _ from h1), if_pos (show Pt.under (⟨y, k, t, o⟩ : En).P _ = true from h.resolve_left h1), ← ren_bytes]; rfl

set_option maxHeartbeats 8000000 in
set_option maxRecDepth 100000 in
theorem moveU_any (A A' : Option Addr) (c c' : Nat) (u : Un) (s d : ByteArray) (w : World) (hu : UnRd w w.heap.size A A' c c' u) (hs : UnSm u) (hsz : s.size < 4294967281) (hdz : d.size < 4294967281) :
    Calls Tryz.prog 25 #[.agg #[.slice A u.U.length c, .slice A' u.L.length c'], .string s, .string d] w (UnResL w.heap.size (Tr.moveU u s.data.toList d.data.toList) w) := by
  have HS := Lib.hid hs
  have HU := Lib.hid hu
  clear hs hu
  obtain ⟨R, hR⟩ : ∃ R, R = Tr.moveU u s.data.toList d.data.toList := ⟨_, rfl⟩
  rw [← hR]
  have HPT := Lib.hid (Tr.parts (u := u))
  have HPB : Hid ((Tr.seenU u).2 ≠ 0 → R = (Un.zero, (Tr.seenU u).2)) := Lib.hid (fun h => hR.trans (Tr.moveU_bad rfl h))
  have HPN : Hid ((Tr.seenU u).2 = 0 → (Tr.move (Tr.seenU u).1 s.data.toList d.data.toList).2 ≠ 0 → R = (Un.zero, (Tr.move (Tr.seenU u).1 s.data.toList d.data.toList).2)) := Lib.hid (fun h h2 => hR.trans (Tr.moveU_no h rfl h2))
  have HPO : Hid ((Tr.seenU u).2 = 0 → (Tr.move (Tr.seenU u).1 s.data.toList d.data.toList).2 = 0 → R = Tr.fin u (if s.data.toList = d.data.toList then u.U else Tr.setAll (Tr.dropE (Tr.belowU u) (if (Tr.get (Tr.seenU u).1 d.data.toList).isSome then Tr.dropE (Tr.belowU u) u.U d.data.toList else u.U) s.data.toList) (Tr.movedO (Tr.seenU u).1 s.data.toList d.data.toList)) ∧ (Tr.Right false (Tr.seenU u).1 → Tr.MoveOk (Tr.seenU u).1 s d)) := Lib.hid (fun h h2 => ⟨hR.trans (Tr.moveU_ok h h2), fun hr => Tr.movok hr h2⟩)
  clear hR
  have hB0 := ((Below.refl w.heap.size w).alloc (Nat.le_refl _) (.cells #[.slice A u.U.length c, .slice A' u.L.length c'] 33))
  have hq0 := Blk.new w 33 [.slice A u.U.length c, .slice A' u.L.length c']
  have hB0 := hB0.alloc hB0.size (.cells #[.slice none 0 0, .slice none 0 0] 33)
  have hq0 := hq0.alloc (.cells #[.slice none 0 0, .slice none 0 0] 33)
  have hz0 := Blk.new (w.alloc (.cells #[.slice A u.U.length c, .slice A' u.L.length c'] 33)) 33 [.slice none 0 0, .slice none 0 0]
  have hsz0 : ((w.alloc (.cells #[.slice A u.U.length c, .slice A' u.L.length c'] 33)).alloc (.cells #[.slice none 0 0, .slice none 0 0] 33)).heap.size = w.heap.size + 2 := by simp only [World.size_alloc]
  simp only [World.size_alloc] at hz0
  go_enter Tryz.func25, Tryz.ntmps25
  go_upto_region 1 with fail
  generalize ((w.alloc (.cells #[.slice A u.U.length c, .slice A' u.L.length c'] 33)).alloc (.cells #[.slice none 0 0, .slice none 0 0] 33)) = w0 at *
  have hU0 : UnRd w0 w0.heap.size A A' c c' u := (HU.out.below hB0).more hB0.size
  have cB := begin_any w.heap.size A A' c c' u w0 hq0 hU0 HS.out
  unfold BeginRel at cB
  clear hU0
  obtain ⟨T, hT⟩ : ∃ T, T = Tr.seenU u := ⟨_, rfl⟩
  rw [← hT] at cB HPT HPB HPN HPO
  clear hT
  obtain ⟨S, se⟩ := T
  dsimp only at cB HPT HPB HPN HPO
  go_wp2_with fail
  refine cB.mono ?_
  rintro e w4 ⟨gc, base, B, rfl, hch, hBB, hgc, hb⟩
  have HBB := Lib.hid hBB
  have hB4 := hB0.trans (hb.mono hB0.size)
  have hq4 := hq0.below hb hq0.lt
  have hz4 := hz0.below hb hz0.lt
  have hgb := hch.lt
  have hbw := hch.size
  obtain ⟨vU, vB, vS, hc4, ho4, hkB, hkS⟩ := hch.ex
  clear hb hBB hB0 hq0 hz0 hch cB
  obtain ⟨AS, cS, hvS, hcS, hrS, hnS⟩ := hkS
  subst hvS
  obtain ⟨k0, k1, k2, k3, kf, kz⟩ := hc4.four
  rcases te : (se != 0) with _ | _
  rotate_left
  · have HF := Lib.hid (HPB.out (by simpa using te))
    obtain ⟨z0, z1, zf, zz⟩ := hz4.two
    go_wp2_with fail
    go_region
    all_goals
      go_wp2_with fail
      refine bodyPost_ret (v := .tuple #[.agg #[.slice none 0 0, .slice none 0 0], .int .i64 se]) ?_ rfl ?_
      · simp [results, Tryz.results25, go_sem, z0, z1]
      rw [HF.out]
      exact UnResL.none (((hB4.setCell (p := ⟨w.heap.size + 1, 0, none⟩) (by show w.heap.size ≤ w.heap.size + 1; omega) (.slice none 0 0)).setCell (p := ⟨w.heap.size + 1, 1, none⟩) (by show w.heap.size ≤ w.heap.size + 1; omega) (.slice none 0 0)).drew)
  have hse : se = 0 := by simpa using te
  have HP := Lib.hid (HPT.out hse)
  have HN := Lib.hid (HPN.out hse)
  have HO := Lib.hid (HPO.out hse)
  have hBe : B = Tr.belowU u := HBB.out hse
  subst hBe
  clear HPT HPN HPO HPB HBB te
  subst hse
  have hrS4 : EnRd w4 w4.heap.size AS S := Rd.more hrS hbw
  go_wp2_with fail
  refine (move_any AS cS S s d w4 hrS4 hcS (Tr.right_sm HP.out.sr) hsz hdz (by have := HP.out.sl; omega)).mono ?_
  rintro e w5 ⟨v5, rfl, _, hb5⟩
  have hkS4 : Kp w4 base gc (.slice AS S.length cS) S := ⟨AS, cS, rfl, hcS, hrS, hnS⟩
  clear hrS hrS4 k0 k1 k2 k3 kf kz
  have hbw4 := hbw
  have hkB4 := hkB
  clear hbw hkB
  have hB5 := hB4.trans (hb5.mono hB4.size)
  have hq5 := hq4.below hb5 hq4.lt
  have hz5 := hz4.below hb5 hz4.lt
  have hc5 := hc4.below hb5 hc4.lt
  have ho5 : EnOwn w5 base vU u.U := own_below ho4 hb5 (Nat.le_refl _)
  have hkB5 := hkB4.below hb5 hbw4
  have hkS5 := hkS4.below hb5 hbw4
  have hbw5 := Nat.le_trans hbw4 hb5.size
  clear hb5 hB4 hq4 hz4 hc4 ho4 hkB4 hkS4 hbw4
  generalize (Tr.move S s.data.toList d.data.toList).2 = pe at *
  rcases tp : (pe != 0) with _ | _
  rotate_left
  · have HF := Lib.hid (HN.out (by simpa using tp))
    obtain ⟨z0, z1, zf, zz⟩ := hz5.two
    go_wp2_with fail
    refine bodyPost_ret (v := .tuple #[.agg #[.slice none 0 0, .slice none 0 0], .int .i64 pe]) ?_ rfl ?_
    · simp [results, Tryz.results25, go_sem, z0, z1]
    rw [HF.out]
    exact UnResL.none ((hB5.setCell (p := ⟨w.heap.size + 1, 0, none⟩) (by show w.heap.size ≤ w.heap.size + 1; omega) (.slice none 0 0)).setCell (p := ⟨w.heap.size + 1, 1, none⟩) (by show w.heap.size ≤ w.heap.size + 1; omega) (.slice none 0 0))
  have HF0 := Lib.hid (HO.out (by simpa using tp)).1
  have HM := Lib.hid ((HO.out (by simpa using tp)).2 HP.out.sr)
  clear HN HO
  have hul := HP.out.ul
  have HOK0 : Hid (Tr.Ok u.U 80) := Lib.hid ⟨HP.out.ur.2.1, fun y hy => Tr.right_ne HP.out.ur hy, Tr.right_sm HP.out.ur, HP.out.ul⟩
  rcases te2 : (s.toList == d.toList) with _ | _
  rotate_left
  · have HF : Hid (R = Tr.fin u u.U) := Lib.hid (by rw [HF0.out, if_pos (by rw [toList_beq] at te2; simpa using te2)])
    have HLEN : Hid (u.U.length ≤ 2000000) := Lib.hid (by omega)
    go_wp2_with fail
    have hl5 : TsRd w5 w5.heap.size A' u.L := ((HU.out.below hB5).more hB5.size).low
    refine (end_any gc w.heap.size base vB _ _ vU _ A A' c c' u w5 hc5 ho5 hbw5 hq5 hl5 (by have := HP.out.ll; omega) (fun l hl => by have := HP.out.lls l hl; omega) HLEN.out).mono ?_
    rintro e w20 ⟨A7, A7', c7, c7', rfl, hf7, hb7⟩
    have hz7 := hz5.below hb7 hz5.lt
    have hB7 := hB5.trans (hb7.mono hB5.size)
    rw [← HF.out] at hf7
    rw [← HF.out]
    obtain ⟨z0, z1, zf, zz⟩ := hz7.two
    go_wp2_with fail
    refine bodyPost_ret (v := .tuple #[.agg #[.slice A7 R.1.U.length c7, .slice A7' R.1.L.length c7'], .int .i64 R.2]) ?_ rfl ?_
    · simp [results, Tryz.results25, go_sem, z0, z1]
    exact ⟨_, _, _, _, rfl, ((hf7.set (p := ⟨w.heap.size + 1, 0, none⟩) (by show w.heap.size + 1 < base; omega) _).set (p := ⟨w.heap.size + 1, 1, none⟩) (by show w.heap.size + 1 < base; omega) _).less (by omega), (hB7.setCell (p := ⟨w.heap.size + 1, 0, none⟩) (by show w.heap.size ≤ w.heap.size + 1; omega) _).setCell (p := ⟨w.heap.size + 1, 1, none⟩) (by show w.heap.size ≤ w.heap.size + 1; omega) _⟩
  have HF1 := Lib.hid (HF0.out)
  rw [if_neg (show ¬ s.data.toList = d.data.toList by rw [toList_beq] at te2; simpa using te2)] at HF1
  clear HF0
  obtain ⟨k0, k1, k2, k3, kf, kz⟩ := hc5.four
  have hrS5 : EnRd w5 w5.heap.size AS S := by
    obtain ⟨Aq, cq, hq, _, hr, _⟩ := hkS5
    injection hq with q1 q2 q3
    rw [q1]; exact Rd.more hr hbw5
  go_wp2_with fail
  refine (find_any AS cS S d w5 hrS5 (Tr.right_sm HP.out.sr) hdz (by have := HP.out.sl; omega)).mono ?_
  rintro e w6 ⟨kk, b, rfl, hf, hb6⟩
  have hbs := find_is hf HP.out.sr.2.1 HM.out.d0
  rw [← hbs] at HF1
  clear hf hbs hrS5 k0 k1 k2 k3 kf kz
  have hB6 := hB5.trans (hb6.mono hB5.size)
  have hq6 := hq5.below hb6 hq5.lt
  have hz6 := hz5.below hb6 hz5.lt
  have hc6 := hc5.below hb6 hc5.lt
  have ho6 : EnOwn w6 base vU u.U := own_below ho5 hb6 (Nat.le_refl _)
  have hkB6 := hkB5.below hb6 hbw5
  have hkS6 := hkS5.below hb6 hbw5
  have hbw6 := Nat.le_trans hbw5 hb6.size
  clear hb6 hB5 hq5 hz5 hc5 ho5 hkB5 hkS5 hbw5
  have hvb := own_lt ho6
  obtain ⟨rU, hrU⟩ : ∃ rU, rU = vU.ownBlock := ⟨_, rfl⟩
  rw [← hrU] at hvb
  obtain ⟨U1, hU1⟩ : ∃ U1, U1 = if b = true then Tr.dropE (Tr.belowU u) u.U d.data.toList else u.U := ⟨_, rfl⟩
  have HU1 := Lib.hid hU1
  rw [← hU1] at HF1
  clear hU1
  have HOK1 : Hid (Tr.Ok U1 161) := Lib.hid (by
    rw [HU1.out]
    split
    · exact Tr.ok_drop _ HOK0.out HM.out.d0 HM.out.dl
    · exact HOK0.out.more (by omega))
  go_upto_if 56 with fail
  go_cut [] (fun wx => ∃ v, Blk wx gc 90 [v, vB, .slice AS S.length cS, .int .i64 0] ∧ EnOwn wx base v U1 ∧ GrX gc rU v.ownBlock w6 wx)
  case first =>
    cases b
    · go_wp2_with fail
      go_meet
      case rel => exact ⟨vU, hc6, by rw [HU1.out]; exact ho6, by rw [← hrU]; exact GrX.of (Below.refl _ _) (Nat.le_refl _)⟩
    · go_wp2_with fail
      refine (drop_any gc base vU vB _ _ u.U (Tr.belowU u) d w6 hc6 ho6 hkB6 hgb hbw6 HOK0.out.srt HOK0.out.ne HOK0.out.sm HP.out.br.2.1 (Tr.right_sm HP.out.br) (by have := HP.out.bl; omega) HM.out.d0 hdz (by have := HM.out.dl; omega)).mono ?_
      rintro e w7 ⟨rfl, v7, hc7, ho7, hg7⟩
      go_wp2_with fail
      go_meet
      case rel => exact ⟨v7, hc7, by rw [HU1.out]; exact ho7, by rw [hrU]; exact hg7⟩
  case rest =>
  clear hc6 ho6 HU1
  obtain ⟨v7, hc7, ho7, hg7⟩ := hcut
  generalize wc = w7 at *
  have hx7 := hg7.belowX hbw6 hvb
  have hq7 := hq6.keepX hx7 (by omega) (by omega)
  have hz7 := hz6.keepX hx7 (by omega) (by omega)
  have hB7 := hB6.trans (hx7.below (by omega) (by omega))
  have hkB7 := hkB6.keep hx7
  have hkS7 := hkS6.keep hx7
  have hbw7 : base ≤ w7.heap.size := Nat.le_trans hbw6 hx7.size
  clear hx7 hg7 hq6 hz6 hB6 hkB6 hkS6 hbw6 hvb hrU
  have HOK2 : Hid (Tr.Ok (Tr.dropE (Tr.belowU u) U1 s.data.toList) 242) := Lib.hid (Tr.ok_drop _ HOK1.out HM.out.s0 HM.out.sl)
  have hl1 := HOK1.out.len
  go_wp2_with fail
  refine (drop_any gc base v7 vB _ _ U1 (Tr.belowU u) s w7 hc7 ho7 hkB7 hgb hbw7 HOK1.out.srt HOK1.out.ne HOK1.out.sm HP.out.br.2.1 (Tr.right_sm HP.out.br) (by have := HP.out.bl; omega) HM.out.s0 hsz (by have := HM.out.sl; omega)).mono ?_
  rintro e w8 ⟨rfl, v8, hc8, ho8, hg8⟩
  have hx8 := hg8.belowX hbw7 (own_lt ho7)
  have hq8 := hq7.keepX hx8 (by omega) (by omega)
  have hz8 := hz7.keepX hx8 (by omega) (by omega)
  have hB8 := hB7.trans (hx8.below (by omega) (by omega))
  have hkB8 := hkB7.keep hx8
  have hkS8 := hkS7.keep hx8
  have hbw8 : base ≤ w8.heap.size := Nat.le_trans hbw7 hx8.size
  clear hx8 hg8 hq7 hz7 hB7 hkB7 hkS7 hbw7 hc7 ho7
  obtain ⟨U2, hU2⟩ : ∃ U2, U2 = Tr.dropE (Tr.belowU u) U1 s.data.toList := ⟨_, rfl⟩
  rw [← hU2] at HOK2 ho8 HF1
  clear hU2 HOK1
  have HOKA : Hid (∀ k, k ≤ S.length → Tr.Ok (Tr.setAll U2 (Tr.movedO (S.take k) s.data.toList d.data.toList)) 7000) := Lib.hid (fun k hk => by
    have hml : (Tr.movedO (S.take k) s.data.toList d.data.toList).length ≤ 80 := by
      unfold Tr.movedO
      rw [List.length_map]
      refine Nat.le_trans (List.length_filter_le _ _) ?_
      rw [List.length_take]
      have := HP.out.sl; omega
    refine (Tr.ok_all HOK2.out fun e he => HM.out.mv e ?_).more (by omega)
    obtain ⟨y, hy, h1, h2⟩ := Tr.mem_movedO.1 he
    exact Tr.mem_movedO.2 ⟨y, List.mem_of_mem_take hy, h1, h2⟩)
  clear HOK2 HOK0
  have hSl : S.length ≤ 80 := HP.out.sl
  obtain ⟨k0, k1, k2, k3, kf, kz⟩ := hc8.four
  go_wp2_with fail
  clear k0 k1 k2 k3 kf kz
  go_loopw [68] (fun i wr => ∃ (k : Nat) (v : Value), k ≤ S.length ∧ i = .int .i64 k ∧ Blk wr gc 90 [v, vB, .slice AS S.length cS, .int .i64 0] ∧ EnOwn wr base v (Tr.setAll U2 (Tr.movedO (S.take k) s.data.toList d.data.toList)) ∧ BelowX base gc w8 wr) (fun i _ => S.length - (intOf i).toNat)
  case atStart => exact ⟨0, v8, Nat.zero_le _, rfl, hc8, ho8, BelowX.refl _ _ _⟩
  case round =>
    clear hc8 ho8
    obtain ⟨k, v, hk, rfl, hcr, hor, hxr⟩ := hrel
    have hbwr : base ≤ wr.heap.size := Nat.le_trans hbw8 hxr.size
    by_cases hlt : k < S.length
    · obtain ⟨Aq, cq, hqe, _, hrq, _⟩ := hkS8.keep hxr
      injection hqe with q1 q2 q3
      subst q1 q3
      obtain ⟨b2, o2, hA, hbb, h0, h1, h2, h3⟩ := EnRd.at_ hrq hlt
      subst hA
      clear hrq
      have HOKK := Lib.hid (HOKA.out k hk)
      have hkl := HOKK.out.len
      have HY := Lib.hid (Tr.movedO_yes (s := s.data.toList) (d := d.data.toList) hlt)
      have HNO := Lib.hid (Tr.movedO_no (s := s.data.toList) (d := d.data.toList) hlt)
      have HME := Lib.hid (show Tr.mv s.data.toList S[k].P → (Tr.renE s.data.toList d.data.toList S[k]).P ≠ [] ∧ (Tr.renE s.data.toList d.data.toList S[k]).p.size ≤ 80 ∧ (Tr.renE s.data.toList d.data.toList S[k]).t.size < 4294967281 from fun h => HM.out.mv _ (Tr.mem_movedO.2 ⟨S[k], List.getElem_mem hlt, h, rfl⟩))
      have hzz := (Sm.at_ (Tr.right_sm HP.out.sr) hlt).1
      generalize S[k] = z at h0 h1 h2 h3 HY HNO HME hzz
      obtain ⟨yp, yk, yt, yo⟩ := z
      dsimp only at h0 h1 h2 h3 hzz
      obtain ⟨LK, hLK⟩ : ∃ LK, LK = Tr.setAll U2 (Tr.movedO (S.take k) s.data.toList d.data.toList) := ⟨_, rfl⟩
      have HLK := Lib.hid hLK
      rw [← hLK] at hor HOKK hkl
      clear hLK
      have HSt := Lib.hid (ren_at (s := s) (d := d) (y := yp) yk yt yo)
      rcases te3 : (yp.toList == s.toList) with _ | _
      rotate_left
      · have hq : yp.data.toList = s.data.toList := by rw [toList_beq] at te3; simpa using te3
        have HMV : Hid (Tr.mv s.data.toList yp.data.toList) := Lib.hid (.inl hq)
        have hle2 : s.size ≤ yp.size := by rw [← size_length s, ← size_length yp, hq]; exact Nat.le_refl _
        clear hq
        have HRN := Lib.hid (HSt.out HMV.out)
        have HN := Lib.hid (HY.out HMV.out)
        have HE := Lib.hid (HME.out HMV.out)
        rw [HRN.out] at HN HE
        obtain ⟨np, hnp⟩ : ∃ np, np = d ++ yp.extract s.size yp.size := ⟨_, rfl⟩
        rw [← hnp] at HN HE
        clear HY HNO HME HSt HRN
        have hcw := hcr.alloc (.cells #[.string np, .int .i64 yk, .string yt, .bool yo] 45)
        have how : EnOwn _ base v LK := own_alloc hor (.cells #[.string np, .int .i64 yk, .string yt, .bool yo] 45)
        have hxw := hxr.trans (BelowX.of ((Below.refl wr.heap.size wr).alloc (Nat.le_refl _) (.cells #[.string np, .int .i64 yk, .string yt, .bool yo] 45)) hbwr)
        have hbww : base ≤ (wr.alloc (.cells #[.string np, .int .i64 yk, .string yt, .bool yo] 45)).heap.size := by rw [World.size_alloc]; omega
        have hyw := Blk.new wr 45 [.string np, .int .i64 yk, .string yt, .bool yo]
        go_wp2_with fail
        try rw [← hnp]
        refine (set_any np.size gc base vB _ _ v LK ⟨np, yk, yt, yo⟩ (wr.alloc (.cells #[.string np, .int .i64 yk, .string yt, .bool yo] 45)) hcw how hgb hbww HOKK.out.srt HOKK.out.ne HOKK.out.sm HE.out.1 (Nat.le_of_eq (size_length np)) (by show np.size < 4294967281; have h8 : np.size ≤ 80 := HE.out.2.1; omega) HE.out.2.2 (by have h8 : np.size ≤ 80 := HE.out.2.1; omega)).mono ?_
        rintro e w20 ⟨rfl, v20, hc20, ho20, hg20⟩
        have hx20 := hxw.trans (hg20.belowX hbww (own_lt how))
        go_wp2_with fail
        go_roundw
        case rel => exact ⟨k + 1, v20, hlt, by go_num, hc20, by rw [HN.out, Tr.setAll_snoc, ← HLK.out]; exact ho20, hx20⟩
        case measure => simp [intOf]; omega
      have hq : ¬ yp.data.toList = s.data.toList := by rw [toList_beq] at te3; simpa using te3
      have te4 : (yp.toList != s.toList) = true := by rw [bne_iff_ne]; intro h; rw [h] at te3; simp at te3
      go_wp2_with fail
      refine (under_any yp s _ (by omega)).mono ?_
      rintro e w' ⟨rfl, rfl⟩
      rcases tu : Pt.under yp.data.toList s.data.toList with _ | _
      rotate_left
      · have HMV : Hid (Tr.mv s.data.toList yp.data.toList) := Lib.hid (.inr tu)
        have hle2 : s.size ≤ yp.size := by
          have := Tr.under_len HM.out.s0 tu
          rw [size_length, size_length] at this; omega
        clear hq
        have HRN := Lib.hid (HSt.out HMV.out)
        have HN := Lib.hid (HY.out HMV.out)
        have HE := Lib.hid (HME.out HMV.out)
        rw [HRN.out] at HN HE
        obtain ⟨np, hnp⟩ : ∃ np, np = d ++ yp.extract s.size yp.size := ⟨_, rfl⟩
        rw [← hnp] at HN HE
        clear HY HNO HME HSt HRN
        have hcw := hcr.alloc (.cells #[.string np, .int .i64 yk, .string yt, .bool yo] 45)
        have how : EnOwn _ base v LK := own_alloc hor (.cells #[.string np, .int .i64 yk, .string yt, .bool yo] 45)
        have hxw := hxr.trans (BelowX.of ((Below.refl wr.heap.size wr).alloc (Nat.le_refl _) (.cells #[.string np, .int .i64 yk, .string yt, .bool yo] 45)) hbwr)
        have hbww : base ≤ (wr.alloc (.cells #[.string np, .int .i64 yk, .string yt, .bool yo] 45)).heap.size := by rw [World.size_alloc]; omega
        have hyw := Blk.new wr 45 [.string np, .int .i64 yk, .string yt, .bool yo]
        go_wp2_with fail
        try rw [← hnp]
        refine (set_any np.size gc base vB _ _ v LK ⟨np, yk, yt, yo⟩ (wr.alloc (.cells #[.string np, .int .i64 yk, .string yt, .bool yo] 45)) hcw how hgb hbww HOKK.out.srt HOKK.out.ne HOKK.out.sm HE.out.1 (Nat.le_of_eq (size_length np)) (by show np.size < 4294967281; have h8 : np.size ≤ 80 := HE.out.2.1; omega) HE.out.2.2 (by have h8 : np.size ≤ 80 := HE.out.2.1; omega)).mono ?_
        rintro e w20 ⟨rfl, v20, hc20, ho20, hg20⟩
        have hx20 := hxw.trans (hg20.belowX hbww (own_lt how))
        go_wp2_with fail
        go_roundw
        case rel => exact ⟨k + 1, v20, hlt, by go_num, hc20, by rw [HN.out, Tr.setAll_snoc, ← HLK.out]; exact ho20, hx20⟩
        case measure => simp [intOf]; omega
      · have HN := Lib.hid (HNO.out (show ¬ (yp.data.toList = s.data.toList ∨ Pt.under yp.data.toList s.data.toList = true) from fun h => h.elim hq (fun h => by rw [tu] at h; cases h)))
        clear HY HNO HME hq
        go_wp2_with fail
        go_roundw
        case rel => exact ⟨k + 1, v, hlt, by go_num, hcr.alloc _, by rw [HN.out, ← HLK.out]; exact own_alloc hor _, hxr.trans (BelowX.of ((Below.refl wr.heap.size wr).alloc (Nat.le_refl _) _) hbwr)⟩
        case measure => simp [intOf]; omega
    · obtain rfl : k = S.length := by omega
      rw [List.take_length] at hor
      have HF := HF1
      have HLEN : Hid ((Tr.setAll U2 (Tr.movedO S s.data.toList d.data.toList)).length ≤ 2000000) := Lib.hid (by have := (HOKA.out S.length (Nat.le_refl _)).len; rw [List.take_length] at this; omega)
      have hq9 := hq8.keepX hxr (by omega) (by omega)
      have hz9 := hz8.keepX hxr (by omega) (by omega)
      have hB9 := hB8.trans (hxr.below (by omega) (by omega))
      have hc9 := hcr
      have ho9 := hor
      have hbw9 := hbwr
      clear hcr hor hbwr hq8 hz8 hB8
      generalize wr = w9 at *
      go_wp2_with fail
      have hl9 : TsRd w9 w9.heap.size A' u.L := ((HU.out.below hB9).more hB9.size).low
      refine (end_any gc w.heap.size base vB _ _ v _ A A' c c' u w9 hc9 ho9 hbw9 hq9 hl9 (by have := HP.out.ll; omega) (fun l hl => by have := HP.out.lls l hl; omega) HLEN.out).mono ?_
      rintro e w20 ⟨A7, A7', c7, c7', rfl, hf7, hb7⟩
      have hz7 := hz9.below hb7 hz9.lt
      have hB7 := hB9.trans (hb7.mono hB9.size)
      rw [← HF.out] at hf7
      rw [← HF.out]
      obtain ⟨z0, z1, zf, zz⟩ := hz7.two
      go_wp2_with fail
      refine bodyPost_ret (v := .tuple #[.agg #[.slice A7 R.1.U.length c7, .slice A7' R.1.L.length c7'], .int .i64 R.2]) ?_ rfl ?_
      · simp [results, Tryz.results25, go_sem, z0, z1]
      exact ⟨_, _, _, _, rfl, ((hf7.set (p := ⟨w.heap.size + 1, 0, none⟩) (by show w.heap.size + 1 < base; omega) _).set (p := ⟨w.heap.size + 1, 1, none⟩) (by show w.heap.size + 1 < base; omega) _).less (by omega), (hB7.setCell (p := ⟨w.heap.size + 1, 0, none⟩) (by show w.heap.size ≤ w.heap.size + 1; omega) _).setCell (p := ⟨w.heap.size + 1, 1, none⟩) (by show w.heap.size ≤ w.heap.size + 1; omega) _⟩
end Go.Proofs.YtjppfhgkanbemabGreatDoor
