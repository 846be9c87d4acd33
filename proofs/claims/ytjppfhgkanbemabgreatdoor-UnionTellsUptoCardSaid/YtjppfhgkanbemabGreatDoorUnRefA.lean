/-
  The document's All, WrongUnion, Seen, Look. (Printed by wip/genunref.py.)
-/
import Derived.Test.YtjppfhgkanbemabGreatDoorMI
import Derived.Test.YtjppfhgkanbemabGreatDoorTrRefO
import Derived.BigRegion
namespace Go.Proofs.YtjppfhgkanbemabGreatDoor
open Go.RowKit Go.Shelf Go.Sort

set_option maxHeartbeats 1000000 in
/-- All layers of a union. -/
theorem refAll_any (A A' : Option Addr) (c c' : Nat) (u : Un) (w : World) (hu : UnRd w w.heap.size A A' c c' u) (hs : UnSm u) :
    Calls Tryz.prog 36 #[.agg #[.slice A u.U.length c, .slice A' u.L.length c']] w fun e w' => ∃ v, e = .returned v ∧ TsOwn w' w.heap.size v u.all ∧ Below w.heap.size w w' := by
  obtain ⟨l, ls⟩ := u
  obtain ⟨h1, h2, h3, h4⟩ := hu
  have hz := hs.2.1
  dsimp only at h1 h2 h3 h4 hz
  have hB0 := (Below.refl w.heap.size w).alloc (Nat.le_refl _) (.cells #[.slice A l.length c, .slice A' ls.length c'] 33)
  have hq0 := Blk.new w 33 [.slice A l.length c, .slice A' ls.length c']
  have h1 := Rd.below h1 hB0
  have h3 := h3.below hB0
  go_enter Tryz.func36, Tryz.ntmps36
  go_upto_region 1 with fail
  generalize w.alloc (.cells #[.slice A l.length c, .slice A' ls.length c'] 33) = w0 at *
  obtain ⟨ws, hrd, hws⟩ := h3
  have hown1 : TsOwn (w0.alloc (.cells #[.slice A l.length c] 30)) w.heap.size (.slice (some ⟨w0.heap.size, 0, none⟩) 1 1) [l] := ts_lit1 hB0.size h1 h2
  have hrd1 : Rd (w0.alloc (.cells #[.slice A l.length c] 30)) w.heap.size 1 A' ls.length ws := Rd.alloc hrd hB0.size _
  have hws1 : ∀ k (h : k < ls.length), ∃ Ak ck, ws[k]? = some (.slice Ak ls[k].length ck) ∧ ls[k].length ≤ ck ∧ EnRd (w0.alloc (.cells #[.slice A l.length c] 30)) w.heap.size Ak ls[k] := fun k hk => by
    obtain ⟨Ak, ck, f1, f2, f3⟩ := hws k hk
    exact ⟨Ak, ck, f1, f2, Rd.alloc f3 hB0.size _⟩
  have hB1 : Below w.heap.size w (w0.alloc (.cells #[.slice A l.length c] 30)) := hB0.alloc hB0.size _
  have hsz1 := hB1.size
  have hq1 := hq0.alloc (.cells #[.slice A l.length c] 30)
  obtain ⟨q0, q1, qf, qz⟩ := hq0.two
  obtain ⟨p0, p1, pf, pz⟩ := hq1.two
  clear hq0 hq1 hrd hws h1
  go_wp2_with (at_builtin; go_must (refine wpList_appTs (w := w0.alloc (.cells #[.slice A l.length c] 30)) (v := .slice (some ⟨w0.heap.size, 0, none⟩) 1 1) (base := w.heap.size) (ls := [l]) (ms := ls) (A := A') (c := c') (ws := ws) _ rfl _ _ rfl rfl hown1 ls.length rfl rfl hrd1 hws1 h4 (by simp only [List.length_cons, List.length_nil]; omega) hsz1 rfl ?_); intro v4 w4 own4 hg4)
  go_ret
  exact ⟨_, rfl, own4, hB1.grown hg4 hB1.size (fun q e' => by obtain ⟨vs, h1, _⟩ := hown1; exact (h1.lt q e').1)⟩
set_option maxHeartbeats 4000000 in
set_option maxRecDepth 100000 in
theorem refWrongU_any (A A' : Option Addr) (c c' : Nat) (u : Un) (w : World) (hu : UnRd w w.heap.size A A' c c' u) (hs : UnSm u) :
    Calls Tryz.prog 16 #[.agg #[.slice A u.U.length c, .slice A' u.L.length c']] w fun e w' => e = .returned (.agg #[.int .i64 (Tr.wrongU u).1, .int .i64 (Tr.wrongU u).2]) ∧ Below w.heap.size w w' := by
  have HS := Lib.hid hs
  have hn := hs.2.1
  clear hs
  obtain ⟨p, hp⟩ : ∃ p, p = Tr.wrongU u := ⟨_, rfl⟩
  have HP := Lib.hid hp.symm
  rw [← hp]
  clear hp
  obtain ⟨l, ls⟩ := u
  dsimp only at hn ⊢
  have HU := Lib.hid hu
  clear hu
  have hB0 := ((Below.refl w.heap.size w).alloc (Nat.le_refl _) (.cells #[.slice A l.length c, .slice A' ls.length c'] 33))
  have hB1 := hB0.alloc hB0.size (.cells #[.int .i64 0, .int .i64 0] 51)
  have hq1 := (Blk.new w 33 [.slice A l.length c, .slice A' ls.length c']).alloc (.cells #[.int .i64 0, .int .i64 0] 51)
  have hf1 := Blk.new (w.alloc (.cells #[.slice A l.length c, .slice A' ls.length c'] 33)) 51 [.int .i64 0, .int .i64 0]
  have hlt : w.heap.size < w.heap.size + 1 := Nat.lt_succ_self _
  clear hB0
  go_enter Tryz.func16, Tryz.ntmps16
  go_upto_region 1 with fail
  simp only [World.size_alloc] at hf1
  generalize (w.alloc (.cells #[.slice A l.length c, .slice A' ls.length c'] 33)).alloc (.cells #[.int .i64 0, .int .i64 0] 51) = w1 at *
  generalize w.heap.size + 1 = gf at *
  by_cases t4 : 4 < ls.length
  · have HO : Hid (p = (5, 0)) := Lib.hid (by rw [← HP.out]; unfold Tr.wrongU; rw [if_pos t4])
    obtain ⟨q0, q1, qf, qz⟩ := hq1.two
    obtain ⟨f0, f1, ff, fz⟩ := hf1.two
    go_wp2_with fail
    refine bodyPost_ret (v := .agg #[.int .i64 5, .int .i64 0]) ?_ rfl ⟨ret_wrongU HO.out, ?_⟩
    · simp [results, Tryz.results16, go_sem, f0, f1]
    · exact (hB1.setCell (by simp; omega) _).setCell (by simp; omega) _
  have HP4 : Hid (p = if (Tr.wrongLs (l :: ls) 0).1 ≠ 0 then Tr.wrongLs (l :: ls) 0 else ((Tr.mergeL (l :: ls)).2, 0)) := Lib.hid (by rw [← HP.out]; unfold Tr.wrongU; rw [if_neg t4]; rfl)
  have HM5 : Hid (Tr.merge (l :: ls) = Tr.mergeL (l :: ls)) := Lib.hid (by unfold Tr.merge; rw [if_neg (by rw [List.length_cons]; omega)])
  clear HP
  have hall := fun W (hb : Below w.heap.size w W) => refAll_any A A' c c' ⟨l, ls⟩ W ((HU.out.below hb).more hb.size) HS.out
  obtain ⟨q0, q1, qf, qz⟩ := hq1.two
  go_wp2_with fail
  clear q0 q1 qf qz
  refine (hall w1 hB1).mono ?_
  rintro e w2 ⟨v2, rfl, ho2, hb2⟩
  obtain ⟨A2, c2, rfl, hc2, hr2⟩ := ho2.rd hb2.size
  have hB2 := hB1.trans (hb2.mono hB1.size)
  have hq2 := hq1.below hb2 hq1.lt
  have hf2 := hf1.below hb2 hf1.lt
  clear hb2 hB1 hq1 hf1 ho2
  have HAL : Hid ((⟨l, ls⟩ : Un).all = l :: ls) := Lib.hid rfl
  rw [HAL.out] at hr2
  have hlen : (⟨l, ls⟩ : Un).all.length = ls.length + 1 := rfl
  have hlen2 : (l :: ls).length = ls.length + 1 := rfl
  rw [hlen] at *
  have HSM : Hid (Sms (l :: ls)) := Lib.hid HS.out.1
  go_wp2_with fail
  generalize l :: ls = al at *
  go_loopw [16] (fun i wr => ∃ k : Nat, k ≤ al.length ∧ i = .int .i64 k ∧ Hid (∀ x ∈ al.take k, (Tr.wrong x true).1 = 0) ∧ Blk wr w.heap.size 33 [.slice A l.length c, .slice A' ls.length c'] ∧ Blk wr gf 51 [.int .i64 0, .int .i64 0] ∧ Below w2.heap.size w2 wr) (fun i _ => al.length - (intOf i).toNat)
  case atStart => exact ⟨0, Nat.zero_le _, rfl, Lib.hid (fun x hx => by simp at hx), hq2, hf2, Below.refl _ _⟩
  case round =>
    obtain ⟨k, hk, rfl, HK, hq3, hf3, hb3⟩ := hrel
    have hB3 := hB2.trans (hb3.mono hB2.size)
    clear hq2 hf2
    by_cases hlt2 : k < al.length
    · have hki : (k : Int) < (ls.length : Int) + 1 := by omega
      obtain ⟨b, o, Ak, ck, rfl, hbk, hc1, hcl, hrd⟩ := (hr2.below hb3).at_ hlt2
      have hsm := Lib.hid (HSM.out _ (List.getElem_mem hlt2))
      have HE := Lib.hid (fun e => wrongLs_at (ls := al) (k := k) 0 hlt2 (e := e) HK.out)
      have HN : Hid ((Tr.wrong al[k] true).1 = 0 → ∀ x ∈ al.take (k + 1), (Tr.wrong x true).1 = 0) := Lib.hid (fun h x hx => by
        rw [List.take_succ_eq_append_getElem hlt2, List.mem_append, List.mem_singleton] at hx
        rcases hx with hx | rfl
        · exact HK.out x hx
        · exact h)
      generalize al[k] = x at hc1 hcl hrd hsm HE HN
      have cW := refWrongT_any Ak ck x true wr (Rd.more hrd hb3.size) hcl hsm.out.1 hsm.out.2
      generalize Tr.wrong x true = q at cW HE HN
      obtain ⟨qe, qa⟩ := q
      dsimp only at cW HE HN
      go_wp2_with fail
      refine cW.mono ?_
      rintro e w4 ⟨rfl, hb4⟩
      have hb4' := (hb3.trans (hb4.mono hb3.size)).alloc (hb3.trans (hb4.mono hb3.size)).size (.cells #[.int .i64 qe, .int .i64 qa] 51)
      have hB4 := hB2.trans (hb4'.mono hB2.size)
      have hq4 := (hq3.below hb4 hq3.lt).alloc (.cells #[.int .i64 qe, .int .i64 qa] 51)
      have hf4 := (hf3.below hb4 hf3.lt).alloc (.cells #[.int .i64 qe, .int .i64 qa] 51)
      have hx4 := Blk.new w4 51 [.int .i64 qe, .int .i64 qa]
      have hgx : gf < w4.heap.size := (hf3.below hb4 hf3.lt).lt
      clear cW hb4 hq3 hf3 hB3 hb3
      rcases te : (qe != 0) with _ | _
      · have HN2 := Lib.hid (HN.out (by simpa using te))
        go_wp2_with fail
        go_roundw
        case rel => exact ⟨k + 1, by omega, by go_num, HN2, hq4, hf4, hb4'⟩
        case measure => simp [intOf]; omega
      · have hqe : qe ≠ 0 := by simpa using te
        have HO : Hid (p = (qe, (k : Int))) := Lib.hid (by
          have h := HE.out qe rfl hqe
          rw [HP4.out, h, if_pos hqe]; simp)
        clear hqe
        go_upto_region 8 with fail
        generalize w4.alloc (.cells #[.int .i64 qe, .int .i64 qa] 51) = w5 at *
        generalize w4.heap.size = gx at *
        obtain ⟨f0, f1, ff, fz⟩ := hf4.two
        obtain ⟨x0, x1, xf, xz⟩ := hx4.two
        go_wp2_with fail
        refine bodyPost_ret (v := .agg #[.int .i64 qe, .int .i64 k]) ?_ rfl ⟨ret_wrongU HO.out, ?_⟩
        · simp [results, Tryz.results16, go_sem, f0, f1]
        · exact (hB4.setCell (by simp; omega) _).setCell (by simp; omega) _
    · obtain rfl : k = al.length := by omega
      have hki : ¬ ((al.length : Nat) : Int) < (ls.length : Int) + 1 := by omega
      have HZ : Hid (p = ((Tr.merge al).2, 0)) := Lib.hid (by
        rw [HP4.out, if_neg, HM5.out]
        have := (Tr.wrongLs_zero (ls := al) 0).2 (fun x hx => HK.out x (by rw [List.take_length]; exact hx))
        simp [this])
      clear HP4 HM5
      obtain ⟨q0, q1, qf, qz⟩ := hq3.two
      go_wp2_with fail
      clear q0 q1 qf qz
      refine (hall wr hB3).mono ?_
      rintro e w4 ⟨v4, rfl, ho4, hb4⟩
      obtain ⟨A4, c4, rfl, hc4, hr4⟩ := ho4.rd hb4.size
      have hB4 := hB3.trans (hb4.mono hB3.size)
      have hf4 := hf3.below hb4 hf3.lt
      clear hb4 ho4 hB3 hb3 hq3 hf3
      rw [HAL.out] at hr4
      have cM := refMerge_any A4 c4 al w4 hr4 HSM.out
      unfold MergeRel at cM
      generalize Tr.merge al = m at cM HZ
      obtain ⟨ml, me⟩ := m
      dsimp only at cM HZ
      rw [hlen2] at cM
      go_wp2_with fail
      refine cM.mono ?_
      rintro e w5 ⟨v5, rfl, ho5, hb5⟩
      have hB5 := hB4.trans (hb5.mono hB4.size)
      have hf5 := hf4.below hb5 hf4.lt
      clear cM ho5 hb5 hB4 hf4
      obtain ⟨f0, f1, ff, fz⟩ := hf5.two
      rcases te : (me != 0) with _ | _
      · have he0 : me = 0 := by simpa using te
        subst he0
        go_wp2_with fail
        refine bodyPost_ret (v := .agg #[.int .i64 0, .int .i64 0]) ?_ rfl ⟨ret_wrongU HZ.out, ?_⟩
        · simp [results, Tryz.results16, go_sem, f0, f1]
        · exact (hB5.setCell (by simp; omega) _).setCell (by simp; omega) _
      · go_wp2_with fail
        refine bodyPost_ret (v := .agg #[.int .i64 me, .int .i64 0]) ?_ rfl ⟨ret_wrongU HZ.out, ?_⟩
        · simp [results, Tryz.results16, go_sem, f0, f1]
        · exact (hB5.setCell (by simp; omega) _).setCell (by simp; omega) _
set_option maxHeartbeats 4000000 in
set_option maxRecDepth 100000 in
theorem refSeenU_any (A A' : Option Addr) (c c' : Nat) (u : Un) (w : World) (hu : UnRd w w.heap.size A A' c c' u) (hs : UnSm u) :
    Calls Tryz.prog 14 #[.agg #[.slice A u.U.length c, .slice A' u.L.length c']] w (SeenRel u w) := by
  have HS := Lib.hid hs
  clear hs
  unfold SeenRel
  obtain ⟨p, hp⟩ : ∃ p, p = Tr.seenU u := ⟨_, rfl⟩
  have HP := Lib.hid hp
  rw [← hp]
  clear hp
  obtain ⟨l, ls⟩ := u
  dsimp only at *
  have HU := Lib.hid hu
  clear hu
  have cW := fun W h => refWrongU_any A A' c c' ⟨l, ls⟩ W h HS.out
  dsimp only at cW
  have HT := Lib.hid (fun h : Tr.Fine ⟨l, ls⟩ => h.1)
  have HF := Lib.hid (Tr.fine_iff ⟨l, ls⟩).1
  have HE := Lib.hid (fun h : (Tr.wrongU ⟨l, ls⟩).1 ≠ 0 => (show Tr.seenU ⟨l, ls⟩ = ([], (Tr.wrongU ⟨l, ls⟩).1) by unfold Tr.seenU; rw [if_pos h]))
  generalize hq : Tr.wrongU ⟨l, ls⟩ = q at cW HF HE
  clear hq
  obtain ⟨qe, qa⟩ := q
  dsimp only at cW HF HE
  have hB1 := ((Below.refl w.heap.size w).alloc (Nat.le_refl _) (.cells #[.slice A l.length c, .slice A' ls.length c'] 33))
  have hq1 := (Blk.new w 33 [.slice A l.length c, .slice A' ls.length c'])
  go_enter Tryz.func14, Tryz.ntmps14
  go_upto_region 1 with fail
  generalize w.alloc (.cells #[.slice A l.length c, .slice A' ls.length c'] 33) = w1 at *
  obtain ⟨q0, q1, qf, qz⟩ := hq1.two
  go_wp2_with fail
  clear q0 q1 qf qz
  refine (cW w1 ((HU.out.below hB1).more hB1.size)).mono ?_
  rintro e w2 ⟨rfl, hb2⟩
  have hB2 := (hB1.trans (hb2.mono hB1.size)).alloc (hB1.trans (hb2.mono hB1.size)).size (.cells #[.int .i64 qe, .int .i64 qa] 51)
  have hq2 := (hq1.below hb2 hq1.lt).alloc (.cells #[.int .i64 qe, .int .i64 qa] 51)
  have hx2 := Blk.new w2 51 [.int .i64 qe, .int .i64 qa]
  clear cW hb2 hB1 hq1
  rcases te : (qe != 0) with _ | _
  rotate_left
  · have HO : Hid (p = ([], qe)) := Lib.hid (by rw [HP.out]; exact HE.out (by simpa using te))
    go_upto_region 3 with fail
    generalize w2.alloc (.cells #[.int .i64 qe, .int .i64 qa] 51) = w3 at *
    generalize w2.heap.size = gx at *
    obtain ⟨x0, x1, xf, xz⟩ := hx2.two
    go_quiet (fail)
    go_wp2_with fail
    go_ret2
    exact ⟨_, ret_seen HO.out, by rw [HO.out]; exact EnOwn.nil _ _, below_drewN hB2 _⟩
  have hqe : qe = 0 := by simpa using te
  have HFI := Lib.hid (HF.out hqe)
  have HM : Hid (p = Tr.merge (l :: ls)) := Lib.hid (by
    rw [HP.out, Tr.seenU_fine HFI.out]
    unfold Tr.merge
    rw [if_neg (by have h := HFI.out.1; have h : ls.length ≤ 4 := h; rw [List.length_cons]; omega)]; rfl)
  clear hqe
  go_upto_region 4 with fail
  generalize w2.alloc (.cells #[.int .i64 qe, .int .i64 qa] 51) = w3 at *
  obtain ⟨q0, q1, qf, qz⟩ := hq2.two
  go_wp2_with fail
  clear q0 q1 qf qz
  refine (refAll_any A A' c c' ⟨l, ls⟩ w3 ((HU.out.below hB2).more hB2.size) HS.out).mono ?_
  rintro e w4 ⟨v4, rfl, ho4, hb4⟩
  obtain ⟨A4, c4, rfl, hc4, hr4⟩ := ho4.rd hb4.size
  have hB4 := hB2.trans (hb4.mono hB2.size)
  clear hb4 ho4
  have HAL : Hid ((⟨l, ls⟩ : Un).all = l :: ls) := Lib.hid rfl
  rw [HAL.out] at hr4
  have hlen : (⟨l, ls⟩ : Un).all.length = ls.length + 1 := rfl
  have hlen2 : (l :: ls).length = ls.length + 1 := rfl
  have cM := refMerge_any A4 c4 (l :: ls) w4 hr4 HS.out.1
  unfold MergeRel at cM
  rw [← HM.out, hlen2] at cM
  rw [hlen] at *
  go_wp2_with fail
  refine cM.mono ?_
  rintro e w5 ⟨v5, rfl, ho5, hb5⟩
  have hB5 := hB4.trans (hb5.mono hB4.size)
  go_wp2_with fail
  go_ret2
  exact ⟨_, rfl, own_base ho5 hB4.size, hB5⟩

/-- The first layer that has a path is the one that Look names. -/
theorem Tr.look_first : ∀ {ls : List (List En)} {p : Pt.Bs} (i : Nat) {e : En} {k : Nat}, Tr.lookLs ls p i = some (e, k) → ∀ j (h : j < ls.length), i + j < k → Tr.get ls[j] p = none
  | [], _, _, _, _, h => nomatch h
  | l :: r, p, i, e, k, h => fun j hj hjk => by
    unfold Tr.lookLs at h
    rcases g : Tr.get l p with _ | y
    · rw [g] at h
      dsimp only at h
      rcases hh : Tr.hides l p with _ | _
      · rw [hh, if_neg (by simp)] at h
        cases j with
        | zero => exact g
        | succ j => exact Tr.look_first (i + 1) h j (by simpa using hj) (by omega)
      · rw [hh, if_pos rfl] at h; cases h
    · rw [g] at h
      dsimp only at h
      by_cases hk : y.k = 4
      · rw [if_pos hk] at h; cases h
      · rw [if_neg hk] at h
        injection h with h
        injection h with _ hb
        omega
/-- What Look answers, by what is seen. -/
theorem Tr.look_ref {u : Un} {p : Pt.Bs} (h : (Tr.seenU u).2 = 0) : (Pt.clean p = false → Tr.lookU u p = (En.zero, 0, 7)) ∧ (Pt.clean p = true → (Tr.get (Tr.seenU u).1 p = none → Tr.lookU u p = (En.zero, 0, 6)) ∧
    ∀ e, Tr.get (Tr.seenU u).1 p = some e → ∃ k, ∃ hk : k < u.all.length, Tr.lookU u p = (e, (k : Int), 0) ∧ (Tr.get u.all[k] p).isSome = true ∧ ∀ j (hj : j < u.all.length), j < k → Tr.get u.all[j] p = none) := by
  have hf := Tr.seenU_zero.1 h
  have hS : (Tr.seenU u).1 = (Tr.mergeL u.all).1 := by rw [Tr.seenU_fine hf]
  have h0 : ¬ (Tr.wrongU u).1 ≠ 0 := by simp [(Tr.fine_iff u).2 hf]
  refine ⟨fun hc => by unfold Tr.lookU; rw [if_neg h0, if_pos hc], fun hc => ?_⟩
  have hl := Tr.look_seen 0 hf.2 (Tr.clean_ne hc)
  have e1 : Tr.lookU u p = Tr.lookP (Tr.lookLs u.all p 0) := by unfold Tr.lookU; rw [if_neg h0, if_neg (by rw [hc]; decide)]
  rw [e1, hS, hl]
  rcases hk : Tr.lookLs u.all p 0 with _ | ⟨e, k⟩
  · exact ⟨fun _ => rfl, fun e h => by cases h⟩
  · refine ⟨fun h => (by cases h), fun e' h => ?_⟩
    injection h with h
    have h : e = e' := h
    subst h
    obtain ⟨_, hlt, z, hz, _⟩ := Tr.look_has 0 hk
    exact ⟨k, hlt, rfl, by rw [show u.all[k] = u.all[k - 0] from rfl, hz]; rfl, fun j hj hjk => Tr.look_first 0 hk j hj (by omega)⟩
theorem Tr.look_bad {u : Un} {p : Pt.Bs} {x : Int} (h : (Tr.seenU u).2 = x) (hx : x ≠ 0) : Tr.lookU u p = (En.zero, 0, x) := by
  rw [Tr.seenU_err] at h
  unfold Tr.lookU
  rw [if_pos (by rw [h]; exact hx), h]

set_option maxHeartbeats 4000000 in
set_option maxRecDepth 100000 in
theorem refLookU_any (A A' : Option Addr) (c c' : Nat) (u : Un) (p : ByteArray) (w : World) (hu : UnRd w w.heap.size A A' c c' u) (hs : UnSm u) (hp : p.size < 4294967281) :
    Calls Tryz.prog 19 #[.agg #[.slice A u.U.length c, .slice A' u.L.length c'], .string p] w (LookRel u p.data.toList w) := by
  have HS := Lib.hid hs
  have HU := Lib.hid hu
  clear hs hu
  unfold LookRel
  obtain ⟨lk, hlk⟩ : ∃ lk, lk = Tr.lookU u p.data.toList := ⟨_, rfl⟩
  have HB := Lib.hid (fun (x : Int) (h : (Tr.seenU u).2 = x) (hx : x ≠ 0) => Tr.look_bad (p := p.data.toList) h hx)
  have HT := Lib.hid (Tr.look_ref (u := u) (p := p.data.toList))
  rw [← hlk] at HB HT ⊢
  clear hlk
  have cS := fun W h => refSeenU_any A A' c c' u W h HS.out
  unfold SeenRel at cS
  have HL := Lib.hid (fun h : (Tr.seenU u).2 = 0 => (Tr.fine_parts (Tr.seenU_zero.1 h)).2.2.2.2.2.1)
  have HSE := Lib.hid (fun h : (Tr.seenU u).2 = 0 => congrArg Prod.fst (Tr.fine_parts (Tr.seenU_zero.1 h)).2.2.2.2.1)
  have HSL : Hid ((Tr.seenU u).2 = 0 → (Tr.seenU u).1.length ≤ 80) := Lib.hid (fun h => by rw [HSE.out h]; exact HL.out h)
  clear HL HSE
  generalize Tr.seenU u = sp at cS HB HT HSL
  obtain ⟨S, se⟩ := sp
  dsimp only at cS HB HT HSL
  have hB0 := ((Below.refl w.heap.size w).alloc (Nat.le_refl _) (.cells #[.slice A u.U.length c, .slice A' u.L.length c'] 33))
  have hB1 := hB0.alloc hB0.size (.cells #[.string ⟨#[]⟩, .int .i64 0, .string ⟨#[]⟩, .bool false] 45)
  have hq1 := (Blk.new w 33 [.slice A u.U.length c, .slice A' u.L.length c']).alloc (.cells #[.string ⟨#[]⟩, .int .i64 0, .string ⟨#[]⟩, .bool false] 45)
  have hz1 := Blk.new (w.alloc (.cells #[.slice A u.U.length c, .slice A' u.L.length c'] 33)) 45 [.string ⟨#[]⟩, .int .i64 0, .string ⟨#[]⟩, .bool false]
  simp only [World.size_alloc] at hz1
  clear hB0
  go_enter Tryz.func19, Tryz.ntmps19
  go_upto_region 1 with fail
  generalize (w.alloc (.cells #[.slice A u.U.length c, .slice A' u.L.length c'] 33)).alloc (.cells #[.string ⟨#[]⟩, .int .i64 0, .string ⟨#[]⟩, .bool false] 45) = w1 at *
  obtain ⟨q0, q1, qf, qz⟩ := hq1.two
  go_wp2_with fail
  clear q0 q1 qf qz
  refine (cS w1 ((HU.out.below hB1).more hB1.size)).mono ?_
  rintro e w2 ⟨v2, rfl, ho2, hb⟩
  have hB2 := hB1.trans (hb.mono hB1.size)
  have hq2 := hq1.below hb hq1.lt
  have hz2 := hz1.below hb hz1.lt
  clear hb hB1 hq1 hz1 cS
  obtain ⟨AS, cS, rfl, hcS, hS2⟩ := EnOwn.rd ho2
  clear ho2
  rcases te : (se != 0) with _ | _
  rotate_left
  · have hL := HB.out se rfl (by simpa using te)
    subst hL
    obtain ⟨z0, z1, z2, z3, zf, zz⟩ := hz2.four
    go_wp2_with fail
    refine bodyPost_ret (v := .tuple #[En.zero.agg, .int .i64 0, .int .i64 se]) ?_ rfl ⟨rfl, (((hB2.setCell (p := ⟨w.heap.size + 1, 0, none⟩) (Nat.le_succ _) _).setCell (p := ⟨w.heap.size + 1, 1, none⟩) (Nat.le_succ _) _).setCell (p := ⟨w.heap.size + 1, 2, none⟩) (Nat.le_succ _) _).setCell (p := ⟨w.heap.size + 1, 3, none⟩) (Nat.le_succ _) _⟩
    simp [results, Tryz.results19, go_sem, z0, z1, z2, z3, En.agg, En.cells, En.zero]
  have hse : se = 0 := by simpa using te
  have hT := HT.out hse
  have hSl := HSL.out hse
  clear HB HT HSL te
  subst hse
  go_wp2_with fail
  refine (refClean_any p w2 hp).mono ?_
  rintro e w3 ⟨rfl, hb⟩
  have hB3 := hB2.trans (hb.mono hB2.size)
  have hq3 := hq2.below hb hq2.lt
  have hz3 := hz2.below hb hz2.lt
  have hS3 : EnRd w3 w3.heap.size AS S := (Rd.below hS2 hb).more hb.size
  clear hb hB2 hq2 hz2 hS2
  rcases tc : Pt.clean p.data.toList with _ | _
  · have hL := hT.1 tc
    subst hL
    clear hT tc
    obtain ⟨z0, z1, z2, z3, zf, zz⟩ := hz3.four
    go_wp2_with fail
    refine bodyPost_ret (v := .tuple #[En.zero.agg, .int .i64 0, .int .i64 7]) ?_ rfl ⟨rfl, (((hB3.setCell (p := ⟨w.heap.size + 1, 0, none⟩) (Nat.le_succ _) _).setCell (p := ⟨w.heap.size + 1, 1, none⟩) (Nat.le_succ _) _).setCell (p := ⟨w.heap.size + 1, 2, none⟩) (Nat.le_succ _) _).setCell (p := ⟨w.heap.size + 1, 3, none⟩) (Nat.le_succ _) _⟩
    simp [results, Tryz.results19, go_sem, z0, z1, z2, z3, En.agg, En.cells, En.zero]
  have hT2 := hT.2 tc
  clear hT tc
  go_wp2_with fail
  refine (refGet_any AS cS S p w3 hS3 (by omega)).mono ?_
  rintro e w4 ⟨r, rfl, hr, hb⟩
  have hB4 := hB3.trans (hb.mono hB3.size)
  have hq4 := hq3.below hb hq3.lt
  have hz4 := hz3.below hb hz3.lt
  clear hb hB3 hq3 hz3 hS3
  rcases r with _ | x
  · have hL := hT2.1 hr.symm
    subst hL
    clear hT2 hr
    simp only [Option.getD_none, Option.isSome_none, En.agg, En.cells, En.zero]
    have hz5 := hz4.alloc (.cells #[.string ⟨#[]⟩, .int .i64 0, .string ⟨#[]⟩, .bool false] 45)
    have hB5 := hB4.alloc hB4.size (.cells #[.string ⟨#[]⟩, .int .i64 0, .string ⟨#[]⟩, .bool false] 45)
    go_upto_region 8 with fail
    generalize w4.alloc (.cells #[.string ⟨#[]⟩, .int .i64 0, .string ⟨#[]⟩, .bool false] 45) = w5 at *
    obtain ⟨z0, z1, z2, z3, zf, zz⟩ := hz5.four
    go_wp2_with fail
    refine bodyPost_ret (v := .tuple #[En.zero.agg, .int .i64 0, .int .i64 6]) ?_ rfl ⟨rfl, (((hB5.setCell (p := ⟨w.heap.size + 1, 0, none⟩) (Nat.le_succ _) _).setCell (p := ⟨w.heap.size + 1, 1, none⟩) (Nat.le_succ _) _).setCell (p := ⟨w.heap.size + 1, 2, none⟩) (Nat.le_succ _) _).setCell (p := ⟨w.heap.size + 1, 3, none⟩) (Nat.le_succ _) _⟩
    simp [results, Tryz.results19, go_sem, z0, z1, z2, z3, En.agg, En.cells, En.zero]
  obtain ⟨kk, hkk, hL, hsome, hnone⟩ := hT2.2 x hr.symm
  subst hL
  have HSO := Lib.hid hsome
  have HNO := Lib.hid hnone
  clear hT2 hr hsome hnone
  obtain ⟨xp, xk, xt, xo⟩ := x
  simp only [Option.getD_some, Option.isSome_some, En.agg, En.cells]
  have hB5 := hB4.alloc hB4.size (.cells #[.string xp, .int .i64 xk, .string xt, .bool xo] 45)
  have hq5 := hq4.alloc (.cells #[.string xp, .int .i64 xk, .string xt, .bool xo] 45)
  have hz5 := hz4.alloc (.cells #[.string xp, .int .i64 xk, .string xt, .bool xo] 45)
  have hx5 := Blk.new w4 45 [.string xp, .int .i64 xk, .string xt, .bool xo]
  have hgx : w.heap.size + 1 < w4.heap.size := hz4.lt
  clear hB4 hq4 hz4
  go_upto_region 9 with fail
  generalize w4.alloc (.cells #[.string xp, .int .i64 xk, .string xt, .bool xo] 45) = w5 at *
  generalize w4.heap.size = gx at *
  obtain ⟨q0, q1, qf, qz⟩ := hq5.two
  go_wp2_with fail
  clear q0 q1 qf qz
  refine (refAll_any A A' c c' u w5 ((HU.out.below hB5).more hB5.size) HS.out).mono ?_
  rintro e w6 ⟨v6, rfl, ho6, hb⟩
  obtain ⟨A6, c6, rfl, hc6, hr6⟩ := ho6.rd hb.size
  have hB6 := hB5.trans (hb.mono hB5.size)
  have hz6 := hz5.below hb hz5.lt
  have hx6 := hx5.below hb hx5.lt
  clear hb hB5 hq5 hz5 hx5 ho6
  have HSM : Hid (∀ l ∈ u.all, l.length ≤ 2000000) := Lib.hid HS.out.2.2
  obtain ⟨al, hal⟩ : ∃ al, al = u.all := ⟨_, rfl⟩
  rw [← hal] at hr6 HSM hkk
  have HSO' : Hid (∀ h : kk < al.length, (Tr.get al[kk] p.data.toList).isSome = true) := Lib.hid (by subst hal; exact fun _ => HSO.out)
  have HNO' : Hid (∀ j (hj : j < al.length), j < kk → Tr.get al[j] p.data.toList = none) := Lib.hid (by subst hal; exact HNO.out)
  have hln : u.all.length = al.length := by rw [hal]
  have hal5 : al.length ≤ 2000001 := by have h1 := HS.out.2.1; rw [hal]; show (u.U :: u.L).length ≤ _; rw [List.length_cons]; omega
  rw [hln]
  clear HSO HNO hal hln
  go_wp2_with fail
  go_loopw [40] (fun i wr => ∃ k : Nat, k ≤ kk ∧ i = .int .i64 k ∧ Blk wr (w.heap.size + 1) 45 [.string ⟨#[]⟩, .int .i64 0, .string ⟨#[]⟩, .bool false] ∧ Blk wr gx 45 [.string xp, .int .i64 xk, .string xt, .bool xo] ∧ Below w6.heap.size w6 wr) (fun i _ => al.length - (intOf i).toNat)
  case atStart => exact ⟨0, Nat.zero_le _, rfl, hz6, hx6, Below.refl _ _⟩
  case round =>
    clear hz6 hx6
    obtain ⟨k, hk, rfl, hz7, hx7, hb7⟩ := hrel
    have hB7 := hB6.trans (hb7.mono hB6.size)
    have hlt2 : k < al.length := by omega
    obtain ⟨b, o, Ak, ck, rfl, hbk, hc1, hcl, hrd⟩ := (hr6.below hb7).at_ hlt2
    have hll := HSM.out _ (List.getElem_mem hlt2)
    have HN1 := Lib.hid (HNO'.out k hlt2)
    have HN2 := Lib.hid (show k = kk → (Tr.get al[k] p.data.toList).isSome = true from fun e => by subst e; exact HSO'.out hlt2)
    generalize al[k] = ly at hc1 hcl hrd hll HN1 HN2
    go_wp2_with fail
    refine (refGet_any Ak ck ly p wr (Rd.more hrd hb7.size) (by omega)).mono ?_
    rintro e w8 ⟨r, rfl, hr, hb⟩
    have hb8 := hb7.trans (hb.mono hb7.size)
    have hz8 := hz7.below hb hz7.lt
    have hx8 := hx7.below hb hx7.lt
    rw [← hr] at HN1 HN2
    clear hb hz7 hx7 hB7 hr
    by_cases hkk2 : k < kk
    · have hn := HN1.out hkk2
      subst hn
      simp only [Option.getD_none, Option.isSome_none, En.agg, En.cells, En.zero]
      go_wp2_with fail
      go_roundw
      case rel => exact ⟨k + 1, hkk2, by go_num, hz8.alloc _, hx8.alloc _, hb8.alloc hb8.size _⟩
      case measure => simp [intOf]; omega
    · have hke : k = kk := by omega
      have hs1 := HN2.out hke
      clear HN1 HN2
      generalize r.isSome = ok at *
      subst hs1 hke
      generalize r.getD En.zero = y
      obtain ⟨yp, yk, yt, yo⟩ := y
      simp only [En.agg, En.cells]
      have hB8 := hB6.trans (hb8.mono hB6.size)
      have hB9 := hB8.alloc hB8.size (.cells #[.string yp, .int .i64 yk, .string yt, .bool yo] 45)
      have hz9 := hz8.alloc (.cells #[.string yp, .int .i64 yk, .string yt, .bool yo] 45)
      have hx9 := hx8.alloc (.cells #[.string yp, .int .i64 yk, .string yt, .bool yo] 45)
      go_upto_region 14 with fail
      generalize w8.alloc (.cells #[.string yp, .int .i64 yk, .string yt, .bool yo] 45) = w9 at *
      obtain ⟨z0, z1, z2, z3, zf, zz⟩ := hz9.four
      obtain ⟨x0, x1, x2, x3, xf, xz⟩ := hx9.four
      go_wp2_with fail
      refine bodyPost_ret (v := .tuple #[En.agg ⟨xp, xk, xt, xo⟩, .int .i64 k, .int .i64 0]) ?_ rfl ⟨rfl, (((hB9.setCell (p := ⟨w.heap.size + 1, 0, none⟩) (Nat.le_succ _) _).setCell (p := ⟨w.heap.size + 1, 1, none⟩) (Nat.le_succ _) _).setCell (p := ⟨w.heap.size + 1, 2, none⟩) (Nat.le_succ _) _).setCell (p := ⟨w.heap.size + 1, 3, none⟩) (Nat.le_succ _) _⟩
      simp [results, Tryz.results19, go_sem, z0, z1, z2, z3, En.agg, En.cells]
end Go.Proofs.YtjppfhgkanbemabGreatDoor
