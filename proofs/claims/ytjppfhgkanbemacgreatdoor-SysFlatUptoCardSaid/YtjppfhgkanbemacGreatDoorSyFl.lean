/-
  tracelaw6.full; SysFlat's own walk. (Printed by wip/gensyfl.py.)
-/
import Derived.Test.YtjppfhgkanbemacGreatDoorSyLow
namespace Go.Proofs.YtjppfhgkanbemacGreatDoor
open Go.RowKit Go.Shelf Go.Sort

theorem AnsRd.below {w w' : World} {v : Value} {l : List An} (h : AnsRd w v l) (hb : Below w.heap.size w w') : AnsRd w' v l := by
  obtain ⟨A, c, vs, hv, h1, h2, h3⟩ := h
  exact ⟨A, c, vs, hv, h1, (Rd.below h2 hb).more hb.size, fun k hk => by
    obtain ⟨Ak, ck, e1, e2⟩ := h3 k hk
    exact ⟨Ak, ck, e1, (Rd.below e2 hb).more hb.size⟩⟩
theorem full_no {l : List An} (h : ∀ j, (hj : j < l.length) → l[j].err ≠ 5) : Sy.full l = false := by
  unfold Sy.full
  rw [List.any_eq_false]
  intro a ha
  obtain ⟨j, hj, rfl⟩ := List.getElem_of_mem ha
  simpa using h j hj
theorem full_yes {l : List An} {j : Nat} (hj : j < l.length) (h : l[j].err = 5) : Sy.full l = true := by
  unfold Sy.full
  rw [List.any_eq_true]
  exact ⟨l[j], List.getElem_mem hj, by simp [h]⟩
set_option maxRecDepth 100000 in
theorem full_any (v : Value) (l : List An) (w : World) (h : AnsRd w v l) (hn : l.length ≤ 4000000) : Calls Tryz.prog 16 #[v] w fun e w' => e = .returned (.bool (Sy.full l)) ∧ Below w.heap.size w w' := by
  obtain ⟨A, c, rfl, hat⟩ := h.at_
  have HAT := Lib.hid hat
  clear hat h
  go_enter Tryz.func16, Tryz.ntmps16
  go_wp2_with fail
  go_loopw [7] (fun i wr => ∃ k : Nat, k ≤ l.length ∧ i = .int .i64 k ∧ Hid (∀ j, (hj : j < l.length) → j < k → l[j].err ≠ 5) ∧ Below w.heap.size w wr) (fun i _ => l.length - (intOf i).toNat)
  case atStart => exact ⟨0, Nat.zero_le _, rfl, Lib.hid (fun j _ hj => absurd hj (Nat.not_lt_zero _)), Below.refl _ _⟩
  case round =>
    obtain ⟨k, hk, rfl, HNO, hB⟩ := hrel
    by_cases hlt : k < l.length
    · obtain ⟨b, o, Ak, ck, rfl, hbz, p0, p1, p2, p3, -⟩ := HAT.out k hlt
      have hy := full_yes hlt
      have hno := HNO.out
      have hx : ∀ j, (hj : j < l.length) → j < k + 1 → l[k].err ≠ 5 → l[j].err ≠ 5 := fun j hj h1 h2 => by
        by_cases e : j < k
        · exact hno j hj e
        · obtain rfl : j = k := by omega
          exact h2
      have HX := Lib.hid hx
      have HY := Lib.hid hy
      clear hno hx hy HNO
      generalize l[k] = x at p0 p1 p2 p3 HX HY
      replace p0 : wr.cell? ⟨b, o + k * 4, none⟩ = _ := (hB.cell (p := ⟨b, o + k * 4, none⟩) hbz).trans p0
      replace p1 : wr.cell? ⟨b, o + k * 4 + 1, none⟩ = _ := (hB.cell (p := ⟨b, o + k * 4 + 1, none⟩) hbz).trans p1
      replace p2 : wr.cell? ⟨b, o + k * 4 + 2, none⟩ = _ := (hB.cell (p := ⟨b, o + k * 4 + 2, none⟩) hbz).trans p2
      replace p3 : wr.cell? ⟨b, o + k * 4 + 3, none⟩ = _ := (hB.cell (p := ⟨b, o + k * 4 + 3, none⟩) hbz).trans p3
      have hb1 := hB.alloc hB.size (.cells #[.int .i64 x.err, .int .i64 x.n, .string x.text, .slice Ak x.names.length ck] 41)
      rcases t5 : (x.err == 5) with _ | _
      · have h5 : x.err ≠ 5 := by simpa using t5
        go_wp2_with fail
        go_roundw
        case rel => exact ⟨k + 1, hlt, by go_num, Lib.hid (fun j hj h1 => HX.out j hj h1 h5), hb1⟩
        case measure => simp [intOf]; omega
      · have h5 := HY.out (by simpa using t5)
        go_wp2_with fail
        go_ret
        exact ⟨congrArg (fun b => Ending.returned (.bool b)) h5.symm, hb1⟩
    · obtain rfl : k = l.length := by omega
      have h5 := full_no fun j hj => HNO.out j hj hj
      go_wp2_with fail
      go_ret
      exact ⟨congrArg (fun b => Ending.returned (.bool b)) h5.symm, hB⟩

set_option maxHeartbeats 1000000 in
set_option maxRecDepth 100000 in
theorem sysFlat_any (A A' : Option Addr) (c c' : Nat) (u : Un) (Al : Option Addr) (cl : Nat) (l : List Ca) (w : World) (hu : UnRd w w.heap.size A A' c c' u) (hs : UnSm u) (hl : CasRd w Al l) (hsm : ∀ x ∈ l, CaSm x) (hn : l.length ≤ 4000000) :
    Calls Tryz.prog 3 #[.agg #[.slice A u.U.length c, .slice A' u.L.length c'], .slice Al l.length cl] w fun e w' => e = .returned (.bool true) ∧ Below w.heap.size w w' := by
  have HS := Lib.hid hs
  have HU := Lib.hid hu
  have HL := Lib.hid hl
  have HSM := Lib.hid hsm
  have hse := Tr.seenU_err u
  have hb0 := ((Below.refl w.heap.size w).alloc (Nat.le_refl _) (.cells #[.slice A u.U.length c, .slice A' u.L.length c'] 26))
  have hq0 := (Blk.new w 26 [.slice A u.U.length c, .slice A' u.L.length c'])
  clear hu hs hl hsm
  have hfl := fun h => Sy.play_flat (u := u) h l
  have hst := fun h => Sy.start_sim (u := u) ((Tr.fine_iff u).1 h)
  have hnames : ∀ a ∈ (Sy.play u l).2.1, a.names.length ≤ 80 := Sy.play_names
  have hlens : (Sy.play u l).2.1.length ≤ 4000000 ∧ ((Sy.play u l).2.2 = 0 → (Sy.play u l).1.2.1.length ≤ 80) ∧ ((Sy.play u l).2.2 ≠ 0 → (Sy.play u l).1.2.1.length ≤ 80) := by
    refine ⟨?_, fun h => (Sy.play_ok2 h).2.2.2.1, fun h => ?_⟩
    · by_cases h : (Sy.play u l).2.2 = 0
      · rw [(Sy.play_len h).1]; exact hn
      · rw [Sy.play_bad0 h]; exact Nat.zero_le _
    · rw [Sy.play_bad0 h]; exact Nat.zero_le _
  obtain ⟨S, hS⟩ : ∃ S, S = Tr.seenU u := ⟨_, rfl⟩
  rw [← hS] at hse hfl hst
  have HSE := Lib.hid hS.symm
  obtain ⟨Ts, es⟩ := S
  dsimp only at hse hfl hst
  rw [← hse] at hfl hst
  clear hse hS
  obtain ⟨r, hr⟩ : ∃ r, r = Sy.play u l := ⟨_, rfl⟩
  obtain ⟨q, hq⟩ : ∃ q, q = Sy.play ⟨Ts, []⟩ l := ⟨_, rfl⟩
  rw [← hr] at hfl hnames hlens
  rw [← hq] at hfl
  have HR := Lib.hid hr.symm
  have HQ := Lib.hid hq.symm
  have HFL := Lib.hid hfl
  have HST := Lib.hid hst
  have HNM := Lib.hid hnames
  have HLN := Lib.hid hlens
  clear hr hq hfl hst hnames hlens
  obtain ⟨⟨u2, T2, n2⟩, an, e2⟩ := r
  obtain ⟨⟨u3, T3, n3⟩, bn, e3⟩ := q
  dsimp only at HFL HNM HLN
  go_enter Tryz.func3, Tryz.ntmps3
  go_upto_region 1 with fail
  generalize w.alloc (.cells #[.slice A u.U.length c, .slice A' u.L.length c'] 26) = w0 at *
  go_wp2_with fail
  refine (law6Alive_any w0).mono ?_
  rintro e w1 ⟨rfl, hb⟩
  have hB1 := hb0.trans (hb.mono hb0.size)
  have hq1 := hq0.below hb hq0.lt
  clear hb hb0 hq0
  have cS := seenU_any A A' c c' u w1 ((HU.out.below hB1).more hB1.size) HS.out
  unfold SeenRel at cS
  rw [HSE.out] at cS
  dsimp only at cS
  have HCS := Lib.hid cS
  clear cS HSE
  obtain ⟨q0, q1, qf, qz⟩ := hq1.two
  go_wp2_with fail
  clear q0 q1 qf qz
  refine HCS.out.mono ?_
  rintro e w2 ⟨v2, rfl, ho2, hb⟩
  have hB2 := hB1.trans (hb.mono hB1.size)
  have hq2 := hq1.below hb hq1.lt
  obtain ⟨A4, c4, rfl, hc4, hr4⟩ := EnOwn.rd ho2
  clear hb hB1 hq1 HCS ho2
  rcases te : (es != 0) with _ | _
  rotate_left
  · clear hq2 hr4
    go_wp2_with fail
    go_ret
    exact ⟨rfl, hB2⟩
  have hes : es = 0 := by simpa using te
  have hflat := HFL.out hes
  have hsim := HST.out hes
  have HSM3 := Lib.hid (unSm_fine hsim.2.1.1)
  clear HFL HST hsim
  obtain ⟨rfl, hln, hff⟩ := hflat
  have HFF := Lib.hid hff
  clear hff
  obtain ⟨q0, q1, qf, qz⟩ := hq2.two
  have cP := play_any A A' Al c c' cl u l w2 ((HU.out.below hB2).more hB2.size) HS.out (HL.out.below hB2) HSM.out hn
  rw [HR.out] at cP
  unfold PlayRel at cP
  dsimp only at cP
  have HC := Lib.hid cP
  clear cP HR
  have tes := te
  go_wp2_with fail
  clear q0 q1 qf qz
  refine HC.out.mono ?_
  rintro e w3 ⟨A2, A2', c2, c2', AT2, cT2, va, rfl, -, hT2, -, hO2, hb⟩
  have hB3 := hB2.trans (hb.mono hB2.size)
  have hr5 := (Rd.below hr4 hb).more hb.size
  clear hb hB2 hq2 hr4 HC
  have hb4 := (Below.refl w3.heap.size w3).alloc (Nat.le_refl _) (.cells #[.slice A2 u2.U.length c2, .slice A2' u2.L.length c2', .slice AT2 T2.length cT2, .int .i64 n2] 33)
  have hB4 := hB3.trans (hb4.mono hB3.size)
  have hr6 := (Rd.below hr5 hb4).more hb4.size
  have hT4 := (Rd.below hT2 hb4).more hb4.size
  have hO4 := hO2.below hb4
  have hs4 := Blk.new w3 33 [.slice A2 u2.U.length c2, .slice A2' u2.L.length c2', .slice AT2 T2.length cT2, .int .i64 n2]
  clear hb4 hB3 hr5 hT2 hO2
  go_upto_region 7 with fail
  change Code.wp _ _ _ _ (w3.alloc (.cells #[.slice A2 u2.U.length c2, .slice A2' u2.L.length c2', .slice AT2 T2.length cT2, .int .i64 n2] 33))
  generalize w3.alloc (.cells #[.slice A2 u2.U.length c2, .slice A2' u2.L.length c2', .slice AT2 T2.length cT2, .int .i64 n2] 33) = w4 at *
  generalize w3.heap.size = gs at *
  have hU4 : UnRd w4 w4.heap.size A4 none c4 0 ⟨Ts, []⟩ := ⟨hr6, hc4, TsRd.nil _ _ _, fun _ => rfl⟩
  have cP := play_any A4 none Al c4 0 cl ⟨Ts, []⟩ l w4 hU4 HSM3.out (HL.out.below hB4) HSM.out hn
  rw [HQ.out] at cP
  unfold PlayRel at cP
  dsimp only at cP
  have HC := Lib.hid cP
  clear cP HQ hU4 hr6
  go_wp2_with fail
  refine HC.out.mono ?_
  rintro e w5 ⟨A3, A3', c3, c3', AT3, cT3, vb, rfl, -, hT3, -, hO3, hb⟩
  have hB5 := hB4.trans (hb.mono hB4.size)
  have hs5 := hs4.below hb hs4.lt
  have hT5 := (Rd.below hT4 hb).more hb.size
  have hO5 := hO4.below hb
  clear hb hB4 hs4 hT4 hO4 HC
  have hb6 := (Below.refl w5.heap.size w5).alloc (Nat.le_refl _) (.cells #[.slice A3 u3.U.length c3, .slice A3' u3.L.length c3', .slice AT3 T3.length cT3, .int .i64 n3] 33)
  have hB6 := hB5.trans (hb6.mono hB5.size)
  have hs6 := hs5.below hb6 hs5.lt
  have hT6 := (Rd.below hT5 hb6).more hb6.size
  have hO6 := hO5.below hb6
  have hY6 := (Rd.below hT3 hb6).more hb6.size
  have hO3 := hO3.below hb6
  have hx6 := Blk.new w5 33 [.slice A3 u3.U.length c3, .slice A3' u3.L.length c3', .slice AT3 T3.length cT3, .int .i64 n3]
  clear hb6 hB5 hs5 hT5 hO5 hT3
  go_upto_region 8 with fail
  change Code.wp _ _ _ _ (w5.alloc (.cells #[.slice A3 u3.U.length c3, .slice A3' u3.L.length c3', .slice AT3 T3.length cT3, .int .i64 n3] 33))
  generalize w5.alloc (.cells #[.slice A3 u3.U.length c3, .slice A3' u3.L.length c3', .slice AT3 T3.length cT3, .int .i64 n3] 33) = w6 at *
  generalize w5.heap.size = gx at *
  have hO6' := hO6
  have hO3' := hO3
  obtain ⟨Aa, ca, hva, -⟩ := hO6.at_
  obtain ⟨Ab, cb, hvb, -⟩ := hO3.at_
  obtain ⟨m, hm⟩ : ∃ m, m = an.length := ⟨_, rfl⟩
  rw [← hm] at hva
  rw [← hln, ← hm] at hvb
  have hmn : m ≤ 4000000 := by have := HLN.out.1; omega
  have cf1 := fun W h => full_any va an W h (by omega)
  have cf2 := fun W h => full_any vb bn W h (by omega)
  obtain ⟨f1, hf1⟩ : ∃ f1, f1 = Sy.full an := ⟨_, rfl⟩
  obtain ⟨f2, hf2⟩ : ∃ f2, f2 = Sy.full bn := ⟨_, rfl⟩
  rw [← hf1, ← hf2] at HFF
  rw [← hf1] at cf1
  rw [← hf2] at cf2
  subst hva hvb
  clear hO6 hO3
  have HM := Lib.hid hm
  have HLEN := Lib.hid hln
  clear hm hln hf1 hf2
  have tne : (e2 != e2) = false := by simp
  go_wp2_with fail
  refine (cf1 w6 hO6').mono ?_
  rintro e w7 ⟨rfl, hb⟩
  have hB7 := hB6.trans (hb.mono hB6.size)
  have hs7 := hs6.below hb hs6.lt
  have hx7 := hx6.below hb hx6.lt
  have hT7 := (Rd.below hT6 hb).more hb.size
  have hX7 := (Rd.below hY6 hb).more hb.size
  have hO7 := hO6'.below hb
  have hP7 := hO3'.below hb
  clear hb hB6 hs6 hx6 hT6 hY6 hO6' hO3' cf1
  rcases f1 with _ | _
  rotate_left
  · go_wp2_with fail
    go_ret
    exact ⟨rfl, hB7⟩
  go_wp2_with fail
  refine (cf2 w7 hP7).mono ?_
  rintro e w8 ⟨rfl, hb⟩
  have hB8 := hB7.trans (hb.mono hB7.size)
  have hs8 := hs7.below hb hs7.lt
  have hx8 := hx7.below hb hx7.lt
  have hT8 := (Rd.below hT7 hb).more hb.size
  have hX8 := (Rd.below hX7 hb).more hb.size
  have hO8 := hO7.below hb
  have hP8 := hP7.below hb
  clear hb hB7 hs7 hx7 hT7 hX7 hO7 hP7 cf2
  rcases f2 with _ | _
  rotate_left
  · go_wp2_with fail
    go_ret
    exact ⟨rfl, hB8⟩
  have hsame : an = bn ∧ (T2, n2) = (T3, n3) := by
    rcases HFF.out with h | h | h
    · cases h
    · cases h
    · exact h
  obtain ⟨rfl, hsame⟩ := hsame
  simp only [Prod.mk.injEq] at hsame
  obtain ⟨rfl, rfl⟩ := hsame
  have hTl : T2.length ≤ 80 := by
    by_cases h : e2 = 0
    · exact HLN.out.2.1 h
    · exact HLN.out.2.2 h
  obtain ⟨Aa', ca', hva, hata⟩ := hO8.at_
  obtain ⟨Ab', cb', hvb, hatb⟩ := hP8.at_
  injection hva with hva1 hva2 hva3
  injection hvb with hvb1 hvb2 hvb3
  subst hva1 hva3 hvb1 hvb3
  have HATA := Lib.hid hata
  have HATB := Lib.hid hatb
  clear hata hatb hO8 hP8 HFF HLN hva2 hvb2
  have hmm : m ≤ an.length := Nat.le_of_eq HM.out
  have HNM' := HNM
  go_wp2_with fail
  go_loopw [55] (fun i wr => ∃ k : Nat, k ≤ m ∧ i = .int .i64 k ∧ Below w8.heap.size w8 wr) (fun i _ => m - (intOf i).toNat)
  case atStart => exact ⟨0, Nat.zero_le _, rfl, Below.refl _ _⟩
  case round =>
    obtain ⟨k, hk, rfl, hB⟩ := hrel
    by_cases hlt : k < m
    · have hkl : k < an.length := by omega
      obtain ⟨b, o, Ak, ck, rfl, hbz, p0, p1, p2, p3, pn⟩ := HATA.out k hkl
      obtain ⟨b', o', Bk, dk, rfl, hbz', r0, r1, r2, r3, rn⟩ := HATB.out k hkl
      have hnn := HNM.out an[k] (List.getElem_mem hkl)
      generalize an[k] = x at p0 p1 p2 p3 pn r0 r1 r2 r3 rn hnn
      have hbr : b < wr.heap.size := Nat.lt_of_lt_of_le hbz hB.size
      have hbr' : b' < wr.heap.size := Nat.lt_of_lt_of_le hbz' hB.size
      replace p0 : wr.cell? ⟨b, o + k * 4, none⟩ = _ := (hB.cell (p := ⟨b, o + k * 4, none⟩) hbz).trans p0
      replace p1 : wr.cell? ⟨b, o + k * 4 + 1, none⟩ = _ := (hB.cell (p := ⟨b, o + k * 4 + 1, none⟩) hbz).trans p1
      replace p2 : wr.cell? ⟨b, o + k * 4 + 2, none⟩ = _ := (hB.cell (p := ⟨b, o + k * 4 + 2, none⟩) hbz).trans p2
      replace p3 : wr.cell? ⟨b, o + k * 4 + 3, none⟩ = _ := (hB.cell (p := ⟨b, o + k * 4 + 3, none⟩) hbz).trans p3
      replace r0 : wr.cell? ⟨b', o' + k * 4, none⟩ = _ := (hB.cell (p := ⟨b', o' + k * 4, none⟩) hbz').trans r0
      replace r1 : wr.cell? ⟨b', o' + k * 4 + 1, none⟩ = _ := (hB.cell (p := ⟨b', o' + k * 4 + 1, none⟩) hbz').trans r1
      replace r2 : wr.cell? ⟨b', o' + k * 4 + 2, none⟩ = _ := (hB.cell (p := ⟨b', o' + k * 4 + 2, none⟩) hbz').trans r2
      replace r3 : wr.cell? ⟨b', o' + k * 4 + 3, none⟩ = _ := (hB.cell (p := ⟨b', o' + k * 4 + 3, none⟩) hbz').trans r3
      have pn := (Rd.below pn hB).more hB.size
      have rn := (Rd.below rn hB).more hB.size
      go_wp2_with fail
      go_region_held3 (fun W => W.cell? ⟨b, o + k * 4, none⟩ = some (.int .i64 x.err) ∧ W.cell? ⟨b, o + k * 4 + 1, none⟩ = some (.int .i64 x.n) ∧ W.cell? ⟨b, o + k * 4 + 2, none⟩ = some (.string x.text) ∧ W.cell? ⟨b, o + k * 4 + 3, none⟩ = some (.slice Ak x.names.length ck) ∧ W.cell? ⟨b', o' + k * 4, none⟩ = some (.int .i64 x.err) ∧ W.cell? ⟨b', o' + k * 4 + 1, none⟩ = some (.int .i64 x.n) ∧ W.cell? ⟨b', o' + k * 4 + 2, none⟩ = some (.string x.text) ∧ W.cell? ⟨b', o' + k * 4 + 3, none⟩ = some (.slice Bk x.names.length dk))
        (first | exact ⟨p0, p1, p2, p3, r0, r1, r2, r3⟩ | exact hS6 | go_keep)
        (first | (go_at_call 17; refine (sameAnswer_any x Ak Bk ck dk _ (by exact pn) (by exact rn) (by omega)).mono ?_; rintro e w6 ⟨rfl, hb6⟩; have hS6 : w6.cell? ⟨b, o + k * 4, none⟩ = some (.int .i64 x.err) ∧ w6.cell? ⟨b, o + k * 4 + 1, none⟩ = some (.int .i64 x.n) ∧ w6.cell? ⟨b, o + k * 4 + 2, none⟩ = some (.string x.text) ∧ w6.cell? ⟨b, o + k * 4 + 3, none⟩ = some (.slice Ak x.names.length ck) ∧ w6.cell? ⟨b', o' + k * 4, none⟩ = some (.int .i64 x.err) ∧ w6.cell? ⟨b', o' + k * 4 + 1, none⟩ = some (.int .i64 x.n) ∧ w6.cell? ⟨b', o' + k * 4 + 2, none⟩ = some (.string x.text) ∧ w6.cell? ⟨b', o' + k * 4 + 3, none⟩ = some (.slice Bk x.names.length dk) := ⟨(hb6.cell (p := ⟨b, o + k * 4, none⟩) (by exact hbr)).trans p0, (hb6.cell (p := ⟨b, o + k * 4 + 1, none⟩) (by exact hbr)).trans p1, (hb6.cell (p := ⟨b, o + k * 4 + 2, none⟩) (by exact hbr)).trans p2, (hb6.cell (p := ⟨b, o + k * 4 + 3, none⟩) (by exact hbr)).trans p3, (hb6.cell (p := ⟨b', o' + k * 4, none⟩) (by exact hbr')).trans r0, (hb6.cell (p := ⟨b', o' + k * 4 + 1, none⟩) (by exact hbr')).trans r1, (hb6.cell (p := ⟨b', o' + k * 4 + 2, none⟩) (by exact hbr')).trans r2, (hb6.cell (p := ⟨b', o' + k * 4 + 3, none⟩) (by exact hbr')).trans r3⟩))
      all_goals
        have hb' : Below wr.heap.size wr w6 := ((Below.refl _ wr).drew).trans hb6
        clear p0 p1 p2 p3 r0 r1 r2 r3 pn rn
        go_wp2_with fail
        go_roundw
        case rel => exact ⟨k + 1, hlt, by go_num, hB.trans (hb'.mono hB.size)⟩
        case measure => simp [intOf]; omega
    · obtain rfl : k = m := by omega
      have hB9 := hB8.trans (hB.mono hB8.size)
      have hs9 := hs8.below hB hs8.lt
      have hx9 := hx8.below hB hx8.lt
      have hT9 := (Rd.below hT8 hB).more hB.size
      have hX9 := (Rd.below hX8 hB).more hB.size
      clear hs8 hx8 hT8 hX8 HATA HATB
      obtain ⟨s0, s1, s2, s3, sf, sz⟩ := hs9.four
      obtain ⟨x0, x1, x2, x3, xf, xz⟩ := hx9.four
      go_wp2_with fail
      clear s0 s1 s2 s3 sf sz x0 x1 x2 x3 xf xz
      refine (same_any AT2 AT3 cT2 cT3 T2 T2 wr hT9 hX9 (by omega) rfl).mono ?_
      rintro e w10 ⟨rfl, hb⟩
      have hs10 := hs9.below hb hs9.lt
      have hx10 := hx9.below hb hx9.lt
      obtain ⟨s0, s1, s2, s3, sf, sz⟩ := hs10.four
      obtain ⟨x0, x1, x2, x3, xf, xz⟩ := hx10.four
      go_wp2_with fail
      go_ret
      exact ⟨rfl, hB9.trans (hb.mono hB9.size)⟩
end Go.Proofs.YtjppfhgkanbemacGreatDoor
