/-
  SysLower's own walk.
-/
import Derived.Test.YtjppfhgkanbemacGreatDoorSySamA
import Derived.Test.YtjppfhgkanbemacGreatDoorUnRow
namespace Go.Proofs.YtjppfhgkanbemacGreatDoor
open Go.RowKit Go.Shelf Go.Sort

theorem CasRd.below {w w' : World} {A : Option Addr} {l : List Ca} (h : CasRd w A l) (hb : Below w.heap.size w w') : CasRd w' A l := fun k hk => by
  obtain ⟨b, o, e, g⟩ := h k hk
  exact ⟨b, o, e, g.below hb⟩
theorem zero_sm : UnSm Un.zero := sm_of (L := []) (U := []) (fun l h => nomatch h) ⟨(fun _ h => nomatch h), by decide⟩ (by decide)
theorem UnRd.lower_ {w : World} {B : Nat} {A A' : Option Addr} {c c' : Nat} {u : Un} (h : UnRd w B A A' c c' u) : UnRd w B none A' 0 c' ⟨[], u.L⟩ := ⟨Rd.nil, Nat.le_refl _, h.low, h.nil⟩

set_option maxHeartbeats 1000000 in
set_option maxRecDepth 100000 in
theorem sysLower_any (A A' : Option Addr) (c c' : Nat) (u : Un) (Al : Option Addr) (cl : Nat) (l : List Ca) (w : World) (hu : UnRd w w.heap.size A A' c c' u) (hs : UnSm u) (hl : CasRd w Al l) (hsm : ∀ x ∈ l, CaSm x) (hn : l.length ≤ 4000000) :
    Calls Tryz.prog 4 #[.agg #[.slice A u.U.length c, .slice A' u.L.length c'], .slice Al l.length cl] w fun e w' => e = .returned (.bool true) ∧ Below w.heap.size w w' := by
  have hfd := field_faultC
  have hsl := hs.2.1
  have HSL := Lib.hid (fun l (h : l ∈ u.L) => hs.2.2 l (List.mem_cons_of_mem _ h))
  have HS := Lib.hid hs
  have HU := Lib.hid hu
  have HL := Lib.hid hl
  have HSM := Lib.hid hsm
  obtain ⟨r, hr⟩ : ∃ r, r = Sy.play u l := ⟨_, rfl⟩
  have hbad : r.2.2 ≠ 0 → r = ((Un.zero, [], 0), [], r.2.2) := by rw [hr]; exact Sy.play_bad0
  have hok : r.2.2 = 0 → Tr.Fine r.1.1 ∧ Tr.seenU r.1.1 = (r.1.2.1, 0) ∧ r.1.1.L = u.L ∧ r.1.2.1.length ≤ 80 ∧ Tr.Right false r.1.2.1 := by rw [hr]; exact Sy.play_ok2
  have HR := Lib.hid hr.symm
  have HBAD := Lib.hid hbad
  have HOK := Lib.hid hok
  clear hu hs hl hsm hbad hok hr
  obtain ⟨⟨u2, T2, n2⟩, an, e2⟩ := r
  dsimp only at HBAD HOK
  have hB0 := ((Below.refl w.heap.size w).alloc (Nat.le_refl _) (.cells #[.slice A u.U.length c, .slice A' u.L.length c'] 26))
  have hq0 := (Blk.new w 26 [.slice A u.U.length c, .slice A' u.L.length c'])
  go_enter Tryz.func4, Tryz.ntmps4
  go_upto_region 1 with fail
  generalize w.alloc (.cells #[.slice A u.U.length c, .slice A' u.L.length c'] 26) = w0 at *
  go_wp2_with fail
  refine (law6Alive_any w0).mono ?_
  rintro e w1 ⟨rfl, hb⟩
  have hB1 := hB0.trans (hb.mono hB0.size)
  have hq1 := hq0.below hb hq0.lt
  clear hb hB0 hq0
  obtain ⟨q0, q1, qf, qz⟩ := hq1.two
  have cP := play_any A A' Al c c' cl u l w1 ((HU.out.below hB1).more hB1.size) HS.out (HL.out.below hB1) HSM.out hn
  rw [HR.out] at cP
  unfold PlayRel at cP
  dsimp only at cP
  have HC := Lib.hid cP
  clear cP HR HL HSM
  go_wp2_with fail
  clear q0 q1 qf qz
  refine HC.out.mono ?_
  rintro e w2 ⟨A2, A2', c2, c2', AT, cT, v, rfl, hU2, hT2, hcT, -, hb⟩
  have hB2 := hB1.trans (hb.mono hB1.size)
  have hq2 := hq1.below hb hq1.lt
  clear hb hB1 hq1 HC
  have hb3 := (Below.refl w2.heap.size w2).alloc (Nat.le_refl _) (.cells #[.slice A2 u2.U.length c2, .slice A2' u2.L.length c2', .slice AT T2.length cT, .int .i64 n2] 33)
  have hB3 := hB2.trans (hb3.mono hB2.size)
  have hq3 := hq2.below hb3 hq2.lt
  have hU3 := (hU2.below hb3).more hb3.size
  have hT3 := (Rd.below hT2 hb3).more hb3.size
  have hs3 := Blk.new w2 33 [.slice A2 u2.U.length c2, .slice A2' u2.L.length c2', .slice AT T2.length cT, .int .i64 n2]
  clear hb3 hB2 hq2 hU2 hT2
  go_upto_region 4 with fail
  change Code.wp _ _ _ _ (w2.alloc (.cells #[.slice A2 u2.U.length c2, .slice A2' u2.L.length c2', .slice AT T2.length cT, .int .i64 n2] 33))
  generalize w2.alloc (.cells #[.slice A2 u2.U.length c2, .slice A2' u2.L.length c2', .slice AT T2.length cT, .int .i64 n2] 33) = w3 at *
  generalize w2.heap.size = gs at *
  rcases te : (e2 != 0) with _ | _
  rotate_left
  · have h0 := HBAD.out (by simpa using te)
    simp only [Prod.mk.injEq] at h0
    obtain ⟨⟨rfl, rfl, rfl⟩, -, -⟩ := h0
    obtain ⟨s0, s1, s2, s3, sf, sz⟩ := hs3.four
    clear hq3
    go_wp2_with fail
    refine (sameShown_any Un.zero [] 0 A2 A2' none none AT none c2 c2' 0 0 cT 0 w3 hU3 ⟨Rd.nil, Nat.le_refl _, TsRd.nil _ _ _, fun _ => rfl⟩ hT3 Rd.nil zero_sm (by decide)).mono ?_
    rintro e w4 ⟨rfl, hb⟩
    go_wp2_with fail
    go_ret
    exact ⟨rfl, hB3.trans (hb.mono hB3.size)⟩
  · obtain ⟨hf, hseen, hlow, hlen, hR⟩ := HOK.out (by simpa using te)
    have HF := Lib.hid hf
    have HRT := Lib.hid hR
    have HLOW := Lib.hid hlow
    clear hlow
    have cS := seenU_any A2 A2' c2 c2' u2 w3 hU3 (unSm_fine hf)
    unfold SeenRel at cS
    rw [hseen] at cS
    dsimp only at cS
    have HCS := Lib.hid cS
    clear cS hf hR hseen HBAD HOK
    obtain ⟨s0, s1, s2, s3, sf, sz⟩ := hs3.four
    go_wp2_with fail
    clear s0 s1 s2 s3 sf sz
    refine HCS.out.mono ?_
    rintro e w4 ⟨v4, rfl, ho4, hb⟩
    have hB4 := hB3.trans (hb.mono hB3.size)
    have hq4 := hq3.below hb hq3.lt
    have hs4 := hs3.below hb hs3.lt
    have hT4 := (Rd.below hT3 hb).more hb.size
    have hU4 := (hU3.below hb).more hb.size
    obtain ⟨A4, c4, rfl, hc4, hr4⟩ := EnOwn.rd ho4
    clear HCS ho4 hb hB3 hq3 hs3 hT3 hU3
    obtain ⟨s0, s1, s2, s3, sf, sz⟩ := hs4.four
    go_wp2_with fail
    clear s0 s1 s2 s3 sf sz
    refine (same_any A4 AT c4 cT T2 T2 w4 hr4 hT4 (by omega) rfl).mono ?_
    rintro e w5 ⟨rfl, hb⟩
    have hB5 := hB4.trans (hb.mono hB4.size)
    have hq5 := hq4.below hb hq4.lt
    have hs5 := hs4.below hb hs4.lt
    have hr5 := (Rd.below hr4 hb).more hb.size
    have hU5 := (hU4.below hb).more hb.size
    clear hb hB4 hq4 hs4 hr4 hU4 hT4
    go_wp2_with fail
    have cW := wrongT_any A4 c4 T2 w5 hr5 hc4 (Tr.right_sm HRT.out) (by omega)
    have hw0 : (Tr.wrong T2 false).1 = 0 := (Tr.wrong_zero _ _).2 ⟨hlen, HRT.out⟩
    rw [hw0] at cW
    refine cW.mono ?_
    rintro e w6 ⟨rfl, hb⟩
    have hB6 := hB5.trans (hb.mono hB5.size)
    have hq6 := hq5.below hb hq5.lt
    have hs6 := hs5.below hb hs5.lt
    have hU6 := ((hU5.below hb).more hb.size).lower_
    clear cW hb hB5 hq5 hs5 hr5 hU5
    rw [HLOW.out] at hU6 hs6
    clear hw0
    obtain ⟨q0, q1, qf, qz⟩ := hq6.two
    obtain ⟨s0, s1, s2, s3, sf, sz⟩ := hs6.four
    go_wp2_with fail
    clear s0 s1 s2 s3 sf sz q0 q1 qf qz
    refine (sameUnion_any none A2' none A' 0 c2' 0 c' ⟨[], u.L⟩ w6 hU6 ((HU.out.below hB6).more hB6.size).lower_ (Nat.zero_le _) hsl HSL.out).mono ?_
    rintro e w7 ⟨rfl, hb⟩
    go_wp2_with fail
    go_ret
    exact ⟨rfl, hB6.trans (hb.mono hB6.size)⟩
end Go.Proofs.YtjppfhgkanbemacGreatDoor
