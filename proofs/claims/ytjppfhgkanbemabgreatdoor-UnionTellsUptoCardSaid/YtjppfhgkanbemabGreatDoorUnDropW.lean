/-
  (*change).drop. (Printed by wip/genundrop.py.)
-/
import Derived.Test.YtjppfhgkanbemabGreatDoorUnSetW
import Derived.Test.YtjppfhgkanbemabGreatDoorUnDel
namespace Go.Proofs.YtjppfhgkanbemabGreatDoor
open Go.RowKit Go.Shelf Go.Sort

/-- DeleteFunc at a row of the call's own, nil or not. -/
theorem deleteG_any (base gb : Nat) (vU : Value) (l : List En) (s : ByteArray) (w : World) (ho : EnOwn w base vU l) (hbig : l.length ≤ 2000000) (hx : w.cell? ⟨gb, 0, none⟩ = some (.string s)) (hgb : gb < w.heap.size) (hne : some gb ≠ vU.ownBlock) (HZ : s.size < 4294967281) :
    Calls Tryz.prog 89 #[vU, .func (.func 90) #[] #[.pointer (some ⟨gb, 0, none⟩)]] w fun e w' => ∃ v, e = .returned v ∧ EnOwn w' base v (Tr.outside l s.data.toList) ∧ w.grownBy w' vU.ownBlock ∧ (∀ k, v.ownBlock = some k → vU.ownBlock = some k) := by
  rcases own_shape ho with ⟨hv, h0⟩ | ⟨g, cap, hv, hbg, hgz, hcap⟩
  · subst hv
    have e : l = [] := List.length_eq_zero_iff.1 h0
    subst e
    refine (deleteD_nil gb s w hx hgb HZ).mono ?_
    rintro e w' ⟨rfl, hb⟩
    exact ⟨_, rfl, EnOwn.nil _ _, grown_of_below (World.grownBy.refl w none) hb, fun k h => h⟩
  · subst hv
    refine (deleteD_any base g cap gb l s w ho hbig hx hgb (fun h => hne (by rw [h]; rfl)) HZ).mono ?_
    rintro e w' ⟨v, rfl, h1, h2, h3⟩
    exact ⟨v, rfl, by rw [← gone_filter]; exact h1, h2, fun k h => by rw [h3] at h; exact h⟩
theorem white_is (s : ByteArray) : Tr.whiteEn s.data.toList = ⟨s, 4, ⟨#[]⟩, false⟩ := by
  unfold Tr.whiteEn; congr 1

set_option maxHeartbeats 4000000 in
set_option maxRecDepth 100000 in
theorem drop_any (gc base : Nat) (vU vB x2 x3 : Value) (U B : List En) (s : ByteArray) (w : World) (hc : Blk w gc 90 [vU, vB, x2, x3]) (ho : EnOwn w base vU U) (hk : Kp w base gc vB B) (hgb : gc < base) (hbw : base ≤ w.heap.size)
    (hsrt : Tr.Srt U) (hnem : ∀ x ∈ U, x.P ≠ []) (hsm : Sm U) (hsB : Tr.Srt B) (hmB : Sm B) (hlB : B.length ≤ 1000000) (hs0 : s.data.toList ≠ []) (hsz : s.size < 4294967281) (hlen : U.length + s.size ≤ 900000) :
    Calls Tryz.prog 52 #[.pointer (some ⟨gc, 0, none⟩), .string s] w (SetRel gc base vB x2 x3 vU (Tr.dropE B U s.data.toList) w) := by
  have HSR := Lib.hid (show Tr.Srt (Tr.outside U s.data.toList) from Tr.srt_filter hsrt _)
  have HNE := Lib.hid (show ∀ x ∈ Tr.outside U s.data.toList, x.P ≠ [] from fun x hx => hnem x (List.mem_filter.1 hx).1)
  have HSM := Lib.hid (show Sm (Tr.outside U s.data.toList) from fun x hx => hsm x (List.mem_filter.1 hx).1)
  have HOL := outside_le U s.data.toList
  have HB := Lib.hid (And.intro hsB hmB)
  have HS0 := Lib.hid hs0
  clear hsrt hnem hsm hsB hmB hs0
  unfold SetRel
  obtain ⟨res, hres⟩ : ∃ res, res = Tr.dropE B U s.data.toList := ⟨_, rfl⟩
  rw [← hres]
  unfold Tr.dropE at hres
  rw [white_is] at hres
  obtain ⟨U2, hU2⟩ : ∃ U2, U2 = Tr.outside U s.data.toList := ⟨_, rfl⟩
  have cD := fun W gb v h1 h2 h3 h4 h5 => deleteG_any base gb v U s W h1 h2 h3 h4 h5 hsz
  rw [← hU2] at HSR HNE HSM HOL hres
  simp only [← hU2] at cD
  clear hU2
  have HR := Lib.hid hres
  clear hres
  have hp1 := Blk.new w 9 [.string s]
  have hc1 := hc.alloc (.cells #[.string s] 9)
  have ho1 : EnOwn _ base vU U := own_alloc ho (.cells #[.string s] 9)
  have hg1 := GrX.of (g := gc) (row := vU.ownBlock) ((Below.refl w.heap.size w).alloc (Nat.le_refl _) (.cells #[.string s] 9)) (Nat.le_refl _)
  have hk1 := hk.keep (hg1.belowX hbw (own_lt ho))
  have hne : some w.heap.size ≠ vU.ownBlock := own_ne ho (.inr (Nat.le_refl _))
  have hvb := own_lt ho
  have hgw : w.heap.size ≠ gc := by omega
  have hs1 : base ≤ (w.alloc (.cells #[.string s] 9)).heap.size := by rw [World.size_alloc]; omega
  clear hc ho hk
  obtain ⟨rU, hrU⟩ : ∃ rU, rU = vU.ownBlock := ⟨_, rfl⟩
  rw [← hrU] at hg1 hne hvb ⊢
  obtain ⟨A, cU, hvU, hcU, hrd⟩ := EnOwn.rd ho1
  subst hvU
  obtain ⟨k0, k1, k2, k3, kf, kz⟩ := hc1.four
  go_enter Tryz.func52, Tryz.ntmps52
  go_wp2_with fail
  clear k0 k1 k2 k3 kf kz hrd
  generalize w.alloc (.cells #[.string s] 9) = w1 at *
  refine (cD w1 w.heap.size _ ho1 (by omega) (hp1.cell 0) hp1.lt (by rw [← hrU]; exact hne)).mono ?_
  rintro e w2 ⟨v2, rfl, ho2, hg2, hat⟩
  rw [← hrU] at hg2 hat
  have hc2 := hc1.grown hg2 (by rw [hrU]; exact own_ne ho1 (.inl hgb))
  have hp2 := hp1.grown hg2 hne
  have hg3 := hg1.trans (GrX.grown (g := gc) hg2 (fun k e => .inl (hat k e)))
  have hk2 := hk1.keep (BelowX.grown hg2 hs1 hvb)
  have hs2 := Nat.le_trans hs1 hg2.size
  have hn2 : some w.heap.size ≠ v2.ownBlock := fun e => hne (hat _ e.symm).symm
  clear hc1 hp1 hg1 hk1 hg2 hat ho1 hs1 cD
  obtain ⟨A2, c2, hv2, hcc, hrd2⟩ := EnOwn.rd ho2
  subst hv2
  have hc3 : Blk (w2.setCell ⟨gc, 0, none⟩ (.slice A2 U2.length c2)) gc 90 [.slice A2 U2.length c2, vB, x2, x3] := hc2.set_ 0 _
  have hp3 := hp2.far (p := ⟨gc, 0, none⟩) hgw (.slice A2 U2.length c2)
  have hk3 := hk2.keep (BelowX.set w2 0 (.slice A2 U2.length c2))
  have ho3 : EnOwn (w2.setCell ⟨gc, 0, none⟩ (.slice A2 U2.length c2)) base (.slice A2 U2.length c2) U2 := own_far ho2 (own_ne ho2 (.inl hgb)) 0 _
  have hg4 := hg3.trans (GrX.set gc (Value.slice A2 U2.length c2).ownBlock w2 0 (.slice A2 U2.length c2))
  have hs3 : base ≤ (w2.setCell ⟨gc, 0, none⟩ (.slice A2 U2.length c2)).heap.size := by simpa using hs2
  obtain ⟨AB, cB, hvB, hcB, hrB, hnB⟩ := hk3
  subst hvB
  obtain ⟨k0, k1, k2, k3, kf, kz⟩ := hc2.four
  obtain ⟨p0, pf, pz⟩ := hp2.one
  go_upto_region 2 with fail
  clear k0 k1 k2 k3 kf kz p0 pf pz hk2 hc2 hp2 hg3 ho2 hs2 hrd2
  have hsz3 : w.heap.size ≤ (w2.setCell ⟨gc, 0, none⟩ (.slice A2 U2.length c2)).heap.size := hg4.size
  generalize w2.setCell ⟨gc, 0, none⟩ (.slice A2 U2.length c2) = w3 at *
  obtain ⟨k0, k1, k2, k3, kf, kz⟩ := hc3.four
  obtain ⟨p0, pf, pz⟩ := hp3.one
  have hrB3 : EnRd w3 w3.heap.size AB B := Rd.more hrB hs3
  go_cut [5] (fun bv wx => ∃ (k : Nat) (b : Bool), bv = .bool b ∧ FindRel B s.data.toList k b ∧ Blk wx gc 90 [.slice A2 U2.length c2, .slice AB B.length cB, x2, x3] ∧ EnOwn wx base (.slice A2 U2.length c2) U2 ∧ Blk wx w.heap.size 9 [.string s] ∧ GrX gc rU (Value.slice A2 U2.length c2).ownBlock w wx)
  case first =>
    go_region_held3 (fun W => W.cell? ⟨gc, 1, none⟩ = some (.slice AB B.length cB) ∧ W.cell? ⟨w.heap.size, 0, none⟩ = some (.string s)) (first | exact ⟨k1, p0⟩ | exact hS6 | go_keep) (first | (go_at_call 40; refine (find_any AB cB B s _ (by exact hrB3) HB.out.2 hsz (by omega)).mono ?_; rintro e w6 ⟨k, b, rfl, hf, hb⟩; have hS6 : w6.cell? ⟨gc, 1, none⟩ = some (.slice AB B.length cB) ∧ w6.cell? ⟨w.heap.size, 0, none⟩ = some (.string s) := ⟨(hb.cell (p := ⟨gc, 1, none⟩) hc3.lt).trans k1, (hb.cell (p := ⟨w.heap.size, 0, none⟩) hp3.lt).trans p0⟩))
    all_goals
      go_wp2_with fail
      go_meet
      case rel =>
        have hb' : Below w3.heap.size w3 w6 := ((Below.refl _ w3).drew).trans hb
        exact ⟨k, b, rfl, hf, hc3.below hb' hc3.lt, own_below ho3 hb' (Nat.le_refl _), hp3.below hb' hp3.lt, hg4.trans (GrX.of hb' (Nat.le_refl _))⟩
  case rest =>
    clear k0 k1 k2 k3 kf kz p0 pf pz hrB3 hc3 hp3 hg4 ho3 hs3 hrB hsz3
    obtain ⟨k, b, rfl, hf, hc4, ho4, hp4, hg4⟩ := hcut
    generalize wc = w4 at *
    have hsz4 : w.heap.size ≤ w4.heap.size := hg4.size
    have hs4 := Nat.le_trans hbw hsz4
    have hbs := find_is hf HB.out.1 HS0.out
    clear hf
    obtain ⟨k0, k1, k2, k3, kf, kz⟩ := hc4.four
    obtain ⟨p0, pf, pz⟩ := hp4.one
    cases b
    · have HF : Hid (res = U2) := Lib.hid (by rw [HR.out, if_neg]; intro h; rw [← hbs] at h; exact absurd h.1 (by decide))
      clear HR hbs
      go_wp2_with fail
      go_quiet (fail)
      go_wp2_with fail
      refine bodyPost_end (results_none Tryz.results52 _ _ _) rfl ?_
      exact ⟨rfl, _, hc4.drewN nq, by rw [HF.out]; exact ho4, hg4.drewN nq⟩
    · have HR2 : Hid (res = if Tr.hides U2 s.data.toList = false then Tr.setP U2 ⟨s, 4, ⟨#[]⟩, false⟩ else U2) := Lib.hid (by
        rw [HR.out]
        by_cases h : Tr.hides U2 s.data.toList = false
        · rw [if_pos ⟨hbs.symm, h⟩, if_pos h]; rfl
        · rw [if_neg (fun q => h q.2), if_neg h])
      clear HR hbs
      have hrd4 : EnRd w4 w4.heap.size A2 U2 := by
        obtain ⟨Aq, cq, hq, _, hr⟩ := EnOwn.rd ho4
        injection hq with q1 q2 q3
        rw [q1]; exact hr
      go_upto_region 3 with fail
      go_cut [33] (fun bv wx => bv = .bool (!Tr.hides U2 s.data.toList) ∧ Blk wx gc 90 [.slice A2 U2.length c2, .slice AB B.length cB, x2, x3] ∧ EnOwn wx base (.slice A2 U2.length c2) U2 ∧ Blk wx w.heap.size 9 [.string s] ∧ GrX gc rU (Value.slice A2 U2.length c2).ownBlock w wx)
      case first =>
        go_region_held3 (fun W => W.cell? ⟨gc, 0, none⟩ = some (.slice A2 U2.length c2) ∧ W.cell? ⟨w.heap.size, 0, none⟩ = some (.string s)) (first | exact ⟨k0, p0⟩ | exact hS6 | go_keep) (first | (go_at_call 41; refine (hides_any A2 c2 U2 s _ (by exact hrd4) HSM.out HSR.out hsz (by omega)).mono ?_; rintro e w6 ⟨rfl, hb⟩; have hS6 : w6.cell? ⟨gc, 0, none⟩ = some (.slice A2 U2.length c2) ∧ w6.cell? ⟨w.heap.size, 0, none⟩ = some (.string s) := ⟨(hb.cell (p := ⟨gc, 0, none⟩) hc4.lt).trans k0, (hb.cell (p := ⟨w.heap.size, 0, none⟩) hp4.lt).trans p0⟩))
        all_goals
          go_wp2_with fail
          go_meet
          case rel =>
            have hb' : Below w4.heap.size w4 w6 := ((Below.refl _ w4).drew).trans hb
            exact ⟨rfl, hc4.below hb' hc4.lt, own_below ho4 hb' (Nat.le_refl _), hp4.below hb' hp4.lt, hg4.trans (GrX.of hb' (Nat.le_refl _))⟩
      case rest =>
        clear k0 k1 k2 k3 kf kz p0 pf pz hc4 hp4 hg4 ho4 hs4 hrd4 hsz4
        obtain ⟨rfl, hc5, ho5, hp5, hg5⟩ := hcut
        generalize wc = w5 at *
        have hsz5 : w.heap.size ≤ w5.heap.size := hg5.size
        have hs5 := Nat.le_trans hbw hsz5
        obtain ⟨p0, pf, pz⟩ := hp5.one
        rcases th : Tr.hides U2 s.data.toList with _ | _
        · have HF := Lib.hid (HR2.out.trans (if_pos th))
          clear HR2 th
          go_wp2_with fail
          clear p0 pf pz
          refine (set_any s.size gc base (.slice AB B.length cB) x2 x3 (.slice A2 U2.length c2) U2 ⟨s, 4, ⟨#[]⟩, false⟩ w5 hc5 ho5 hgb hs5 HSR.out HNE.out HSM.out HS0.out (by show s.data.toList.length ≤ s.size; rw [size_length]; exact Nat.le_refl _) hsz (by show (0 : Nat) < 4294967281; decide) (by omega)).mono ?_
          rintro e w6 ⟨rfl, v6, hc6, ho6, hg6⟩
          go_wp2_with fail
          refine bodyPost_end (results_none Tryz.results52 _ _ _) rfl ?_
          exact ⟨rfl, v6, hc6, by rw [HF.out]; exact ho6, hg5.trans hg6⟩
        · have HF := Lib.hid (HR2.out.trans (if_neg (by rw [th]; decide)))
          clear HR2 th
          go_wp2_with fail
          refine bodyPost_end (results_none Tryz.results52 _ _ _) rfl ?_
          exact ⟨rfl, _, hc5, by rw [HF.out]; exact ho5, hg5⟩
end Go.Proofs.YtjppfhgkanbemabGreatDoor
