/-
  layer.Over. (Printed by wip/genover.py.)
-/
import Derived.Test.YtjppfhgkanbemabDoorTrHides
import Derived.Test.YtjppfhgkanbemabDoorMem2
namespace Go.Proofs.YtjppfhgkanbemabDoor
open Go.RowKit Go.Shelf Go.Sort

theorem sortE_nil (fv : Value) (w : World) : Calls Tryd.prog 39 #[.slice none 0 0, fv] w fun e w' => e = .returned (.tuple #[]) ∧ w' = w := by
  have hp := fun lim W => AnyF.pdqsortCmpFunc_none (P := Tryd.prog) (ρ := Tryd.pdqEn_ren) Tryd.pdqEn none 0 lim fv W
  have hl : ∀ W, Calls Tryd.prog 70 #[.int .u64 0] W fun e w' => e = .returned (.int .i64 (Lib.bitLen 0 : Nat)) ∧ w' = W := fun W => by
    have h := Any.bits_Len (SlLaysF0.n15.bits (P := Tryd.prog) (ρ := Tryd.lenEn_ren) Tryd.lenEn) 0 W (by omega) (by omega)
    exact h
  generalize Lib.bitLen 0 = L at hl
  go_enter Tryd.func39, Tryd.ntmps39
  go_wp2_with (first | (go_at_call 70; refine (hl _).mono ?_; rintro e w' ⟨rfl, rfl⟩) | (go_at_call 69; refine (hp _ _).mono ?_; rintro e w' ⟨rfl, rfl⟩))
  go_end0
  exact ⟨rfl, rfl⟩

theorem keep_yes {l t : List En} {k : Nat} (hk : k < t.length) (h1 : Tr.get l t[k].P = none) (h2 : Tr.hides l t[k].P = false) : Tr.keep l (t.take (k + 1)) = Tr.keep l (t.take k) ++ [t[k]] := by
  rw [List.take_succ_eq_append_getElem hk]; unfold Tr.keep; rw [List.filter_append]; simp [h1, h2]
theorem keep_no {l t : List En} {k : Nat} (hk : k < t.length) (h : (Tr.get l t[k].P).isSome = true ∨ Tr.hides l t[k].P = true) : Tr.keep l (t.take (k + 1)) = Tr.keep l (t.take k) := by
  rw [List.take_succ_eq_append_getElem hk]; unfold Tr.keep; rw [List.filter_append]
  have : ((Tr.get l t[k].P).isNone && !Tr.hides l t[k].P) = false := by
    rcases h with h | h
    · rw [Option.isNone_eq_false_iff.2 h]; rfl
    · rw [h]; simp
  simp [this]
theorem shown_yes {l : List En} {k : Nat} (hk : k < l.length) (h : (l[k].k != 4) = true) : Tr.shown (l.take (k + 1)) = Tr.shown (l.take k) ++ [l[k].clear] := by
  rw [List.take_succ_eq_append_getElem hk]; unfold Tr.shown; rw [List.filter_append]; simp [h]
theorem shown_no {l : List En} {k : Nat} (hk : k < l.length) (h : (l[k].k != 4) = false) : Tr.shown (l.take (k + 1)) = Tr.shown (l.take k) := by
  rw [List.take_succ_eq_append_getElem hk]; unfold Tr.shown; rw [List.filter_append]; simp [h]
theorem over_len {l t : List En} (hl : Tr.Right true l) (ht : Tr.Right false t) : (Tr.keep l t ++ Tr.shown l).length = (Tr.overL l t).length := by
  have hp := List.mergeSort_perm (Tr.keep l t ++ Tr.shown l) fun a b => !decide (Pt.cmp b.P a.P < 0)
  have hs := List.pairwise_mergeSort (le := fun a b : En => !decide (Pt.cmp b.P a.P < 0)) (by
    intro a b c h1 h2
    rw [Bool.not_eq_true', decide_eq_false_iff_not] at *
    intro h3
    by_cases e : b.P = c.P
    · rw [← e] at h3; exact h1 h3
    · exact h1 (Pt.cmp_trans (Tr.lt_tri h2 (Ne.symm e)) h3)) (by
    intro a b
    rw [Bool.or_eq_true, Bool.not_eq_true', Bool.not_eq_true', decide_eq_false_iff_not, decide_eq_false_iff_not]
    by_cases h : Pt.cmp b.P a.P < 0
    · exact .inr (Tr.lt_asymm h)
    · exact .inl h) (Tr.keep l t ++ Tr.shown l)
  have e := Tr.over_sorted hl ht hp (List.Pairwise.imp (fun {a b} h => by rw [Bool.not_eq_true', decide_eq_false_iff_not] at h; exact h) hs)
  rw [← e, hp.length_eq]

theorem ret_over {l t m : List En} {e : Int} {v : Value} (h : Tr.over l t = (m, e)) : Ending.returned (.tuple #[v, .int .i64 e]) = .returned (.tuple #[v, .int .i64 (Tr.over l t).2]) := by rw [h]
/-- What Over answers. -/
def OverRel (l t : List En) (w : World) (e : Ending) (w' : World) : Prop :=
  ∃ v, e = .returned (.tuple #[v, .int .i64 (Tr.over l t).2]) ∧ EnOwn w' w.heap.size v (Tr.over l t).1 ∧ Below w.heap.size w w'

set_option maxHeartbeats 2000000 in
set_option maxRecDepth 100000 in
theorem over_any (A B : Option Addr) (c d : Nat) (l t : List En) (w : World) (hl : EnRd w w.heap.size A l) (ht : EnRd w w.heap.size B t) (hc : l.length ≤ c) (hd : t.length ≤ d) (hs : Sm l) (hst : Sm t) (hn : l.length ≤ 2305843009213693952) (hnt : t.length ≤ 2305843009213693952) :
    Calls Tryd.prog 81 #[.slice A l.length c, .slice B t.length d] w (OverRel l t w) := by
  obtain ⟨i0, hi, hz0, hz1, hz2⟩ := info_parts info_en
  have c1 := fun W h => wrongL_any A c l W h hc hs hn
  have c2 := fun W h => wrongT_any B d t W h hd hst hnt
  obtain ⟨pl, hpl⟩ : ∃ pr, pr = Tr.wrong l true := ⟨_, rfl⟩
  obtain ⟨pt, hpt⟩ : ∃ pr, pr = Tr.wrong t false := ⟨_, rfl⟩
  rw [← hpl] at c1
  rw [← hpt] at c2
  have HL := Lib.hid hpl.symm
  have HT := Lib.hid hpt.symm
  have HS := Lib.hid hs
  have HSt := Lib.hid hst
  obtain ⟨x, x'⟩ := pl
  obtain ⟨y, y'⟩ := pt
  clear hpl hpt hs hst
  dsimp only at c1 c2
  have hB := Below.refl w.heap.size w
  unfold OverRel
  go_enter Tryd.func81, Tryd.ntmps81
  go_wp2_with fail
  refine (c1 w hl).mono ?_
  rintro e w1 ⟨rfl, hb⟩
  have hB1 := hB.trans (hb.mono hB.size)
  clear hb hB c1
  have hB2 := hB1.alloc hB1.size (.cells #[.int .i64 x, .int .i64 x'] 29)
  have hq2 := Blk.new w1 29 [.int .i64 x, .int .i64 x']
  rcases tx : (x != 0) with _ | _
  rotate_left
  · have HO : Hid (Tr.over l t = ([], x)) := Lib.hid (by unfold Tr.over; rw [HL.out, if_pos (by simpa using tx)])
    go_wp2_with fail
    generalize w1.alloc (.cells #[.int .i64 x, .int .i64 x'] 29) = w2 at *
    generalize w1.heap.size = g1 at *
    obtain ⟨q0, q1, qf, qz⟩ := hq2.two
    go_quiet (fail)
    go_wp2_with fail
    go_ret2
    exact ⟨_, ret_over HO.out, by rw [HO.out]; exact EnOwn.nil _ _, below_drewN hB2 _⟩
  have HL0 : Hid ((Tr.wrong l true).1 = 0) := Lib.hid (by rw [HL.out]; simpa using tx)
  go_wp2_with fail
  generalize w1.alloc (.cells #[.int .i64 x, .int .i64 x'] 29) = w2 at *
  clear hq2 hB1
  refine (c2 w2 (((ht).below hB2).more hB2.size)).mono ?_
  rintro e w3 ⟨rfl, hb⟩
  have hB3 := hB2.trans (hb.mono hB2.size)
  clear hb hB2 c2
  have hB4 := hB3.alloc hB3.size (.cells #[.int .i64 y, .int .i64 y'] 29)
  have hq4 := Blk.new w3 29 [.int .i64 y, .int .i64 y']
  rcases ty : (y != 0) with _ | _
  rotate_left
  · have HO : Hid (Tr.over l t = ([], y)) := Lib.hid (by unfold Tr.over; rw [if_neg (by simp [HL0.out]), HT.out, if_pos (by simpa using ty)])
    go_wp2_with fail
    generalize w3.alloc (.cells #[.int .i64 y, .int .i64 y'] 29) = w4 at *
    generalize w3.heap.size = g3 at *
    obtain ⟨q0, q1, qf, qz⟩ := hq4.two
    go_quiet (fail)
    go_wp2_with fail
    go_ret2
    exact ⟨_, ret_over HO.out, by rw [HO.out]; exact EnOwn.nil _ _, below_drewN hB4 _⟩
  have HT0 : Hid ((Tr.wrong t false).1 = 0) := Lib.hid (by rw [HT.out]; simpa using ty)
  have hl80 := ((Tr.wrong_zero l true).1 HL0.out).1
  have ht80 := ((Tr.wrong_zero t false).1 HT0.out).1
  have RL := Lib.hid ((Tr.wrong_zero l true).1 HL0.out).2
  have RT := Lib.hid ((Tr.wrong_zero t false).1 HT0.out).2
  go_wp2_with fail
  generalize w3.alloc (.cells #[.int .i64 y, .int .i64 y'] 29) = w4 at *
  clear hq4 hB3
  go_loopw [8, 31] (fun v i wr => ∃ k : Nat, k ≤ t.length ∧ i = .int .i64 k ∧ EnOwn wr w.heap.size v (Tr.keep l (t.take k)) ∧ Below w.heap.size w wr) (fun _ i _ => t.length - (intOf i).toNat)
  case atStart => exact ⟨0, Nat.zero_le _, rfl, EnOwn.nil _ _, hB4⟩
  case round =>
    obtain ⟨k, hk, rfl, hown, hB⟩ := hrel
    clear hB4
    by_cases hlt : k < t.length
    · obtain ⟨b, o, rfl, hb, h0, h1, h2, h3⟩ := (EnRd.at_ (ht.below hB) hlt)
      have KY := Lib.hid (keep_yes (l := l) hlt)
      have KN := Lib.hid (keep_no (l := l) hlt)
      have hle : (Tr.keep l (t.take k)).length ≤ k := by
        have h1 := List.length_filter_le (fun e => (Tr.get l e.P).isNone && !Tr.hides l e.P) (t.take k)
        rw [List.length_take] at h1
        exact Nat.le_trans h1 (by omega)
      have hne := Lib.hid (Tr.right_ne RT.out (List.getElem_mem hlt))
      have hsz := (HSt.out.at_ hlt).1
      generalize t[k] = z at h0 h1 h2 h3 KY KN hne hsz
      obtain ⟨yp, yk, yt, yo⟩ := z
      dsimp only at h0 h1 h2 h3 hsz
      go_wp2_with fail
      have hy5 := Blk.new wr 32 [.string yp, .int .i64 yk, .string yt, .bool yo]
      have hB5 := hB.alloc hB.size (.cells #[.string yp, .int .i64 yk, .string yt, .bool yo] 32)
      have ho5 := own_alloc hown (.cells #[.string yp, .int .i64 yk, .string yt, .bool yo] 32)
      have hnb : some wr.heap.size ≠ u8.ownBlock := own_ne hown (.inr (Nat.le_refl _))
      clear h0 h1 h2 h3 hb hB hown
      generalize wr.alloc (.cells #[.string yp, .int .i64 yk, .string yt, .bool yo] 32) = w5 at *
      generalize wr.heap.size = gy at *
      refine (find_any A c l yp w5 (((hl).below hB5).more hB5.size) HS.out hsz hn).mono ?_
      rintro e w6 ⟨f, b6, rfl, hf, hb6⟩
      have hB6 := hB5.trans (hb6.mono hB5.size)
      have hy6 := hy5.below hb6 hy5.lt
      have ho6 := own_below ho5 hb6 (Nat.le_refl _)
      have HF := Lib.hid (find_is hf RL.out.2.1 hne.out)
      clear hf hb6 hB5 hy5 ho5
      obtain ⟨y0, y1, y2, y3, yfr, yz⟩ := hy6.four
      cases b6
      rotate_left
      · have HN := Lib.hid (KN.out (.inl HF.out.symm))
        go_wp2_with fail
        go_roundw
        case rel => exact ⟨k + 1, by omega, by go_num, by rw [HN.out]; exact ho6, hB6⟩
        case measure => simp [intOf]; omega
      have HF0 := Lib.hid (Option.not_isSome_iff_eq_none.1 (by rw [HF.out.symm]; decide))
      go_wp2_with fail
      refine (hides_any A c l yp w6 (((hl).below hB6).more hB6.size) HS.out RL.out.2.1 hsz hn).mono ?_
      rintro e w7 ⟨rfl, hb7⟩
      have hB7 := hB6.trans (hb7.mono hB6.size)
      have hy7 := hy6.below hb7 hy6.lt
      have ho7 := own_below ho6 hb7 (Nat.le_refl _)
      clear hb7 hB6 hy6 ho6 y0 y1 y2 y3 yfr yz
      obtain ⟨y0, y1, y2, y3, yfr, yz⟩ := hy7.four
      rcases th : Tr.hides l yp.data.toList with _ | _
      rotate_left
      · have HN := Lib.hid (KN.out (.inr th))
        go_wp2_with fail
        go_roundw
        case rel => exact ⟨k + 1, by omega, by go_num, by rw [HN.out]; exact ho7, hB7⟩
        case measure => simp [intOf]; omega
      have HN := Lib.hid (KY.out HF0.out th)
      go_wp2_with (at_builtin; go_must (refine wpList_app1 w7 rfl _ _ _ rfl w.heap.size 32 i0 _ 4 48 Tryd.underlying23 hi hz0 hz1 hz2 rfl (by decide) u8 _ _ rfl ho7 [.string yp, .int .i64 yk, .string yt, .bool yo] rfl rfl (by simp [Value.oneCell']) (by omega) (by decide) hB7.size _ rfl ?_); intro v9 w9 own9 hg9 _)
      go_roundw
      case rel => exact ⟨k + 1, by omega, by go_num, EnOwn.snoc (y := ⟨yp, yk, yt, yo⟩) own9 HN.out, hB7.grown hg9 hB7.size (fun q e' => (World.ownsRow.lt ho7 q e').1)⟩
      case measure => simp [intOf]; omega
    · obtain rfl : k = t.length := by omega
      rw [List.take_length] at hown
      have hle0 : (Tr.keep l t).length ≤ t.length := List.length_filter_le _ _
      go_wp2_with fail
      go_loopw [8, 58] (fun v i wr => ∃ k : Nat, k ≤ l.length ∧ i = .int .i64 k ∧ EnOwn wr w.heap.size v (Tr.keep l t ++ Tr.shown (l.take k)) ∧ Below w.heap.size w wr) (fun _ i _ => l.length - (intOf i).toNat)
      case atStart => exact ⟨0, Nat.zero_le _, rfl, by rw [List.take_zero, show Tr.shown [] = [] from rfl, List.append_nil]; exact hown, hB⟩
      case round =>
        clear hown hB
        obtain ⟨k, hk, rfl, hown, hB⟩ := hrel
        by_cases hlt : k < l.length
        · obtain ⟨b, o, rfl, hb, h0, h1, h2, h3⟩ := (EnRd.at_ (hl.below hB) hlt)
          have KY := Lib.hid (shown_yes hlt)
          have KN := Lib.hid (shown_no hlt)
          have hle : (Tr.keep l t ++ Tr.shown (l.take k)).length ≤ t.length + k := by
            have h1 := List.length_filter_le (fun e : En => e.k != 4) (l.take k)
            rw [List.length_take] at h1
            rw [List.length_append]
            have h2 : (Tr.shown (l.take k)).length ≤ k := by unfold Tr.shown; rw [List.length_map]; exact Nat.le_trans h1 (by omega)
            omega
          generalize l[k] = z at h0 h1 h2 h3 KY KN
          obtain ⟨yp, yk, yt, yo⟩ := z
          dsimp only at h0 h1 h2 h3 KY KN
          have hy5 := Blk.new wr 32 [.string yp, .int .i64 yk, .string yt, .bool yo]
          have hy5' := Blk.new wr 32 [.string yp, .int .i64 yk, .string yt, .bool false]
          have hB5 := hB.alloc hB.size (.cells #[.string yp, .int .i64 yk, .string yt, .bool yo] 32)
          have hB5' := hB.alloc hB.size (.cells #[.string yp, .int .i64 yk, .string yt, .bool false] 32)
          have ho5 := own_alloc hown (.cells #[.string yp, .int .i64 yk, .string yt, .bool yo] 32)
          have ho5' := own_alloc hown (.cells #[.string yp, .int .i64 yk, .string yt, .bool false] 32)
          rcases tk : (yk != 4) with _ | _
          · have HN := Lib.hid (KN.out tk)
            go_wp2_with fail
            go_roundw
            case rel => exact ⟨k + 1, by omega, by go_num, by rw [HN.out]; exact ho5, hB5⟩
            case measure => simp [intOf]; omega
          · have HN := Lib.hid (KY.out tk)
            go_wp2_with (at_builtin; go_must (refine wpList_app1 (wr.alloc (.cells #[.string yp, .int .i64 yk, .string yt, .bool false] 32)) rfl _ _ _ rfl w.heap.size 32 i0 _ 4 48 Tryd.underlying23 hi hz0 hz1 hz2 rfl (by decide) u8 _ _ rfl ho5' [.string yp, .int .i64 yk, .string yt, .bool false] (by rw [World.size_alloc]; rfl) rfl (by simp [Value.oneCell']) (by omega) (by decide) hB5'.size _ rfl ?_); intro v9 w9 own9 hg9 _)
            go_roundw
            case rel => exact ⟨k + 1, by omega, by go_num, EnOwn.snoc (y := ⟨yp, yk, yt, false⟩) own9 (by rw [HN.out, ← List.append_assoc]; rfl), hB5'.grown hg9 hB5'.size (fun q e' => (World.ownsRow.lt ho5' q e').1)⟩
            case measure => simp [intOf]; omega
        · obtain rfl : k = l.length := by omega
          rw [List.take_length] at hown
          have HLEN := Lib.hid (over_len RL.out RT.out)
          have HO : Hid (Tr.over l t = if 80 < (Tr.overL l t).length then ([], 5) else (Tr.overL l t, 0)) := Lib.hid (by unfold Tr.over; rw [if_neg (by simp [HL0.out]), if_neg (by simp [HT0.out])])
          have HP := Lib.hid (fun (m : List En) (hp : m.Perm (Tr.keep l t ++ Tr.shown l)) h => Tr.over_sorted RL.out RT.out hp h)
          have HSM : Hid (∀ e ∈ Tr.keep l t ++ Tr.shown l, e.p.size < 4294967281) := Lib.hid (fun e he => by
            rcases List.mem_append.1 he with h | h
            · exact (HSt.out e (Tr.mem_keep.1 h).1).1
            · obtain ⟨x, hx, _, rfl⟩ := Tr.mem_shown.1 h
              exact (HS.out x hx).1)
          generalize Tr.overL l t = res at HLEN HO HP
          generalize Tr.keep l t ++ Tr.shown l = out at *
          by_cases h80 : 80 < out.length
          · have HO2 := Lib.hid (HO.out.trans (if_pos (by rw [← HLEN.out]; exact h80)))
            rcases own_shape hown with ⟨hv, h0⟩ | ⟨g, cap, hv, _, _, _⟩
            · omega
            subst hv
            go_wp2_with fail
            go_ret2
            exact ⟨_, ret_over HO2.out, by rw [HO2.out]; exact EnOwn.nil _ _, hB⟩
          · have HO2 := Lib.hid (HO.out.trans (if_neg (by rw [← HLEN.out]; exact h80)))
            rcases own_shape hown with ⟨hv, h0⟩ | ⟨g, cap, hv, hbg, _, _⟩
            · subst hv
              have e0 : out = [] := List.length_eq_zero_iff.1 h0
              subst e0
              have hr : res = [] := (HP.out [] (List.Perm.refl _) List.Pairwise.nil).symm
              subst hr
              go_wp2_with fail
              refine (sortE_nil _ _).mono ?_
              rintro e w9 ⟨rfl, rfl⟩
              go_wp2_with fail
              go_ret2
              exact ⟨_, ret_over HO2.out, by rw [HO2.out]; exact EnOwn.nil _ _, hB⟩
            · subst hv
              have eg : ∀ args w, (callFunc 99 args).run Tryd.prog w = .ok (.enter 99 args) w := enters_of Tryd.func99 (by kernel_rfl) rfl
              have cS := sortE_any 99 eg (fun x y hx hy W => over1_any x y hx hy W) w.heap.size g cap out wr hown HSM.out (by omega)
              go_wp2_with fail
              refine cS.mono ?_
              rintro e w9 ⟨rfl, m, hp, hsm, ho9, hg9⟩
              have hm := HP.out m hp hsm
              subst hm
              go_wp2_with fail
              go_ret2
              exact ⟨_, ret_over HO2.out, by rw [HO2.out]; show EnOwn _ _ _ m; rw [← hp.length_eq] at ho9 ⊢; exact ho9, hB.grown hg9 hB.size (fun q e' => by cases e'; exact hbg)⟩
end Go.Proofs.YtjppfhgkanbemabDoor
