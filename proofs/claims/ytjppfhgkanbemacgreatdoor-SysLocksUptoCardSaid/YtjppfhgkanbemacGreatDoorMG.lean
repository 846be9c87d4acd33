/-
  layer.Over. (Printed by wip/genover.py.)
  The document's Same, for trees that are one; layer.Merge.
  Lists of trees in memory: dropped, taken, appended.
  slices.Clone and slices.Insert at entries.
  slices.Insert at entries, one put in: at the end; in place; in a new row.
  slices.Insert at entries, in a new row; and the three roads in one.
  slices.Delete at entries, one taken out.
-/
import Derived.Test.YtjppfhgkanbemacGreatDoorMF
import Derived.Test.YtjppfhgkanbemacGreatDoorMA
import Derived.BigQuiet
import Derived.Laws.AppendOwnNone
import Derived.Lib.AppendZeros
import Derived.Shelf.Spec.SlicesInsertGrow
import Derived.Test.YtjppfhgkanbemacGreatDoorMB
namespace Go.Proofs.YtjppfhgkanbemacGreatDoor
open Go.RowKit Go.Shelf Go.Sort

theorem sortE_nil (fv : Value) (w : World) : Calls Tryz.prog 65 #[.slice none 0 0, fv] w fun e w' => e = .returned (.tuple #[]) ∧ w' = w := by
  have hp := fun lim W => AnyF.pdqsortCmpFunc_none (P := Tryz.prog) (ρ := Tryz.pdqEn_ren) Tryz.pdqEn none 0 lim fv W
  have hl : ∀ W, Calls Tryz.prog 87 #[.int .u64 0] W fun e w' => e = .returned (.int .i64 (Lib.bitLen 0 : Nat)) ∧ w' = W := fun W => by
    have h := Any.bits_Len (SlLaysF0.n15.bits (P := Tryz.prog) (ρ := Tryz.lenEn_ren) Tryz.lenEn) 0 W (by omega) (by omega)
    exact h
  generalize Lib.bitLen 0 = L at hl
  go_enter Tryz.func65, Tryz.ntmps65
  go_wp2_with (first | (go_at_call 87; refine (hl _).mono ?_; rintro e w' ⟨rfl, rfl⟩) | (go_at_call 86; refine (hp _ _).mono ?_; rintro e w' ⟨rfl, rfl⟩))
  go_end0
  exact ⟨rfl, rfl⟩

theorem keep_yes {l t : List En} {k : Nat} (hk : k < t.length) (h1 : Tr.get l t[k].P = none) (h2 : Tr.hides l t[k].P = false) : Tr.keep l (t.take (k + 1)) = Tr.keep l (t.take k) ++ [t[k]] := by
  rw [List.take_succ_eq_append_getElem hk]; unfold Tr.keep; rw [List.filter_append]; simp [h1, h2]
theorem keep_no {l t : List En} {k : Nat} (hk : k < t.length) (h : (Tr.get l t[k].P).isSome = true ∨ Tr.hides l t[k].P = true) : Tr.keep l (t.take (k + 1)) = Tr.keep l (t.take k) := by
  rw [List.take_succ_eq_append_getElem hk]; unfold Tr.keep; rw [List.filter_append]
  have : ((Tr.get l t[k].P).isNone && !Tr.hides l t[k].P) = false := by
    rcases h with h | h
    · rw [Option.isNone_eq_false_iff.2 h]; rfl
    · rw [h]; simp
  simp [this]
theorem shown_yes {l : List En} {k : Nat} (hk : k < l.length) (h : (l[k].k != 4) = true) : Tr.shown (l.take (k + 1)) = Tr.shown (l.take k) ++ [l[k].clear] := by
  rw [List.take_succ_eq_append_getElem hk]; unfold Tr.shown; rw [List.filter_append]; simp [h]
theorem shown_no {l : List En} {k : Nat} (hk : k < l.length) (h : (l[k].k != 4) = false) : Tr.shown (l.take (k + 1)) = Tr.shown (l.take k) := by
  rw [List.take_succ_eq_append_getElem hk]; unfold Tr.shown; rw [List.filter_append]; simp [h]
theorem over_len {l t : List En} (hl : Tr.Right true l) (ht : Tr.Right false t) : (Tr.keep l t ++ Tr.shown l).length = (Tr.overL l t).length := by
  have hp := List.mergeSort_perm (Tr.keep l t ++ Tr.shown l) fun a b => !decide (Pt.cmp b.P a.P < 0)
  have hs := List.pairwise_mergeSort (le := fun a b : En => !decide (Pt.cmp b.P a.P < 0)) (by
    intro a b c h1 h2
    rw [Bool.not_eq_true', decide_eq_false_iff_not] at *
    intro h3
    by_cases e : b.P = c.P
    · rw [← e] at h3; exact h1 h3
    · exact h1 (Pt.cmp_trans (Tr.lt_tri h2 (Ne.symm e)) h3)) (by
    intro a b
    rw [Bool.or_eq_true, Bool.not_eq_true', Bool.not_eq_true', decide_eq_false_iff_not, decide_eq_false_iff_not]
    by_cases h : Pt.cmp b.P a.P < 0
    · exact .inr (Tr.lt_asymm h)
    · exact .inl h) (Tr.keep l t ++ Tr.shown l)
  have e := Tr.over_sorted hl ht hp (List.Pairwise.imp (fun {a b} h => by rw [Bool.not_eq_true', decide_eq_false_iff_not] at h; exact h) hs)
  rw [← e, hp.length_eq]

theorem ret_over {l t m : List En} {e : Int} {v : Value} (h : Tr.over l t = (m, e)) : Ending.returned (.tuple #[v, .int .i64 e]) = .returned (.tuple #[v, .int .i64 (Tr.over l t).2]) := by rw [h]
/-- What Over answers. -/
def OverRel (l t : List En) (w : World) (e : Ending) (w' : World) : Prop :=
  ∃ v, e = .returned (.tuple #[v, .int .i64 (Tr.over l t).2]) ∧ EnOwn w' w.heap.size v (Tr.over l t).1 ∧ Below w.heap.size w w'

set_option maxHeartbeats 2000000 in
set_option maxRecDepth 100000 in
theorem over_any (A B : Option Addr) (c d : Nat) (l t : List En) (w : World) (hl : EnRd w w.heap.size A l) (ht : EnRd w w.heap.size B t) (hc : l.length ≤ c) (hd : t.length ≤ d) (hs : Sm l) (hst : Sm t) (hn : l.length ≤ 2305843009213693952) (hnt : t.length ≤ 2305843009213693952) :
    Calls Tryz.prog 50 #[.slice A l.length c, .slice B t.length d] w (OverRel l t w) := by
  obtain ⟨i0, hi, hz0, hz1, hz2⟩ := info_parts info_en
  have c1 := fun W h => wrongL_any A c l W h hc hs hn
  have c2 := fun W h => wrongT_any B d t W h hd hst hnt
  obtain ⟨pl, hpl⟩ : ∃ pr, pr = Tr.wrong l true := ⟨_, rfl⟩
  obtain ⟨pt, hpt⟩ : ∃ pr, pr = Tr.wrong t false := ⟨_, rfl⟩
  rw [← hpl] at c1
  rw [← hpt] at c2
  have HL := Lib.hid hpl.symm
  have HT := Lib.hid hpt.symm
  have HS := Lib.hid hs
  have HSt := Lib.hid hst
  obtain ⟨x, x'⟩ := pl
  obtain ⟨y, y'⟩ := pt
  clear hpl hpt hs hst
  dsimp only at c1 c2
  have hB := Below.refl w.heap.size w
  unfold OverRel
  go_enter Tryz.func50, Tryz.ntmps50
  go_wp2_with fail
  refine (c1 w hl).mono ?_
  rintro e w1 ⟨rfl, hb⟩
  have hB1 := hB.trans (hb.mono hB.size)
  clear hb hB c1
  have hB2 := hB1.alloc hB1.size (.cells #[.int .i64 x, .int .i64 x'] 46)
  have hq2 := Blk.new w1 46 [.int .i64 x, .int .i64 x']
  rcases tx : (x != 0) with _ | _
  rotate_left
  · have HO : Hid (Tr.over l t = ([], x)) := Lib.hid (by unfold Tr.over; rw [HL.out, if_pos (by simpa using tx)])
    go_wp2_with fail
    generalize w1.alloc (.cells #[.int .i64 x, .int .i64 x'] 46) = w2 at *
    generalize w1.heap.size = g1 at *
    obtain ⟨q0, q1, qf, qz⟩ := hq2.two
    go_quiet (fail)
    go_wp2_with fail
    go_ret2
    exact ⟨_, ret_over HO.out, by rw [HO.out]; exact EnOwn.nil _ _, below_drewN hB2 _⟩
  have HL0 : Hid ((Tr.wrong l true).1 = 0) := Lib.hid (by rw [HL.out]; simpa using tx)
  go_wp2_with fail
  generalize w1.alloc (.cells #[.int .i64 x, .int .i64 x'] 46) = w2 at *
  clear hq2 hB1
  refine (c2 w2 (((ht).below hB2).more hB2.size)).mono ?_
  rintro e w3 ⟨rfl, hb⟩
  have hB3 := hB2.trans (hb.mono hB2.size)
  clear hb hB2 c2
  have hB4 := hB3.alloc hB3.size (.cells #[.int .i64 y, .int .i64 y'] 46)
  have hq4 := Blk.new w3 46 [.int .i64 y, .int .i64 y']
  rcases ty : (y != 0) with _ | _
  rotate_left
  · have HO : Hid (Tr.over l t = ([], y)) := Lib.hid (by unfold Tr.over; rw [if_neg (by simp [HL0.out]), HT.out, if_pos (by simpa using ty)])
    go_wp2_with fail
    generalize w3.alloc (.cells #[.int .i64 y, .int .i64 y'] 46) = w4 at *
    generalize w3.heap.size = g3 at *
    obtain ⟨q0, q1, qf, qz⟩ := hq4.two
    go_quiet (fail)
    go_wp2_with fail
    go_ret2
    exact ⟨_, ret_over HO.out, by rw [HO.out]; exact EnOwn.nil _ _, below_drewN hB4 _⟩
  have HT0 : Hid ((Tr.wrong t false).1 = 0) := Lib.hid (by rw [HT.out]; simpa using ty)
  have hl80 := ((Tr.wrong_zero l true).1 HL0.out).1
  have ht80 := ((Tr.wrong_zero t false).1 HT0.out).1
  have RL := Lib.hid ((Tr.wrong_zero l true).1 HL0.out).2
  have RT := Lib.hid ((Tr.wrong_zero t false).1 HT0.out).2
  go_wp2_with fail
  generalize w3.alloc (.cells #[.int .i64 y, .int .i64 y'] 46) = w4 at *
  clear hq4 hB3
  go_loopw [8, 31] (fun v i wr => ∃ k : Nat, k ≤ t.length ∧ i = .int .i64 k ∧ EnOwn wr w.heap.size v (Tr.keep l (t.take k)) ∧ Below w.heap.size w wr) (fun _ i _ => t.length - (intOf i).toNat)
  case atStart => exact ⟨0, Nat.zero_le _, rfl, EnOwn.nil _ _, hB4⟩
  case round =>
    obtain ⟨k, hk, rfl, hown, hB⟩ := hrel
    clear hB4
    by_cases hlt : k < t.length
    · obtain ⟨b, o, rfl, hb, h0, h1, h2, h3⟩ := (EnRd.at_ (ht.below hB) hlt)
      have KY := Lib.hid (keep_yes (l := l) hlt)
      have KN := Lib.hid (keep_no (l := l) hlt)
      have hle : (Tr.keep l (t.take k)).length ≤ k := by
        have h1 := List.length_filter_le (fun e => (Tr.get l e.P).isNone && !Tr.hides l e.P) (t.take k)
        rw [List.length_take] at h1
        exact Nat.le_trans h1 (by omega)
      have hne := Lib.hid (Tr.right_ne RT.out (List.getElem_mem hlt))
      have hsz := (HSt.out.at_ hlt).1
      generalize t[k] = z at h0 h1 h2 h3 KY KN hne hsz
      obtain ⟨yp, yk, yt, yo⟩ := z
      dsimp only at h0 h1 h2 h3 hsz
      go_wp2_with fail
      have hy5 := Blk.new wr 53 [.string yp, .int .i64 yk, .string yt, .bool yo]
      have hB5 := hB.alloc hB.size (.cells #[.string yp, .int .i64 yk, .string yt, .bool yo] 53)
      have ho5 := own_alloc hown (.cells #[.string yp, .int .i64 yk, .string yt, .bool yo] 53)
      have hnb : some wr.heap.size ≠ u8.ownBlock := own_ne hown (.inr (Nat.le_refl _))
      clear h0 h1 h2 h3 hb hB hown
      generalize wr.alloc (.cells #[.string yp, .int .i64 yk, .string yt, .bool yo] 53) = w5 at *
      generalize wr.heap.size = gy at *
      refine (find_any A c l yp w5 (((hl).below hB5).more hB5.size) HS.out hsz hn).mono ?_
      rintro e w6 ⟨f, b6, rfl, hf, hb6⟩
      have hB6 := hB5.trans (hb6.mono hB5.size)
      have hy6 := hy5.below hb6 hy5.lt
      have ho6 := own_below ho5 hb6 (Nat.le_refl _)
      have HF := Lib.hid (find_is hf RL.out.2.1 hne.out)
      clear hf hb6 hB5 hy5 ho5
      obtain ⟨y0, y1, y2, y3, yfr, yz⟩ := hy6.four
      cases b6
      rotate_left
      · have HN := Lib.hid (KN.out (.inl HF.out.symm))
        go_wp2_with fail
        go_roundw
        case rel => exact ⟨k + 1, by omega, by go_num, by rw [HN.out]; exact ho6, hB6⟩
        case measure => simp [intOf]; omega
      have HF0 := Lib.hid (Option.not_isSome_iff_eq_none.1 (by rw [HF.out.symm]; decide))
      go_wp2_with fail
      refine (hides_any A c l yp w6 (((hl).below hB6).more hB6.size) HS.out RL.out.2.1 hsz hn).mono ?_
      rintro e w7 ⟨rfl, hb7⟩
      have hB7 := hB6.trans (hb7.mono hB6.size)
      have hy7 := hy6.below hb7 hy6.lt
      have ho7 := own_below ho6 hb7 (Nat.le_refl _)
      clear hb7 hB6 hy6 ho6 y0 y1 y2 y3 yfr yz
      obtain ⟨y0, y1, y2, y3, yfr, yz⟩ := hy7.four
      rcases th : Tr.hides l yp.data.toList with _ | _
      rotate_left
      · have HN := Lib.hid (KN.out (.inr th))
        go_wp2_with fail
        go_roundw
        case rel => exact ⟨k + 1, by omega, by go_num, by rw [HN.out]; exact ho7, hB7⟩
        case measure => simp [intOf]; omega
      have HN := Lib.hid (KY.out HF0.out th)
      go_wp2_with (at_builtin; go_must (refine wpList_app1 w7 rfl _ _ _ rfl w.heap.size 53 i0 _ 4 48 Tryz.underlying23 hi hz0 hz1 hz2 rfl (by decide) u8 _ _ rfl ho7 [.string yp, .int .i64 yk, .string yt, .bool yo] rfl rfl (by simp [Value.oneCell']) (by omega) (by decide) hB7.size _ rfl ?_); intro v9 w9 own9 hg9 _)
      go_roundw
      case rel => exact ⟨k + 1, by omega, by go_num, EnOwn.snoc (y := ⟨yp, yk, yt, yo⟩) own9 HN.out, hB7.grown hg9 hB7.size (fun q e' => (World.ownsRow.lt ho7 q e').1)⟩
      case measure => simp [intOf]; omega
    · obtain rfl : k = t.length := by omega
      rw [List.take_length] at hown
      have hle0 : (Tr.keep l t).length ≤ t.length := List.length_filter_le _ _
      go_wp2_with fail
      go_loopw [8, 58] (fun v i wr => ∃ k : Nat, k ≤ l.length ∧ i = .int .i64 k ∧ EnOwn wr w.heap.size v (Tr.keep l t ++ Tr.shown (l.take k)) ∧ Below w.heap.size w wr) (fun _ i _ => l.length - (intOf i).toNat)
      case atStart => exact ⟨0, Nat.zero_le _, rfl, by rw [List.take_zero, show Tr.shown [] = [] from rfl, List.append_nil]; exact hown, hB⟩
      case round =>
        clear hown hB
        obtain ⟨k, hk, rfl, hown, hB⟩ := hrel
        by_cases hlt : k < l.length
        · obtain ⟨b, o, rfl, hb, h0, h1, h2, h3⟩ := (EnRd.at_ (hl.below hB) hlt)
          have KY := Lib.hid (shown_yes hlt)
          have KN := Lib.hid (shown_no hlt)
          have hle : (Tr.keep l t ++ Tr.shown (l.take k)).length ≤ t.length + k := by
            have h1 := List.length_filter_le (fun e : En => e.k != 4) (l.take k)
            rw [List.length_take] at h1
            rw [List.length_append]
            have h2 : (Tr.shown (l.take k)).length ≤ k := by unfold Tr.shown; rw [List.length_map]; exact Nat.le_trans h1 (by omega)
            omega
          generalize l[k] = z at h0 h1 h2 h3 KY KN
          obtain ⟨yp, yk, yt, yo⟩ := z
          dsimp only at h0 h1 h2 h3 KY KN
          have hy5 := Blk.new wr 53 [.string yp, .int .i64 yk, .string yt, .bool yo]
          have hy5' := Blk.new wr 53 [.string yp, .int .i64 yk, .string yt, .bool false]
          have hB5 := hB.alloc hB.size (.cells #[.string yp, .int .i64 yk, .string yt, .bool yo] 53)
          have hB5' := hB.alloc hB.size (.cells #[.string yp, .int .i64 yk, .string yt, .bool false] 53)
          have ho5 := own_alloc hown (.cells #[.string yp, .int .i64 yk, .string yt, .bool yo] 53)
          have ho5' := own_alloc hown (.cells #[.string yp, .int .i64 yk, .string yt, .bool false] 53)
          rcases tk : (yk != 4) with _ | _
          · have HN := Lib.hid (KN.out tk)
            go_wp2_with fail
            go_roundw
            case rel => exact ⟨k + 1, by omega, by go_num, by rw [HN.out]; exact ho5, hB5⟩
            case measure => simp [intOf]; omega
          · have HN := Lib.hid (KY.out tk)
            go_wp2_with (at_builtin; go_must (refine wpList_app1 (wr.alloc (.cells #[.string yp, .int .i64 yk, .string yt, .bool false] 53)) rfl _ _ _ rfl w.heap.size 53 i0 _ 4 48 Tryz.underlying23 hi hz0 hz1 hz2 rfl (by decide) u8 _ _ rfl ho5' [.string yp, .int .i64 yk, .string yt, .bool false] (by rw [World.size_alloc]; rfl) rfl (by simp [Value.oneCell']) (by omega) (by decide) hB5'.size _ rfl ?_); intro v9 w9 own9 hg9 _)
            go_roundw
            case rel => exact ⟨k + 1, by omega, by go_num, EnOwn.snoc (y := ⟨yp, yk, yt, false⟩) own9 (by rw [HN.out, ← List.append_assoc]; rfl), hB5'.grown hg9 hB5'.size (fun q e' => (World.ownsRow.lt ho5' q e').1)⟩
            case measure => simp [intOf]; omega
        · obtain rfl : k = l.length := by omega
          rw [List.take_length] at hown
          have HLEN := Lib.hid (over_len RL.out RT.out)
          have HO : Hid (Tr.over l t = if 80 < (Tr.overL l t).length then ([], 5) else (Tr.overL l t, 0)) := Lib.hid (by unfold Tr.over; rw [if_neg (by simp [HL0.out]), if_neg (by simp [HT0.out])])
          have HP := Lib.hid (fun (m : List En) (hp : m.Perm (Tr.keep l t ++ Tr.shown l)) h => Tr.over_sorted RL.out RT.out hp h)
          have HSM : Hid (∀ e ∈ Tr.keep l t ++ Tr.shown l, e.p.size < 4294967281) := Lib.hid (fun e he => by
            rcases List.mem_append.1 he with h | h
            · exact (HSt.out e (Tr.mem_keep.1 h).1).1
            · obtain ⟨x, hx, _, rfl⟩ := Tr.mem_shown.1 h
              exact (HS.out x hx).1)
          generalize Tr.overL l t = res at HLEN HO HP
          generalize Tr.keep l t ++ Tr.shown l = out at *
          by_cases h80 : 80 < out.length
          · have HO2 := Lib.hid (HO.out.trans (if_pos (by rw [← HLEN.out]; exact h80)))
            rcases own_shape hown with ⟨hv, h0⟩ | ⟨g, cap, hv, _, _, _⟩
            · omega
            subst hv
            go_wp2_with fail
            go_ret2
            exact ⟨_, ret_over HO2.out, by rw [HO2.out]; exact EnOwn.nil _ _, hB⟩
          · have HO2 := Lib.hid (HO.out.trans (if_neg (by rw [← HLEN.out]; exact h80)))
            rcases own_shape hown with ⟨hv, h0⟩ | ⟨g, cap, hv, hbg, _, _⟩
            · subst hv
              have e0 : out = [] := List.length_eq_zero_iff.1 h0
              subst e0
              have hr : res = [] := (HP.out [] (List.Perm.refl _) List.Pairwise.nil).symm
              subst hr
              go_wp2_with fail
              refine (sortE_nil _ _).mono ?_
              rintro e w9 ⟨rfl, rfl⟩
              go_wp2_with fail
              go_ret2
              exact ⟨_, ret_over HO2.out, by rw [HO2.out]; exact EnOwn.nil _ _, hB⟩
            · subst hv
              have eg : ∀ args w, (callFunc 66 args).run Tryz.prog w = .ok (.enter 66 args) w := enters_of Tryz.func66 (by kernel_rfl) rfl
              have cS := sortE_any 66 eg (fun x y hx hy W => over1_any x y hx hy W) w.heap.size g cap out wr hown HSM.out (by omega)
              go_wp2_with fail
              refine cS.mono ?_
              rintro e w9 ⟨rfl, m, hp, hsm, ho9, hg9⟩
              have hm := HP.out m hp hsm
              subst hm
              go_wp2_with fail
              go_ret2
              exact ⟨_, ret_over HO2.out, by rw [HO2.out]; show EnOwn _ _ _ m; rw [← hp.length_eq] at ho9 ⊢; exact ho9, hB.grown hg9 hB.size (fun q e' => by cases e'; exact hbg)⟩
end Go.Proofs.YtjppfhgkanbemacGreatDoor

namespace Go.Proofs.YtjppfhgkanbemacGreatDoor
open Go.RowKit Go.Shelf Go.Sort

set_option maxHeartbeats 1600000 in
theorem same_any (A B : Option Addr) (c d : Nat) (l m : List En) (w : World) (hl : EnRd w w.heap.size A l) (hm : EnRd w w.heap.size B m) (hbl : l.length ≤ 9223372036854775807) (he : l = m) :
    Calls Tryz.prog 18 #[.slice A l.length c, .slice B m.length d] w fun e w' => e = .returned (.bool true) ∧ Below w.heap.size w w' := by
  subst he
  go_enter Tryz.func18, Tryz.ntmps18
  go_wp2_with fail
  go_loopw [13] (fun i wr => ∃ k : Nat, k ≤ l.length ∧ i = .int .i64 k ∧ Below w.heap.size w wr) (fun i _ => l.length - (intOf i).toNat)
  case atStart => exact ⟨0, Nat.zero_le _, rfl, Below.refl _ _⟩
  case round =>
    obtain ⟨k, hk, rfl, hB0⟩ := hrel
    by_cases hlt : k < l.length
    · obtain ⟨bl, ol, rfl, hbl, hat⟩ := (EnRd.at_ (hl.below hB0) hlt)
      obtain ⟨bm, om, rfl, hbm, hbt⟩ := (EnRd.at_ (hm.below hB0) hlt)
      obtain ⟨h0, h1, h2, h3⟩ := hat
      obtain ⟨g0, g1, g2, g3⟩ := hbt
      generalize l[k] = y at h0 h1 h2 h3 g0 g1 g2 g3
      obtain ⟨yp, yk, yt, yo⟩ := y
      dsimp only at h0 h1 h2 h3 g0 g1 g2 g3
      go_wp2_with fail
      refine wp_region_quiet_lit (by kernel_rfl) (by kernel_rfl) ?_
      repeat (first | go_big_quiet_step (fail) | quiet_step (fail))
      refine wpQuiet_nil ?_
      intro w2 hw'
      obtain ⟨nq, hw''⟩ := hw'
      subst hw''
      have hB2 := below_drewN hB0 nq
      go_wp2_with fail
      go_roundw
      case rel => exact ⟨k + 1, hlt, by go_num, hB2⟩
      case measure => simp [intOf]; omega
    · go_wp2_with fail
      go_ret
      exact ⟨rfl, hB0⟩

/-- A slice of trees. -/
def TsRd (w : World) (B : Nat) (A : Option Addr) (ls : List (List En)) : Prop :=
  ∃ vs : List Value, Rd w B 1 A ls.length vs ∧ ∀ k (h : k < ls.length), ∃ Ak ck, vs[k]? = some (.slice Ak ls[k].length ck) ∧ ls[k].length ≤ ck ∧ EnRd w B Ak ls[k]
theorem TsRd.below {w w' : World} {B : Nat} {A : Option Addr} {ls : List (List En)} (h : TsRd w B A ls) (hb : Below B w w') : TsRd w' B A ls := by
  obtain ⟨vs, h1, h2⟩ := h
  refine ⟨vs, h1.below hb, fun k hk => ?_⟩
  obtain ⟨Ak, ck, e, hc, hr⟩ := h2 k hk
  exact ⟨Ak, ck, e, hc, Rd.below hr hb⟩
theorem TsRd.more {w : World} {B B' : Nat} {A : Option Addr} {ls : List (List En)} (h : TsRd w B A ls) (hB : B ≤ B') : TsRd w B' A ls := by
  obtain ⟨vs, h1, h2⟩ := h
  refine ⟨vs, h1.more hB, fun k hk => ?_⟩
  obtain ⟨Ak, ck, e, hc, hr⟩ := h2 k hk
  exact ⟨Ak, ck, e, hc, Rd.more hr hB⟩
theorem TsRd.at_ {w : World} {B : Nat} {A : Option Addr} {ls : List (List En)} (h : TsRd w B A ls) {k : Nat} (hk : k < ls.length) :
    ∃ b o Ak ck, A = some ⟨b, o, none⟩ ∧ b < B ∧ w.cell? ⟨b, o + k, none⟩ = some (.slice Ak ls[k].length ck) ∧ ls[k].length ≤ ck ∧ EnRd w B Ak ls[k] := by
  obtain ⟨vs, h1, h2⟩ := h
  obtain ⟨b, o, e, hb, hc⟩ := h1.2 (by omega)
  obtain ⟨Ak, ck, e2, hc2, hr⟩ := h2 k hk
  exact ⟨b, o, Ak, ck, e, hb, hc k _ e2, hc2, hr⟩
/-- All trees are of a size that the program bears. -/
def Sms (ls : List (List En)) : Prop := ∀ l ∈ ls, Sm l ∧ l.length ≤ 2305843009213693952
theorem merge_err : ∀ {ls : List (List En)} {m : Nat} {e : Int}, (Tr.mergeL (ls.drop m)).2 = e → e ≠ 0 → Tr.mergeL ls = ([], e)
  | ls, 0, e, h, he => by
    have h : (Tr.mergeL ls).2 = e := h
    have h2 := Tr.mergeL_none (ls := ls) (by rw [h]; exact he)
    rw [← h, ← h2]
  | [], m + 1, e, h, he => by rw [List.drop_nil] at h; exact absurd h.symm he
  | x :: r, m + 1, e, h, he => by
    have ih := merge_err (ls := r) (m := m) h he
    rw [Tr.mergeL, if_pos (by rw [ih]; exact he), ih]
theorem merge_step {ls : List (List En)} {m : Nat} (hm : m < ls.length) (h : (Tr.mergeL (ls.drop (m + 1))).2 = 0) : Tr.mergeL (ls.drop m) = Tr.over ls[m] (Tr.mergeL (ls.drop (m + 1))).1 := by
  rw [List.drop_eq_getElem_cons hm, Tr.mergeL_cons h]
theorem ret_merge {ls : List (List En)} {m : List En} {e : Int} {v : Value} (h : Tr.merge ls = (m, e)) : Ending.returned (.tuple #[v, .int .i64 e]) = .returned (.tuple #[v, .int .i64 (Tr.merge ls).2]) := by rw [h]

/-- What Merge answers. -/
def MergeRel (ls : List (List En)) (w : World) (e : Ending) (w' : World) : Prop :=
  ∃ v, e = .returned (.tuple #[v, .int .i64 (Tr.merge ls).2]) ∧ EnOwn w' w.heap.size v (Tr.merge ls).1 ∧ Below w.heap.size w w'

set_option maxHeartbeats 2000000 in
theorem merge_any (A : Option Addr) (c : Nat) (ls : List (List En)) (w : World) (hl : TsRd w w.heap.size A ls) (hs : Sms ls) :
    Calls Tryz.prog 37 #[.slice A ls.length c] w (MergeRel ls w) := by
  have HS := Lib.hid hs
  clear hs
  unfold MergeRel
  by_cases h5 : 5 < ls.length
  · have HM : Hid (Tr.merge ls = ([], 5)) := Lib.hid (by unfold Tr.merge; rw [if_pos h5])
    go_enter Tryz.func37, Tryz.ntmps37
    go_wp2_with fail
    go_ret2
    exact ⟨_, ret_merge HM.out, by rw [HM.out]; exact EnOwn.nil _ _, Below.refl _ _⟩
  have HM : Hid (Tr.merge ls = Tr.mergeL ls) := Lib.hid (by unfold Tr.merge; rw [if_neg h5])
  go_enter Tryz.func37, Tryz.ntmps37
  go_wp2_with fail
  go_loopw [4, 5] (fun v i wr => ∃ k : Nat, k ≤ ls.length ∧ i = .int .i64 ((k : Int) - 1) ∧ Hid ((Tr.mergeL (ls.drop k)).2 = 0) ∧ EnOwn wr w.heap.size v (Tr.mergeL (ls.drop k)).1 ∧ Below w.heap.size w wr) (fun _ i _ => (intOf i + 1).toNat)
  case atStart =>
    refine ⟨ls.length, Nat.le_refl _, ?_, Lib.hid (by rw [List.drop_length]; rfl), by rw [List.drop_length]; exact EnOwn.nil _ _, Below.refl _ _⟩
    first | rfl | (congr 1; exact IntWalk.i64_in _ (by omega))
  case round =>
    obtain ⟨k, hk, rfl, H0, hown, hB⟩ := hrel
    cases k with
    | zero =>
      have HZ : Hid (Tr.merge ls = ((Tr.mergeL ls).1, 0)) := Lib.hid (by rw [HM.out]; have := H0.out; rw [List.drop_zero] at this; rw [← this])
      rw [List.drop_zero] at hown
      go_wp2_with fail
      go_ret2
      exact ⟨_, ret_merge HZ.out, by rw [HZ.out]; exact hown, hB⟩
    | succ m =>
      have e1 : ((m + 1 : Nat) : Int) - 1 = (m : Int) := by omega
      rw [e1]
      have hml : m < ls.length := by omega
      obtain ⟨b, o, Am, cm, rfl, hb, hc1, hcl, hrd⟩ := (hl.below hB).at_ hml
      have HSt := Lib.hid (merge_step hml H0.out)
      have HR := Lib.hid (Tr.mergeL_right H0.out)
      have hsm := Lib.hid (HS.out _ (List.getElem_mem hml))
      have HE := Lib.hid (fun e => merge_err (ls := ls) (m := m) (e := e))
      have HG : Hid ((Tr.over ls[m] (Tr.mergeL (ls.drop (m + 1))).1).2 = 0 → (Tr.mergeL (ls.drop m)).2 = 0) := Lib.hid (fun h => by rw [HSt.out]; exact h)
      generalize ls[m] = x at hc1 hcl hrd HSt hsm HG
      obtain ⟨out, hout⟩ : ∃ out, out = (Tr.mergeL (ls.drop (m + 1))).1 := ⟨_, rfl⟩
      rw [← hout] at hown HSt HR HG
      clear hout
      obtain ⟨A2, c2, rfl, hc2, rd2⟩ := EnOwn.rd hown
      have cO := over_any Am A2 cm c2 x out wr (Rd.more hrd hB.size) rd2 hcl hc2 hsm.out.1 (Tr.right_sm HR.out.2) hsm.out.2 (by have := HR.out.1; omega)
      unfold OverRel at cO
      have HT : Hid (Tr.mergeL (ls.drop m) = Tr.over x out) := HSt
      clear HSt
      generalize hov : Tr.over x out = ov at cO HT HG
      have HOV := Lib.hid hov
      clear hov
      obtain ⟨res, err⟩ := ov
      dsimp only at cO HG
      go_wp2_with fail
      refine cO.mono ?_
      rintro e w1 ⟨v1, rfl, ho1, hb1⟩
      have hB1 := hB.trans (hb1.mono hB.size)
      have ho1' := own_base ho1 hB.size
      clear hb1 cO
      rcases te : (err != 0) with _ | _
      · have he0 : Hid (err = 0) := Lib.hid (by simpa using te)
        go_wp2_with fail
        go_roundw
        case rel => exact ⟨m, by omega, by go_num, Lib.hid (HG.out he0.out), by rw [HT.out]; exact ho1', hB1⟩
        case measure => simp [intOf]
      · have HZ : Hid (Tr.merge ls = ([], err)) := Lib.hid (by rw [HM.out]; exact HE.out err (by rw [HT.out]) (by simpa using te))
        go_wp2_with fail
        go_ret2
        exact ⟨_, ret_merge HZ.out, by rw [HZ.out]; exact EnOwn.nil _ _, hB1⟩
end Go.Proofs.YtjppfhgkanbemacGreatDoor

namespace Go.Proofs.YtjppfhgkanbemacGreatDoor
open Go.RowKit Go.Shelf Go.Sort

theorem field_faultC (a b : Int) (W : World) : (Instr.field 46 (.agg #[.int .i64 a, .int .i64 b]) 0).run Tryz.prog W = .ok (.int .i64 a) W := by kernel_rfl
theorem info_tr : (Tryz.prog.info? 23).map (fun i => (i.zero, i.size, i.bytes)) = some (some (.slice none 0 0), 1, 24) := by kernel_rfl
theorem Addr.add_plain' (b o k : Nat) : (⟨b, o, none⟩ : Addr).add k = ⟨b, o + k, none⟩ := by
  unfold Addr.add
  split
  · rename_i h; subst h; rfl
  · rfl
theorem TsRd.drop {w : World} {B : Nat} {ad : Addr} {ls : List (List En)} (h : TsRd w B (some ad) ls) (k : Nat) : TsRd w B (some (ad.add k)) (ls.drop k) := by
  obtain ⟨vs, h1, h2⟩ := h
  refine ⟨vs.drop k, ⟨by rw [List.length_drop, List.length_drop, h1.1]; omega, fun hn => ?_⟩, fun j hj => ?_⟩
  · rw [List.length_drop] at hn
    obtain ⟨b', o', e, hb, hc⟩ := h1.2 (by omega)
    cases e
    refine ⟨b', o' + k, by rw [Addr.add_plain'], hb, fun j u hu => ?_⟩
    rw [List.getElem?_drop] at hu
    have := hc (k + j) u hu
    rw [← Nat.add_assoc] at this
    exact this
  · rw [List.length_drop] at hj
    obtain ⟨Ak, ck, f1, f2, f3⟩ := h2 (k + j) (by omega)
    exact ⟨Ak, ck, by rw [List.getElem?_drop, List.getElem_drop]; exact f1, by rw [List.getElem_drop]; exact f2, by rw [List.getElem_drop]; exact f3⟩
theorem TsRd.nil (w : World) (B : Nat) (A : Option Addr) : TsRd w B A [] := ⟨[], Rd.nil, fun k h => absurd h (Nat.not_lt_zero k)⟩
theorem TsRd.take {w : World} {B : Nat} {A : Option Addr} {ls : List (List En)} (h : TsRd w B A ls) (k : Nat) : TsRd w B A (ls.take k) := by
  obtain ⟨vs, h1, h2⟩ := h
  refine ⟨vs.take k, ⟨by rw [List.length_take, List.length_take, h1.1]; omega, fun hn => ?_⟩, fun j hj => ?_⟩
  · rw [List.length_take] at hn
    obtain ⟨b', o', e, hb, hc⟩ := h1.2 (by omega)
    refine ⟨b', o', e, hb, fun j u hu => hc j u ?_⟩
    rw [List.getElem?_take] at hu
    split at hu
    · exact hu
    · cases hu
  · rw [List.length_take] at hj
    obtain ⟨Ak, ck, f1, f2, f3⟩ := h2 j (by omega)
    exact ⟨Ak, ck, by rw [List.getElem?_take, if_pos (by omega), List.getElem_take]; exact f1, by rw [List.getElem_take]; exact f2, by rw [List.getElem_take]; exact f3⟩
theorem Sms.drop {ls : List (List En)} (h : Sms ls) (k : Nat) : Sms (ls.drop k) := fun l hl => h l (List.mem_of_mem_drop hl)
theorem Sms.take {ls : List (List En)} (h : Sms ls) (k : Nat) : Sms (ls.take k) := fun l hl => h l (List.mem_of_mem_take hl)

/-- A row of trees of the call's own; the trees lie ahead of it. -/
def TsOwn (w : World) (base : Nat) (v : Value) (ls : List (List En)) : Prop :=
  ∃ vs : List Value, w.ownsRow base 23 1 v ls.length vs ∧ ∀ k (h : k < ls.length), ∃ Ak ck, vs[k]? = some (.slice Ak ls[k].length ck) ∧ ls[k].length ≤ ck ∧ EnRd w base Ak ls[k]
theorem TsOwn.rd {w : World} {base : Nat} {v : Value} {ls : List (List En)} (h : TsOwn w base v ls) (hb : base ≤ w.heap.size) : ∃ A c, v = .slice A ls.length c ∧ ls.length ≤ c ∧ TsRd w w.heap.size A ls := by
  obtain ⟨vs, h1, h2⟩ := h
  have key : ∀ A, Rd w w.heap.size 1 A ls.length vs → TsRd w w.heap.size A ls := fun A hr => ⟨vs, hr, fun k hk => by
    obtain ⟨Ak, ck, f1, f2, f3⟩ := h2 k hk
    exact ⟨Ak, ck, f1, f2, Rd.more f3 hb⟩⟩
  rcases own_shape h1 with ⟨rfl, h0⟩ | ⟨g, cap, rfl, _, _, hc⟩
  · have e : ls = [] := List.length_eq_zero_iff.1 h0
    subst e
    exact ⟨none, 0, rfl, Nat.le_refl _, TsRd.nil _ _ _⟩
  · exact ⟨some ⟨g, 0, none⟩, cap, rfl, hc, key _ (Rd.of_own h1)⟩
theorem TsOwn.start (w : World) : TsOwn (w.alloc (.cells #[] 23)) w.heap.size (.slice (some ⟨w.heap.size, 0, none⟩) 0 0) [] :=
  ⟨[], World.ownsRow_lit (e := 23) (size := 1) w #[] 0 (Nat.le_refl _) (by decide) rfl, fun k h => absurd h (Nat.not_lt_zero k)⟩
theorem TsOwn.below {w w' : World} {base : Nat} {v : Value} {ls : List (List En)} (h : TsOwn w base v ls) (hb : Below w.heap.size w w') (hB : base ≤ w.heap.size) : TsOwn w' base v ls := by
  obtain ⟨vs, h1, h2⟩ := h
  refine ⟨vs, own_below h1 hb (Nat.le_refl _), fun k hk => ?_⟩
  obtain ⟨Ak, ck, f1, f2, f3⟩ := h2 k hk
  exact ⟨Ak, ck, f1, f2, Rd.below f3 (hb.mono hB)⟩

section
variable {P : Program} (w : World)
/-- 'append(own, x...)', x a slice that reads as these cells, nil or not. -/
theorem run_appR (base : Nat) (t ty e : TypeId) (i : TypeInfo) (z : Value) (size bytes : Nat) (ht : P.underlying t = some (.slice e)) (hi : P.info? e = some i) (hz : i.zero = some z)
    (hsize : i.size = size) (hby : i.bytes = bytes) (hzs : z.cells.size = size) (hsz : 0 < size)
    (v : Value) (n : Nat) (xs : List Value) (hown : w.ownsRow base e size v n xs)
    (A : Option Addr) (m c : Nat) (news : List Value) {B : Nat} (hr : Rd w B size A m news) (hA : A = none → c = 0) (h1 : ∀ u ∈ news, u.oneCell' = true)
    (h63 : n + m ≤ maxLen) (hbytes : (n + m) * bytes ≤ 140737488355328) (hbase : base ≤ w.heap.size) :
    ∃ v' w', (Builtin.append_ #[t, t] ty #[v, .slice A m c]).run P w = .ok v' w' ∧ w'.ownsRow base e size v' (n + m) (xs ++ news) ∧ w.grownBy w' v.ownBlock ∧ (v'.ownBlock = v.ownBlock ∨ v'.ownBlock = some w.heap.size) := by
  rcases A with _ | ad
  · have hm : m = 0 := by
      rcases Nat.eq_zero_or_pos m with h | h
      · exact h
      · obtain ⟨b, o, e', _⟩ := hr.2 h; cases e'
    subst hm
    obtain rfl := hA rfl
    have hn : news = [] := List.length_eq_zero_iff.1 (by rw [hr.1]; simp)
    subst hn
    exact ⟨v, w, run_append_owned_none (P := P) (w := w) base t ty e i size ht hi v n xs hown, by simpa using hown, World.grownBy.refl w _, .inl rfl⟩
  · obtain ⟨v', w', h2, h3, h4, _, h5⟩ := run_append_own_at (P := P) w base t ty e i z size bytes ht hi hz hsize hby hzs hsz v n xs hown ad m c news hr.1 (fun j u hu => by
      have hm : 0 < m := by
        rcases Nat.eq_zero_or_pos m with h | h
        · have : news = [] := List.length_eq_zero_iff.1 (by rw [hr.1, h]; simp)
          rw [this] at hu; cases hu
        · exact h
      obtain ⟨b, o, e', hb, hc⟩ := hr.2 hm
      cases e'
      rw [Addr.add_plain']
      exact hc j u hu) h1 h63 hbytes hbase
    exact ⟨v', w', h2, h3, h4, h5⟩
end

/-- A literal of one tree. -/
theorem one_rd (w : World) {A : Option Addr} {n c : Nat} : Rd (w.alloc (.cells #[.slice A n c] 23)) (w.heap.size + 1) 1 (some ⟨w.heap.size, 0, none⟩) 1 [.slice A n c] :=
  ⟨rfl, fun _ => ⟨_, 0, rfl, Nat.lt_succ_self _, fun j u hu => by rw [Nat.zero_add]; exact ((Blk.new w _ [.slice A n c]).cell j).trans hu⟩⟩

section
variable {w : World} {o : Oper} {a : Act} {Q : Exit → Act → World → Prop} {base : Nat} {v : Value} {ls ms : List (List En)} {A : Option Addr} {c B : Nat} {ws : List Value}
set_option maxRecDepth 100000 in
theorem run_appTs (ty : TypeId) (hown : TsOwn w base v ls) (hr : Rd w B 1 A ms.length ws) (hws : ∀ k (h : k < ms.length), ∃ Ak ck, ws[k]? = some (.slice Ak ms[k].length ck) ∧ ms[k].length ≤ ck ∧ EnRd w base Ak ms[k])
    (hA : A = none → c = 0) (hlen : ls.length + ms.length ≤ 4000000000) (hbase : base ≤ w.heap.size) :
    ∃ v' w', (Builtin.append_ #[24, 24] ty #[v, .slice A ms.length c]).run Tryz.prog w = .ok v' w' ∧ TsOwn w' base v' (ls ++ ms) ∧ w.grownBy w' v.ownBlock := by
  obtain ⟨i0, hi, hz0, hz1, hz2⟩ := info_parts info_tr
  obtain ⟨vs, hvs, hel⟩ := hown
  have h1 : ∀ u ∈ ws, u.oneCell' = true := fun u hu => by
    obtain ⟨k, hk, rfl⟩ := List.getElem_of_mem hu
    obtain ⟨Ak, ck, f1, _, _⟩ := hws k (by have := hr.1; omega)
    rw [List.getElem?_eq_getElem hk] at f1
    injection f1 with f1
    rw [f1]; rfl
  obtain ⟨v', w', h2, h3, h4, _⟩ := run_appR (P := Tryz.prog) w base 24 ty 23 i0 _ 1 24 Tryz.underlying24 hi hz0 hz1 hz2 rfl (by decide) v ls.length vs hvs A ms.length c ws hr hA h1 (by unfold maxLen; omega) (by omega) hbase
  have hb : Below base w w' := (Below.refl base w).grown h4 hbase (fun k e => (hvs.lt k e).1)
  have hl : vs.length = ls.length := by have := hvs.1; omega
  refine ⟨v', w', h2, ⟨vs ++ ws, by rw [List.length_append]; exact h3, fun k hk => ?_⟩, h4⟩
  rw [List.length_append] at hk
  by_cases e : k < ls.length
  · obtain ⟨Ak, ck, f1, f2, f3⟩ := hel k e
    rw [List.getElem_append_left e]
    exact ⟨Ak, ck, by rw [List.getElem?_append_left (by omega)]; exact f1, f2, Rd.below f3 hb⟩
  · obtain ⟨Ak, ck, f1, f2, f3⟩ := hws (k - ls.length) (by omega)
    rw [List.getElem_append_right (by omega)]
    exact ⟨Ak, ck, by rw [List.getElem?_append_right (by omega), hl]; exact f1, f2, Rd.below f3 hb⟩
theorem wpList_appTs {ops : Array Oper} {rest : List Oper} (W : World) (hgd : o.guard = none) (s x : Operand) (ho : o.op = .call { callee := .builtin .append, args := #[s, x], argTypes := #[24, 24] })
    (hs : a.eval s = v) (hown : TsOwn w base v ls) (m : Nat) (hx : a.eval x = .slice A m c) (hm : m = ms.length) (hr : Rd w B 1 A ms.length ws) (hws : ∀ k (h : k < ms.length), ∃ Ak ck, ws[k]? = some (.slice Ak ms[k].length ck) ∧ ms[k].length ≤ ck ∧ EnRd w base Ak ms[k])
    (hA : A = none → c = 0) (hlen : ls.length + ms.length ≤ 4000000000) (hbase : base ≤ w.heap.size) (hW : W = w)
    (h : ∀ v' w', TsOwn w' base v' (ls ++ ms) → w.grownBy w' v.ownBlock → wpList Tryz.prog ops Q rest (a.put o.dst v') w') : wpList Tryz.prog ops Q (o :: rest) a W := by
  subst hW hm
  obtain ⟨v', w', h2, h3, h4⟩ := run_appTs (ty := o.type) hown hr hws hA hlen hbase
  exact Lib.wpList_append_run _ hgd s x _ _ ho _ _ hs hx v' w' h2 (h v' w' h3 h4)
theorem step_appTs {ops : Array Oper} {K : Act → World → Prop} {E : Prop} (W : World) (hgd : o.guard = none) (s x : Operand) (ho : o.op = .call { callee := .builtin .append, args := #[s, x], argTypes := #[24, 24] })
    (hs : a.eval s = v) (hown : TsOwn w base v ls) (m : Nat) (hx : a.eval x = .slice A m c) (hm : m = ms.length) (hr : Rd w B 1 A ms.length ws) (hws : ∀ k (h : k < ms.length), ∃ Ak ck, ws[k]? = some (.slice Ak ms[k].length ck) ∧ ms[k].length ≤ ck ∧ EnRd w base Ak ms[k])
    (hA : A = none → c = 0) (hlen : ls.length + ms.length ≤ 4000000000) (hbase : base ≤ w.heap.size) (hW : W = w)
    (h : ∀ v' w', TsOwn w' base v' (ls ++ ms) → w.grownBy w' v.ownBlock → K (a.put o.dst v') w') : if Region.wanted o (yielded ops a.tmps) = true then Oper.wp Tryz.prog o a W K Q else E := by
  have hw : Region.wanted o (yielded ops a.tmps) = true := by simp [Region.wanted, hgd]
  rw [if_pos hw]
  subst hW hm
  obtain ⟨v', w', h2, h3, h4⟩ := run_appTs (ty := o.type) hown hr hws hA hlen hbase
  exact Lib.wp_append_run _ s x _ _ ho _ _ hs hx v' w' h2 (h v' w' h3 h4)
end
end Go.Proofs.YtjppfhgkanbemacGreatDoor

namespace Go.Proofs.YtjppfhgkanbemacGreatDoor
open Go.RowKit Go.Shelf

theorem eclone_any (A : Option Addr) (c : Nat) (l : List En) (w : World) (hl : EnRd w w.heap.size A l) (hn : l.length ≤ 2000000) :
    Calls Tryz.prog 39 #[.slice A l.length c] w fun e w' => ∃ v, e = .returned v ∧ EnOwn w' w.heap.size v l ∧ Below w.heap.size w w' := by
  obtain ⟨i0, hi, hz0, hz1, hz2⟩ := info_parts info_en
  have hnil := fun W n k => Lib.run_eql_slice_nil (P := Tryz.prog) W 23 53 A n k 0 0 Tryz.underlying23
  rcases A with _ | ad
  · have h0 : l.length = 0 := by
      rcases Nat.eq_zero_or_pos l.length with h | h
      · exact h
      · obtain ⟨b, o, e, _⟩ := hl.2 h; cases e
    have hl0 : l = [] := List.eq_nil_of_length_eq_zero h0
    subst hl0
    simp only [Option.isNone_none] at hnil
    go_enter Tryz.func39, Tryz.ntmps39
    go_wp2_with fail
    go_ret
    exact ⟨_, rfl, EnOwn.nil _ _, Below.refl _ _⟩
  · simp only [Option.isNone_some] at hnil
    have hcell : ∀ (j : Nat) (u : Value), (En.flat l)[j]? = some u → (w.alloc (.cells #[] 53)).cell? (ad.add j) = some u := by
      intro j u hu
      have hj : j < (En.flat l).length := (List.getElem?_eq_some_iff.1 hu).1
      have hn : 0 < l.length := by rw [eflat_len] at hj; omega
      obtain ⟨b, o, e, hb, hc⟩ := hl.2 hn
      cases e
      have ha : (⟨b, o, none⟩ : Addr).add j = ⟨b, o + j, none⟩ := by
        unfold Addr.add
        split
        · rename_i h0; subst h0; rfl
        · rfl
      rw [ha, World.cell?_alloc_lt _ _ _ (by show b < w.heap.size; omega)]
      exact hc j u hu
    go_enter Tryz.func39, Tryz.ntmps39
    go_wp2_with (first
      | (at_builtin; go_must (refine wpList_append_own _ rfl _ _ _ rfl w.heap.size 53 i0 _ 4 48 Tryz.underlying23 hi hz0 hz1 hz2 rfl (by decide) (.slice (some ⟨w.heap.size, 0, none⟩) 0 0) 0 [] rfl (World.ownsRow_lit (e := 53) (size := 4) w #[] 0 (Nat.le_refl _) (by decide) rfl) ad l.length c (En.flat l) rfl (by exact hl.1) (by intro j u hu; exact hcell j u hu) (by intro u hu; exact eflat_one hu) (by unfold maxLen; omega) (by omega) (by simp) ?_); intro v1 w1 ho1 hg1 _))
    go_ret
    refine ⟨_, rfl, by simpa [EnOwn] using ho1, below_grown ((Below.refl _ _).alloc (Nat.le_refl _) _) hg1 (by simp) (fun k hk => by simp [Value.ownBlock] at hk; omega)⟩

theorem app2_same {P : Program} (w : World) (t t2 e e2 ty : TypeId) (ht : P.underlying t = some (.slice e)) (ht2 : P.underlying t2 = some (.slice e2)) (A : Option Addr) (n c : Nat) (x : Value) :
    (Builtin.append_ #[t, t2] ty #[.slice A n c, x]).run P w = (Builtin.append_ #[t, t] ty #[.slice A n c, x]).run P w := by
  simp [Builtin.append_, run_underlying ht, run_underlying ht2]
theorem run_copy4 {P : Program} (w : World) (dT sT ty elem : TypeId) (g o dLen dCap : Nat) (a : Addr) (sLen sCap : Nat) (cur : Array Value) (t : TypeId) (cs : List Value) (m : Nat)
    (hu : P.underlying dT = some (.slice elem)) (hs : (P.info? elem).map (·.size) = some 4)
    (hg : w.heap[g]? = some (.cells cur t (0, 0))) (hm : m = Nat.min sLen dLen) (hn : cs.length = m * 4)
    (hsrc : ∀ j v, cs[j]? = some v → w.cell? (a.add j) = some v) (hfit : o + cs.length ≤ cur.size) (h1 : ∀ v ∈ cs, v.oneCell' = true) :
    (Builtin.copy_ #[dT, sT] ty #[.slice (some ⟨g, o, none⟩) dLen dCap, .slice (some a) sLen sCap]).run P w =
      .ok (goInt m) (w.setRow g (cur.toList.take o ++ cs ++ cur.toList.drop (o + cs.length)).toArray) := by
  have hl := run_loadCells_list (P := P) w a cs hsrc
  have hst := run_storeCells_at P g o t cs 0 cur w hg (by simpa using hfit) h1
  cases hq : P.info? elem with
  | none => simp [hq] at hs
  | some i =>
    have hi : i.size = 4 := by simpa [hq] using hs
    simp only [Nat.add_zero] at hst
    simp [Builtin.copy_, run_underlying hu, Builtin.lenOf, Builtin.firstCells, sizeOf, typeInfo, hq, hi, ← hm, ← hn, hl, hst]

/-- An entry put in at a place. -/
def insAt (l : List En) (k : Nat) (x : En) : List En := l.take k ++ x :: l.drop k
theorem insAt_len (l : List En) (k : Nat) (x : En) (hk : k ≤ l.length) : (insAt l k x).length = l.length + 1 := by
  unfold insAt; rw [List.length_append, List.length_cons, List.length_take, List.length_drop]; omega
theorem insAt_flat (l : List En) (k : Nat) (x : En) : En.flat (insAt l k x) = (En.flat l).take (k * 4) ++ x.cells ++ (En.flat l).drop (k * 4) := by
  unfold insAt
  rw [show l.take k ++ x :: l.drop k = l.take k ++ ([x] ++ l.drop k) from rfl, eflat_append, eflat_append, eflat_take]
  have hd : (En.flat l).drop (k * 4) = En.flat (l.drop k) := by
    have h := eflat_append (l.take k) (l.drop k)
    rw [List.take_append_drop] at h
    rw [h, ← eflat_take, List.drop_append, List.drop_eq_nil_of_le (by rw [List.length_take]; omega), List.nil_append]
    rcases Nat.lt_or_ge l.length k with h1 | h1
    · rw [List.drop_eq_nil_of_le (Nat.le_of_lt h1)]; simp [En.flat]
    · rw [List.length_take, eflat_len, Nat.min_eq_left (by omega), Nat.sub_self, List.drop_zero]
  rw [hd, List.append_assoc]
  rfl
/-- The numbers of tree.Find are those of the insertion. -/
theorem ins_at {l : List En} {x : En} {k : Nat} (hk : k ≤ l.length) (h1 : ∀ t (h : t < l.length), t < k → Pt.cmp l[t].P x.P < 0) (h2 : ∀ t (h : t < l.length), k ≤ t → 0 ≤ Pt.cmp l[t].P x.P) (hno : ∀ y ∈ l, y.P ≠ x.P) : Tr.ins x l = insAt l k x := by
  induction l generalizing k with
  | nil => unfold insAt; simp [Tr.ins]
  | cons y r ih =>
    cases k with
    | zero =>
      have := h2 0 (by simp) (Nat.le_refl _)
      rw [Tr.ins, if_neg (by simpa using this), if_neg (hno y (by simp))]
      rfl
    | succ k =>
      have := h1 0 (by simp) (by omega)
      rw [Tr.ins, if_pos (by simpa using this), ih (k := k) (by simpa using hk) (fun t h ht => h1 (t + 1) (by simpa using h) (by omega)) (fun t h ht => h2 (t + 1) (by simpa using h) (by omega)) (fun z hz => hno z (by simp [hz]))]
      rfl
end Go.Proofs.YtjppfhgkanbemacGreatDoor

namespace Go.Proofs.YtjppfhgkanbemacGreatDoor
open Go.RowKit Go.Shelf

theorem add4 (b o k : Nat) : (⟨b, o, none⟩ : Addr).add k = ⟨b, o + k, none⟩ := by
  unfold Addr.add
  split
  · rename_i h; subst h; rfl
  · rfl
theorem info4 : (Tryz.prog.info? 53).map (·.size) = some 4 := by
  obtain ⟨i0, hi, _, hz1, _⟩ := info_parts info_en
  rw [hi]; simp [hz1]
theorem cells_one (x : En) : ∀ v ∈ x.cells, v.oneCell' = true := by
  intro v hv
  simp [En.cells] at hv
  rcases hv with rfl | rfl | rfl | rfl <;> rfl
theorem cells_len (x : En) : x.cells.length = 4 := rfl

set_option maxHeartbeats 2000000 in
set_option maxRecDepth 100000 in
theorem einsert_end (base g cap vb : Nat) (l : List En) (x : En) (w : World) (ho : EnOwn w base (.slice (some ⟨g, 0, none⟩) l.length cap) l) (hx : Blk w vb 53 x.cells) (hbig : l.length ≤ 1000000) (hbase : base ≤ w.heap.size) :
    Calls Tryz.prog 125 #[.slice (some ⟨g, 0, none⟩) l.length cap, .int .i64 l.length, .slice (some ⟨vb, 0, none⟩) 1 1] w fun e w' => ∃ v, e = .returned v ∧ EnOwn w' base v (insAt l l.length x) ∧ w.grownBy w' (some g) ∧ (v.ownBlock = some g ∨ v.ownBlock = some w.heap.size) := by
  obtain ⟨i0, hi, hz0, hz1, hz2⟩ := info_parts info_en
  obtain ⟨v', w', hrun, own', hg', _, hat⟩ := run_append_own_at (P := Tryz.prog) w base 23 23 53 i0 _ 4 48 Tryz.underlying23 hi hz0 hz1 hz2 rfl (by decide) _ _ _ ho ⟨vb, 0, none⟩ 1 1 x.cells rfl (fun j u hu => by rw [add4, Nat.zero_add]; exact (hx.cell j).trans hu) (cells_one x) (by unfold maxLen; omega) (by omega) hbase
  rw [← app2_same w 23 22 53 53 _ Tryz.underlying23 Tryz.underlying22] at hrun
  have hcap : l.length ≤ cap := by
    rcases own_shape ho with ⟨h, _⟩ | ⟨_, _, h, _, _, hc⟩
    · cases h
    · injection h with _ _ h; rw [h]; exact hc
  have HF : Hid (EnOwn w' base v' (insAt l l.length x)) := Lib.hid (by
    unfold EnOwn
    rw [insAt_len l _ x (Nat.le_refl _), insAt_flat]
    have e1 : (En.flat l).take (l.length * 4) = En.flat l := by rw [List.take_of_length_le]; rw [eflat_len]; exact Nat.le_refl _
    have e2 : (En.flat l).drop (l.length * 4) = [] := by rw [List.drop_eq_nil_of_le]; rw [eflat_len]; exact Nat.le_refl _
    rw [e1, e2, List.append_nil]
    exact own')
  have HAT : Hid (v'.ownBlock = some g ∨ v'.ownBlock = some w.heap.size) := Lib.hid hat
  clear own' ho hat
  go_enter Tryz.func125, Tryz.ntmps125
  go_wp2_with (at_builtin; refine Lib.wpList_append_run _ rfl _ _ _ _ rfl _ _ rfl rfl _ _ hrun ?_)
  all_goals (go_ret; exact ⟨_, rfl, HF.out, hg', HAT.out⟩)

/-- A row's cells, an entry put in. -/
theorem put_cells {cur xs x : List Value} {n k cap : Nat} (hx : x.length = 4) (hs : cur.length = cap * 4) (ht : cur.take (n * 4) = xs) (hk : k ≤ n) (hn : n + 1 ≤ cap) :
    ((cur.take ((k + 1) * 4) ++ xs.drop (k * 4) ++ cur.drop ((k + 1) * 4 + (xs.drop (k * 4)).length)).take (k * 4) ++ x ++ (cur.take ((k + 1) * 4) ++ xs.drop (k * 4) ++ cur.drop ((k + 1) * 4 + (xs.drop (k * 4)).length)).drop (k * 4 + x.length)).take ((n + 1) * 4) = xs.take (k * 4) ++ x ++ xs.drop (k * 4) := by
  have hxl : xs.length = n * 4 := by rw [← ht, List.length_take, hs]; omega
  have e1 : (cur.take ((k + 1) * 4) ++ xs.drop (k * 4) ++ cur.drop ((k + 1) * 4 + (xs.drop (k * 4)).length)).take (k * 4) = xs.take (k * 4) := by
    rw [List.append_assoc, List.take_append_of_le_length (by rw [List.length_take, hs]; omega), List.take_take, Nat.min_eq_left (by omega), ← ht, List.take_take, Nat.min_eq_left (by omega)]
  have e2 : (cur.take ((k + 1) * 4) ++ xs.drop (k * 4) ++ cur.drop ((k + 1) * 4 + (xs.drop (k * 4)).length)).drop (k * 4 + x.length) = xs.drop (k * 4) ++ cur.drop ((k + 1) * 4 + (xs.drop (k * 4)).length) := by
    rw [hx, List.append_assoc, List.drop_append, List.drop_eq_nil_of_le (by rw [List.length_take]; omega), List.nil_append, List.length_take, hs, Nat.min_eq_left (by omega), show k * 4 + 4 - (k + 1) * 4 = 0 by omega, List.drop_zero]
  rw [e1, e2, ← List.append_assoc, List.take_append_of_le_length, List.take_of_length_le]
  · rw [List.length_append, List.length_append, List.length_take, List.length_drop, hx, hxl]; omega
  · rw [List.length_append, List.length_append, List.length_take, List.length_drop, hx, hxl]; omega
theorem grown_setRow {w : World} {g : Nat} {cs : Array Value} : w.grownBy (w.setRow g cs) (some g) :=
  ⟨rfl, rfl, rfl, by simp [World.setRow], fun i _ hne => by
    simp only [World.setRow, Array.getElem?_modify]
    rw [if_neg (fun he => hne (by rw [he]))]⟩
theorem grown_drew {w w' : World} {row : Option Nat} (h : w.drew.grownBy w' row) : w.grownBy w' row := ⟨h.os, h.tape, h.output, h.size, h.block⟩

set_option maxHeartbeats 4000000 in
set_option maxRecDepth 100000 in
theorem einsert_place (base g cap vb k : Nat) (l : List En) (x : En) (w : World) (ho : EnOwn w base (.slice (some ⟨g, 0, none⟩) l.length cap) l) (hx : Blk w vb 53 x.cells) (hne : vb ≠ g) (hk : k < l.length) (hbig : l.length ≤ 1000000) (hroom : l.length + 1 ≤ cap) :
    Calls Tryz.prog 125 #[.slice (some ⟨g, 0, none⟩) l.length cap, .int .i64 k, .slice (some ⟨vb, 0, none⟩) 1 1] w fun e w' => ∃ v, e = .returned v ∧ EnOwn w' base v (insAt l k x) ∧ w.grownBy w' (some g) ∧ (v.ownBlock = some g ∨ v.ownBlock = some w.heap.size) := by
  obtain ⟨hxl, h1 | ⟨g', c', cur, hv, hbg, hh, hnc, hcm, hsz, htk⟩⟩ := ho
  · cases h1.1
  injection hv with hv1 hv2 hv3
  injection hv1 with hv1
  injection hv1 with hv1
  subst hv1 hv3
  obtain ⟨n, hn⟩ : ∃ n, n = l.length := ⟨_, rfl⟩
  rw [← hn] at hk hbig hroom hnc hxl htk ⊢
  have hxs : (En.flat l).length = n * 4 := hxl
  have hc63 : cap ≤ 9223372036854775807 := by unfold maxLen at hcm; exact hcm
  have hcurl : cur.toList.length = cap * 4 := by simpa using hsz
  obtain ⟨c1, hc1⟩ : ∃ c1 : List Value, c1 = cur.toList.take ((k + 1) * 4) ++ (En.flat l).drop (k * 4) ++ cur.toList.drop ((k + 1) * 4 + ((En.flat l).drop (k * 4)).length) := ⟨_, rfl⟩
  obtain ⟨c2, hc2⟩ : ∃ c2 : List Value, c2 = c1.take (k * 4) ++ x.cells ++ c1.drop (k * 4 + x.cells.length) := ⟨_, rfl⟩
  have hdl : ((En.flat l).drop (k * 4)).length = (n - k) * 4 := by rw [List.length_drop, hxs]; omega
  have hc1l : c1.length = cap * 4 := by rw [hc1]; simp only [List.length_append, List.length_take, List.length_drop, hxs, hcurl]; omega
  have hfin := put_cells (x := x.cells) (cells_len x) hcurl htk (Nat.le_of_lt hk) hroom
  rw [← hc1, ← hc2] at hfin
  have hc2l : c2.length = cap * 4 := by rw [hc2, List.length_append, List.length_append, List.length_take, List.length_drop, hc1l, cells_len]; omega
  have hcell : ∀ j u, (En.flat l)[j]? = some u → w.cell? ⟨g, j, none⟩ = some u := fun j u hu => by
    rw [cell_of_row w g j cur _ _ hh]
    rw [← htk, List.getElem?_take] at hu
    split at hu
    · simpa using hu
    · cases hu
  have hcp1 : ∀ ty dc sc, (Builtin.copy_ #[23, 23] ty #[.slice (some ⟨g, (k + 1) * 4, none⟩) (n - k) dc, .slice (some ⟨g, k * 4, none⟩) (n + 1 - k) sc]).run Tryz.prog w.drew = .ok (goInt (n - k : Nat)) (w.drew.setRow g c1.toArray) := fun ty dc sc => by
    rw [hc1]
    exact run_copy4 w.drew _ _ ty 53 g ((k + 1) * 4) (n - k) dc ⟨g, k * 4, none⟩ (n + 1 - k) sc cur _ ((En.flat l).drop (k * 4)) (n - k) Tryz.underlying23 info4 hh (by simp only [Nat.min_def]; split <;> omega) hdl
      (fun j v hj => by rw [add4]; rw [List.getElem?_drop] at hj; exact hcell _ v hj) (by rw [hdl, hsz]; omega) (fun v hv => eflat_one (List.mem_of_mem_drop hv))
  have hcp2 : ∀ ty dc, (Builtin.copy_ #[23, 22] ty #[.slice (some ⟨g, k * 4, none⟩) (n + 1 - k) dc, .slice (some ⟨vb, 0, none⟩) 1 1]).run Tryz.prog (w.drew.setRow g c1.toArray) = .ok (goInt (1 : Nat)) ((w.drew.setRow g c1.toArray).setRow g c2.toArray) := fun ty dc => by
    have h := run_copy4 (P := Tryz.prog) (w.drew.setRow g c1.toArray) 23 22 ty 53 g (k * 4) (n + 1 - k) dc ⟨vb, 0, none⟩ 1 1 c1.toArray _ x.cells 1 Tryz.underlying23 info4 (setRow_heap w.drew g cur _ _ _ hh) (by simp only [Nat.min_def]; split <;> omega) rfl
      (fun j v hj => by
        rw [add4, Nat.zero_add]
        have hb := (grown_setRow (w := w.drew) (g := g) (cs := c1.toArray)).block vb hx.lt (fun e => hne (by injection e))
        exact (World.cell?_of_block hb).trans ((hx.cell j).trans hj)) (by rw [cells_len]; simp [hc1l]; omega) (cells_one x)
    rw [h, hc2]
  have hsa : w.shape? vb = some (53, 4) := by unfold World.shape?; unfold Blk at hx; rw [hx]; rfl
  have hsb : w.shape? g = some (53, cap * 4) := by unfold World.shape?; rw [hh]; simp [hsz]
  have hov : ∀ lb cb, (callFunc 155 #[.slice (some ⟨vb, 0, none⟩) 1 1, .slice (some ⟨g, (k + 1) * 4, none⟩) lb cb]).run Tryz.prog w = .ok (.value (.bool false)) w := fun lb cb => by
    rw [run_callFunc_extern Tryz.func155 (by kernel_rfl) (by kernel_rfl) (by kernel_rfl) (e := Extern.SlicesOverlaps.overlaps #[22, 22] #[4]) (by kernel_rfl),
      Lib.run_overlaps_apart w 22 4 53 Tryz.underlying22 4 (fun w => by kernel_rfl) ⟨vb, 0, none⟩ ⟨g, (k + 1) * 4, none⟩ 1 1 lb cb hne _ _ 4 (cap * 4) hsa hsb (by omega) (hx.frozen _) (hx.frozen _)]
    rfl
  have hmix : Tryz.prog.follows .mixedOrders = true := by kernel_rfl
  have HF : Hid (EnOwn ((w.drew.setRow g c1.toArray).setRow g c2.toArray) base (.slice (some ⟨g, 0, none⟩) (n + 1) cap) (insAt l k x)) := Lib.hid (by
    unfold EnOwn
    rw [insAt_len l k x (by omega), insAt_flat, ← hn]
    refine ⟨by rw [List.length_append, List.length_append, List.length_take, hdl, hxs, cells_len]; omega, .inr ⟨g, cap, c2.toArray, rfl, hbg, ?_, hroom, hcm, by simpa using hc2l, by simpa using hfin⟩⟩
    exact setRow_heap _ g _ _ _ _ (setRow_heap w.drew g cur _ _ _ hh))
  have HG : Hid (w.grownBy ((w.drew.setRow g c1.toArray).setRow g c2.toArray) (some g)) := Lib.hid (grown_drew (grown_trans_row grown_setRow grown_setRow))
  have hz2 : ¬ ((k : Int) = (n : Int)) := by omega
  have hw1 : IntKind.i64.wrap ((k : Int) + 1) = (k : Int) + 1 := IntWalk.i64_in _ (by omega)
  have hb1 : (0 : Int) ≤ (k : Int) + 1 := by omega
  have hin : k ≤ n := by omega
  have htn : ((k : Int) + 1).toNat = k + 1 := by omega
  have hb2 : ¬ (cap = k + 1) := by omega
  have hb3 : (k : Int) ≤ (n : Int) + 1 := by omega
  have hb4 : ¬ (cap = k) := by omega
  clear hh htk hsz hc1 hc2 hcurl hdl hc1l hc2l hfin hcell hx hsa hsb hxl hxs hn
  go_enter Tryz.func125, Tryz.ntmps125
  go_wp2_with (simp only [hov])
  go_region_law_o (refine step_copy_runI rfl _ _ 23 23 rfl _ _ (by simp [Act.eval, Act.put]) (by simp [Act.eval, Act.put]) (hcp1 _ _ _) ?_)
  go_wp2_with (at_builtin; refine wpList_copy_runI _ rfl _ _ 23 22 rfl _ _ rfl rfl (hcp2 _ _) ?_)
  go_ret
  exact ⟨_, rfl, HF.out, HG.out, .inl rfl⟩
end Go.Proofs.YtjppfhgkanbemacGreatDoor

namespace Go.Proofs.YtjppfhgkanbemacGreatDoor
open Go.RowKit Go.Shelf

/-- The new row's cells. -/
theorem new_cells {row xs x : List Value} {n k : Nat} (hx : x.length = 4) (hxl : xs.length = n * 4) (ht : row.take (k * 4) = xs.take (k * 4)) (hr : (n + 1) * 4 ≤ row.length) (hk : k ≤ n) :
    ((row.take (k * 4) ++ x ++ row.drop (k * 4 + x.length)).take ((k + 1) * 4) ++ xs.drop (k * 4) ++ (row.take (k * 4) ++ x ++ row.drop (k * 4 + x.length)).drop ((k + 1) * 4 + (xs.drop (k * 4)).length)).take ((n + 1) * 4) = xs.take (k * 4) ++ x ++ xs.drop (k * 4) := by
  have e1 : (row.take (k * 4) ++ x ++ row.drop (k * 4 + x.length)).take ((k + 1) * 4) = xs.take (k * 4) ++ x := by
    rw [List.take_append_of_le_length (by rw [List.length_append, List.length_take, hx]; omega), List.take_of_length_le (by rw [List.length_append, List.length_take, hx]; omega), ht]
  rw [e1, List.take_append_of_le_length, List.take_of_length_le]
  · simp only [List.length_append, List.length_take, List.length_drop, hx, hxl]; omega
  · simp only [List.length_append, List.length_take, List.length_drop, hx, hxl]; omega

set_option maxHeartbeats 4000000 in
set_option maxRecDepth 100000 in
theorem einsert_new (base g cap vb k : Nat) (l : List En) (x : En) (w : World) (ho : EnOwn w base (.slice (some ⟨g, 0, none⟩) l.length cap) l) (hx : Blk w vb 53 x.cells) (hk : k < l.length) (hbig : l.length ≤ 1000000) (hroom : cap < l.length + 1) (hbase : base ≤ w.heap.size) :
    Calls Tryz.prog 125 #[.slice (some ⟨g, 0, none⟩) l.length cap, .int .i64 k, .slice (some ⟨vb, 0, none⟩) 1 1] w fun e w' => ∃ v, e = .returned v ∧ EnOwn w' base v (insAt l k x) ∧ w.grownBy w' (some g) ∧ (v.ownBlock = some g ∨ v.ownBlock = some w.heap.size) := by
  have hgz : g < w.heap.size := (World.ownsRow.lt ho g rfl).2
  have hcc := fun j u hu => (World.ownsRow.cells ho (g := g) rfl j u hu)
  have hcell : ∀ j u, (En.flat l)[j]? = some u → w.cell? ⟨g, j, none⟩ = some u := fun j u hu => by
    have := hcc j u hu
    rw [add4, Nat.zero_add] at this
    exact this
  clear hcc
  have hxs0 := ho.1
  have hcapn : l.length ≤ cap := by
    rcases own_shape ho with ⟨h, _⟩ | ⟨_, _, h, _, _, hc⟩
    · cases h
    · injection h with _ _ h; rw [h]; exact hc
  clear ho
  obtain ⟨i0, hi0, hz0, hzs, hzb⟩ := info_parts info_en
  obtain ⟨n, hn⟩ : ∃ n, n = l.length := ⟨_, rfl⟩
  rw [← hn] at hk hbig hroom hxs0 hcapn ⊢
  have hxs : (En.flat l).length = n * 4 := hxs0
  have hvw : vb < w.heap.size := hx.lt
  have hkk : (n : Int) + 1 - (k : Int) = ((n + 1 - k : Nat) : Int) := by omega
  have hik : k + (n + 1 - k) = n + 1 := by omega
  have hold : (Builtin.firstCells i0.size k (.slice (some ⟨g, 0, none⟩) k cap)).run Tryz.prog w.drew = .ok ((En.flat l).take (k * 4)).toArray w.drew := by
    rw [hzs]
    exact run_firstCells_some w.drew 4 k ⟨g, 0, none⟩ k cap ((En.flat l).take (k * 4)) (by rw [List.length_take, hxs]; omega) (fun j v hj => by
      rw [add4, Nat.zero_add]
      rw [List.getElem?_take] at hj
      split at hj
      · exact hcell j v hj
      · cases hj)
  have hrz : ∀ ty, (Builtin.append_ #[23, 3] ty #[.slice (some ⟨g, 0, none⟩) k cap, .int .i64 ((n : Int) + 1 - (k : Int))]).run Tryz.prog w =
      .ok (.slice (some ⟨w.heap.size, 0, none⟩) (n + 1) (grownCap w (n + 1) cap 53)) (w.drew.alloc (.cells (((En.flat l).take (k * 4)).toArray ++ Builtin.zeroCells (Value.agg #[.string ⟨#[]⟩, .int .i64 0, .string ⟨#[]⟩, .bool false]).cells (n + 1 - k) ++ Builtin.zeroCells (Value.agg #[.string ⟨#[]⟩, .int .i64 0, .string ⟨#[]⟩, .bool false]).cells (grownCap w (n + 1) cap 53 - (n + 1))) 53)) := fun ty => by
    have h := Lib.run_append_grow_zeros (P := Tryz.prog) w 23 3 ty 53 i0 _ .i64 .i64 Tryz.underlying23 Tryz.underlying3 hi0 hz0 (some ⟨g, 0, none⟩) k cap ((En.flat l).take (k * 4)) hold (n + 1 - k) (by omega) (by omega) (by omega) (by omega) (by rw [hzb]; omega) (by rw [hzb, hik]; exact growslice_fits (by omega) (by omega))
    rw [hik] at h
    rw [hkk]
    exact h
  obtain ⟨G, hG⟩ : ∃ G, G = grownCap w (n + 1) cap 53 := ⟨_, rfl⟩
  obtain ⟨ROW, hROW⟩ : ∃ ROW : Array Value, ROW = ((En.flat l).take (k * 4)).toArray ++ Builtin.zeroCells (Value.agg #[.string ⟨#[]⟩, .int .i64 0, .string ⟨#[]⟩, .bool false]).cells (n + 1 - k) ++ Builtin.zeroCells (Value.agg #[.string ⟨#[]⟩, .int .i64 0, .string ⟨#[]⟩, .bool false]).cells (G - (n + 1)) := ⟨_, rfl⟩
  have hGn : n + 1 ≤ G := by rw [hG]; exact grownCap_ge w _ _ _
  have hGm : G ≤ maxLen := by rw [hG]; exact grownCap_le_maxLen w (n + 1) cap _ (by unfold maxLen; omega)
  rw [← hG] at hrz
  rw [← hROW] at hrz
  have hRl : ROW.toList.length = G * 4 := by
    rw [hROW]
    simp [Builtin.zeroCells, Value.cells, hxs]
    omega
  have hRt : ROW.toList.take (k * 4) = (En.flat l).take (k * 4) := by
    rw [hROW]
    simp only [Array.toList_append, List.append_assoc]
    rw [List.take_append_of_le_length (by simp [hxs]; omega), List.take_of_length_le (by simp [hxs]; omega)]
  obtain ⟨W1, hW1⟩ : ∃ W1, W1 = w.drew.alloc (.cells ROW 53) := ⟨_, rfl⟩
  rw [← hW1] at hrz
  have hblk : W1.heap[w.heap.size]? = some (.cells ROW 53 (0, 0)) := by rw [hW1]; exact heap_alloc_new w.drew _
  have hold1 : ∀ q, q < w.heap.size → W1.heap[q]? = w.heap[q]? := fun q hq => by rw [hW1]; exact Below.heap_alloc w.drew _ q hq
  obtain ⟨r1, hr1⟩ : ∃ r1 : List Value, r1 = ROW.toList.take (k * 4) ++ x.cells ++ ROW.toList.drop (k * 4 + x.cells.length) := ⟨_, rfl⟩
  have hr1l : r1.length = G * 4 := by rw [hr1]; simp only [List.length_append, List.length_take, List.length_drop, hRl, cells_len]; omega
  obtain ⟨r2, hr2⟩ : ∃ r2 : List Value, r2 = r1.take ((k + 1) * 4) ++ (En.flat l).drop (k * 4) ++ r1.drop ((k + 1) * 4 + ((En.flat l).drop (k * 4)).length) := ⟨_, rfl⟩
  have hdl : ((En.flat l).drop (k * 4)).length = (n - k) * 4 := by rw [List.length_drop, hxs]; omega
  have hr2l : r2.length = G * 4 := by rw [hr2]; simp only [List.length_append, List.length_take, List.length_drop, hr1l, hxs]; omega
  have hfin := new_cells (x := x.cells) (cells_len x) hxs hRt (by rw [hRl]; omega) (Nat.le_of_lt hk)
  rw [← hr1, ← hr2] at hfin
  have hcpA : ∀ (W : World), W.heap = W1.heap → ∀ ty dc, (Builtin.copy_ #[23, 22] ty #[.slice (some ⟨w.heap.size, k * 4, none⟩) (n + 1 - k) dc, .slice (some ⟨vb, 0, none⟩) 1 1]).run Tryz.prog W = .ok (goInt (1 : Nat)) (W.setRow w.heap.size r1.toArray) := fun W hW ty dc => by
    have h := run_copy4 (P := Tryz.prog) W 23 22 ty 53 w.heap.size (k * 4) (n + 1 - k) dc ⟨vb, 0, none⟩ 1 1 ROW _ x.cells 1 Tryz.underlying23 info4 (by rw [hW]; exact hblk) (by simp only [Nat.min_def]; split <;> omega) rfl
      (fun j v hj => by
        rw [add4, Nat.zero_add]
        exact (World.cell?_of_block (w := w) (w' := W) (a := ⟨vb, j, none⟩) (by rw [hW]; exact hold1 vb hvw)).trans ((hx.cell j).trans hj)) (by rw [cells_len, ← Array.length_toList, hRl]; omega) (cells_one x)
    rw [h, hr1]
  have hcpB : ∀ (W : World), W.heap = (W1.setRow w.heap.size r1.toArray).heap → ∀ ty dc sc, (Builtin.copy_ #[23, 23] ty #[.slice (some ⟨w.heap.size, (k + 1) * 4, none⟩) (n - k) dc, .slice (some ⟨g, k * 4, none⟩) (n - k) sc]).run Tryz.prog W = .ok (goInt (n - k : Nat)) (W.setRow w.heap.size r2.toArray) := fun W hW ty dc sc => by
    have hgg : W.heap[w.heap.size]? = some (.cells r1.toArray 53 (0, 0)) := by rw [hW]; exact setRow_heap W1 _ _ _ _ _ hblk
    have hg2 : W.heap[g]? = w.heap[g]? := by
      rw [hW]
      have hb := (grown_setRow (w := W1) (g := w.heap.size) (cs := r1.toArray)).block g (by rw [hW1, World.size_alloc]; show g < w.heap.size + 1; omega) (fun e => by injection e; omega)
      rw [hb]; exact hold1 g hgz
    have h := run_copy4 (P := Tryz.prog) W 23 23 ty 53 w.heap.size ((k + 1) * 4) (n - k) dc ⟨g, k * 4, none⟩ (n - k) sc r1.toArray _ ((En.flat l).drop (k * 4)) (n - k) Tryz.underlying23 info4 hgg (by simp only [Nat.min_def]; split <;> omega) hdl
      (fun j v hj => by
        rw [add4]
        rw [List.getElem?_drop] at hj
        exact (World.cell?_of_block (w := w) (w' := W) (a := ⟨g, k * 4 + j, none⟩) hg2).trans (hcell _ v hj)) (by rw [hdl]; simp [hr1l]; omega) (fun v hv => eflat_one (List.mem_of_mem_drop hv))
    rw [h, hr2]
  have HF : ∀ W : World, W.heap = ((W1.setRow w.heap.size r1.toArray).setRow w.heap.size r2.toArray).heap → EnOwn W base (.slice (some ⟨w.heap.size, 0, none⟩) (n + 1) G) (insAt l k x) := fun W hW => by
    unfold EnOwn
    rw [insAt_len l k x (by omega), insAt_flat, ← hn]
    refine ⟨by rw [List.length_append, List.length_append, List.length_take, hdl, hxs, cells_len]; omega, .inr ⟨w.heap.size, G, r2.toArray, rfl, hbase, ?_, hGn, hGm, by simpa using hr2l, by simpa using hfin⟩⟩
    rw [hW]
    exact setRow_heap _ _ _ _ _ _ (setRow_heap W1 _ _ _ _ _ hblk)
  have HG : ∀ q, q < w.heap.size → ((W1.setRow w.heap.size r1.toArray).setRow w.heap.size r2.toArray).heap[q]? = w.heap[q]? := fun q hq => by
    have hs : q < W1.heap.size := by rw [hW1, World.size_alloc]; show q < w.heap.size + 1; omega
    have h1 := (grown_setRow (w := W1) (g := w.heap.size) (cs := r1.toArray)).block q hs (fun e => by injection e; omega)
    have h2 := (grown_setRow (w := W1.setRow w.heap.size r1.toArray) (g := w.heap.size) (cs := r2.toArray)).block q (Nat.lt_of_lt_of_le hs (grown_setRow (w := W1) (g := w.heap.size) (cs := r1.toArray)).size) (fun e => by injection e; omega)
    exact (h2.trans h1).trans (hold1 q hq)
  have HS : ((W1.setRow w.heap.size r1.toArray).setRow w.heap.size r2.toArray).heap.size = w.heap.size + 1 := by
    simp [World.setRow, hW1, World.size_alloc]
  have HEND : Hid (∀ W : World, W.heap = ((W1.setRow w.heap.size r1.toArray).setRow w.heap.size r2.toArray).heap → W.os = w.os → W.tape = w.tape → W.output = w.output → EnOwn W base (.slice (some ⟨w.heap.size, 0, none⟩) (n + 1) G) (insAt l k x) ∧ w.grownBy W (some g)) :=
    Lib.hid (fun W hW h1 h2 h3 => ⟨HF W hW, ⟨h1, h2, h3, by rw [hW, HS]; omega, fun q hq _ => by rw [hW]; exact HG q hq⟩⟩)
  have hG63 : G ≤ 9223372036854775807 := by unfold maxLen at hGm; exact hGm
  have hmix : Tryz.prog.follows .mixedOrders = true := by kernel_rfl
  have hz2 : ¬ ((k : Int) = (n : Int)) := by omega
  have hz3 : (cap : Int) < (n : Int) + 1 := by omega
  have hw1 : IntKind.i64.wrap ((k : Int) + 1) = (k : Int) + 1 := IntWalk.i64_in _ (by omega)
  have hb1 : (0 : Int) ≤ (k : Int) + 1 := by omega
  have hin : k ≤ n := by omega
  have htn : ((k : Int) + 1).toNat = k + 1 := by omega
  have hb3 : (k : Int) ≤ (n : Int) := by omega
  have hGi : ¬ (G = k) := by omega
  have hGim : ¬ (G = k + 1) := by omega
  have hci : ¬ (cap = k) := by omega
  have hb5 : (k : Int) ≤ (n : Int) + 1 := by omega
  have hh1 : (w.alloc (.cells ROW 53)).drew.heap = W1.heap := by rw [hW1]; rfl
  have hh2 : W1.heap = W1.heap := rfl
  clear hkk hik hold hROW hG hRl hRt hblk hold1 hr1 hr2 hr1l hr2l hdl hfin HF HG HS hxs hxs0 hn hcell hx hi0 hz0 hzs hzb
  subst hW1
  have hE : (((w.alloc (.cells ROW 53)).drew.setRow w.heap.size r1.toArray).drew).heap = ((w.drew.alloc (.cells ROW 53)).setRow w.heap.size r1.toArray).heap := rfl
  go_enter Tryz.func125, Tryz.ntmps125
  go_wp2_with (first
    | (at_builtin; refine Lib.wpList_append_run _ rfl _ _ _ _ rfl _ _ rfl rfl _ _ (hrz _) ?_)
    | (at_builtin; refine wpList_copy_runI _ rfl _ _ 23 22 rfl _ _ rfl rfl (hcpA _ rfl _ _) ?_))
  go_region_law_o (refine step_copy_runI rfl _ _ 23 23 rfl (.slice (some ⟨w.heap.size, (k + 1) * 4, none⟩) (n - k) (G - (k + 1))) (.slice (some ⟨g, k * 4, none⟩) (n - k) (cap - k)) (by simp [Act.eval, Act.put]) (by simp [Act.eval, Act.put]) (hcpB _ hE 3 (G - (k + 1)) (cap - k)) ?_)
  go_wp2
  go_ret
  have hfin := HEND.out (((w.alloc (.cells ROW 53)).drew.setRow w.heap.size r1.toArray).drew.setRow w.heap.size r2.toArray) rfl rfl rfl rfl
  exact ⟨_, rfl, hfin.1, hfin.2, .inr rfl⟩

theorem einsert_any (base g cap vb k : Nat) (l : List En) (x : En) (w : World) (ho : EnOwn w base (.slice (some ⟨g, 0, none⟩) l.length cap) l) (hx : Blk w vb 53 x.cells) (hne : vb ≠ g) (hk : k ≤ l.length) (hbig : l.length ≤ 1000000) (hbase : base ≤ w.heap.size) :
    Calls Tryz.prog 125 #[.slice (some ⟨g, 0, none⟩) l.length cap, .int .i64 k, .slice (some ⟨vb, 0, none⟩) 1 1] w fun e w' => ∃ v, e = .returned v ∧ EnOwn w' base v (insAt l k x) ∧ w.grownBy w' (some g) ∧ (v.ownBlock = some g ∨ v.ownBlock = some w.heap.size) := by
  rcases Nat.eq_or_lt_of_le hk with e | h
  · subst e; exact einsert_end base g cap vb l x w ho hx hbig hbase
  · rcases Nat.lt_or_ge cap (l.length + 1) with h1 | h1
    · exact einsert_new base g cap vb k l x w ho hx h hbig h1 hbase
    · exact einsert_place base g cap vb k l x w ho hx hne h hbig h1
set_option maxHeartbeats 1000000 in
theorem einsert_nil (vb : Nat) (x : En) (w : World) (hx : Blk w vb 53 x.cells) :
    Calls Tryz.prog 125 #[.slice none 0 0, .int .i64 0, .slice (some ⟨vb, 0, none⟩) 1 1] w fun e w' => ∃ v, e = .returned v ∧ EnOwn w' w.heap.size v [x] ∧ w.grownBy w' none := by
  obtain ⟨i0, hi, hz0, hz1, hz2⟩ := info_parts info_en
  obtain ⟨v', w', hrun, own', hg', _, _⟩ := run_append_own_at (P := Tryz.prog) w w.heap.size 23 23 53 i0 _ 4 48 Tryz.underlying23 hi hz0 hz1 hz2 rfl (by decide) _ _ _ (EnOwn.nil w w.heap.size) ⟨vb, 0, none⟩ 1 1 x.cells rfl (fun j u hu => by rw [add4, Nat.zero_add]; exact (hx.cell j).trans hu) (cells_one x) (by decide) (by decide) (Nat.le_refl _)
  rw [← app2_same w 23 22 53 53 _ Tryz.underlying23 Tryz.underlying22] at hrun
  go_enter Tryz.func125, Tryz.ntmps125
  go_wp2_with (at_builtin; refine Lib.wpList_append_run _ rfl _ _ _ _ rfl _ _ rfl rfl _ _ hrun ?_)
  all_goals (go_ret; exact ⟨_, rfl, own', hg'⟩)
end Go.Proofs.YtjppfhgkanbemacGreatDoor

namespace Go.Proofs.YtjppfhgkanbemacGreatDoor
open Go.RowKit Go.Shelf

def delAt (l : List En) (k : Nat) : List En := l.take k ++ l.drop (k + 1)
theorem delAt_len (l : List En) (k : Nat) (hk : k < l.length) : (delAt l k).length = l.length - 1 := by
  unfold delAt; rw [List.length_append, List.length_take, List.length_drop]; omega
theorem flat_drop (l : List En) (k : Nat) (hk : k ≤ l.length) : (En.flat l).drop (k * 4) = En.flat (l.drop k) := by
  have h := eflat_append (l.take k) (l.drop k)
  rw [List.take_append_drop] at h
  rw [h, ← eflat_take, List.drop_append, List.drop_eq_nil_of_le (by rw [List.length_take]; omega), List.nil_append, List.length_take, eflat_len, Nat.min_eq_left (by omega), Nat.sub_self, List.drop_zero]
theorem delAt_flat (l : List En) (k : Nat) (hk : k < l.length) : En.flat (delAt l k) = (En.flat l).take (k * 4) ++ (En.flat l).drop ((k + 1) * 4) := by
  unfold delAt
  rw [eflat_append, eflat_take, flat_drop l (k + 1) hk]
theorem without_at {l : List En} {k : Nat} {p : Pt.Bs} (hs : Tr.Srt l) (hk : k < l.length) (hp : l[k].P = p) : Tr.without l p = delAt l k := by
  unfold Tr.without delAt
  have e : l = l.take k ++ ([l[k]] ++ l.drop (k + 1)) := by
    rw [List.singleton_append, ← List.drop_eq_getElem_cons hk, List.take_append_drop]
  have hne : ∀ j (hj : j < l.length), j ≠ k → l[j].P ≠ p := by
    intro j hj hjk he
    rcases Nat.lt_or_gt_of_ne hjk with h | h
    · have := srt_lt hs hk h; rw [hp] at this; rw [he, Pt.cmp_self] at this; omega
    · have := srt_lt hs hj h; rw [hp] at this; rw [he, Pt.cmp_self] at this; omega
  have e1 : (l.take k).filter (fun e => e.P != p) = l.take k := by
    rw [List.filter_eq_self]
    intro y hy
    obtain ⟨j, hj, rfl⟩ := List.getElem_of_mem hy
    rw [List.length_take] at hj
    rw [List.getElem_take]
    simpa using hne j (by omega) (by omega)
  have e2 : (l.drop (k + 1)).filter (fun e => e.P != p) = l.drop (k + 1) := by
    rw [List.filter_eq_self]
    intro y hy
    obtain ⟨j, hj, rfl⟩ := List.getElem_of_mem hy
    rw [List.length_drop] at hj
    rw [List.getElem_drop]
    simpa using hne (k + 1 + j) (by omega) (by omega)
  have e3 : l.filter (fun e => e.P != p) = (l.take k ++ ([l[k]] ++ l.drop (k + 1))).filter (fun e => e.P != p) := congrArg _ e
  rw [e3, List.filter_append, List.filter_append, e1, e2]
  simp [hp]

section
variable {P : Program}
theorem step_app_runE {ops : Array Oper} {o : Oper} {a : Act} {w : World} {K : Act → World → Prop} {Q : Exit → Act → World → Prop} {E : Prop} (hgd : o.guard = none) (s x : Operand) (t tn : TypeId)
    (ho : o.op = .call { callee := .builtin .append, args := #[s, x], argTypes := #[t, tn] }) (vs vx : Value) (hs : a.eval s = vs) (hx : a.eval x = vx)
    {v' : Value} {w' : World} (hr : (Builtin.append_ #[t, tn] o.type #[vs, vx]).run P w = .ok v' w') (h : K (a.put o.dst v') w') : if Region.wanted o (yielded ops a.tmps) = true then Oper.wp P o a w K Q else E := by
  have hw : Region.wanted o (yielded ops a.tmps) = true := by simp [Region.wanted, hgd]
  rw [if_pos hw]
  exact Lib.wp_append_run w s x t tn ho vs vx hs hx v' w' hr h
/-- 'append(s[:k], ..)' where there is room, over a row. -/
theorem run_app_room4 (w : World) (t ty e : TypeId) (ht : P.underlying t = some (.slice e)) (hs : (P.info? e).map (·.size) = some 4) (g k cap m c : Nat) (ad : Addr) (cur : Array Value) (T : TypeId) (cs : List Value)
    (hg : w.heap[g]? = some (.cells cur T (0, 0))) (hn : cs.length = m * 4) (hsrc : ∀ j v, cs[j]? = some v → w.cell? (ad.add j) = some v) (hroom : k + m ≤ cap) (hfit : k * 4 + cs.length ≤ cur.size) (h1 : ∀ v ∈ cs, v.oneCell' = true) :
    (Builtin.append_ #[t, t] ty #[.slice (some ⟨g, 0, none⟩) k cap, .slice (some ad) m c]).run P w = .ok (.slice (some ⟨g, 0, none⟩) (k + m) cap) (w.setRow g (cur.toList.take (k * 4) ++ cs ++ cur.toList.drop (k * 4 + cs.length)).toArray) := by
  have hl := run_loadCells_list (P := P) w ad cs hsrc
  have hst := run_storeCells_at P g (k * 4) T cs 0 cur w hg (by simpa using hfit) h1
  simp only [Nat.add_zero] at hst
  have ha : (⟨g, 0, none⟩ : Addr).add (k * 4) = ⟨g, k * 4, none⟩ := by rw [add4, Nat.zero_add]
  cases hq : P.info? e with
  | none => simp [hq] at hs
  | some i =>
    have hi : i.size = 4 := by simpa [hq] using hs
    simp [Builtin.append_, run_underlying ht, Builtin.lenOf, Builtin.firstCells, sizeOf, typeInfo, hq, hi, ← hn, hl, hroom, ha, hst]
end

theorem zero_en : ∀ w, (zeroValue 53).run Tryz.prog w = .ok (.agg #[.string ⟨#[]⟩, .int .i64 0, .string ⟨#[]⟩, .bool false]) w := fun w => by kernel_rfl

set_option maxHeartbeats 4000000 in
set_option maxRecDepth 100000 in
theorem edelete_any (base g cap k : Nat) (l : List En) (w : World) (ho : EnOwn w base (.slice (some ⟨g, 0, none⟩) l.length cap) l) (hk : k < l.length) (hbig : l.length ≤ 1000000) :
    Calls Tryz.prog 126 #[.slice (some ⟨g, 0, none⟩) l.length cap, .int .i64 k, .int .i64 ((k : Int) + 1)] w fun e w' => ∃ v, e = .returned v ∧ EnOwn w' base v (delAt l k) ∧ w.grownBy w' (some g) := by
  have hmix : Tryz.prog.follows .mixedOrders = true := by kernel_rfl
  obtain ⟨hxl, h1 | ⟨g', c', cur, hv, hbg, hh, hnc, hcm, hsz, htk⟩⟩ := ho
  · cases h1.1
  injection hv with hv1 hv2 hv3
  injection hv1 with hv1
  injection hv1 with hv1
  subst hv1 hv3
  obtain ⟨n, hn⟩ : ∃ n, n = l.length := ⟨_, rfl⟩
  rw [← hn] at hk hbig hnc hxl htk ⊢
  have hxs : (En.flat l).length = n * 4 := hxl
  have hcurl : cur.toList.length = cap * 4 := by simpa using hsz
  have hc63 : cap ≤ 9223372036854775807 := by unfold maxLen at hcm; exact hcm
  have hcell : ∀ j u, (En.flat l)[j]? = some u → w.cell? ⟨g, j, none⟩ = some u := fun j u hu => by
    rw [cell_of_row w g j cur _ _ hh]
    rw [← htk, List.getElem?_take] at hu
    split at hu
    · simpa using hu
    · cases hu
  obtain ⟨news, hnews⟩ : ∃ news, news = (En.flat l).drop ((k + 1) * 4) := ⟨_, rfl⟩
  have hnl : news.length = (n - (k + 1)) * 4 := by rw [hnews, List.length_drop, hxs]; omega
  obtain ⟨A, hA, hsrc⟩ : ∃ A : Addr, (if cap = k + 1 then some (⟨g, 0, none⟩ : Addr) else some ⟨g, (k + 1) * 4, none⟩) = some A ∧ Hid (∀ t u, news[t]? = some u → w.drew.cell? (A.add t) = some u) := by
    by_cases h : cap = k + 1
    · refine ⟨⟨g, 0, none⟩, by simp [h], fun t u hu => ?_⟩
      have h0 : news.length = 0 := by rw [hnl]; omega
      rw [List.length_eq_zero_iff.1 h0] at hu
      simp at hu
    · refine ⟨⟨g, (k + 1) * 4, none⟩, by simp [h], fun t u hu => ?_⟩
      rw [add4]
      rw [hnews, List.getElem?_drop] at hu
      exact hcell _ u hu
  obtain ⟨c1, hc1⟩ : ∃ c1 : List Value, c1 = cur.toList.take (k * 4) ++ news ++ cur.toList.drop (k * 4 + news.length) := ⟨_, rfl⟩
  have hc1l : c1.length = cap * 4 := by rw [hc1]; simp only [List.length_append, List.length_take, List.length_drop, hnl, hcurl]; omega
  have hrun : ∀ ty, (Builtin.append_ #[23, 23] ty #[.slice (some ⟨g, 0, none⟩) k cap, .slice (some A) (n - (k + 1)) (cap - (k + 1))]).run Tryz.prog w.drew = .ok (.slice (some ⟨g, 0, none⟩) (k + (n - (k + 1))) cap) (w.drew.setRow g c1.toArray) := fun ty => by
    rw [hc1]
    exact run_app_room4 w.drew 23 ty 53 Tryz.underlying23 info4 g k cap (n - (k + 1)) (cap - (k + 1)) A cur _ news hh hnl hsrc.out (by omega) (by rw [hnl, hsz]; omega) (fun v hv => by rw [hnews] at hv; exact eflat_one (List.mem_of_mem_drop hv))
  have hown1 : (w.drew.setRow g c1.toArray).ownsRow base 53 4 (.slice (some ⟨g, 0, none⟩) n cap) n (c1.take (n * 4)) :=
    ⟨by rw [List.length_take, hc1l]; omega, .inr ⟨g, cap, c1.toArray, rfl, hbg, setRow_heap w.drew g cur _ _ _ hh, hnc, hcm, by simpa using hc1l, by simp⟩⟩
  have hk1 : k + (n - (k + 1)) = n - 1 := by omega
  rw [hk1] at hrun
  obtain ⟨w9, hcl, ho9, hg9⟩ := run_clear_own (P := Tryz.prog) (size := 4) 23 0 (.agg #[.string ⟨#[]⟩, .int .i64 0, .string ⟨#[]⟩, .bool false]) Tryz.underlying23 zero_en rfl (by simp [Value.cells, Value.oneCell']) hown1 (n - 1) (cap - (n - 1)) (some ⟨g, (n - 1) * 4, none⟩) (by omega) (fun _ => rfl)
  have HF : Hid (EnOwn w9 base (.slice (some ⟨g, 0, none⟩) (n - 1) cap) (delAt l k) ∧ w.grownBy w9 (some g)) := Lib.hid (by
    refine ⟨?_, grown_drew (grown_trans_row grown_setRow hg9)⟩
    unfold EnOwn
    rw [delAt_len l k (by omega), delAt_flat l k (by omega), ← hn]
    have e : (c1.take (n * 4)).take ((n - 1) * 4) = (En.flat l).take (k * 4) ++ (En.flat l).drop ((k + 1) * 4) := by
      rw [List.take_take, Nat.min_eq_left (by omega), hc1, ← hnews, List.take_append_of_le_length (by rw [List.length_append, List.length_take, hcurl, hnl]; omega), List.take_of_length_le (by rw [List.length_append, List.length_take, hcurl, hnl]; omega), ← htk, List.take_take, Nat.min_eq_left (by omega)]
    rw [← e]
    exact ho9)
  have hne1 : ¬ ((k : Int) = (k : Int) + 1) := by omega
  have hw1 : IntKind.i64.wrap ((k : Int) + 1) = (k : Int) + 1 := IntWalk.i64_in _ (by omega)
  have hb1 : (0 : Int) ≤ (k : Int) + 1 := by omega
  have hb2 : (k : Int) + 1 ≤ (n : Int) := by omega
  have hb3 : (k : Int) ≤ (k : Int) + 1 := by omega
  have htn : ((k : Int) + 1).toNat = k + 1 := by omega
  have hin : k ≤ cap := by omega
  have hb4 : k + 1 ≤ n := by omega
  have hb5 : (n : Int) ≤ (cap : Int) := by omega
  have hb6 : n - 1 ≤ n := by omega
  have hb7 : n ≤ cap := hnc
  have hb8 : ¬ (cap = n - 1) := by omega
  clear hh htk hsz hc1 hcurl hc1l hcell hnews hnl hown1 ho9 hg9 hxl hxs hk1 hn hsrc
  go_enter Tryz.func126, Tryz.ntmps126
  go_wp2_with fail
  go_region_law_o (refine step_app_runE rfl _ _ 23 23 rfl _ _ (by simp [Act.eval, Act.put]) (by simp [Act.eval, Act.put]) (hrun _) ?_)
  go_wp2_with (rw [hcl])
  go_ret
  exact ⟨_, rfl, HF.out.1, HF.out.2⟩
end Go.Proofs.YtjppfhgkanbemacGreatDoor
