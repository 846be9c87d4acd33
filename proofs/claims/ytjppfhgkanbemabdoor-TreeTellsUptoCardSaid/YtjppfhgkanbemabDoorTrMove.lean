/-
  tree.Move. (Printed by wip/genmove.py.)
-/
import Derived.Test.YtjppfhgkanbemabDoorTrMvs
namespace Go.Proofs.YtjppfhgkanbemabDoor
open Go.RowKit Go.Shelf Go.Sort

theorem moved_yes {l : List En} {s d : Pt.Bs} {k : Nat} (hk : k < l.length) (h : Tr.stays s d l[k] = true) : Tr.movedL (l.take (k + 1)) s d = Tr.movedL (l.take k) s d ++ [Tr.renE s d l[k]] := by
  unfold Tr.movedL
  rw [List.take_succ_eq_append_getElem hk, List.filter_append, List.map_append, List.filter_cons_of_pos h]; rfl
theorem moved_no {l : List En} {s d : Pt.Bs} {k : Nat} (hk : k < l.length) (h : ¬ Tr.stays s d l[k] = true) : Tr.movedL (l.take (k + 1)) s d = Tr.movedL (l.take k) s d := by
  unfold Tr.movedL
  rw [List.take_succ_eq_append_getElem hk, List.filter_append, List.map_append, List.filter_cons_of_neg h]; simp
theorem moved_le (l : List En) (s d : Pt.Bs) : (Tr.movedL l s d).length ≤ l.length := by
  unfold Tr.movedL; rw [List.length_map]; exact List.length_filter_le _ _
theorem moved_mem {l : List En} {s d : Pt.Bs} {k : Nat} (hk : k < l.length) (h : Tr.stays s d l[k] = true) : Tr.renE s d l[k] ∈ Tr.movedL l s d := by
  unfold Tr.movedL
  exact List.mem_map_of_mem (List.mem_filter.2 ⟨List.getElem_mem hk, h⟩)
theorem move_bad {l : List En} {s d : Pt.Bs} {e : Int} (h : Tr.moveErr l s d = e) (he : e ≠ 0) : Tr.move l s d = ([], e) := by unfold Tr.move; rw [h, if_pos he]
theorem ret_move {l m : List En} {s d : Pt.Bs} {e : Int} {v : Value} (h : Tr.move l s d = (m, e)) : Ending.returned (.tuple #[v, .int .i64 e]) = .returned (.tuple #[v, .int .i64 (Tr.move l s d).2]) := by rw [h]
theorem bytes_of (d : ByteArray) : (⟨d.data.toList.toArray⟩ : ByteArray) = d := bytes_ext (by simp)
theorem ren_bytes {s d y : ByteArray} : (⟨(d.data.toList ++ y.data.toList.drop s.data.toList.length).toArray⟩ : ByteArray) = d ++ y.extract s.size y.size := bytes_ext (by
  rw [ByteArray.data_append, Array.toList_append, Lib.extract_data, size_length, List.take_of_length_le (by rw [List.length_drop, size_length]; exact Nat.le_refl _)])

/-- What Move answers. -/
def MoveRel (l : List En) (s d : Pt.Bs) (w : World) (e : Ending) (w' : World) : Prop :=
  ∃ v, e = .returned (.tuple #[v, .int .i64 (Tr.move l s d).2]) ∧ EnOwn w' w.heap.size v (Tr.move l s d).1 ∧ Below w.heap.size w w'

set_option maxHeartbeats 4000000 in
set_option maxRecDepth 100000 in
theorem move_any (A : Option Addr) (c : Nat) (l : List En) (s d : ByteArray) (w : World) (hl : EnRd w w.heap.size A l) (hc : l.length ≤ c) (hs : Sm l) (hsz : s.size < 4294967281) (hdz : d.size < 4294967281) (hn : l.length ≤ 2305843009213693952) :
    Calls Tryd.prog 12 #[.slice A l.length c, .string s, .string d] w (MoveRel l s.data.toList d.data.toList w) := by
  obtain ⟨i0, hi, hz0, hz1, hz2⟩ := info_parts info_en
  have c1 := fun W h => wrongT_any A c l W h hc hs hn
  obtain ⟨pt, hpt⟩ : ∃ pr, pr = Tr.wrong l false := ⟨_, rfl⟩
  rw [← hpt] at c1
  have HT := Lib.hid hpt.symm
  have HS := Lib.hid hs
  obtain ⟨y, y'⟩ := pt
  clear hpt hs
  dsimp only at c1
  have hB0 := Below.refl w.heap.size w
  unfold MoveRel
  go_enter Tryd.func12, Tryd.ntmps12
  go_wp2_with fail
  refine (c1 w hl).mono ?_
  rintro e w1 ⟨rfl, hb⟩
  have hB1 := hB0.trans (hb.mono hB0.size)
  clear hb hB0 c1
  have hB2 := hB1.alloc hB1.size (.cells #[.int .i64 y, .int .i64 y'] 29)
  have hq2 := Blk.new w1 29 [.int .i64 y, .int .i64 y']
  clear hB1
  rcases ty : (y != 0) with _ | _
  rotate_left
  · have HO : Hid (Tr.move l s.data.toList d.data.toList = ([], y)) := Lib.hid (move_bad (by unfold Tr.moveErr; rw [HT.out, if_pos (by simpa using ty)]) (by simpa using ty))
    go_wp2_with fail
    generalize w1.alloc (.cells #[.int .i64 y, .int .i64 y'] 29) = w2 at *
    generalize w1.heap.size = g1 at *
    obtain ⟨q0, q1, qf, qz⟩ := hq2.two
    go_quiet (fail)
    go_wp2_with fail
    go_ret2
    exact ⟨_, ret_move HO.out, by rw [HO.out]; exact EnOwn.nil _ _, below_drewN hB2 _⟩
  have HT0 : Hid ((Tr.wrong l false).1 = 0) := Lib.hid (by rw [HT.out]; simpa using ty)
  have hl80 := ((Tr.wrong_zero l false).1 HT0.out).1
  have RT := Lib.hid ((Tr.wrong_zero l false).1 HT0.out).2
  go_wp2_with fail
  generalize w1.alloc (.cells #[.int .i64 y, .int .i64 y'] 29) = w2 at *
  clear hq2
  have cM := moves_any A c l s d w2 ((hl.below hB2).more hB2.size) HS.out RT.out.2.1 hsz hdz (by omega)
  have HE1 := Lib.hid (show Tr.movesErr l s.data.toList d.data.toList ≠ 0 → Tr.move l s.data.toList d.data.toList = ([], Tr.movesErr l s.data.toList d.data.toList) from fun h => move_bad (by unfold Tr.moveErr; rw [if_neg (by simp [HT0.out]), if_pos h]) h)
  have HE2 := Lib.hid (show Tr.movesErr l s.data.toList d.data.toList = 0 → Tr.moveErr l s.data.toList d.data.toList = if (Tr.movedL l s.data.toList d.data.toList).any (fun e => !Pt.clean e.P) = true then 4 else 0 from fun h => by unfold Tr.moveErr; rw [if_neg (by simp [HT0.out]), if_neg (by simp [h])])
  have HE3 := Lib.hid (show Tr.movesErr l s.data.toList d.data.toList = 0 → (Tr.movedL l s.data.toList d.data.toList).Pairwise fun x y => x.P ≠ y.P from fun h => Tr.moved_ne RT.out h)
  have HE4 := Lib.hid (show Tr.movesErr l s.data.toList d.data.toList = 0 → s.data.toList ≠ [] from fun h => by obtain ⟨_, _, h, _⟩ := Tr.moves_ok h; exact h)
  generalize Tr.movesErr l s.data.toList d.data.toList = z at cM HE1 HE2 HE3 HE4
  refine cM.mono ?_
  rintro e w3 ⟨rfl, hb⟩
  have hB3 := hB2.trans (hb.mono hB2.size)
  clear hb hB2 cM
  rcases tz : (z != 0) with _ | _
  rotate_left
  · have HO := Lib.hid (HE1.out (by simpa using tz))
    go_wp2_with fail
    go_ret2
    exact ⟨_, ret_move HO.out, by rw [HO.out]; exact EnOwn.nil _ _, hB3⟩
  have HER := Lib.hid (HE2.out (by simpa using tz))
  have HNE := Lib.hid (HE3.out (by simpa using tz))
  have HS0 := Lib.hid (HE4.out (by simpa using tz))
  clear HE1 HE2 HE3 HE4
  go_wp2_with fail
  go_loopw [10, 29] (fun v i wr => ∃ k : Nat, k ≤ l.length ∧ i = .int .i64 k ∧ EnOwn wr w.heap.size v (Tr.movedL (l.take k) s.data.toList d.data.toList) ∧ Hid (∀ e ∈ Tr.movedL (l.take k) s.data.toList d.data.toList, Pt.clean e.P = true) ∧ Below w.heap.size w wr) (fun _ i _ => l.length - (intOf i).toNat)
  case atStart => exact ⟨0, Nat.zero_le _, rfl, EnOwn.nil _ _, Lib.hid (fun _ h => nomatch h), hB3⟩
  case round =>
    obtain ⟨k, hk, rfl, hown, HC, hB⟩ := hrel
    clear hB3
    by_cases hlt : k < l.length
    · obtain ⟨b, o, rfl, hb, h0, h1, h2, h3⟩ := (EnRd.at_ (hl.below hB) hlt)
      have HY := Lib.hid (moved_yes (s := s.data.toList) (d := d.data.toList) hlt)
      have HNO := Lib.hid (moved_no (s := s.data.toList) (d := d.data.toList) hlt)
      have HBAD := Lib.hid (show Tr.stays s.data.toList d.data.toList l[k] = true → Pt.clean (Tr.renE s.data.toList d.data.toList l[k]).P = false → Tr.move l s.data.toList d.data.toList = ([], 4) from fun h h2 => move_bad (by
        rw [HER.out, if_pos]
        exact List.any_eq_true.2 ⟨_, moved_mem hlt h, by rw [h2]; rfl⟩) (by decide))
      have hle : (Tr.movedL (l.take k) s.data.toList d.data.toList).length ≤ k := Nat.le_trans (moved_le _ _ _) (by rw [List.length_take]; omega)
      have hzz := (HS.out.at_ hlt).1
      generalize l[k] = z at h0 h1 h2 h3 HY HNO HBAD hzz
      obtain ⟨yp, yk, yt, yo⟩ := z
      dsimp only at h0 h1 h2 h3 hzz
      rcases te : (yp.toList == s.toList) with _ | _
      rotate_left
      · have hq : yp.data.toList = s.data.toList := by rw [toList_beq] at te; simpa using te
        have HP : Hid (Tr.renE s.data.toList d.data.toList ⟨yp, yk, yt, yo⟩ = ⟨d, yk, yt, yo⟩) := Lib.hid (by
          unfold Tr.renE
          rw [if_pos (show (⟨yp, yk, yt, yo⟩ : En).P = _ from hq), bytes_of])
        have HST : Hid (Tr.stays s.data.toList d.data.toList ⟨yp, yk, yt, yo⟩ = true) := Lib.hid (Tr.stays_iff.2 (.inl (.inl hq)))
        clear hq
        go_wp2_with fail
        clear h0 h1 h2 h3 hb
        have hy5 := Blk.new wr 32 [.string d, .int .i64 yk, .string yt, .bool yo]
        have hB5 := hB.alloc hB.size (.cells #[.string d, .int .i64 yk, .string yt, .bool yo] 32)
        have ho5 : EnOwn _ w.heap.size u10 _ := own_alloc hown (.cells #[.string d, .int .i64 yk, .string yt, .bool yo] 32)
        clear hB hown
        generalize wr.alloc (.cells #[.string d, .int .i64 yk, .string yt, .bool yo] 32) = w5 at *
        refine (clean_any d w5 (by omega)).mono ?_
        rintro e w6 ⟨rfl, hb6⟩
        have hB6 := hB5.trans (hb6.mono hB5.size)
        have hy6 := hy5.below hb6 hy5.lt
        have ho6 : EnOwn w6 w.heap.size u10 _ := own_below ho5 hb6 (Nat.le_refl _)
        clear hb6 hB5 hy5 ho5
        obtain ⟨y0, y1, y2, y3, yfr, yz⟩ := hy6.four
        rcases tc : Pt.clean d.data.toList with _ | _
        · have HO := Lib.hid (HBAD.out HST.out (by rw [HP.out]; exact tc))
          clear HBAD HY HNO
          go_wp2_with fail
          go_ret2
          exact ⟨_, ret_move HO.out, by rw [HO.out]; exact EnOwn.nil _ _, hB6⟩
        · have HN := Lib.hid (HY.out HST.out)
          rw [HP.out] at HN
          have HCL := Lib.hid (show ∀ e ∈ Tr.movedL (l.take (k + 1)) s.data.toList d.data.toList, Pt.clean e.P = true from fun e he => by
            rw [HN.out] at he
            rcases List.mem_append.1 he with he | he
            · exact HC.out e he
            · rw [List.mem_singleton.1 he]; exact tc)
          clear HBAD HY HNO
          go_wp2_with (at_builtin; go_must (refine wpList_app1 w6 rfl _ _ _ rfl w.heap.size 32 i0 _ 4 48 Tryd.underlying23 hi hz0 hz1 hz2 rfl (by decide) u10 _ _ rfl ho6 [.string d, .int .i64 yk, .string yt, .bool yo] rfl rfl (by simp [Value.oneCell']) (by omega) (by decide) hB6.size _ rfl ?_); intro v9 w9 own9 hg9 _)
          go_roundw
          case rel => exact ⟨k + 1, by omega, by go_num, EnOwn.snoc (y := ⟨d, yk, yt, yo⟩) own9 HN.out, HCL, hB6.grown hg9 hB6.size (fun q e' => (World.ownsRow.lt ho6 q e').1)⟩
          case measure => simp [intOf]; omega
      have hq : ¬ yp.data.toList = s.data.toList := by rw [toList_beq] at te; simpa using te
      go_wp2_with fail
      refine (under_any yp s _ (by omega)).mono ?_
      rintro e w' ⟨rfl, rfl⟩
      rcases tu : Pt.under yp.data.toList s.data.toList with _ | _
      rotate_left
      · have hlen : s.size < yp.size := by
          have := Tr.under_len HS0.out tu
          rw [size_length, size_length] at this; exact this
        obtain ⟨np, hnp⟩ : ∃ np, np = d ++ yp.extract s.size yp.size := ⟨_, rfl⟩
        have hnz : np.size ≤ 140737488355328 := by rw [hnp]; simp; omega
        have HP : Hid (Tr.renE s.data.toList d.data.toList ⟨yp, yk, yt, yo⟩ = ⟨np, yk, yt, yo⟩) := Lib.hid (by
          unfold Tr.renE
          rw [if_neg (show ¬ (⟨yp, yk, yt, yo⟩ : En).P = _ from hq), if_pos (show Pt.under (⟨yp, yk, yt, yo⟩ : En).P _ = true from tu), hnp, ← ren_bytes]; rfl)
        have HST : Hid (Tr.stays s.data.toList d.data.toList ⟨yp, yk, yt, yo⟩ = true) := Lib.hid (Tr.stays_iff.2 (.inl (.inr tu)))
        have hle2 : s.size ≤ yp.size := Nat.le_of_lt hlen
        clear hq
        go_wp2_with fail
        clear h0 h1 h2 h3 hb
        rw [← hnp]
        clear hnp
        have hy5 := Blk.new wr 32 [.string np, .int .i64 yk, .string yt, .bool yo]
        have hB5 := hB.alloc hB.size (.cells #[.string np, .int .i64 yk, .string yt, .bool yo] 32)
        have ho5 : EnOwn _ w.heap.size u10 _ := own_alloc hown (.cells #[.string np, .int .i64 yk, .string yt, .bool yo] 32)
        clear hB hown
        generalize wr.alloc (.cells #[.string np, .int .i64 yk, .string yt, .bool yo] 32) = w5 at *
        refine (clean_any np w5 (by omega)).mono ?_
        rintro e w6 ⟨rfl, hb6⟩
        have hB6 := hB5.trans (hb6.mono hB5.size)
        have hy6 := hy5.below hb6 hy5.lt
        have ho6 : EnOwn w6 w.heap.size u10 _ := own_below ho5 hb6 (Nat.le_refl _)
        clear hb6 hB5 hy5 ho5
        obtain ⟨y0, y1, y2, y3, yfr, yz⟩ := hy6.four
        rcases tc : Pt.clean np.data.toList with _ | _
        · have HO := Lib.hid (HBAD.out HST.out (by rw [HP.out]; exact tc))
          clear HBAD HY HNO
          go_wp2_with fail
          go_ret2
          exact ⟨_, ret_move HO.out, by rw [HO.out]; exact EnOwn.nil _ _, hB6⟩
        · have HN := Lib.hid (HY.out HST.out)
          rw [HP.out] at HN
          have HCL := Lib.hid (show ∀ e ∈ Tr.movedL (l.take (k + 1)) s.data.toList d.data.toList, Pt.clean e.P = true from fun e he => by
            rw [HN.out] at he
            rcases List.mem_append.1 he with he | he
            · exact HC.out e he
            · rw [List.mem_singleton.1 he]; exact tc)
          clear HBAD HY HNO
          go_wp2_with (at_builtin; go_must (refine wpList_app1 w6 rfl _ _ _ rfl w.heap.size 32 i0 _ 4 48 Tryd.underlying23 hi hz0 hz1 hz2 rfl (by decide) u10 _ _ rfl ho6 [.string np, .int .i64 yk, .string yt, .bool yo] rfl rfl (by simp [Value.oneCell']) (by omega) (by decide) hB6.size _ rfl ?_); intro v9 w9 own9 hg9 _)
          go_roundw
          case rel => exact ⟨k + 1, by omega, by go_num, EnOwn.snoc (y := ⟨np, yk, yt, yo⟩) own9 HN.out, HCL, hB6.grown hg9 hB6.size (fun q e' => (World.ownsRow.lt ho6 q e').1)⟩
          case measure => simp [intOf]; omega
      have HP : Hid (Tr.renE s.data.toList d.data.toList ⟨yp, yk, yt, yo⟩ = ⟨yp, yk, yt, yo⟩) := Lib.hid (by
        unfold Tr.renE
        rw [if_neg (show ¬ (⟨yp, yk, yt, yo⟩ : En).P = _ from hq), if_neg (show ¬ Pt.under (⟨yp, yk, yt, yo⟩ : En).P _ = true by show ¬ Pt.under yp.data.toList _ = true; rw [tu]; decide)])
      rcases td : (yp.toList == d.toList) with _ | _
      rotate_left
      · have HN := Lib.hid (HNO.out (fun h => by
          rcases Tr.stays_iff.1 h with (h | h) | h
          · exact hq h
          · have h : Pt.under yp.data.toList s.data.toList = true := h
            rw [tu] at h; cases h
          · exact h (by show yp.data.toList = _; rw [toList_beq] at td; simpa using td)))
        have hB5 := hB.alloc hB.size (.cells #[.string yp, .int .i64 yk, .string yt, .bool yo] 32)
        have ho5 : EnOwn _ w.heap.size u10 _ := own_alloc hown (.cells #[.string yp, .int .i64 yk, .string yt, .bool yo] 32)
        clear HY HNO HBAD hq
        go_wp2_with fail
        go_roundw
        case rel => exact ⟨k + 1, by omega, by go_num, by rw [HN.out]; exact ho5, by rw [HN.out]; exact HC, hB5⟩
        case measure => simp [intOf]; omega
      · have HST : Hid (Tr.stays s.data.toList d.data.toList ⟨yp, yk, yt, yo⟩ = true) := Lib.hid (Tr.stays_iff.2 (.inr (by
          show yp.data.toList ≠ _
          rw [toList_beq] at td; simpa using td)))
        clear hq
        go_wp2_with fail
        clear h0 h1 h2 h3 hb
        have hy5 := Blk.new wr 32 [.string yp, .int .i64 yk, .string yt, .bool yo]
        have hB5 := hB.alloc hB.size (.cells #[.string yp, .int .i64 yk, .string yt, .bool yo] 32)
        have ho5 : EnOwn _ w.heap.size u10 _ := own_alloc hown (.cells #[.string yp, .int .i64 yk, .string yt, .bool yo] 32)
        clear hB hown
        generalize wr.alloc (.cells #[.string yp, .int .i64 yk, .string yt, .bool yo] 32) = w5 at *
        refine (clean_any yp w5 (by omega)).mono ?_
        rintro e w6 ⟨rfl, hb6⟩
        have hB6 := hB5.trans (hb6.mono hB5.size)
        have hy6 := hy5.below hb6 hy5.lt
        have ho6 : EnOwn w6 w.heap.size u10 _ := own_below ho5 hb6 (Nat.le_refl _)
        clear hb6 hB5 hy5 ho5
        obtain ⟨y0, y1, y2, y3, yfr, yz⟩ := hy6.four
        rcases tc : Pt.clean yp.data.toList with _ | _
        · have HO := Lib.hid (HBAD.out HST.out (by rw [HP.out]; exact tc))
          clear HBAD HY HNO
          go_wp2_with fail
          go_ret2
          exact ⟨_, ret_move HO.out, by rw [HO.out]; exact EnOwn.nil _ _, hB6⟩
        · have HN := Lib.hid (HY.out HST.out)
          rw [HP.out] at HN
          have HCL := Lib.hid (show ∀ e ∈ Tr.movedL (l.take (k + 1)) s.data.toList d.data.toList, Pt.clean e.P = true from fun e he => by
            rw [HN.out] at he
            rcases List.mem_append.1 he with he | he
            · exact HC.out e he
            · rw [List.mem_singleton.1 he]; exact tc)
          clear HBAD HY HNO
          go_wp2_with (at_builtin; go_must (refine wpList_app1 w6 rfl _ _ _ rfl w.heap.size 32 i0 _ 4 48 Tryd.underlying23 hi hz0 hz1 hz2 rfl (by decide) u10 _ _ rfl ho6 [.string yp, .int .i64 yk, .string yt, .bool yo] rfl rfl (by simp [Value.oneCell']) (by omega) (by decide) hB6.size _ rfl ?_); intro v9 w9 own9 hg9 _)
          go_roundw
          case rel => exact ⟨k + 1, by omega, by go_num, EnOwn.snoc (y := ⟨yp, yk, yt, yo⟩) own9 HN.out, HCL, hB6.grown hg9 hB6.size (fun q e' => (World.ownsRow.lt ho6 q e').1)⟩
          case measure => simp [intOf]; omega
    · obtain rfl : k = l.length := by omega
      rw [List.take_length] at hown HC
      have HO : Hid (Tr.move l s.data.toList d.data.toList = (Tr.sortL (Tr.movedL l s.data.toList d.data.toList), 0)) := Lib.hid (by
        unfold Tr.move
        rw [HER.out, if_neg (show ¬ (Tr.movedL l s.data.toList d.data.toList).any (fun e => !Pt.clean e.P) = true from fun h => by
          obtain ⟨e, he, h2⟩ := List.any_eq_true.1 h
          rw [HC.out e he] at h2; cases h2), if_neg (by simp)])
      have HU := Lib.hid (fun (m : List En) hp h => Tr.sort_uniq (m := m) HNE.out hp h)
      have HSM : Hid (∀ e ∈ Tr.movedL l s.data.toList d.data.toList, e.p.size < 4294967281) := Lib.hid (fun e he => by
        have := Tr.clean_len (HC.out e he)
        have h2 : e.P.length = e.p.size := size_length e.p
        omega)
      have hle0 := moved_le l s.data.toList d.data.toList
      clear HER HNE HC
      generalize Tr.movedL l s.data.toList d.data.toList = out at *
      rcases own_shape hown with ⟨hv, h0⟩ | ⟨g, cap, hv, hbg, _, _⟩
      · subst hv
        have e0 : out = [] := List.length_eq_zero_iff.1 h0
        subst e0
        go_wp2_with fail
        refine (sortE_nil _ _).mono ?_
        rintro e w9 ⟨rfl, rfl⟩
        go_wp2_with fail
        go_ret2
        exact ⟨_, ret_move HO.out, by rw [HO.out]; exact EnOwn.nil _ _, hB⟩
      · subst hv
        have eg : ∀ args w, (callFunc 40 args).run Tryd.prog w = .ok (.enter 40 args) w := enters_of Tryd.func40 (by kernel_rfl) rfl
        have cS := sortE_any 40 eg (fun x y hx hy W => move1_any x y hx hy W) w.heap.size g cap out wr hown HSM.out (by omega)
        go_wp2_with fail
        refine cS.mono ?_
        rintro e w9 ⟨rfl, m, hp, hsm, ho9, hg9⟩
        have hm := HU.out m hp hsm
        go_wp2_with fail
        go_ret2
        exact ⟨_, ret_move HO.out, by rw [HO.out, ← hm]; show EnOwn _ _ _ m; rw [← hp.length_eq] at ho9 ⊢; exact ho9, hB.grown hg9 hB.size (fun q e' => by cases e'; exact hbg)⟩
end Go.Proofs.YtjppfhgkanbemabDoor
