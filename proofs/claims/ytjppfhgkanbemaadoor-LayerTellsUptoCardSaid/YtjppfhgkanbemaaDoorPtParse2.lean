/-
  Parse and SameTexts, as the document has them.
-/
import Derived.Test.YtjppfhgkanbemaaDoorPtParse
namespace Go.Proofs.YtjppfhgkanbemaaDoor
open Go.RowKit Go.Shelf

theorem take_filter_next {xs : List Pt.Bs} {k : Nat} (hk : k < xs.length) (h : Pt.counts xs[k] = true) : (xs.take (k + 1)).filter Pt.counts = (xs.take k).filter Pt.counts ++ [xs[k]] := by
  rw [List.take_succ_eq_append_getElem hk]; exact filter_snoc h
theorem take_filter_skip {xs : List Pt.Bs} {k : Nat} (hk : k < xs.length) (h : Pt.counts xs[k] = false) : (xs.take (k + 1)).filter Pt.counts = (xs.take k).filter Pt.counts := by
  rw [List.take_succ_eq_append_getElem hk]; exact filter_skip h

set_option maxRecDepth 100000 in
set_option maxHeartbeats 2000000 in
theorem refParse_any (s : ByteArray) (w : World) (hs : s.size < 4294967281) :
    Calls Tryd.prog 22 #[.string s] w (Parsed w s) := by
  rcases Nat.lt_or_ge 80 s.size with hlen | hlen
  · have HE := Lib.hid (parse_long hlen)
    go_enter Tryd.func22, Tryd.ntmps22
    go_wp2
    go_ret2
    exact Parsed.none HE.out (Below.refl _ w)
  by_cases h0 : s.data.toList = []
  · have HE := Lib.hid (show Pt.parse s.data.toList = ([], 6) by rw [h0]; rfl)
    have hz : ((s.size : Int) == 0) = true := by rw [← size_length, h0]; rfl
    clear h0
    go_enter Tryd.func22, Tryd.ntmps22
    go_wp2
    go_ret2
    exact Parsed.none HE.out (Below.refl _ w)
  have HB := Lib.hid (fun h => parse_bad hlen h0 h)
  have HG := Lib.hid (fun h => parse_good hlen h0 h)
  have hz : ((s.size : Int) == 0) = false := by
    rw [beq_eq_false_iff_ne, ← size_length]
    cases h : s.data.toList with
    | nil => exact absurd h h0
    | cons _ _ => simp; omega
  have l1 := split_len_le s.data.toList
  rw [size_length] at l1
  have c1 := refSplit_form s w hs
  have HP := Lib.hid (piece_len s.data.toList)
  obtain ⟨i0, hi, hz0, hz1, hz2⟩ := info_parts info_str
  clear h0
  generalize Pt.split s.data.toList = xs at c1 l1 HP HB HG
  go_enter Tryd.func22, Tryd.ntmps22
  go_wp2_with fail
  refine c1.mono ?_
  rintro e w1 ⟨g1, k1, rfl, hx1, hg1, hl1, hb1⟩
  clear c1
  have HX := Lib.hid hx1
  clear hx1
  go_wp2_with fail
  go_loopw [4, 16] (fun v i wr => ∃ k : Nat, k ≤ xs.length ∧ i = .int .i64 k ∧ Hid (StrAt wr g1 xs) ∧ g1 < w1.heap.size ∧ w1.heap.size ≤ wr.heap.size ∧ StrOwn wr w1.heap.size v ((xs.take k).filter Pt.counts) ∧ Below w.heap.size w wr ∧ Hid (((xs.take k).filter Pt.counts).all Pt.fine = true)) (fun _ i _ => xs.length - (intOf i).toNat)
  case atStart => exact ⟨0, Nat.zero_le _, rfl, HX, hl1, Nat.le_refl _, World.ownsRow_nil _ _ _ _, hb1, Lib.hid rfl⟩
  case round =>
    obtain ⟨k, hk, rfl, HX2, hl2, hsz, hS, hB, HA⟩ := hrel
    clear HX
    by_cases hlt : k < xs.length
    · have hnum : ((xs.take k).filter Pt.counts).length ≤ 81 := by
        have h4 := List.length_filter_le Pt.counts (xs.take k)
        rw [List.length_take] at h4
        omega
      have a1 := HX2.out k hlt
      have hx : xs[k].length ≤ s.size := by rw [← size_length]; exact HP.out _ (List.getElem_mem hlt)
      have HM := Lib.hid (List.getElem_mem hlt)
      have HN := Lib.hid (take_filter_next hlt)
      have HK := Lib.hid (take_filter_skip hlt)
      generalize xs[k] = x at a1 hx HM HN HK
      have a1' : wr.cell? ⟨g1, k, none⟩ = some (.string ⟨x.toArray⟩) := a1
      clear a1
      obtain ⟨sx, hsx⟩ : ∃ sx : ByteArray, sx = ⟨x.toArray⟩ := ⟨_, rfl⟩
      rw [← hsx] at a1'
      have hsl : sx.toList = x := by rw [hsx, Lib.toList_data]
      have c := refNamed_any sx wr (by unfold maxLen; rw [hsx]; show x.toArray.size ≤ _; simp; omega)
      rw [show sx.data.toList = x by rw [hsx]] at c
      by_cases x1 : x = []
      · subst x1
        have f2 : sx.toList.isEmpty = true := by rw [hsl]; rfl
        clear hsx c
        go_wp2_with fail
        go_roundw
        case rel => exact ⟨k + 1, by omega, by go_num, HX2, hl2, hsz, by rw [HK.out counts_nil]; exact hS, hB, Lib.hid (by rw [HK.out counts_nil]; exact HA.out)⟩
        case measure => simp [intOf]; omega
      by_cases x2 : x = [46]
      · subst x2
        clear hsx c x1
        go_wp2_with fail
        go_roundw
        case rel => exact ⟨k + 1, by omega, by go_num, HX2, hl2, hsz, by rw [HK.out counts_dot]; exact hS, hB, Lib.hid (by rw [HK.out counts_dot]; exact HA.out)⟩
        case measure => simp [intOf]; omega
      have hcx := counts_else x1 x2
      have f2 : sx.toList.isEmpty = false := by rw [hsl]; cases x with
        | nil => exact absurd rfl x1
        | cons _ _ => rfl
      have f3 : (sx.toList == [46]) = false := by rw [hsl]; exact beq_eq_false_iff_ne.2 x2
      have hst : Value.string sx = Pt.str x := by rw [hsx]; rfl
      have HST := Lib.hid hst
      have HN2 := Lib.hid (HN.out hcx)
      have HCX := Lib.hid hcx
      clear hst hcx hsx x1 x2 HN HK
      by_cases hf : Pt.fine x = true
      · have HF := Lib.hid hf
        clear hf
        by_cases x3 : x = [46, 46]
        · have f4 : (sx.toList == [46, 46]) = true := by rw [hsl, x3]; rfl
          clear hsl c x3
          go_wp2_with (at_builtin; go_must (refine wpList_app1 wr rfl _ _ _ rfl w1.heap.size 9 i0 _ 1 16 Tryd.underlying28 hi hz0 hz1 hz2 rfl (by decide) u4 _ _ rfl hS [.string sx] rfl rfl (by simp [Value.oneCell']) (by omega) (by decide) hsz _ rfl ?_); intro v1 w3 own1 g3 at1)
          go_roundw
          case rel =>
            have hbg : Below w1.heap.size wr w3 := (Below.refl _ wr).grown g3 hsz (fun q e => own_lo hS e)
            exact ⟨k + 1, by omega, by go_num, Lib.hid (HX2.out.below hbg hl2), hl2, Nat.le_trans hsz hbg.size, StrOwn.snoc own1 HN2.out HST.out, hB.trans (hbg.mono hb1.size), Lib.hid (by rw [HN2.out, List.all_append, HA.out]; simp [HF.out])⟩
          case measure => simp [intOf]; omega
        · have hn : Pt.named x = true := by rw [← fine_else x3]; exact HF.out
          rw [hn] at c
          have f4 : (sx.toList == [46, 46]) = false := by rw [hsl]; exact beq_eq_false_iff_ne.2 x3
          clear hsl x3 hn
          go_wp2_with (first
            | (go_at_call 11; refine c.mono ?_; rintro e w2 ⟨rfl, hb2⟩; have hS2 := own_below hS hb2 (Nat.le_refl _); have hsz2 := Nat.le_trans hsz hb2.size)
            | (at_builtin; go_must (refine wpList_app1 w2 rfl _ _ _ rfl w1.heap.size 9 i0 _ 1 16 Tryd.underlying28 hi hz0 hz1 hz2 rfl (by decide) u4 _ _ rfl hS2 [.string sx] rfl rfl (by simp [Value.oneCell']) (by omega) (by decide) hsz2 _ rfl ?_); intro v1 w3 own1 g3 at1))
          go_roundw
          case rel =>
            have hbg : Below w1.heap.size wr w3 := (hb2.mono hsz).grown g3 hsz2 (fun q e => own_lo hS e)
            exact ⟨k + 1, by omega, by go_num, Lib.hid (HX2.out.below hbg hl2), hl2, Nat.le_trans hsz hbg.size, StrOwn.snoc own1 HN2.out HST.out, hB.trans (hbg.mono hb1.size), Lib.hid (by rw [HN2.out, List.all_append, HA.out]; simp [HF.out])⟩
          case measure => simp [intOf]; omega
      · have hff : Pt.fine x = false := by simpa using hf
        have x3 : ¬ x = [46, 46] := fun e => by rw [e] at hff; cases hff
        have hn : Pt.named x = false := by rw [← fine_else x3]; exact hff
        rw [hn] at c
        have HF := Lib.hid (show (xs.filter Pt.counts).all Pt.fine = false by rw [List.all_eq_false]; exact ⟨x, List.mem_filter.2 ⟨HM.out, HCX.out⟩, by simp [hff]⟩)
        have f4 : (sx.toList == [46, 46]) = false := by rw [hsl]; exact beq_eq_false_iff_ne.2 x3
        clear hsl x3 hn hff hf
        go_wp2_with (go_at_call 11; refine c.mono ?_; rintro e w2 ⟨rfl, hb2⟩)
        go_ret2
        exact Parsed.none (HB.out HF.out) (hB.trans (hb2.mono hB.size))
    · obtain rfl : k = xs.length := by omega
      have hP := Lib.hid (HG.out (by have := HA.out; rw [List.take_length] at this; exact this))
      go_wp2_with fail
      go_ret2
      refine ⟨u4, by rw [hP.out]; rfl, ?_, hB⟩
      rw [hP.out]
      rw [List.take_length] at hS
      exact own_base hS hb1.size

theorem sameTexts_any (A A' : Option Addr) (c c' B B' : Nat) (l : List Pt.Bs) (w : World) (h1 : StrRd w B A l) (h2 : StrRd w B' A' l) (hl : l.length ≤ 4294967296) :
    Calls Tryd.prog 23 #[.slice A l.length c, .slice A' l.length c'] w fun e w' => e = .returned (.bool true) ∧ Drawn w w' := by
  have H1 := Lib.hid h1
  have H2 := Lib.hid h2
  clear h1 h2
  go_enter Tryd.func23, Tryd.ntmps23
  go_wp2_with fail
  go_loopw [13] (fun i wr => ∃ k : Nat, k ≤ l.length ∧ i = .int .i64 k ∧ Drawn w wr) (fun i _ => l.length - (intOf i).toNat)
  case atStart => exact ⟨0, Nat.zero_le _, rfl, Drawn.refl _⟩
  case round =>
    obtain ⟨k, hk, rfl, hD⟩ := hrel
    by_cases hlt : k < l.length
    · obtain ⟨b1, o1, rfl, _, a1⟩ := H1.out.at_ hlt
      obtain ⟨b2, o2, rfl, _, a2⟩ := H2.out.at_ hlt
      rw [← hD.cell] at a1 a2
      generalize l[k] = x at a1 a2
      have a1' : wr.cell? ⟨b1, o1 + k, none⟩ = some (.string ⟨x.toArray⟩) := a1
      have a2' : wr.cell? ⟨b2, o2 + k, none⟩ = some (.string ⟨x.toArray⟩) := a2
      clear a1 a2
      generalize (⟨x.toArray⟩ : ByteArray) = sx at a1' a2'
      go_wp2_with fail
      go_quiet (fail)
      go_wp2_with fail
      go_roundw
      case rel => exact ⟨k + 1, by omega, by go_num, hD.more _⟩
      case measure => simp [intOf]; omega
    · obtain rfl : k = l.length := by omega
      go_wp2_with fail
      go_ret
      exact ⟨rfl, hD⟩
end Go.Proofs.YtjppfhgkanbemaaDoor
