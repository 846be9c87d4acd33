/-
  The walk of LayerTells: it returns true. (Printed by wip/gentellsL.py.)
-/
import Derived.Test.YtjppfhgkanbemaaDoorTrRefO
import Derived.Test.YtjppfhgkanbemaaDoorTrTs
namespace Go.Proofs.YtjppfhgkanbemaaDoor
open Go.RowKit Go.Shelf Go.Sort

theorem over_short (l t : List En) : (Tr.over l t).1.length ≤ 80 := by
  unfold Tr.over
  split
  · simp
  · split
    · simp
    · split
      · simp
      · dsimp only; omega
theorem merge_short (ls : List (List En)) : (Tr.merge ls).1.length ≤ 80 := by
  unfold Tr.merge
  split
  · simp
  · by_cases h : (Tr.mergeL ls).2 = 0
    · exact (Tr.mergeL_right h).1
    · rw [Tr.mergeL_none h]; simp

set_option maxHeartbeats 4000000 in
set_option maxRecDepth 100000 in
theorem layerTells_any (A B : Option Addr) (c d : Nat) (ls : List (List En)) (t : List En) (p : ByteArray) (w : World) (hl : TsRd w w.heap.size A ls) (_ : ls.length ≤ c) (hs : Sms ls) (ht : EnRd w w.heap.size B t) (hd : t.length ≤ d) (hst : Sm t) (hnt : t.length ≤ 2305843009213693952) (hbig : ls.length ≤ 1048576) (hp : p.size < 4294967281) :
    Calls Tryd.prog 7 #[.slice A ls.length c, .slice B t.length d, .string p] w fun e w' => e = .returned (.bool true) ∧ Below w.heap.size w w' := by
  have hfd := field_faultC
  have HS := Lib.hid hs
  have HSt := Lib.hid hst
  clear hs hst
  go_enter Tryd.func7, Tryd.ntmps7
  go_wp2_with fail
  go_loopw [19] (fun i wr => ∃ k : Nat, k ≤ ls.length ∧ i = .int .i64 k ∧ Below w.heap.size w wr) (fun i _ => ls.length - (intOf i).toNat)
  case atStart => exact ⟨0, Nat.zero_le _, rfl, Below.refl _ _⟩
  case round =>
    obtain ⟨k, hk, rfl, hB⟩ := hrel
    by_cases hlt : k < ls.length
    · obtain ⟨b, o, Am, cm, hA, hb, hc1, hcl, hrd⟩ := (hl.below hB).at_ hlt
      subst hA
      have hsm := HS.out _ (List.getElem_mem hlt)
      generalize ls[k] = x at hc1 hcl hrd hsm
      have hx : EnRd wr w.heap.size Am x := hrd
      have hBr := Below.refl w.heap.size wr
      have HX := Lib.hid hsm.1
      have hnx := hsm.2
      clear hsm hrd
      have cW := fun W h => wrongL_any Am cm x W h hcl HX.out hnx
      have cV := fun W h => refWrongT_any Am cm x true W h hcl HX.out hnx
      have cO := fun W h1 h2 => over_any Am B cm d x t W h1 h2 hcl hd HX.out HSt.out hnx hnt
      have cR := fun W h1 h2 => refOver_any Am B cm d x t W h1 h2 hcl hd HX.out HSt.out hnx hnt
      have cH := fun (W : World) h hsrt => hides_any Am cm x p W h HX.out hsrt hp hnx
      have cI := fun (W : World) h => refHides_any Am cm x p W h hp hnx
      have cP := fun W => refClean_any p W hp
      unfold OverRel at cO cR
      obtain ⟨ov, hov⟩ : ∃ ov, ov = Tr.over x t := ⟨_, rfl⟩
      have hol : ov.1.length ≤ 9223372036854775807 := by rw [hov]; have := over_short x t; omega
      rw [← hov] at cO cR
      clear hov
      obtain ⟨ores, oerr⟩ := ov
      obtain ⟨wv, hwv⟩ : ∃ wv, wv = Tr.wrong x true := ⟨_, rfl⟩
      have HSRT : Hid (wv.1 = 0 → Tr.Srt x) := Lib.hid (fun h => ((Tr.wrong_zero x true).1 (by rw [← hwv]; exact h)).2.2.1)
      rw [← hwv] at cW cV
      clear hwv
      obtain ⟨z1, z2⟩ := wv
      dsimp only at cO cR cW cV hol HSRT
      generalize Pt.clean p.data.toList = cl at cP
      generalize Tr.hides x p.data.toList = hh at cH cI
      go_wp2_with fail
      refine (cW _ (hx.more hB.size)).mono ?_
      rintro e w1 ⟨rfl, hb1⟩
      have hB1 := hB.trans (hb1.mono hB.size)
      have hx1 := Rd.below hx (hb1.mono hB.size)
      clear hb1 hx hB hBr
      go_wp2_with fail
      refine (cV _ (Rd.more hx1 hB1.size)).mono ?_
      rintro e w2 ⟨rfl, hb2⟩
      have hB2 := hB1.trans (hb2.mono hB1.size)
      have hx2 := Rd.below hx1 (hb2.mono hB1.size)
      clear hb2 hx1 hB1
      go_upto_region 6 with fail
      go_cut [48] (fun v wx => v = .bool false ∧ Below w2.heap.size w2 wx)
      case first =>
        go_wp2_with fail
        refine (cV _ (Rd.more hx2 hB2.size)).mono ?_
        rintro e w3 ⟨rfl, hb3⟩
        rcases tz : (z1 == 0) with _ | _
        · go_wp2_with fail
          go_meet
          case rel => exact ⟨rfl, hb3⟩
        · have hsrt := HSRT.out (by simpa using tz)
          have hx3 := Rd.more (Rd.below hx2 (hb3.mono hB2.size)) (Nat.le_trans hB2.size hb3.size)
          have hB3' := hb3
          rcases empty_cases p with ⟨_, g1, g2⟩ | ⟨_, g1, g2⟩
          · go_wp2_with fail
            refine (cH _ hx3 hsrt).mono ?_
            rintro e w4 ⟨rfl, hb4⟩
            have hx4 := Rd.more (Rd.below hx3 hb4) hb4.size
            go_wp2_with fail
            refine (cI _ hx4).mono ?_
            rintro e w5 ⟨rfl, hb5⟩
            cases hh
            · go_wp2_with fail
              go_meet
              case rel => exact ⟨rfl, (hb3.trans (hb4.mono hb3.size)).trans (hb5.mono (Nat.le_trans hb3.size hb4.size))⟩
            · go_wp2_with fail
              go_meet
              case rel => exact ⟨rfl, (hb3.trans (hb4.mono hb3.size)).trans (hb5.mono (Nat.le_trans hb3.size hb4.size))⟩
          · go_wp2_with fail
            refine (cP _).mono ?_
            rintro e wq ⟨rfl, hbq⟩
            have hbQ := hb3.trans (hbq.mono hb3.size)
            cases cl
            · go_wp2_with fail
              go_meet
              case rel => exact ⟨rfl, hbQ⟩
            · have hxq := Rd.more (Rd.below hx3 hbq) hbq.size
              go_wp2_with fail
              refine (cH _ hxq hsrt).mono ?_
              rintro e w4 ⟨rfl, hb4⟩
              have hx4 := Rd.more (Rd.below hxq hb4) hb4.size
              go_wp2_with fail
              refine (cI _ hx4).mono ?_
              rintro e w5 ⟨rfl, hb5⟩
              cases hh
              · go_wp2_with fail
                go_meet
                case rel => exact ⟨rfl, (hbQ.trans (hb4.mono hbQ.size)).trans (hb5.mono (Nat.le_trans hbQ.size hb4.size))⟩
              · go_wp2_with fail
                go_meet
                case rel => exact ⟨rfl, (hbQ.trans (hb4.mono hbQ.size)).trans (hb5.mono (Nat.le_trans hbQ.size hb4.size))⟩
      case rest =>
        obtain ⟨rfl, hb3⟩ := hcut
        have hBg := hB2.trans (hb3.mono hB2.size)
        have hx := Rd.more (Rd.below hx2 (hb3.mono hB2.size)) hBg.size
        have ht' := Rd.more (Rd.below ht hBg) hBg.size
        clear hb3 hx2 hB2 cH cI cP cV cW
        go_wp2_with fail
        refine (cO _ hx ht').mono ?_
        rintro e w5 ⟨v5, rfl, ho5, hb5⟩
        have hB5 := hBg.trans (hb5.mono hBg.size)
        have hx5 := Rd.more (Rd.below hx hb5) hb5.size
        have ht5 := Rd.more (Rd.below ht' hb5) hb5.size
        obtain ⟨A5, c5, rfl, hc5, rd5⟩ := EnOwn.rd ho5
        clear ho5 hb5 hx ht' hBg
        go_wp2_with fail
        refine (cR _ hx5 ht5).mono ?_
        rintro e w6 ⟨v6, rfl, ho6, hb6⟩
        have hB6 := hB5.trans (hb6.mono hB5.size)
        have rd5' := Rd.more (Rd.below rd5 hb6) hb6.size
        obtain ⟨A6, c6, rfl, hc6, rd6⟩ := EnOwn.rd ho6
        clear ho6 hb6 rd5 hB5 hx5 ht5
        go_wp2_with fail
        refine (same_any A5 A6 c5 c6 ores ores w6 rd5' rd6 hol rfl).mono ?_
        rintro e w7 ⟨rfl, hb7⟩
        have hB7 := hB6.trans (hb7.mono hB6.size)
        clear hb7 rd5' rd6 hB6
        go_wp2_with fail
        go_roundw
        case rel => exact ⟨k + 1, by omega, by go_num, hB7⟩
        case measure => simp [intOf]; omega
    · obtain rfl : k = ls.length := by omega
      have cM := merge_any A c ls wr ((hl.below hB).more hB.size) HS.out
      have cN := fun W h => refMerge_any A c ls W h HS.out
      unfold MergeRel at cM cN
      obtain ⟨mv, hmv⟩ : ∃ mv, mv = Tr.merge ls := ⟨_, rfl⟩
      have hml : mv.1.length ≤ 9223372036854775807 := by rw [hmv]; have := merge_short ls; omega
      rw [← hmv] at cM cN
      clear hmv
      obtain ⟨mres, merr⟩ := mv
      dsimp only at cM cN hml
      go_wp2_with fail
      refine cM.mono ?_
      rintro e w5 ⟨v5, rfl, ho5, hb5⟩
      have hB5 := hB.trans (hb5.mono hB.size)
      obtain ⟨A5, c5, rfl, hc5, rd5⟩ := EnOwn.rd ho5
      clear ho5 hb5 hB cM
      go_wp2_with fail
      refine (cN _ ((hl.below hB5).more hB5.size)).mono ?_
      rintro e w6 ⟨v6, rfl, ho6, hb6⟩
      have hB6 := hB5.trans (hb6.mono hB5.size)
      have rd5' := Rd.more (Rd.below rd5 hb6) hb6.size
      obtain ⟨A6, c6, rfl, hc6, rd6⟩ := EnOwn.rd ho6
      clear ho6 hb6 rd5 hB5 cN
      go_wp2_with fail
      refine (same_any A5 A6 c5 c6 mres mres w6 rd5' rd6 hml rfl).mono ?_
      rintro e w7 ⟨rfl, hb7⟩
      have hB7 := hB6.trans (hb7.mono hB6.size)
      go_wp2_with fail
      go_ret
      exact ⟨rfl, hB7⟩
end Go.Proofs.YtjppfhgkanbemaaDoor
