/-
  The document's SameUnion at equal unions. (Printed by wip/genunsl.py.)
-/
import Derived.Test.YtjppfhgkanbemabGreatDoorMI
namespace Go.Proofs.YtjppfhgkanbemabGreatDoor
open Go.RowKit Go.Shelf Go.Sort

theorem unSm_fine {u : Un} (h : Tr.Fine u) : UnSm u := by
  have hl := Tr.mergeL_layers h.2
  refine ⟨fun l hm => ⟨Tr.right_sm (hl l hm).2, by have := (hl l hm).1; omega⟩, by have := h.1; omega, fun l hm => by have := (hl l hm).1; omega⟩

set_option maxHeartbeats 2000000 in
set_option maxRecDepth 100000 in
theorem sameUnion_any (A A' B B' : Option Addr) (c c' d d' : Nat) (u : Un) (w : World) (hu : UnRd w w.heap.size A A' c c' u) (hv : UnRd w w.heap.size B B' d d' u) (h1 : u.U.length ≤ 2000000) (h2 : u.L.length ≤ 2000000) (h3 : ∀ l ∈ u.L, l.length ≤ 2000000) :
    Calls Tryz.prog 22 #[.agg #[.slice A u.U.length c, .slice A' u.L.length c'], .agg #[.slice B u.U.length d, .slice B' u.L.length d']] w fun e w' => e = .returned (.bool true) ∧ Below w.heap.size w w' := by
  have HU := Lib.hid hu
  have HV := Lib.hid hv
  have H3 := Lib.hid h3
  clear hu hv h3
  have hB1 := ((Below.refl w.heap.size w).alloc (Nat.le_refl _) (.cells #[.slice A u.U.length c, .slice A' u.L.length c'] 33))
  have hq1 := Blk.new w 33 [.slice A u.U.length c, .slice A' u.L.length c']
  have hB2 := hB1.alloc hB1.size (.cells #[.slice B u.U.length d, .slice B' u.L.length d'] 33)
  have hq2 := hq1.alloc (.cells #[.slice B u.U.length d, .slice B' u.L.length d'] 33)
  have hp2 := Blk.new (w.alloc (.cells #[.slice A u.U.length c, .slice A' u.L.length c'] 33)) 33 [.slice B u.U.length d, .slice B' u.L.length d']
  simp only [World.size_alloc] at hp2
  clear hB1 hq1
  obtain ⟨l, ls⟩ := u
  dsimp only at *
  obtain ⟨q0, q1, qf, qz⟩ := hq2.two
  obtain ⟨p0, p1, pf, pz⟩ := hp2.two
  go_enter Tryz.func22, Tryz.ntmps22
  go_upto_region 1 with fail
  generalize (w.alloc (.cells #[.slice A l.length c, .slice A' ls.length c'] 33)).alloc (.cells #[.slice B l.length d, .slice B' ls.length d'] 33) = w2 at *
  go_wp2_with fail
  clear q0 q1 qf qz p0 p1 pf pz
  refine (same_any A B c d l l w2 ((HU.out.below hB2).more hB2.size).up ((HV.out.below hB2).more hB2.size).up (by omega) rfl).mono ?_
  rintro e w3 ⟨rfl, hb⟩
  have hB3 := hB2.trans (hb.mono hB2.size)
  have hq3 := hq2.below hb hq2.lt
  have hp3 := hp2.below hb hp2.lt
  clear hb hB2 hq2 hp2
  obtain ⟨q0, q1, qf, qz⟩ := hq3.two
  obtain ⟨p0, p1, pf, pz⟩ := hp3.two
  go_wp2_with fail
  clear q0 q1 qf qz p0 p1 pf pz
  go_loopw [24] (fun i wr => ∃ k : Nat, k ≤ ls.length ∧ i = .int .i64 k ∧ Blk wr w.heap.size 33 [.slice A l.length c, .slice A' ls.length c'] ∧ Blk wr (w.heap.size + 1) 33 [.slice B l.length d, .slice B' ls.length d'] ∧ Below w.heap.size w wr) (fun i _ => ls.length - (intOf i).toNat)
  case atStart => exact ⟨0, Nat.zero_le _, rfl, hq3, hp3, hB3⟩
  case round =>
    clear hq3 hp3 hB3
    obtain ⟨k, hk, rfl, hq, hp, hB⟩ := hrel
    obtain ⟨q0, q1, qf, qz⟩ := hq.two
    obtain ⟨p0, p1, pf, pz⟩ := hp.two
    by_cases hlt : k < ls.length
    · obtain ⟨ws, hrw, hel⟩ := (HU.out.below hB).low
      obtain ⟨Ak, ck, f1, f2, f3⟩ := hel k hlt
      obtain ⟨bA, oA, eA, hbA, hcA⟩ := hrw.2 (by show 0 < ls.length; omega)
      have hA0 := hcA k _ f1
      obtain ⟨vs, hrv, hev⟩ := (HV.out.below hB).low
      obtain ⟨Bk, dk, g1, g2, g3⟩ := hev k hlt
      obtain ⟨bB, oB, eB, hbB, hcB⟩ := hrv.2 (by show 0 < ls.length; omega)
      have hB0 := hcB k _ g1
      dsimp only at f3 g3
      have f3 := f3.more hB.size
      have g3 := g3.more hB.size
      have hkl := H3.out ls[k] (List.getElem_mem hlt)
      subst eA eB
      clear hrw hel hrv hev hcA hcB f1 g1
      generalize ls[k] = m at f2 f3 g2 g3 hA0 hB0 hkl
      go_wp2_with fail
      go_region_held3 (fun W => W.cell? ⟨w.heap.size, 1, none⟩ = some (.slice (some ⟨bA, oA, none⟩) ls.length c') ∧ W.cell? ⟨w.heap.size + 1, 1, none⟩ = some (.slice (some ⟨bB, oB, none⟩) ls.length d') ∧ W.cell? ⟨bA, oA + k, none⟩ = some (.slice Ak m.length ck) ∧ W.cell? ⟨bB, oB + k, none⟩ = some (.slice Bk m.length dk))
        (first | exact ⟨q1, p1, hA0, hB0⟩ | exact hS6 | go_keep)
        (first | (go_at_call 17; refine (same_any Ak Bk ck dk m m _ (by exact f3) (by exact g3) (by omega) rfl).mono ?_; rintro e w6 ⟨rfl, hb6⟩; have hS6 : w6.cell? ⟨w.heap.size, 1, none⟩ = some (.slice (some ⟨bA, oA, none⟩) ls.length c') ∧ w6.cell? ⟨w.heap.size + 1, 1, none⟩ = some (.slice (some ⟨bB, oB, none⟩) ls.length d') ∧ w6.cell? ⟨bA, oA + k, none⟩ = some (.slice Ak m.length ck) ∧ w6.cell? ⟨bB, oB + k, none⟩ = some (.slice Bk m.length dk) := ⟨(hb6.cell (p := ⟨w.heap.size, 1, none⟩) hq.lt).trans q1, (hb6.cell (p := ⟨w.heap.size + 1, 1, none⟩) hp.lt).trans p1, (hb6.cell (p := ⟨bA, oA + k, none⟩) (Nat.lt_of_lt_of_le hbA hB.size)).trans hA0, (hb6.cell (p := ⟨bB, oB + k, none⟩) (Nat.lt_of_lt_of_le hbB hB.size)).trans hB0⟩))
      all_goals
        have hb' : Below wr.heap.size wr w6 := ((Below.refl _ wr).drew).trans hb6
        clear q0 q1 qf qz p0 p1 pf pz
        go_wp2_with fail
        go_roundw
        case rel => exact ⟨k + 1, hlt, by go_num, hq.below hb' hq.lt, hp.below hb' hp.lt, hB.trans (hb'.mono hB.size)⟩
        case measure => simp [intOf]; omega
    · obtain rfl : k = ls.length := by omega
      go_wp2_with fail
      go_ret
      exact ⟨rfl, hB⟩

end Go.Proofs.YtjppfhgkanbemabGreatDoor
