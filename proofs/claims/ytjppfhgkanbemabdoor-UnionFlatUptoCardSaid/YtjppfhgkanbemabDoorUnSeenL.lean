/-
  The document's SameUnion at equal unions; tracelaw4.seen; the walk of UnionSeen. (Printed by wip/genunsl.py.)
-/
import Derived.Test.YtjppfhgkanbemabDoorUnAlive
namespace Go.Proofs.YtjppfhgkanbemabDoor
open Go.RowKit Go.Shelf Go.Sort

theorem unSm_fine {u : Un} (h : Tr.Fine u) : UnSm u := by
  have hl := Tr.mergeL_layers h.2
  refine ⟨fun l hm => ⟨Tr.right_sm (hl l hm).2, by have := (hl l hm).1; omega⟩, by have := h.1; omega, fun l hm => by have := (hl l hm).1; omega⟩

set_option maxHeartbeats 2000000 in
set_option maxRecDepth 100000 in
theorem sameUnion_any (A A' B B' : Option Addr) (c c' d d' : Nat) (u : Un) (w : World) (hu : UnRd w w.heap.size A A' c c' u) (hv : UnRd w w.heap.size B B' d d' u) (h1 : u.U.length ≤ 2000000) (h2 : u.L.length ≤ 2000000) (h3 : ∀ l ∈ u.L, l.length ≤ 2000000) :
    Calls Tryd.prog 34 #[.agg #[.slice A u.U.length c, .slice A' u.L.length c'], .agg #[.slice B u.U.length d, .slice B' u.L.length d']] w fun e w' => e = .returned (.bool true) ∧ Below w.heap.size w w' := by
  have HU := Lib.hid hu
  have HV := Lib.hid hv
  have H3 := Lib.hid h3
  clear hu hv h3
  have hB1 := ((Below.refl w.heap.size w).alloc (Nat.le_refl _) (.cells #[.slice A u.U.length c, .slice A' u.L.length c'] 49))
  have hq1 := Blk.new w 49 [.slice A u.U.length c, .slice A' u.L.length c']
  have hB2 := hB1.alloc hB1.size (.cells #[.slice B u.U.length d, .slice B' u.L.length d'] 49)
  have hq2 := hq1.alloc (.cells #[.slice B u.U.length d, .slice B' u.L.length d'] 49)
  have hp2 := Blk.new (w.alloc (.cells #[.slice A u.U.length c, .slice A' u.L.length c'] 49)) 49 [.slice B u.U.length d, .slice B' u.L.length d']
  simp only [World.size_alloc] at hp2
  clear hB1 hq1
  obtain ⟨l, ls⟩ := u
  dsimp only at *
  obtain ⟨q0, q1, qf, qz⟩ := hq2.two
  obtain ⟨p0, p1, pf, pz⟩ := hp2.two
  go_enter Tryd.func34, Tryd.ntmps34
  go_upto_region 1 with fail
  generalize (w.alloc (.cells #[.slice A l.length c, .slice A' ls.length c'] 49)).alloc (.cells #[.slice B l.length d, .slice B' ls.length d'] 49) = w2 at *
  go_wp2_with fail
  clear q0 q1 qf qz p0 p1 pf pz
  refine (same_any A B c d l l w2 ((HU.out.below hB2).more hB2.size).up ((HV.out.below hB2).more hB2.size).up (by omega) rfl).mono ?_
  rintro e w3 ⟨rfl, hb⟩
  have hB3 := hB2.trans (hb.mono hB2.size)
  have hq3 := hq2.below hb hq2.lt
  have hp3 := hp2.below hb hp2.lt
  clear hb hB2 hq2 hp2
  obtain ⟨q0, q1, qf, qz⟩ := hq3.two
  obtain ⟨p0, p1, pf, pz⟩ := hp3.two
  go_wp2_with fail
  clear q0 q1 qf qz p0 p1 pf pz
  go_loopw [24] (fun i wr => ∃ k : Nat, k ≤ ls.length ∧ i = .int .i64 k ∧ Blk wr w.heap.size 49 [.slice A l.length c, .slice A' ls.length c'] ∧ Blk wr (w.heap.size + 1) 49 [.slice B l.length d, .slice B' ls.length d'] ∧ Below w.heap.size w wr) (fun i _ => ls.length - (intOf i).toNat)
  case atStart => exact ⟨0, Nat.zero_le _, rfl, hq3, hp3, hB3⟩
  case round =>
    clear hq3 hp3 hB3
    obtain ⟨k, hk, rfl, hq, hp, hB⟩ := hrel
    obtain ⟨q0, q1, qf, qz⟩ := hq.two
    obtain ⟨p0, p1, pf, pz⟩ := hp.two
    by_cases hlt : k < ls.length
    · obtain ⟨ws, hrw, hel⟩ := (HU.out.below hB).low
      obtain ⟨Ak, ck, f1, f2, f3⟩ := hel k hlt
      obtain ⟨bA, oA, eA, hbA, hcA⟩ := hrw.2 (by show 0 < ls.length; omega)
      have hA0 := hcA k _ f1
      obtain ⟨vs, hrv, hev⟩ := (HV.out.below hB).low
      obtain ⟨Bk, dk, g1, g2, g3⟩ := hev k hlt
      obtain ⟨bB, oB, eB, hbB, hcB⟩ := hrv.2 (by show 0 < ls.length; omega)
      have hB0 := hcB k _ g1
      dsimp only at f3 g3
      have f3 := f3.more hB.size
      have g3 := g3.more hB.size
      have hkl := H3.out ls[k] (List.getElem_mem hlt)
      subst eA eB
      clear hrw hel hrv hev hcA hcB f1 g1
      generalize ls[k] = m at f2 f3 g2 g3 hA0 hB0 hkl
      go_wp2_with fail
      go_region_held3 (fun W => W.cell? ⟨w.heap.size, 1, none⟩ = some (.slice (some ⟨bA, oA, none⟩) ls.length c') ∧ W.cell? ⟨w.heap.size + 1, 1, none⟩ = some (.slice (some ⟨bB, oB, none⟩) ls.length d') ∧ W.cell? ⟨bA, oA + k, none⟩ = some (.slice Ak m.length ck) ∧ W.cell? ⟨bB, oB + k, none⟩ = some (.slice Bk m.length dk))
        (first | exact ⟨q1, p1, hA0, hB0⟩ | exact hS6 | go_keep)
        (first | (go_at_call 16; refine (same_any Ak Bk ck dk m m _ (by exact f3) (by exact g3) (by omega) rfl).mono ?_; rintro e w6 ⟨rfl, hb6⟩; have hS6 : w6.cell? ⟨w.heap.size, 1, none⟩ = some (.slice (some ⟨bA, oA, none⟩) ls.length c') ∧ w6.cell? ⟨w.heap.size + 1, 1, none⟩ = some (.slice (some ⟨bB, oB, none⟩) ls.length d') ∧ w6.cell? ⟨bA, oA + k, none⟩ = some (.slice Ak m.length ck) ∧ w6.cell? ⟨bB, oB + k, none⟩ = some (.slice Bk m.length dk) := ⟨(hb6.cell (p := ⟨w.heap.size, 1, none⟩) hq.lt).trans q1, (hb6.cell (p := ⟨w.heap.size + 1, 1, none⟩) hp.lt).trans p1, (hb6.cell (p := ⟨bA, oA + k, none⟩) (Nat.lt_of_lt_of_le hbA hB.size)).trans hA0, (hb6.cell (p := ⟨bB, oB + k, none⟩) (Nat.lt_of_lt_of_le hbB hB.size)).trans hB0⟩))
      all_goals
        have hb' : Below wr.heap.size wr w6 := ((Below.refl _ wr).drew).trans hb6
        clear q0 q1 qf qz p0 p1 pf pz
        go_wp2_with fail
        go_roundw
        case rel => exact ⟨k + 1, hlt, by go_num, hq.below hb' hq.lt, hp.below hb' hp.lt, hB.trans (hb'.mono hB.size)⟩
        case measure => simp [intOf]; omega
    · obtain rfl : k = ls.length := by omega
      go_wp2_with fail
      go_ret
      exact ⟨rfl, hB⟩

/-- tracelaw4.seen: it is so. -/
theorem seenLaw_any (A A' T : Option Addr) (c c' ct : Nat) (u : Un) (e : Int) (t : List En) (x : Int) (w : World) (hu : UnRd w w.heap.size A A' c c' u) (ht : EnRd w w.heap.size T t) (hl : t.length ≤ 2000000) (h1 : e ≠ 0 → e = 5 ∨ e = x) (h2 : e = 0 → x = 0 ∧ Tr.Fine u ∧ Tr.seenU u = (t, 0)) :
    Calls Tryd.prog 31 #[.agg #[.slice A u.U.length c, .slice A' u.L.length c'], .int .i64 e, .slice T t.length ct, .int .i64 x] w fun r w' => r = .returned (.bool true) ∧ Below w.heap.size w w' := by
  have H1 := Lib.hid h1
  have H2 := Lib.hid h2
  have HU := Lib.hid hu
  clear h1 h2 hu
  have hB1 := ((Below.refl w.heap.size w).alloc (Nat.le_refl _) (.cells #[.slice A u.U.length c, .slice A' u.L.length c'] 49))
  have hq1 := Blk.new w 49 [.slice A u.U.length c, .slice A' u.L.length c']
  go_enter Tryd.func31, Tryd.ntmps31
  rcases te : (e != 0) with _ | _
  · have he : e = 0 := by simpa using te
    obtain ⟨hx, hf, hs⟩ := H2.out he
    have HF := Lib.hid hf
    clear H1 H2 te hf
    subst he hx
    have cS := fun W h => seenU_any A A' c c' u W h (unSm_fine HF.out)
    unfold SeenRel at cS
    rw [hs] at cS
    dsimp only at cS
    clear hs
    go_upto_region 3 with fail
    generalize w.alloc (.cells #[.slice A u.U.length c, .slice A' u.L.length c'] 49) = w1 at *
    obtain ⟨q0, q1, qf, qz⟩ := hq1.two
    go_wp2_with fail
    refine (cS w1 ((HU.out.below hB1).more hB1.size)).mono ?_
    rintro r w2 ⟨v2, rfl, ho2, hb⟩
    have hB2 := hB1.trans (hb.mono hB1.size)
    obtain ⟨A2, c2, rfl, hc2, hr2⟩ := EnOwn.rd ho2
    have ht2 := (Rd.below ht hB2).more hB2.size
    go_wp2_with fail
    refine (same_any A2 T c2 ct t t w2 hr2 ht2 (by omega) rfl).mono ?_
    rintro r w3 ⟨rfl, hb3⟩
    go_wp2_with fail
    go_ret
    exact ⟨rfl, hB2.trans (hb3.mono hB2.size)⟩
  · have hd := H1.out (by simpa using te)
    rcases t5 : (e == 5) with _ | _
    · have ex : (e == x) = true := by
        rcases hd with h | h
        · rw [h] at t5; cases t5
        · rw [h]; simp
      clear hd H1 H2
      go_wp2_with fail
      go_ret
      exact ⟨rfl, hB1⟩
    · clear hd H1 H2
      go_wp2_with fail
      go_ret
      exact ⟨rfl, hB1⟩
theorem rd_set {w : World} {B size n : Nat} {A : Option Addr} {xs : List Value} (h : Rd w B size A n xs) {p : Addr} (hp : B ≤ p.block) (u : Value) : Rd (w.setCell p u) B size A n xs :=
  h.keep fun q hq => World.cell?_of_block (Below.heap_setCell w p u q.block (by omega))
theorem asTree_seen {u : Un} {r : Un × Int} {t : List En × Int} (h : Tr.AsTree u r t) : (r.2 ≠ 0 → r.2 = 5 ∨ r.2 = t.2) ∧ (r.2 = 0 → t.2 = 0 ∧ Tr.Fine r.1 ∧ Tr.seenU r.1 = (t.1, 0)) :=
  ⟨fun h0 => (h.1 h0).2, fun h0 => ⟨(h.2 h0).2.2.1, (h.2 h0).1, (h.2 h0).2.2.2⟩⟩
theorem put_le (l : List En) (x : En) : (Tr.put l x).1.length ≤ 2000000 := by
  unfold Tr.put
  split
  · simp
  · rename_i h
    have := Tr.put_len (t := l) (e := x) (by simpa using h)
    show (Tr.ins x l).length ≤ _
    omega
theorem rem_le (l : List En) (p : Pt.Bs) (hl : l.length ≤ 80) : (Tr.remove l p).1.length ≤ 2000000 := by
  unfold Tr.remove
  split
  · simp
  · exact Nat.le_trans (Tr.without_len l p) (by omega)
theorem mov_le (l : List En) (s d : Pt.Bs) (hl : l.length ≤ 80) : (Tr.move l s d).1.length ≤ 2000000 := by
  unfold Tr.move
  split
  · simp
  · exact Nat.le_trans (Tr.move_len l s d) (by omega)

set_option maxHeartbeats 8000000 in
set_option maxRecDepth 100000 in
theorem unionSeen_any (A A' : Option Addr) (c c' : Nat) (u : Un) (x : En) (p q : ByteArray) (w : World) (hu : UnRd w w.heap.size A A' c c' u) (hs : UnSm u) (hxp : x.p.size < 4294967281) (hxt : x.t.size < 4294967281) (hp : p.size < 4294967281) (hq : q.size < 4294967281) :
    Calls Tryd.prog 8 #[.agg #[.slice A u.U.length c, .slice A' u.L.length c'], x.agg, .string p, .string q] w fun e w' => e = .returned (.bool true) ∧ Below w.heap.size w w' := by
  obtain ⟨xp, xk, xt, xo⟩ := x
  dsimp only at hxp hxt
  show Calls Tryd.prog 8 #[.agg #[.slice A u.U.length c, .slice A' u.L.length c'], .agg #[.string xp, .int .i64 xk, .string xt, .bool xo], .string p, .string q] w _
  have HS := Lib.hid hs
  have HU := Lib.hid hu
  clear hs hu
  have hB0 := ((Below.refl w.heap.size w).alloc (Nat.le_refl _) (.cells #[.slice A u.U.length c, .slice A' u.L.length c'] 49))
  have hB0 := hB0.alloc hB0.size (.cells #[.string xp, .int .i64 xk, .string xt, .bool xo] 32)
  have hq0 := (Blk.new w 49 [.slice A u.U.length c, .slice A' u.L.length c']).alloc (.cells #[.string xp, .int .i64 xk, .string xt, .bool xo] 32)
  have hx0 := Blk.new (w.alloc (.cells #[.slice A u.U.length c, .slice A' u.L.length c'] 49)) 32 [.string xp, .int .i64 xk, .string xt, .bool xo]
  simp only [World.size_alloc] at hx0
  go_enter Tryd.func8, Tryd.ntmps8
  go_upto_region 1 with fail
  generalize (w.alloc (.cells #[.slice A u.U.length c, .slice A' u.L.length c'] 49)).alloc (.cells #[.string xp, .int .i64 xk, .string xt, .bool xo] 32) = w0 at *
  go_wp2_with fail
  refine (unAlive_any w0).mono ?_
  rintro e w1 ⟨rfl, hb⟩
  have hB1 := hB0.trans (hb.mono hB0.size)
  have hq1 := hq0.below hb hq0.lt
  have hx1 := hx0.below hb hx0.lt
  clear hb hB0 hq0 hx0
  have cS := seenU_any A A' c c' u w1 ((HU.out.below hB1).more hB1.size) HS.out
  unfold SeenRel at cS
  have HT1 := Lib.hid (fun h : (Tr.seenU u).2 = 0 => Tr.putU_tree (Tr.seenU_zero.1 h) ⟨xp, xk, xt, xo⟩)
  have HT2 := Lib.hid (fun h : (Tr.seenU u).2 = 0 => Tr.removeU_tree (Tr.seenU_zero.1 h) p.data.toList)
  have HT3 := Lib.hid (fun h : (Tr.seenU u).2 = 0 => Tr.moveU_tree (Tr.seenU_zero.1 h) p.data.toList q.data.toList)
  have HNO := Lib.hid (Tr.seenU_none (u := u))
  have HPT := Lib.hid (Tr.parts (u := u))
  generalize Tr.seenU u = sp at cS HT1 HT2 HT3 HNO HPT
  obtain ⟨S, se⟩ := sp
  dsimp only at cS HT1 HT2 HT3 HNO HPT
  obtain ⟨q0, q1, qf, qz⟩ := hq1.two
  go_wp2_with fail
  clear q0 q1 qf qz
  refine cS.mono ?_
  rintro e w2 ⟨v2, rfl, ho2, hb⟩
  have hB2 := hB1.trans (hb.mono hB1.size)
  have hq2 := hq1.below hb hq1.lt
  have hx2 := hx1.below hb hx1.lt
  clear hb hB1 hq1 hx1 cS
  obtain ⟨AS, cS, rfl, hcS, hS2⟩ := EnOwn.rd ho2
  clear ho2
  obtain ⟨N2, hN2⟩ : ∃ N, N = w2.heap.size := ⟨_, rfl⟩
  rw [← hN2] at hS2
  have hn2 := Nat.le_of_eq hN2
  clear hN2
  rcases te : (se != 0) with _ | _
  rotate_left
  · have he := HNO.out (by simpa using te)
    subst he
    go_wp2_with fail
    go_ret
    exact ⟨rfl, hB2⟩
  have hse : se = 0 := by simpa using te
  have HA1 := Lib.hid (asTree_seen (HT1.out hse))
  have HA2 := Lib.hid (asTree_seen (HT2.out hse))
  have HA3 := Lib.hid (asTree_seen (HT3.out hse))
  have HP := Lib.hid (HPT.out hse)
  clear HT1 HT2 HT3 HNO HPT te
  subst hse
  have hSl := HP.out.sl
  have HSS := Lib.hid (Tr.right_sm HP.out.sr)
  have HL1 := Lib.hid (put_le S ⟨xp, xk, xt, xo⟩)
  have HL2 := Lib.hid (rem_le S p.data.toList hSl)
  have HL3 := Lib.hid (mov_le S p.data.toList q.data.toList hSl)
  obtain ⟨q0, q1, qf, qz⟩ := hq2.two
  obtain ⟨x0, x1, x2, x3, xf, xz⟩ := hx2.four
  go_wp2_with fail
  clear q0 q1 qf qz x0 x1 x2 x3 xf xz
  refine (putU_any A A' c c' u xp xk xt xo w2 ((HU.out.below hB2).more hB2.size) HS.out hxp hxt).mono ?_
  rintro e w3 ⟨A3, A3', c3, c3', rfl, hf3, hb⟩
  have hB3 := hB2.trans (hb.mono hB2.size)
  have hq3 := hq2.below hb hq2.lt
  have hx3 := hx2.below hb hx2.lt
  have hS3 : EnRd w3 N2 AS S := Rd.below hS2 (hb.mono hn2)
  have hn3 : N2 ≤ w3.heap.size := Nat.le_trans hn2 hb.size
  have hu3 := hf3.here
  clear hb hB2 hq2 hx2 hS2 hf3 hn2
  generalize Tr.putU u ⟨xp, xk, xt, xo⟩ = r1 at *
  obtain ⟨r1, e1⟩ := r1
  dsimp only at hu3 HA1
  have hB4 := hB3.alloc hB3.size (.cells #[.slice A3 r1.U.length c3, .slice A3' r1.L.length c3'] 49)
  have hq4 := hq3.alloc (.cells #[.slice A3 r1.U.length c3, .slice A3' r1.L.length c3'] 49)
  have hx4 := hx3.alloc (.cells #[.slice A3 r1.U.length c3, .slice A3' r1.L.length c3'] 49)
  have ha4 := Blk.new w3 49 [.slice A3 r1.U.length c3, .slice A3' r1.L.length c3']
  have hS4 : EnRd (w3.alloc (.cells #[.slice A3 r1.U.length c3, .slice A3' r1.L.length c3'] 49)) N2 AS S := Rd.alloc hS3 hn3 _
  have hn4 : N2 ≤ (w3.alloc (.cells #[.slice A3 r1.U.length c3, .slice A3' r1.L.length c3'] 49)).heap.size := by rw [World.size_alloc]; omega
  have hu4 : UnRd (w3.alloc (.cells #[.slice A3 r1.U.length c3, .slice A3' r1.L.length c3'] 49)) (w3.alloc (.cells #[.slice A3 r1.U.length c3, .slice A3' r1.L.length c3'] 49)).heap.size A3 A3' c3 c3' r1 := (hu3.below ((Below.refl _ w3).alloc (Nat.le_refl _) _)).more (by simp)
  obtain ⟨x0, x1, x2, x3, xf, xz⟩ := hx3.four
  have hga : w.heap.size < w3.heap.size := hq3.lt
  clear hB3 hq3 hS3 hu3
  go_upto_region 7 with fail
  clear x0 x1 x2 x3 xf xz hx3
  generalize w3.alloc (.cells #[.slice A3 r1.U.length c3, .slice A3' r1.L.length c3'] 49) = w4 at *
  generalize w3.heap.size = ga at *
  obtain ⟨x0, x1, x2, x3, xf, xz⟩ := hx4.four
  go_wp2_with fail
  clear x0 x1 x2 x3 xf xz
  refine (put_any AS cS S xp xk xt xo w4 (Rd.more hS4 hn4) hcS HSS.out hxp hxt (by omega)).mono ?_
  rintro e w5 ⟨v5, rfl, ho5, hb⟩
  have hB5 := hB4.trans (hb.mono hB4.size)
  have hq5 := hq4.below hb hq4.lt
  have ha5 := ha4.below hb ha4.lt
  have hS5 : EnRd w5 N2 AS S := Rd.below hS4 (hb.mono hn4)
  have hn5 : N2 ≤ w5.heap.size := Nat.le_trans hn4 hb.size
  have hx5 := hx4.below hb hx4.lt
  have hu5 := (hu4.below hb).more hb.size
  clear hb hB4 hq4 ha4 hS4 hn4 hx4 hu4
  obtain ⟨A5, c5, rfl, hc5, ht5⟩ := EnOwn.rd ho5
  clear ho5 hx5
  generalize Tr.put S ⟨xp, xk, xt, xo⟩ = t1 at *
  obtain ⟨t1, y1⟩ := t1
  dsimp only at ht5 HA1 HL1
  have hl1 := HL1.out
  obtain ⟨a0, a1, af, az⟩ := ha5.two
  go_wp2_with fail
  clear a0 a1 af az
  refine (seenLaw_any A3 A3' A5 c3 c3' c5 r1 e1 t1 y1 w5 hu5 ht5 hl1 HA1.out.1 HA1.out.2).mono ?_
  rintro e w6 ⟨rfl, hb⟩
  have hB6 := hB5.trans (hb.mono hB5.size)
  have hq6 := hq5.below hb hq5.lt
  have ha6 := ha5.below hb ha5.lt
  have hS6 : EnRd w6 N2 AS S := Rd.below hS5 (hb.mono hn5)
  have hn6 : N2 ≤ w6.heap.size := Nat.le_trans hn5 hb.size
  have hu6 := (hu5.below hb).more hb.size
  clear hb hB5 hq5 ha5 hS5 hn5 hu5
  clear hu6 ht5
  obtain ⟨q0, q1, qf, qz⟩ := hq6.two
  go_wp2_with fail
  clear q0 q1 qf qz
  refine (removeU_any A A' c c' u p w6 ((HU.out.below hB6).more hB6.size) HS.out hp).mono ?_
  rintro e w7 ⟨A7, A7', c7, c7', rfl, hf7, hb⟩
  have hB7 := hB6.trans (hb.mono hB6.size)
  have hq7 := hq6.below hb hq6.lt
  have ha7 := ha6.below hb ha6.lt
  have hS7 : EnRd w7 N2 AS S := Rd.below hS6 (hb.mono hn6)
  have hn7 : N2 ≤ w7.heap.size := Nat.le_trans hn6 hb.size
  have hbz7 := hb.size
  clear hb hB6 hq6 hS6 hn6
  have hf8 := (hf7.set (p := ⟨ga, 0, none⟩) (by exact ha6.lt) (.slice A7 (Tr.removeU u p.data.toList).1.U.length c7)).set (p := ⟨ga, 1, none⟩) (by exact ha6.lt) (.slice A7' (Tr.removeU u p.data.toList).1.L.length c7')
  have hga6 := ha6.lt
  clear ha6 hf7
  generalize Tr.removeU u p.data.toList = r2 at *
  obtain ⟨r2, e2⟩ := r2
  dsimp only at hf8 HA2
  have hB8 := (hB7.setCell (p := ⟨ga, 0, none⟩) (by exact Nat.le_of_lt hga) (.slice A7 r2.U.length c7)).setCell (p := ⟨ga, 1, none⟩) (by exact Nat.le_of_lt hga) (.slice A7' r2.L.length c7')
  have hgq : w.heap.size ≠ ga := by omega
  have hq8 := (hq7.far (p := ⟨ga, 0, none⟩) hgq (.slice A7 r2.U.length c7)).far (p := ⟨ga, 1, none⟩) hgq (.slice A7' r2.L.length c7')
  have ha8 : Blk ((w7.setCell ⟨ga, 0, none⟩ (.slice A7 r2.U.length c7)).setCell ⟨ga, 1, none⟩ (.slice A7' r2.L.length c7')) ga 49 [.slice A7 r2.U.length c7, .slice A7' r2.L.length c7'] := (ha7.set_ 0 _).set_ 1 _
  have hS8 : EnRd ((w7.setCell ⟨ga, 0, none⟩ (.slice A7 r2.U.length c7)).setCell ⟨ga, 1, none⟩ (.slice A7' r2.L.length c7')) N2 AS S := rd_set (rd_set hS7 (p := ⟨ga, 0, none⟩) hn3 _) (p := ⟨ga, 1, none⟩) hn3 _
  have hn8 : N2 ≤ ((w7.setCell ⟨ga, 0, none⟩ (.slice A7 r2.U.length c7)).setCell ⟨ga, 1, none⟩ (.slice A7' r2.L.length c7')).heap.size := by simpa using hn7
  have hu8 := hf8.here
  obtain ⟨a0, a1, af, az⟩ := ha7.two
  go_upto_region 11 with fail
  clear a0 a1 af az hf8 hB7 hq7 ha7 hS7 hn7 hgq hga6 hbz7
  generalize (w7.setCell ⟨ga, 0, none⟩ (.slice A7 r2.U.length c7)).setCell ⟨ga, 1, none⟩ (.slice A7' r2.L.length c7') = w8 at *
  go_wp2_with fail
  refine (remove_any AS cS S p w8 (Rd.more hS8 hn8) hcS HSS.out hp (by omega)).mono ?_
  rintro e w9 ⟨v9, rfl, ho9, hb⟩
  have hB9 := hB8.trans (hb.mono hB8.size)
  have hq9 := hq8.below hb hq8.lt
  have ha9 := ha8.below hb ha8.lt
  have hS9 : EnRd w9 N2 AS S := Rd.below hS8 (hb.mono hn8)
  have hn9 : N2 ≤ w9.heap.size := Nat.le_trans hn8 hb.size
  have hu9 := (hu8.below hb).more hb.size
  clear hb hB8 hq8 ha8 hS8 hn8 hu8
  obtain ⟨A9, c9, rfl, hc9, ht9⟩ := EnOwn.rd ho9
  clear ho9
  generalize Tr.remove S p.data.toList = t2 at *
  obtain ⟨t2, y2⟩ := t2
  dsimp only at ht9 HA2 HL2
  have hl2 := HL2.out
  obtain ⟨a0, a1, af, az⟩ := ha9.two
  go_wp2_with fail
  clear a0 a1 af az
  refine (seenLaw_any A7 A7' A9 c7 c7' c9 r2 e2 t2 y2 w9 hu9 ht9 hl2 HA2.out.1 HA2.out.2).mono ?_
  rintro e w10 ⟨rfl, hb⟩
  have hB10 := hB9.trans (hb.mono hB9.size)
  have hq10 := hq9.below hb hq9.lt
  have ha10 := ha9.below hb ha9.lt
  have hS10 : EnRd w10 N2 AS S := Rd.below hS9 (hb.mono hn9)
  have hn10 : N2 ≤ w10.heap.size := Nat.le_trans hn9 hb.size
  have hu10 := (hu9.below hb).more hb.size
  clear hb hB9 hq9 ha9 hS9 hn9 hu9
  clear hu10 ht9
  obtain ⟨q0, q1, qf, qz⟩ := hq10.two
  go_wp2_with fail
  clear q0 q1 qf qz
  refine (moveU_any A A' c c' u p q w10 ((HU.out.below hB10).more hB10.size) HS.out hp hq).mono ?_
  rintro e w11 ⟨A11, A11', c11, c11', rfl, hf11, hb⟩
  have hB11 := hB10.trans (hb.mono hB10.size)
  have hq11 := hq10.below hb hq10.lt
  have ha11 := ha10.below hb ha10.lt
  have hS11 : EnRd w11 N2 AS S := Rd.below hS10 (hb.mono hn10)
  have hn11 : N2 ≤ w11.heap.size := Nat.le_trans hn10 hb.size
  have hbz11 := hb.size
  clear hb hB10 hq10 hS10 hn10
  have hf12 := (hf11.set (p := ⟨ga, 0, none⟩) (by exact ha10.lt) (.slice A11 (Tr.moveU u p.data.toList q.data.toList).1.U.length c11)).set (p := ⟨ga, 1, none⟩) (by exact ha10.lt) (.slice A11' (Tr.moveU u p.data.toList q.data.toList).1.L.length c11')
  have hga10 := ha10.lt
  clear ha10 hf11
  generalize Tr.moveU u p.data.toList q.data.toList = r3 at *
  obtain ⟨r3, e3⟩ := r3
  dsimp only at hf12 HA3
  have hB12 := (hB11.setCell (p := ⟨ga, 0, none⟩) (by exact Nat.le_of_lt hga) (.slice A11 r3.U.length c11)).setCell (p := ⟨ga, 1, none⟩) (by exact Nat.le_of_lt hga) (.slice A11' r3.L.length c11')
  have hgq : w.heap.size ≠ ga := by omega
  have hq12 := (hq11.far (p := ⟨ga, 0, none⟩) hgq (.slice A11 r3.U.length c11)).far (p := ⟨ga, 1, none⟩) hgq (.slice A11' r3.L.length c11')
  have ha12 : Blk ((w11.setCell ⟨ga, 0, none⟩ (.slice A11 r3.U.length c11)).setCell ⟨ga, 1, none⟩ (.slice A11' r3.L.length c11')) ga 49 [.slice A11 r3.U.length c11, .slice A11' r3.L.length c11'] := (ha11.set_ 0 _).set_ 1 _
  have hS12 : EnRd ((w11.setCell ⟨ga, 0, none⟩ (.slice A11 r3.U.length c11)).setCell ⟨ga, 1, none⟩ (.slice A11' r3.L.length c11')) N2 AS S := rd_set (rd_set hS11 (p := ⟨ga, 0, none⟩) hn3 _) (p := ⟨ga, 1, none⟩) hn3 _
  have hn12 : N2 ≤ ((w11.setCell ⟨ga, 0, none⟩ (.slice A11 r3.U.length c11)).setCell ⟨ga, 1, none⟩ (.slice A11' r3.L.length c11')).heap.size := by simpa using hn11
  have hu12 := hf12.here
  obtain ⟨a0, a1, af, az⟩ := ha11.two
  go_upto_region 15 with fail
  clear a0 a1 af az hf12 hB11 hq11 ha11 hS11 hn11 hgq hga10 hbz11
  generalize (w11.setCell ⟨ga, 0, none⟩ (.slice A11 r3.U.length c11)).setCell ⟨ga, 1, none⟩ (.slice A11' r3.L.length c11') = w12 at *
  go_wp2_with fail
  refine (move_any AS cS S p q w12 (Rd.more hS12 hn12) hcS HSS.out hp hq (by omega)).mono ?_
  rintro e w13 ⟨v13, rfl, ho13, hb⟩
  have hB13 := hB12.trans (hb.mono hB12.size)
  have hq13 := hq12.below hb hq12.lt
  have ha13 := ha12.below hb ha12.lt
  have hS13 : EnRd w13 N2 AS S := Rd.below hS12 (hb.mono hn12)
  have hn13 : N2 ≤ w13.heap.size := Nat.le_trans hn12 hb.size
  have hu13 := (hu12.below hb).more hb.size
  clear hb hB12 hq12 ha12 hS12 hn12 hu12
  obtain ⟨A13, c13, rfl, hc13, ht13⟩ := EnOwn.rd ho13
  clear ho13
  generalize Tr.move S p.data.toList q.data.toList = t3 at *
  obtain ⟨t3, y3⟩ := t3
  dsimp only at ht13 HA3 HL3
  have hl3 := HL3.out
  obtain ⟨a0, a1, af, az⟩ := ha13.two
  go_wp2_with fail
  clear a0 a1 af az
  refine (seenLaw_any A11 A11' A13 c11 c11' c13 r3 e3 t3 y3 w13 hu13 ht13 hl3 HA3.out.1 HA3.out.2).mono ?_
  rintro e w14 ⟨rfl, hb⟩
  have hB14 := hB13.trans (hb.mono hB13.size)
  go_wp2_with fail
  go_ret
  exact ⟨rfl, hB14⟩
end Go.Proofs.YtjppfhgkanbemabDoor
