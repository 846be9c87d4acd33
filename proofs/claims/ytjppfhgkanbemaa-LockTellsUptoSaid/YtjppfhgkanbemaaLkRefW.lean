/-
  The walk of the document's WrongLocks: it returns what Lk.wrong gives. (Printed by wip/genrefw.py.)
-/
import Derived.Test.YtjppfhgkanbemaaLkRef
import Derived.Test.YtjppfhgkanbemaaLkRef2
namespace Go.Proofs.Ytjppfhgkanbemaa
open Go.RowKit

set_option maxHeartbeats 8000000 in
set_option maxRecDepth 100000 in
theorem refWrong_any (A : Option Addr) (c : Nat) (l : List Lk) (w : World) (hl : LkRd w w.heap.size A l) (hc : l.length ≤ c) (hbig : l.length ≤ 9223372036854775807) :
    Calls Try.prog 9 #[.slice A l.length c] w fun e w' => e = .returned (.agg #[.int .i64 (Lk.wrong l).1, .int .i64 (Lk.wrong l).2]) ∧ Below w.heap.size w w' := by
  by_cases h40 : 40 < l.length
  · have Hn : Hid (Lk.wrong l = (5, 0)) := if_pos h40
    go_enter Try.func9, Try.ntmps9
    go_wp2_with fail
    refine bodyPost_ret (v := .agg #[.int .i64 5, .int .i64 0]) ?_ rfl ⟨by rw [Hn.out], ?_⟩
    · simp [results, Try.results9, go_sem]
    · exact (Below.refl _ _).alloc (Nat.le_refl _) _
  · have Hn : Hid (Lk.wrong l = Lk.wrongFrom [] l) := if_neg h40
    go_enter Try.func9, Try.ntmps9
    go_wp2_with fail
    go_loopw [15] (fun i wr => ∃ k : Nat, k ≤ l.length ∧ i = .int .i64 k ∧ Hid (Lk.wrongFrom [] l = Lk.wrongFrom (l.take k) (l.drop k)) ∧ Below w.heap.size w wr ∧ Blk wr w.heap.size 27 [.int .i64 0, .int .i64 0]) (fun i _ => l.length - (intOf i).toNat)
    case atStart => exact ⟨0, Nat.zero_le _, rfl, rfl, (Below.refl _ _).alloc (Nat.le_refl _) _, Blk.new _ _ _⟩
    case round =>
      obtain ⟨k, hk, rfl, Hw, hB0, hr0⟩ := hrel
      obtain ⟨r0, r1, rf, rz⟩ := hr0.two
      have hws : w.heap.size ≤ wr.heap.size := hB0.size
      by_cases hlt : k < l.length
      · obtain ⟨b, o, rfl, hb, h0, h1, h2, h3⟩ := (LkRd.at_ (hl.below hB0) hlt)
        have hbz : b < wr.heap.size := Nat.lt_of_lt_of_le hb hB0.size
        have hkc : k ≤ c := by omega
        generalize hy : l[k] = y at *
        obtain ⟨xo, xf, xt, xa⟩ := y
        have Hy := Lib.hid hy
        clear hy
        dsimp only at h0 h1 h2 h3
        rcases (show xo < 0 ∨ 0 ≤ xo by omega) with d8 | d8
        · go_wp2_with fail
          have hB2 : Below w.heap.size w ((wr.alloc (.cells #[.int .i64 k] 3)).alloc (.cells #[.int .i64 xo, .int .i64 xf, .int .i64 xt, .bool xa] 24)) := (hB0.alloc hB0.size _).alloc (by simp; omega) _
          have hr2 : Blk ((wr.alloc (.cells #[.int .i64 k] 3)).alloc (.cells #[.int .i64 xo, .int .i64 xf, .int .i64 xt, .bool xa] 24)) w.heap.size 27 [.int .i64 0, .int .i64 0] := (hr0.alloc _).alloc _
          have hk2 : Blk ((wr.alloc (.cells #[.int .i64 k] 3)).alloc (.cells #[.int .i64 xo, .int .i64 xf, .int .i64 xt, .bool xa] 24)) wr.heap.size 3 [.int .i64 k] := (Blk.new wr _ _).alloc _
          have hx2 : Blk ((wr.alloc (.cells #[.int .i64 k] 3)).alloc (.cells #[.int .i64 xo, .int .i64 xf, .int .i64 xt, .bool xa] 24)) (wr.heap.size + 1) 24 [.int .i64 xo, .int .i64 xf, .int .i64 xt, .bool xa] := by
            have h := Blk.new (wr.alloc (.cells #[.int .i64 k] 3)) 24 [.int .i64 xo, .int .i64 xf, .int .i64 xt, .bool xa]
            rwa [World.size_alloc] at h
          clear hB0 hr0 r0 r1 rf rz h0 h1 h2 h3
          generalize (wr.alloc (.cells #[.int .i64 k] 3)).alloc (.cells #[.int .i64 xo, .int .i64 xf, .int .i64 xt, .bool xa] 24) = w2 at *
          generalize wr.heap.size = g at *
          obtain ⟨r0, r1, rf, rz⟩ := hr2.two
          obtain ⟨k0, kf, kz⟩ := hk2.one
          obtain ⟨bx0, bx1, bx2, bx3, bxf, bxz⟩ := hx2.four
          have hfin : Lk.wrongFrom [] l = (3, (k : Int)) := (Hw.out.trans (Lk.wrongFrom_bad hlt Hy.out (Lk.badAt_range (by simp only [Lk.range, Bool.or_eq_true, decide_eq_true_eq]; omega)) (by decide))).trans rfl
          refine (refBad_any g 3 ((k : Int)) _ hk2).mono ?_
          rintro e w9 ⟨rfl, hb9⟩
          have r9 := hr2.below hb9 rz
          have hB9 := hB2.trans (hb9.mono hB2.size)
          obtain ⟨q0, q1, qf, qz⟩ := r9.two
          clear r0 r1 rf rz
          go_wp2_with fail
          refine bodyPost_ret (v := .agg #[.int .i64 3, .int .i64 ((k : Int))]) ?_ rfl ⟨by rw [Hn.out, hfin], ?_⟩
          · simp [results, Try.results9, go_sem, q0, q1]
          · exact ((hB9.setCell (by exact Nat.le_refl _) _).setCell (by exact Nat.le_refl _) _)
        rcases (show 3 < xo ∨ xo ≤ 3 by omega) with d9 | d9
        · go_wp2_with fail
          have hB2 : Below w.heap.size w ((wr.alloc (.cells #[.int .i64 k] 3)).alloc (.cells #[.int .i64 xo, .int .i64 xf, .int .i64 xt, .bool xa] 24)) := (hB0.alloc hB0.size _).alloc (by simp; omega) _
          have hr2 : Blk ((wr.alloc (.cells #[.int .i64 k] 3)).alloc (.cells #[.int .i64 xo, .int .i64 xf, .int .i64 xt, .bool xa] 24)) w.heap.size 27 [.int .i64 0, .int .i64 0] := (hr0.alloc _).alloc _
          have hk2 : Blk ((wr.alloc (.cells #[.int .i64 k] 3)).alloc (.cells #[.int .i64 xo, .int .i64 xf, .int .i64 xt, .bool xa] 24)) wr.heap.size 3 [.int .i64 k] := (Blk.new wr _ _).alloc _
          have hx2 : Blk ((wr.alloc (.cells #[.int .i64 k] 3)).alloc (.cells #[.int .i64 xo, .int .i64 xf, .int .i64 xt, .bool xa] 24)) (wr.heap.size + 1) 24 [.int .i64 xo, .int .i64 xf, .int .i64 xt, .bool xa] := by
            have h := Blk.new (wr.alloc (.cells #[.int .i64 k] 3)) 24 [.int .i64 xo, .int .i64 xf, .int .i64 xt, .bool xa]
            rwa [World.size_alloc] at h
          clear hB0 hr0 r0 r1 rf rz h0 h1 h2 h3
          generalize (wr.alloc (.cells #[.int .i64 k] 3)).alloc (.cells #[.int .i64 xo, .int .i64 xf, .int .i64 xt, .bool xa] 24) = w2 at *
          generalize wr.heap.size = g at *
          obtain ⟨r0, r1, rf, rz⟩ := hr2.two
          obtain ⟨k0, kf, kz⟩ := hk2.one
          obtain ⟨bx0, bx1, bx2, bx3, bxf, bxz⟩ := hx2.four
          have hfin : Lk.wrongFrom [] l = (3, (k : Int)) := (Hw.out.trans (Lk.wrongFrom_bad hlt Hy.out (Lk.badAt_range (by simp only [Lk.range, Bool.or_eq_true, decide_eq_true_eq]; omega)) (by decide))).trans rfl
          refine (refBad_any g 3 ((k : Int)) _ hk2).mono ?_
          rintro e w9 ⟨rfl, hb9⟩
          have r9 := hr2.below hb9 rz
          have hB9 := hB2.trans (hb9.mono hB2.size)
          obtain ⟨q0, q1, qf, qz⟩ := r9.two
          clear r0 r1 rf rz
          go_wp2_with fail
          refine bodyPost_ret (v := .agg #[.int .i64 3, .int .i64 ((k : Int))]) ?_ rfl ⟨by rw [Hn.out, hfin], ?_⟩
          · simp [results, Try.results9, go_sem, q0, q1]
          · exact ((hB9.setCell (by exact Nat.le_refl _) _).setCell (by exact Nat.le_refl _) _)
        rcases (show xf < 0 ∨ 0 ≤ xf by omega) with d10 | d10
        · go_wp2_with fail
          have hB2 : Below w.heap.size w ((wr.alloc (.cells #[.int .i64 k] 3)).alloc (.cells #[.int .i64 xo, .int .i64 xf, .int .i64 xt, .bool xa] 24)) := (hB0.alloc hB0.size _).alloc (by simp; omega) _
          have hr2 : Blk ((wr.alloc (.cells #[.int .i64 k] 3)).alloc (.cells #[.int .i64 xo, .int .i64 xf, .int .i64 xt, .bool xa] 24)) w.heap.size 27 [.int .i64 0, .int .i64 0] := (hr0.alloc _).alloc _
          have hk2 : Blk ((wr.alloc (.cells #[.int .i64 k] 3)).alloc (.cells #[.int .i64 xo, .int .i64 xf, .int .i64 xt, .bool xa] 24)) wr.heap.size 3 [.int .i64 k] := (Blk.new wr _ _).alloc _
          have hx2 : Blk ((wr.alloc (.cells #[.int .i64 k] 3)).alloc (.cells #[.int .i64 xo, .int .i64 xf, .int .i64 xt, .bool xa] 24)) (wr.heap.size + 1) 24 [.int .i64 xo, .int .i64 xf, .int .i64 xt, .bool xa] := by
            have h := Blk.new (wr.alloc (.cells #[.int .i64 k] 3)) 24 [.int .i64 xo, .int .i64 xf, .int .i64 xt, .bool xa]
            rwa [World.size_alloc] at h
          clear hB0 hr0 r0 r1 rf rz h0 h1 h2 h3
          generalize (wr.alloc (.cells #[.int .i64 k] 3)).alloc (.cells #[.int .i64 xo, .int .i64 xf, .int .i64 xt, .bool xa] 24) = w2 at *
          generalize wr.heap.size = g at *
          obtain ⟨r0, r1, rf, rz⟩ := hr2.two
          obtain ⟨k0, kf, kz⟩ := hk2.one
          obtain ⟨bx0, bx1, bx2, bx3, bxf, bxz⟩ := hx2.four
          have hfin : Lk.wrongFrom [] l = (3, (k : Int)) := (Hw.out.trans (Lk.wrongFrom_bad hlt Hy.out (Lk.badAt_range (by simp only [Lk.range, Bool.or_eq_true, decide_eq_true_eq]; omega)) (by decide))).trans rfl
          refine (refBad_any g 3 ((k : Int)) _ hk2).mono ?_
          rintro e w9 ⟨rfl, hb9⟩
          have r9 := hr2.below hb9 rz
          have hB9 := hB2.trans (hb9.mono hB2.size)
          obtain ⟨q0, q1, qf, qz⟩ := r9.two
          clear r0 r1 rf rz
          go_wp2_with fail
          refine bodyPost_ret (v := .agg #[.int .i64 3, .int .i64 ((k : Int))]) ?_ rfl ⟨by rw [Hn.out, hfin], ?_⟩
          · simp [results, Try.results9, go_sem, q0, q1]
          · exact ((hB9.setCell (by exact Nat.le_refl _) _).setCell (by exact Nat.le_refl _) _)
        rcases (show 1000 < xt ∨ xt ≤ 1000 by omega) with d11 | d11
        · go_wp2_with fail
          have hB2 : Below w.heap.size w ((wr.alloc (.cells #[.int .i64 k] 3)).alloc (.cells #[.int .i64 xo, .int .i64 xf, .int .i64 xt, .bool xa] 24)) := (hB0.alloc hB0.size _).alloc (by simp; omega) _
          have hr2 : Blk ((wr.alloc (.cells #[.int .i64 k] 3)).alloc (.cells #[.int .i64 xo, .int .i64 xf, .int .i64 xt, .bool xa] 24)) w.heap.size 27 [.int .i64 0, .int .i64 0] := (hr0.alloc _).alloc _
          have hk2 : Blk ((wr.alloc (.cells #[.int .i64 k] 3)).alloc (.cells #[.int .i64 xo, .int .i64 xf, .int .i64 xt, .bool xa] 24)) wr.heap.size 3 [.int .i64 k] := (Blk.new wr _ _).alloc _
          have hx2 : Blk ((wr.alloc (.cells #[.int .i64 k] 3)).alloc (.cells #[.int .i64 xo, .int .i64 xf, .int .i64 xt, .bool xa] 24)) (wr.heap.size + 1) 24 [.int .i64 xo, .int .i64 xf, .int .i64 xt, .bool xa] := by
            have h := Blk.new (wr.alloc (.cells #[.int .i64 k] 3)) 24 [.int .i64 xo, .int .i64 xf, .int .i64 xt, .bool xa]
            rwa [World.size_alloc] at h
          clear hB0 hr0 r0 r1 rf rz h0 h1 h2 h3
          generalize (wr.alloc (.cells #[.int .i64 k] 3)).alloc (.cells #[.int .i64 xo, .int .i64 xf, .int .i64 xt, .bool xa] 24) = w2 at *
          generalize wr.heap.size = g at *
          obtain ⟨r0, r1, rf, rz⟩ := hr2.two
          obtain ⟨k0, kf, kz⟩ := hk2.one
          obtain ⟨bx0, bx1, bx2, bx3, bxf, bxz⟩ := hx2.four
          have hfin : Lk.wrongFrom [] l = (3, (k : Int)) := (Hw.out.trans (Lk.wrongFrom_bad hlt Hy.out (Lk.badAt_range (by simp only [Lk.range, Bool.or_eq_true, decide_eq_true_eq]; omega)) (by decide))).trans rfl
          refine (refBad_any g 3 ((k : Int)) _ hk2).mono ?_
          rintro e w9 ⟨rfl, hb9⟩
          have r9 := hr2.below hb9 rz
          have hB9 := hB2.trans (hb9.mono hB2.size)
          obtain ⟨q0, q1, qf, qz⟩ := r9.two
          clear r0 r1 rf rz
          go_wp2_with fail
          refine bodyPost_ret (v := .agg #[.int .i64 3, .int .i64 ((k : Int))]) ?_ rfl ⟨by rw [Hn.out, hfin], ?_⟩
          · simp [results, Try.results9, go_sem, q0, q1]
          · exact ((hB9.setCell (by exact Nat.le_refl _) _).setCell (by exact Nat.le_refl _) _)
        rcases (show xt ≤ xf ∨ xf < xt by omega) with d12 | d12
        · go_wp2_with fail
          have hB2 : Below w.heap.size w ((wr.alloc (.cells #[.int .i64 k] 3)).alloc (.cells #[.int .i64 xo, .int .i64 xf, .int .i64 xt, .bool xa] 24)) := (hB0.alloc hB0.size _).alloc (by simp; omega) _
          have hr2 : Blk ((wr.alloc (.cells #[.int .i64 k] 3)).alloc (.cells #[.int .i64 xo, .int .i64 xf, .int .i64 xt, .bool xa] 24)) w.heap.size 27 [.int .i64 0, .int .i64 0] := (hr0.alloc _).alloc _
          have hk2 : Blk ((wr.alloc (.cells #[.int .i64 k] 3)).alloc (.cells #[.int .i64 xo, .int .i64 xf, .int .i64 xt, .bool xa] 24)) wr.heap.size 3 [.int .i64 k] := (Blk.new wr _ _).alloc _
          have hx2 : Blk ((wr.alloc (.cells #[.int .i64 k] 3)).alloc (.cells #[.int .i64 xo, .int .i64 xf, .int .i64 xt, .bool xa] 24)) (wr.heap.size + 1) 24 [.int .i64 xo, .int .i64 xf, .int .i64 xt, .bool xa] := by
            have h := Blk.new (wr.alloc (.cells #[.int .i64 k] 3)) 24 [.int .i64 xo, .int .i64 xf, .int .i64 xt, .bool xa]
            rwa [World.size_alloc] at h
          clear hB0 hr0 r0 r1 rf rz h0 h1 h2 h3
          generalize (wr.alloc (.cells #[.int .i64 k] 3)).alloc (.cells #[.int .i64 xo, .int .i64 xf, .int .i64 xt, .bool xa] 24) = w2 at *
          generalize wr.heap.size = g at *
          obtain ⟨r0, r1, rf, rz⟩ := hr2.two
          obtain ⟨k0, kf, kz⟩ := hk2.one
          obtain ⟨bx0, bx1, bx2, bx3, bxf, bxz⟩ := hx2.four
          have hfin : Lk.wrongFrom [] l = (3, (k : Int)) := (Hw.out.trans (Lk.wrongFrom_bad hlt Hy.out (Lk.badAt_range (by simp only [Lk.range, Bool.or_eq_true, decide_eq_true_eq]; omega)) (by decide))).trans rfl
          refine (refBad_any g 3 ((k : Int)) _ hk2).mono ?_
          rintro e w9 ⟨rfl, hb9⟩
          have r9 := hr2.below hb9 rz
          have hB9 := hB2.trans (hb9.mono hB2.size)
          obtain ⟨q0, q1, qf, qz⟩ := r9.two
          clear r0 r1 rf rz
          go_wp2_with fail
          refine bodyPost_ret (v := .agg #[.int .i64 3, .int .i64 ((k : Int))]) ?_ rfl ⟨by rw [Hn.out, hfin], ?_⟩
          · simp [results, Try.results9, go_sem, q0, q1]
          · exact ((hB9.setCell (by exact Nat.le_refl _) _).setCell (by exact Nat.le_refl _) _)
        have HRG := Lib.hid (show Lk.range ⟨xo, xf, xt, xa⟩ = false by simp only [Lk.range, Bool.or_eq_false_iff, decide_eq_false_iff_not]; omega)
        rcases k with _ | m
        · simp only [Nat.zero_mul, Nat.add_zero] at h0 h1 h2 h3
          go_wp2_with fail
          have hB2 : Below w.heap.size w ((wr.alloc (.cells #[.int .i64 0] 3)).alloc (.cells #[.int .i64 xo, .int .i64 xf, .int .i64 xt, .bool xa] 24)) := (hB0.alloc hB0.size _).alloc (by simp; omega) _
          have hr2 : Blk ((wr.alloc (.cells #[.int .i64 0] 3)).alloc (.cells #[.int .i64 xo, .int .i64 xf, .int .i64 xt, .bool xa] 24)) w.heap.size 27 [.int .i64 0, .int .i64 0] := (hr0.alloc _).alloc _
          have hk2 : Blk ((wr.alloc (.cells #[.int .i64 0] 3)).alloc (.cells #[.int .i64 xo, .int .i64 xf, .int .i64 xt, .bool xa] 24)) wr.heap.size 3 [.int .i64 0] := (Blk.new wr _ _).alloc _
          have hx2 : Blk ((wr.alloc (.cells #[.int .i64 0] 3)).alloc (.cells #[.int .i64 xo, .int .i64 xf, .int .i64 xt, .bool xa] 24)) (wr.heap.size + 1) 24 [.int .i64 xo, .int .i64 xf, .int .i64 xt, .bool xa] := by
            have h := Blk.new (wr.alloc (.cells #[.int .i64 0] 3)) 24 [.int .i64 xo, .int .i64 xf, .int .i64 xt, .bool xa]
            rwa [World.size_alloc] at h
          clear hB0 hr0 r0 r1 rf rz h0 h1 h2 h3
          generalize (wr.alloc (.cells #[.int .i64 0] 3)).alloc (.cells #[.int .i64 xo, .int .i64 xf, .int .i64 xt, .bool xa] 24) = w2 at *
          generalize wr.heap.size = g at *
          obtain ⟨r0, r1, rf, rz⟩ := hr2.two
          obtain ⟨k0, kf, kz⟩ := hk2.one
          obtain ⟨bx0, bx1, bx2, bx3, bxf, bxz⟩ := hx2.four
          have HORD := Lib.hid (Lk.order_none l (x := ⟨xo, xf, xt, xa⟩))
          obtain ⟨wo, rfl⟩ : ∃ wo : World, wo = w2 := ⟨_, rfl⟩
          go_loopw [94] (fun j wj => ∃ jj : Nat, jj ≤ 0 ∧ j = .int .i64 jj ∧ Below w.heap.size w wj ∧ Blk wj w.heap.size 27 [.int .i64 0, .int .i64 0] ∧ Blk wj g 3 [.int .i64 (0)] ∧ Blk wj (g + 1) 24 [.int .i64 xo, .int .i64 xf, .int .i64 xt, .bool xa] ∧ Hid ((l.take jj).any (fun z => Lk.clash z ⟨xo, xf, xt, xa⟩) = false)) (fun j _ => 0 - (intOf j).toNat)
          case atStart => exact ⟨0, Nat.zero_le _, rfl, hB2, hr2, hk2, hx2, Lib.hid rfl⟩
          case round =>
            obtain ⟨j, hj, rfl, hB3, hr3, hk3, hx3, HC⟩ := hrel
            clear hB2 hr2 hk2 hx2 r0 r1 rf rz k0 kf kz bx0 bx1 bx2 bx3 bxf bxz
            obtain ⟨r0, r1, rf, rz⟩ := hr3.two
            obtain ⟨k0, kf, kz⟩ := hk3.one
            obtain ⟨bx0, bx1, bx2, bx3, bxf, bxz⟩ := hx3.four
            by_cases hjl : j < 0
            · exact absurd hjl (Nat.not_lt_zero j)
            · obtain rfl : j = 0 := by omega
              have HN := Lib.hid (Lk.wrongFrom_ok hlt Hy.out (Lk.badAt_ok HRG.out HORD.out HC.out))
              go_wp2_with fail
              go_roundw
              case rel => exact ⟨0 + 1, by omega, by go_num, Lib.hid (Hw.out.trans HN.out), hB3, hr3⟩
              case measure => simp [intOf]; omega
        · have hqk : m < l.length := by omega
          obtain ⟨b', o', hA', _, y0, y1, y2, y3⟩ := (LkRd.at_ (hl.below hB0) hqk)
          cases hA'
          generalize hq : l[m] = q at *
          have Hq := Lib.hid hq
          clear hq
          obtain ⟨yo, yf, yt, ya⟩ := q
          dsimp only at y0 y1 y2 y3
          have ORD : ∀ r, (decide (xo < yo) || ((yo == xo) && (decide (xf < yt) || ((xf == yt) && (xa == ya))))) = r → ((l.take (m + 1)).getLast?.any fun y => Lk.order y ⟨xo, xf, xt, xa⟩) = r := fun r h => Lk.order_at hqk Hq.out (by
            rw [← h]; unfold Lk.order; dsimp only; rw [BEq.comm (a := yt) (b := xf), BEq.comm (a := ya) (b := xa)])
          have HO := Lib.hid ORD
          clear ORD
          rcases e6 : decide (xo < yo) with _ | _
          · rcases e7 : (yo == xo) with _ | _
            · have HORD' := Lib.hid (HO.out false (by simp only [e6, e7]; rfl))
              go_wp2_with fail
              clear y0 y1 y2 y3
              have hB2 : Below w.heap.size w ((wr.alloc (.cells #[.int .i64 ((m : Int) + 1)] 3)).alloc (.cells #[.int .i64 xo, .int .i64 xf, .int .i64 xt, .bool xa] 24)) := (hB0.alloc hB0.size _).alloc (by simp; omega) _
              have hr2 : Blk ((wr.alloc (.cells #[.int .i64 ((m : Int) + 1)] 3)).alloc (.cells #[.int .i64 xo, .int .i64 xf, .int .i64 xt, .bool xa] 24)) w.heap.size 27 [.int .i64 0, .int .i64 0] := (hr0.alloc _).alloc _
              have hk2 : Blk ((wr.alloc (.cells #[.int .i64 ((m : Int) + 1)] 3)).alloc (.cells #[.int .i64 xo, .int .i64 xf, .int .i64 xt, .bool xa] 24)) wr.heap.size 3 [.int .i64 ((m : Int) + 1)] := (Blk.new wr _ _).alloc _
              have hx2 : Blk ((wr.alloc (.cells #[.int .i64 ((m : Int) + 1)] 3)).alloc (.cells #[.int .i64 xo, .int .i64 xf, .int .i64 xt, .bool xa] 24)) (wr.heap.size + 1) 24 [.int .i64 xo, .int .i64 xf, .int .i64 xt, .bool xa] := by
                have h := Blk.new (wr.alloc (.cells #[.int .i64 ((m : Int) + 1)] 3)) 24 [.int .i64 xo, .int .i64 xf, .int .i64 xt, .bool xa]
                rwa [World.size_alloc] at h
              replace hB2 := hB2.alloc hB2.size (.cells #[.int .i64 yo, .int .i64 yf, .int .i64 yt, .bool ya] 24)
              replace hr2 := hr2.alloc (.cells #[.int .i64 yo, .int .i64 yf, .int .i64 yt, .bool ya] 24)
              replace hk2 := hk2.alloc (.cells #[.int .i64 yo, .int .i64 yf, .int .i64 yt, .bool ya] 24)
              replace hx2 := hx2.alloc (.cells #[.int .i64 yo, .int .i64 yf, .int .i64 yt, .bool ya] 24)
              clear hB0 hr0 r0 r1 rf rz h0 h1 h2 h3
              generalize ((wr.alloc (.cells #[.int .i64 ((m : Int) + 1)] 3)).alloc (.cells #[.int .i64 xo, .int .i64 xf, .int .i64 xt, .bool xa] 24)).alloc (.cells #[.int .i64 yo, .int .i64 yf, .int .i64 yt, .bool ya] 24) = w2 at *
              generalize wr.heap.size = g at *
              obtain ⟨r0, r1, rf, rz⟩ := hr2.two
              obtain ⟨k0, kf, kz⟩ := hk2.one
              obtain ⟨bx0, bx1, bx2, bx3, bxf, bxz⟩ := hx2.four
              have HORD := Lib.hid (HORD'.out)
              obtain ⟨wo, rfl⟩ : ∃ wo : World, wo = w2 := ⟨_, rfl⟩
              go_loopw [94] (fun j wj => ∃ jj : Nat, jj ≤ (m + 1) ∧ j = .int .i64 jj ∧ Below w.heap.size w wj ∧ Blk wj w.heap.size 27 [.int .i64 0, .int .i64 0] ∧ Blk wj g 3 [.int .i64 (((m : Int) + 1))] ∧ Blk wj (g + 1) 24 [.int .i64 xo, .int .i64 xf, .int .i64 xt, .bool xa] ∧ Hid ((l.take jj).any (fun z => Lk.clash z ⟨xo, xf, xt, xa⟩) = false)) (fun j _ => (m + 1) - (intOf j).toNat)
              case atStart => exact ⟨0, Nat.zero_le _, rfl, hB2, hr2, hk2, hx2, Lib.hid rfl⟩
              case round =>
                obtain ⟨j, hj, rfl, hB3, hr3, hk3, hx3, HC⟩ := hrel
                clear hB2 hr2 hk2 hx2 r0 r1 rf rz k0 kf kz bx0 bx1 bx2 bx3 bxf bxz
                obtain ⟨r0, r1, rf, rz⟩ := hr3.two
                obtain ⟨k0, kf, kz⟩ := hk3.one
                obtain ⟨bx0, bx1, bx2, bx3, bxf, bxz⟩ := hx3.four
                by_cases hjl : j < (m + 1)
                · have hjn : j < l.length := by omega
                  obtain ⟨b', o', hA', _, z0, z1, z2, z3⟩ := (LkRd.at_ (hl.below hB3) hjn)
                  cases hA'
                  have HS := Lib.hid (show (l.take (j + 1)).any (fun z => Lk.clash z ⟨xo, xf, xt, xa⟩) = Lk.clash l[j] ⟨xo, xf, xt, xa⟩ by rw [List.take_succ_eq_append_getElem hjn, List.any_append, HC.out]; simp)
                  have HM := Lib.hid (show l[j] ∈ l.take ((m + 1)) by rw [List.mem_take_iff_getElem]; exact ⟨j, by omega, rfl⟩)
                  generalize l[j] = z at z0 z1 z2 z3 HS HM
                  obtain ⟨zo, zf, zt, za⟩ := z
                  dsimp only at z0 z1 z2 z3
                  rcases hcl : Lk.clash ⟨zo, zf, zt, za⟩ ⟨xo, xf, xt, xa⟩ with _ | _
                  · have HF := Lib.hid (HS.out.trans hcl)
                    have c := fun W => refClash_any ⟨xo, xf, xt, xa⟩ ⟨zo, zf, zt, za⟩ W
                    rw [Lk.clash_comm, hcl] at c
                    dsimp only at c
                    clear hcl
                    go_wp2_with fail
                    refine (c _).mono ?_
                    rintro e w4 ⟨rfl, hb4⟩
                    have q3 := hB3.alloc hB3.size (.cells #[.int .i64 zo, .int .i64 zf, .int .i64 zt, .bool za] 24)
                    have hB4 := q3.trans (hb4.mono q3.size)
                    have hr4 := (hr3.alloc (.cells #[.int .i64 zo, .int .i64 zf, .int .i64 zt, .bool za] 24)).below hb4 (by simp; omega)
                    have hk4 := (hk3.alloc (.cells #[.int .i64 zo, .int .i64 zf, .int .i64 zt, .bool za] 24)).below hb4 (by simp; omega)
                    have hx4 := (hx3.alloc (.cells #[.int .i64 zo, .int .i64 zf, .int .i64 zt, .bool za] 24)).below hb4 (by simp; omega)
                    clear q3 hb4 r0 r1 rf rz k0 kf kz bx0 bx1 bx2 bx3 bxf bxz z0 z1 z2 z3
                    go_wp2_with fail
                    go_roundw
                    case rel => exact ⟨j + 1, by omega, by go_num, hB4, hr4, hk4, hx4, HF⟩
                    case measure => simp [intOf]; omega
                  · have HF := Lib.hid (show (l.take ((m + 1))).any (fun z => Lk.clash z ⟨xo, xf, xt, xa⟩) = true by rw [List.any_eq_true]; exact ⟨_, HM.out, hcl⟩)
                    have c := fun W => refClash_any ⟨xo, xf, xt, xa⟩ ⟨zo, zf, zt, za⟩ W
                    rw [Lk.clash_comm, hcl] at c
                    dsimp only at c
                    clear hcl
                    go_wp2_with fail
                    refine (c _).mono ?_
                    rintro e w4 ⟨rfl, hb4⟩
                    have q3 := hB3.alloc hB3.size (.cells #[.int .i64 zo, .int .i64 zf, .int .i64 zt, .bool za] 24)
                    have hB4 := q3.trans (hb4.mono q3.size)
                    have hr4 := (hr3.alloc (.cells #[.int .i64 zo, .int .i64 zf, .int .i64 zt, .bool za] 24)).below hb4 (by simp; omega)
                    have hk4 := (hk3.alloc (.cells #[.int .i64 zo, .int .i64 zf, .int .i64 zt, .bool za] 24)).below hb4 (by simp; omega)
                    clear q3 hb4 r0 r1 rf rz k0 kf kz bx0 bx1 bx2 bx3 bxf bxz z0 z1 z2 z3
                    obtain ⟨r0, r1, rf, rz⟩ := hr4.two
                    go_wp2_with fail
                    have hfin : Lk.wrongFrom [] l = (8, ((m : Int) + 1)) := (Hw.out.trans (Lk.wrongFrom_bad hlt Hy.out (Lk.badAt_clash HRG.out HORD.out HF.out) (by decide))).trans rfl
                    refine (refBad_any g 8 (((m : Int) + 1)) _ hk4).mono ?_
                    rintro e w9 ⟨rfl, hb9⟩
                    have r9 := hr4.below hb9 rz
                    have hB9 := hB4.trans (hb9.mono hB4.size)
                    obtain ⟨q0, q1, qf, qz⟩ := r9.two
                    clear r0 r1 rf rz
                    go_wp2_with fail
                    refine bodyPost_ret (v := .agg #[.int .i64 8, .int .i64 (((m : Int) + 1))]) ?_ rfl ⟨by rw [Hn.out, hfin], ?_⟩
                    · simp [results, Try.results9, go_sem, q0, q1]
                    · exact ((hB9.setCell (by exact Nat.le_refl _) _).setCell (by exact Nat.le_refl _) _)
                · obtain rfl : j = (m + 1) := by omega
                  have HN := Lib.hid (Lk.wrongFrom_ok hlt Hy.out (Lk.badAt_ok HRG.out HORD.out HC.out))
                  go_wp2_with fail
                  go_roundw
                  case rel => exact ⟨(m + 1) + 1, by omega, by go_num, Lib.hid (Hw.out.trans HN.out), hB3, hr3⟩
                  case measure => simp [intOf]; omega
            · rcases e8 : decide (xf < yt) with _ | _
              · rcases e9 : (xf == yt) with _ | _
                · have HORD' := Lib.hid (HO.out false (by simp only [e6, e7, e8, e9]; rfl))
                  go_wp2_with fail
                  clear y0 y1 y2 y3
                  have hB2 : Below w.heap.size w ((wr.alloc (.cells #[.int .i64 ((m : Int) + 1)] 3)).alloc (.cells #[.int .i64 xo, .int .i64 xf, .int .i64 xt, .bool xa] 24)) := (hB0.alloc hB0.size _).alloc (by simp; omega) _
                  have hr2 : Blk ((wr.alloc (.cells #[.int .i64 ((m : Int) + 1)] 3)).alloc (.cells #[.int .i64 xo, .int .i64 xf, .int .i64 xt, .bool xa] 24)) w.heap.size 27 [.int .i64 0, .int .i64 0] := (hr0.alloc _).alloc _
                  have hk2 : Blk ((wr.alloc (.cells #[.int .i64 ((m : Int) + 1)] 3)).alloc (.cells #[.int .i64 xo, .int .i64 xf, .int .i64 xt, .bool xa] 24)) wr.heap.size 3 [.int .i64 ((m : Int) + 1)] := (Blk.new wr _ _).alloc _
                  have hx2 : Blk ((wr.alloc (.cells #[.int .i64 ((m : Int) + 1)] 3)).alloc (.cells #[.int .i64 xo, .int .i64 xf, .int .i64 xt, .bool xa] 24)) (wr.heap.size + 1) 24 [.int .i64 xo, .int .i64 xf, .int .i64 xt, .bool xa] := by
                    have h := Blk.new (wr.alloc (.cells #[.int .i64 ((m : Int) + 1)] 3)) 24 [.int .i64 xo, .int .i64 xf, .int .i64 xt, .bool xa]
                    rwa [World.size_alloc] at h
                  replace hB2 := hB2.alloc hB2.size (.cells #[.int .i64 yo, .int .i64 yf, .int .i64 yt, .bool ya] 24)
                  replace hr2 := hr2.alloc (.cells #[.int .i64 yo, .int .i64 yf, .int .i64 yt, .bool ya] 24)
                  replace hk2 := hk2.alloc (.cells #[.int .i64 yo, .int .i64 yf, .int .i64 yt, .bool ya] 24)
                  replace hx2 := hx2.alloc (.cells #[.int .i64 yo, .int .i64 yf, .int .i64 yt, .bool ya] 24)
                  clear hB0 hr0 r0 r1 rf rz h0 h1 h2 h3
                  generalize ((wr.alloc (.cells #[.int .i64 ((m : Int) + 1)] 3)).alloc (.cells #[.int .i64 xo, .int .i64 xf, .int .i64 xt, .bool xa] 24)).alloc (.cells #[.int .i64 yo, .int .i64 yf, .int .i64 yt, .bool ya] 24) = w2 at *
                  generalize wr.heap.size = g at *
                  obtain ⟨r0, r1, rf, rz⟩ := hr2.two
                  obtain ⟨k0, kf, kz⟩ := hk2.one
                  obtain ⟨bx0, bx1, bx2, bx3, bxf, bxz⟩ := hx2.four
                  have HORD := Lib.hid (HORD'.out)
                  obtain ⟨wo, rfl⟩ : ∃ wo : World, wo = w2 := ⟨_, rfl⟩
                  go_loopw [94] (fun j wj => ∃ jj : Nat, jj ≤ (m + 1) ∧ j = .int .i64 jj ∧ Below w.heap.size w wj ∧ Blk wj w.heap.size 27 [.int .i64 0, .int .i64 0] ∧ Blk wj g 3 [.int .i64 (((m : Int) + 1))] ∧ Blk wj (g + 1) 24 [.int .i64 xo, .int .i64 xf, .int .i64 xt, .bool xa] ∧ Hid ((l.take jj).any (fun z => Lk.clash z ⟨xo, xf, xt, xa⟩) = false)) (fun j _ => (m + 1) - (intOf j).toNat)
                  case atStart => exact ⟨0, Nat.zero_le _, rfl, hB2, hr2, hk2, hx2, Lib.hid rfl⟩
                  case round =>
                    obtain ⟨j, hj, rfl, hB3, hr3, hk3, hx3, HC⟩ := hrel
                    clear hB2 hr2 hk2 hx2 r0 r1 rf rz k0 kf kz bx0 bx1 bx2 bx3 bxf bxz
                    obtain ⟨r0, r1, rf, rz⟩ := hr3.two
                    obtain ⟨k0, kf, kz⟩ := hk3.one
                    obtain ⟨bx0, bx1, bx2, bx3, bxf, bxz⟩ := hx3.four
                    by_cases hjl : j < (m + 1)
                    · have hjn : j < l.length := by omega
                      obtain ⟨b', o', hA', _, z0, z1, z2, z3⟩ := (LkRd.at_ (hl.below hB3) hjn)
                      cases hA'
                      have HS := Lib.hid (show (l.take (j + 1)).any (fun z => Lk.clash z ⟨xo, xf, xt, xa⟩) = Lk.clash l[j] ⟨xo, xf, xt, xa⟩ by rw [List.take_succ_eq_append_getElem hjn, List.any_append, HC.out]; simp)
                      have HM := Lib.hid (show l[j] ∈ l.take ((m + 1)) by rw [List.mem_take_iff_getElem]; exact ⟨j, by omega, rfl⟩)
                      generalize l[j] = z at z0 z1 z2 z3 HS HM
                      obtain ⟨zo, zf, zt, za⟩ := z
                      dsimp only at z0 z1 z2 z3
                      rcases hcl : Lk.clash ⟨zo, zf, zt, za⟩ ⟨xo, xf, xt, xa⟩ with _ | _
                      · have HF := Lib.hid (HS.out.trans hcl)
                        have c := fun W => refClash_any ⟨xo, xf, xt, xa⟩ ⟨zo, zf, zt, za⟩ W
                        rw [Lk.clash_comm, hcl] at c
                        dsimp only at c
                        clear hcl
                        go_wp2_with fail
                        refine (c _).mono ?_
                        rintro e w4 ⟨rfl, hb4⟩
                        have q3 := hB3.alloc hB3.size (.cells #[.int .i64 zo, .int .i64 zf, .int .i64 zt, .bool za] 24)
                        have hB4 := q3.trans (hb4.mono q3.size)
                        have hr4 := (hr3.alloc (.cells #[.int .i64 zo, .int .i64 zf, .int .i64 zt, .bool za] 24)).below hb4 (by simp; omega)
                        have hk4 := (hk3.alloc (.cells #[.int .i64 zo, .int .i64 zf, .int .i64 zt, .bool za] 24)).below hb4 (by simp; omega)
                        have hx4 := (hx3.alloc (.cells #[.int .i64 zo, .int .i64 zf, .int .i64 zt, .bool za] 24)).below hb4 (by simp; omega)
                        clear q3 hb4 r0 r1 rf rz k0 kf kz bx0 bx1 bx2 bx3 bxf bxz z0 z1 z2 z3
                        go_wp2_with fail
                        go_roundw
                        case rel => exact ⟨j + 1, by omega, by go_num, hB4, hr4, hk4, hx4, HF⟩
                        case measure => simp [intOf]; omega
                      · have HF := Lib.hid (show (l.take ((m + 1))).any (fun z => Lk.clash z ⟨xo, xf, xt, xa⟩) = true by rw [List.any_eq_true]; exact ⟨_, HM.out, hcl⟩)
                        have c := fun W => refClash_any ⟨xo, xf, xt, xa⟩ ⟨zo, zf, zt, za⟩ W
                        rw [Lk.clash_comm, hcl] at c
                        dsimp only at c
                        clear hcl
                        go_wp2_with fail
                        refine (c _).mono ?_
                        rintro e w4 ⟨rfl, hb4⟩
                        have q3 := hB3.alloc hB3.size (.cells #[.int .i64 zo, .int .i64 zf, .int .i64 zt, .bool za] 24)
                        have hB4 := q3.trans (hb4.mono q3.size)
                        have hr4 := (hr3.alloc (.cells #[.int .i64 zo, .int .i64 zf, .int .i64 zt, .bool za] 24)).below hb4 (by simp; omega)
                        have hk4 := (hk3.alloc (.cells #[.int .i64 zo, .int .i64 zf, .int .i64 zt, .bool za] 24)).below hb4 (by simp; omega)
                        clear q3 hb4 r0 r1 rf rz k0 kf kz bx0 bx1 bx2 bx3 bxf bxz z0 z1 z2 z3
                        obtain ⟨r0, r1, rf, rz⟩ := hr4.two
                        go_wp2_with fail
                        have hfin : Lk.wrongFrom [] l = (8, ((m : Int) + 1)) := (Hw.out.trans (Lk.wrongFrom_bad hlt Hy.out (Lk.badAt_clash HRG.out HORD.out HF.out) (by decide))).trans rfl
                        refine (refBad_any g 8 (((m : Int) + 1)) _ hk4).mono ?_
                        rintro e w9 ⟨rfl, hb9⟩
                        have r9 := hr4.below hb9 rz
                        have hB9 := hB4.trans (hb9.mono hB4.size)
                        obtain ⟨q0, q1, qf, qz⟩ := r9.two
                        clear r0 r1 rf rz
                        go_wp2_with fail
                        refine bodyPost_ret (v := .agg #[.int .i64 8, .int .i64 (((m : Int) + 1))]) ?_ rfl ⟨by rw [Hn.out, hfin], ?_⟩
                        · simp [results, Try.results9, go_sem, q0, q1]
                        · exact ((hB9.setCell (by exact Nat.le_refl _) _).setCell (by exact Nat.le_refl _) _)
                    · obtain rfl : j = (m + 1) := by omega
                      have HN := Lib.hid (Lk.wrongFrom_ok hlt Hy.out (Lk.badAt_ok HRG.out HORD.out HC.out))
                      go_wp2_with fail
                      go_roundw
                      case rel => exact ⟨(m + 1) + 1, by omega, by go_num, Lib.hid (Hw.out.trans HN.out), hB3, hr3⟩
                      case measure => simp [intOf]; omega
                · rcases e10 : (xa == ya) with _ | _
                  · have HORD' := Lib.hid (HO.out false (by simp only [e6, e7, e8, e9, e10]; rfl))
                    go_wp2_with fail
                    clear y0 y1 y2 y3
                    have hB2 : Below w.heap.size w ((wr.alloc (.cells #[.int .i64 ((m : Int) + 1)] 3)).alloc (.cells #[.int .i64 xo, .int .i64 xf, .int .i64 xt, .bool xa] 24)) := (hB0.alloc hB0.size _).alloc (by simp; omega) _
                    have hr2 : Blk ((wr.alloc (.cells #[.int .i64 ((m : Int) + 1)] 3)).alloc (.cells #[.int .i64 xo, .int .i64 xf, .int .i64 xt, .bool xa] 24)) w.heap.size 27 [.int .i64 0, .int .i64 0] := (hr0.alloc _).alloc _
                    have hk2 : Blk ((wr.alloc (.cells #[.int .i64 ((m : Int) + 1)] 3)).alloc (.cells #[.int .i64 xo, .int .i64 xf, .int .i64 xt, .bool xa] 24)) wr.heap.size 3 [.int .i64 ((m : Int) + 1)] := (Blk.new wr _ _).alloc _
                    have hx2 : Blk ((wr.alloc (.cells #[.int .i64 ((m : Int) + 1)] 3)).alloc (.cells #[.int .i64 xo, .int .i64 xf, .int .i64 xt, .bool xa] 24)) (wr.heap.size + 1) 24 [.int .i64 xo, .int .i64 xf, .int .i64 xt, .bool xa] := by
                      have h := Blk.new (wr.alloc (.cells #[.int .i64 ((m : Int) + 1)] 3)) 24 [.int .i64 xo, .int .i64 xf, .int .i64 xt, .bool xa]
                      rwa [World.size_alloc] at h
                    replace hB2 := hB2.alloc hB2.size (.cells #[.int .i64 yo, .int .i64 yf, .int .i64 yt, .bool ya] 24)
                    replace hr2 := hr2.alloc (.cells #[.int .i64 yo, .int .i64 yf, .int .i64 yt, .bool ya] 24)
                    replace hk2 := hk2.alloc (.cells #[.int .i64 yo, .int .i64 yf, .int .i64 yt, .bool ya] 24)
                    replace hx2 := hx2.alloc (.cells #[.int .i64 yo, .int .i64 yf, .int .i64 yt, .bool ya] 24)
                    clear hB0 hr0 r0 r1 rf rz h0 h1 h2 h3
                    generalize ((wr.alloc (.cells #[.int .i64 ((m : Int) + 1)] 3)).alloc (.cells #[.int .i64 xo, .int .i64 xf, .int .i64 xt, .bool xa] 24)).alloc (.cells #[.int .i64 yo, .int .i64 yf, .int .i64 yt, .bool ya] 24) = w2 at *
                    generalize wr.heap.size = g at *
                    obtain ⟨r0, r1, rf, rz⟩ := hr2.two
                    obtain ⟨k0, kf, kz⟩ := hk2.one
                    obtain ⟨bx0, bx1, bx2, bx3, bxf, bxz⟩ := hx2.four
                    have HORD := Lib.hid (HORD'.out)
                    obtain ⟨wo, rfl⟩ : ∃ wo : World, wo = w2 := ⟨_, rfl⟩
                    go_loopw [94] (fun j wj => ∃ jj : Nat, jj ≤ (m + 1) ∧ j = .int .i64 jj ∧ Below w.heap.size w wj ∧ Blk wj w.heap.size 27 [.int .i64 0, .int .i64 0] ∧ Blk wj g 3 [.int .i64 (((m : Int) + 1))] ∧ Blk wj (g + 1) 24 [.int .i64 xo, .int .i64 xf, .int .i64 xt, .bool xa] ∧ Hid ((l.take jj).any (fun z => Lk.clash z ⟨xo, xf, xt, xa⟩) = false)) (fun j _ => (m + 1) - (intOf j).toNat)
                    case atStart => exact ⟨0, Nat.zero_le _, rfl, hB2, hr2, hk2, hx2, Lib.hid rfl⟩
                    case round =>
                      obtain ⟨j, hj, rfl, hB3, hr3, hk3, hx3, HC⟩ := hrel
                      clear hB2 hr2 hk2 hx2 r0 r1 rf rz k0 kf kz bx0 bx1 bx2 bx3 bxf bxz
                      obtain ⟨r0, r1, rf, rz⟩ := hr3.two
                      obtain ⟨k0, kf, kz⟩ := hk3.one
                      obtain ⟨bx0, bx1, bx2, bx3, bxf, bxz⟩ := hx3.four
                      by_cases hjl : j < (m + 1)
                      · have hjn : j < l.length := by omega
                        obtain ⟨b', o', hA', _, z0, z1, z2, z3⟩ := (LkRd.at_ (hl.below hB3) hjn)
                        cases hA'
                        have HS := Lib.hid (show (l.take (j + 1)).any (fun z => Lk.clash z ⟨xo, xf, xt, xa⟩) = Lk.clash l[j] ⟨xo, xf, xt, xa⟩ by rw [List.take_succ_eq_append_getElem hjn, List.any_append, HC.out]; simp)
                        have HM := Lib.hid (show l[j] ∈ l.take ((m + 1)) by rw [List.mem_take_iff_getElem]; exact ⟨j, by omega, rfl⟩)
                        generalize l[j] = z at z0 z1 z2 z3 HS HM
                        obtain ⟨zo, zf, zt, za⟩ := z
                        dsimp only at z0 z1 z2 z3
                        rcases hcl : Lk.clash ⟨zo, zf, zt, za⟩ ⟨xo, xf, xt, xa⟩ with _ | _
                        · have HF := Lib.hid (HS.out.trans hcl)
                          have c := fun W => refClash_any ⟨xo, xf, xt, xa⟩ ⟨zo, zf, zt, za⟩ W
                          rw [Lk.clash_comm, hcl] at c
                          dsimp only at c
                          clear hcl
                          go_wp2_with fail
                          refine (c _).mono ?_
                          rintro e w4 ⟨rfl, hb4⟩
                          have q3 := hB3.alloc hB3.size (.cells #[.int .i64 zo, .int .i64 zf, .int .i64 zt, .bool za] 24)
                          have hB4 := q3.trans (hb4.mono q3.size)
                          have hr4 := (hr3.alloc (.cells #[.int .i64 zo, .int .i64 zf, .int .i64 zt, .bool za] 24)).below hb4 (by simp; omega)
                          have hk4 := (hk3.alloc (.cells #[.int .i64 zo, .int .i64 zf, .int .i64 zt, .bool za] 24)).below hb4 (by simp; omega)
                          have hx4 := (hx3.alloc (.cells #[.int .i64 zo, .int .i64 zf, .int .i64 zt, .bool za] 24)).below hb4 (by simp; omega)
                          clear q3 hb4 r0 r1 rf rz k0 kf kz bx0 bx1 bx2 bx3 bxf bxz z0 z1 z2 z3
                          go_wp2_with fail
                          go_roundw
                          case rel => exact ⟨j + 1, by omega, by go_num, hB4, hr4, hk4, hx4, HF⟩
                          case measure => simp [intOf]; omega
                        · have HF := Lib.hid (show (l.take ((m + 1))).any (fun z => Lk.clash z ⟨xo, xf, xt, xa⟩) = true by rw [List.any_eq_true]; exact ⟨_, HM.out, hcl⟩)
                          have c := fun W => refClash_any ⟨xo, xf, xt, xa⟩ ⟨zo, zf, zt, za⟩ W
                          rw [Lk.clash_comm, hcl] at c
                          dsimp only at c
                          clear hcl
                          go_wp2_with fail
                          refine (c _).mono ?_
                          rintro e w4 ⟨rfl, hb4⟩
                          have q3 := hB3.alloc hB3.size (.cells #[.int .i64 zo, .int .i64 zf, .int .i64 zt, .bool za] 24)
                          have hB4 := q3.trans (hb4.mono q3.size)
                          have hr4 := (hr3.alloc (.cells #[.int .i64 zo, .int .i64 zf, .int .i64 zt, .bool za] 24)).below hb4 (by simp; omega)
                          have hk4 := (hk3.alloc (.cells #[.int .i64 zo, .int .i64 zf, .int .i64 zt, .bool za] 24)).below hb4 (by simp; omega)
                          clear q3 hb4 r0 r1 rf rz k0 kf kz bx0 bx1 bx2 bx3 bxf bxz z0 z1 z2 z3
                          obtain ⟨r0, r1, rf, rz⟩ := hr4.two
                          go_wp2_with fail
                          have hfin : Lk.wrongFrom [] l = (8, ((m : Int) + 1)) := (Hw.out.trans (Lk.wrongFrom_bad hlt Hy.out (Lk.badAt_clash HRG.out HORD.out HF.out) (by decide))).trans rfl
                          refine (refBad_any g 8 (((m : Int) + 1)) _ hk4).mono ?_
                          rintro e w9 ⟨rfl, hb9⟩
                          have r9 := hr4.below hb9 rz
                          have hB9 := hB4.trans (hb9.mono hB4.size)
                          obtain ⟨q0, q1, qf, qz⟩ := r9.two
                          clear r0 r1 rf rz
                          go_wp2_with fail
                          refine bodyPost_ret (v := .agg #[.int .i64 8, .int .i64 (((m : Int) + 1))]) ?_ rfl ⟨by rw [Hn.out, hfin], ?_⟩
                          · simp [results, Try.results9, go_sem, q0, q1]
                          · exact ((hB9.setCell (by exact Nat.le_refl _) _).setCell (by exact Nat.le_refl _) _)
                      · obtain rfl : j = (m + 1) := by omega
                        have HN := Lib.hid (Lk.wrongFrom_ok hlt Hy.out (Lk.badAt_ok HRG.out HORD.out HC.out))
                        go_wp2_with fail
                        go_roundw
                        case rel => exact ⟨(m + 1) + 1, by omega, by go_num, Lib.hid (Hw.out.trans HN.out), hB3, hr3⟩
                        case measure => simp [intOf]; omega
                  · have HORD := Lib.hid (HO.out true (by simp only [e6, e7, e8, e9, e10]; rfl))
                    go_wp2_with fail
                    clear y0 y1 y2 y3
                    have hB2 : Below w.heap.size w ((wr.alloc (.cells #[.int .i64 ((m : Int) + 1)] 3)).alloc (.cells #[.int .i64 xo, .int .i64 xf, .int .i64 xt, .bool xa] 24)) := (hB0.alloc hB0.size _).alloc (by simp; omega) _
                    have hr2 : Blk ((wr.alloc (.cells #[.int .i64 ((m : Int) + 1)] 3)).alloc (.cells #[.int .i64 xo, .int .i64 xf, .int .i64 xt, .bool xa] 24)) w.heap.size 27 [.int .i64 0, .int .i64 0] := (hr0.alloc _).alloc _
                    have hk2 : Blk ((wr.alloc (.cells #[.int .i64 ((m : Int) + 1)] 3)).alloc (.cells #[.int .i64 xo, .int .i64 xf, .int .i64 xt, .bool xa] 24)) wr.heap.size 3 [.int .i64 ((m : Int) + 1)] := (Blk.new wr _ _).alloc _
                    have hx2 : Blk ((wr.alloc (.cells #[.int .i64 ((m : Int) + 1)] 3)).alloc (.cells #[.int .i64 xo, .int .i64 xf, .int .i64 xt, .bool xa] 24)) (wr.heap.size + 1) 24 [.int .i64 xo, .int .i64 xf, .int .i64 xt, .bool xa] := by
                      have h := Blk.new (wr.alloc (.cells #[.int .i64 ((m : Int) + 1)] 3)) 24 [.int .i64 xo, .int .i64 xf, .int .i64 xt, .bool xa]
                      rwa [World.size_alloc] at h
                    replace hB2 := hB2.alloc hB2.size (.cells #[.int .i64 yo, .int .i64 yf, .int .i64 yt, .bool ya] 24)
                    replace hr2 := hr2.alloc (.cells #[.int .i64 yo, .int .i64 yf, .int .i64 yt, .bool ya] 24)
                    replace hk2 := hk2.alloc (.cells #[.int .i64 yo, .int .i64 yf, .int .i64 yt, .bool ya] 24)
                    replace hx2 := hx2.alloc (.cells #[.int .i64 yo, .int .i64 yf, .int .i64 yt, .bool ya] 24)
                    clear hB0 hr0 r0 r1 rf rz h0 h1 h2 h3
                    generalize ((wr.alloc (.cells #[.int .i64 ((m : Int) + 1)] 3)).alloc (.cells #[.int .i64 xo, .int .i64 xf, .int .i64 xt, .bool xa] 24)).alloc (.cells #[.int .i64 yo, .int .i64 yf, .int .i64 yt, .bool ya] 24) = w2 at *
                    generalize wr.heap.size = g at *
                    obtain ⟨r0, r1, rf, rz⟩ := hr2.two
                    obtain ⟨k0, kf, kz⟩ := hk2.one
                    obtain ⟨bx0, bx1, bx2, bx3, bxf, bxz⟩ := hx2.four
                    have hfin : Lk.wrongFrom [] l = (2, ((m : Int) + 1)) := (Hw.out.trans (Lk.wrongFrom_bad hlt Hy.out (Lk.badAt_order HRG.out HORD.out) (by decide))).trans rfl
                    refine (refBad_any g 2 (((m : Int) + 1)) _ hk2).mono ?_
                    rintro e w9 ⟨rfl, hb9⟩
                    have r9 := hr2.below hb9 rz
                    have hB9 := hB2.trans (hb9.mono hB2.size)
                    obtain ⟨q0, q1, qf, qz⟩ := r9.two
                    clear r0 r1 rf rz
                    go_wp2_with fail
                    refine bodyPost_ret (v := .agg #[.int .i64 2, .int .i64 (((m : Int) + 1))]) ?_ rfl ⟨by rw [Hn.out, hfin], ?_⟩
                    · simp [results, Try.results9, go_sem, q0, q1]
                    · exact ((hB9.setCell (by exact Nat.le_refl _) _).setCell (by exact Nat.le_refl _) _)
              · have HORD := Lib.hid (HO.out true (by simp only [e6, e7, e8]; rfl))
                go_wp2_with fail
                clear y0 y1 y2 y3
                have hB2 : Below w.heap.size w ((wr.alloc (.cells #[.int .i64 ((m : Int) + 1)] 3)).alloc (.cells #[.int .i64 xo, .int .i64 xf, .int .i64 xt, .bool xa] 24)) := (hB0.alloc hB0.size _).alloc (by simp; omega) _
                have hr2 : Blk ((wr.alloc (.cells #[.int .i64 ((m : Int) + 1)] 3)).alloc (.cells #[.int .i64 xo, .int .i64 xf, .int .i64 xt, .bool xa] 24)) w.heap.size 27 [.int .i64 0, .int .i64 0] := (hr0.alloc _).alloc _
                have hk2 : Blk ((wr.alloc (.cells #[.int .i64 ((m : Int) + 1)] 3)).alloc (.cells #[.int .i64 xo, .int .i64 xf, .int .i64 xt, .bool xa] 24)) wr.heap.size 3 [.int .i64 ((m : Int) + 1)] := (Blk.new wr _ _).alloc _
                have hx2 : Blk ((wr.alloc (.cells #[.int .i64 ((m : Int) + 1)] 3)).alloc (.cells #[.int .i64 xo, .int .i64 xf, .int .i64 xt, .bool xa] 24)) (wr.heap.size + 1) 24 [.int .i64 xo, .int .i64 xf, .int .i64 xt, .bool xa] := by
                  have h := Blk.new (wr.alloc (.cells #[.int .i64 ((m : Int) + 1)] 3)) 24 [.int .i64 xo, .int .i64 xf, .int .i64 xt, .bool xa]
                  rwa [World.size_alloc] at h
                replace hB2 := hB2.alloc hB2.size (.cells #[.int .i64 yo, .int .i64 yf, .int .i64 yt, .bool ya] 24)
                replace hr2 := hr2.alloc (.cells #[.int .i64 yo, .int .i64 yf, .int .i64 yt, .bool ya] 24)
                replace hk2 := hk2.alloc (.cells #[.int .i64 yo, .int .i64 yf, .int .i64 yt, .bool ya] 24)
                replace hx2 := hx2.alloc (.cells #[.int .i64 yo, .int .i64 yf, .int .i64 yt, .bool ya] 24)
                clear hB0 hr0 r0 r1 rf rz h0 h1 h2 h3
                generalize ((wr.alloc (.cells #[.int .i64 ((m : Int) + 1)] 3)).alloc (.cells #[.int .i64 xo, .int .i64 xf, .int .i64 xt, .bool xa] 24)).alloc (.cells #[.int .i64 yo, .int .i64 yf, .int .i64 yt, .bool ya] 24) = w2 at *
                generalize wr.heap.size = g at *
                obtain ⟨r0, r1, rf, rz⟩ := hr2.two
                obtain ⟨k0, kf, kz⟩ := hk2.one
                obtain ⟨bx0, bx1, bx2, bx3, bxf, bxz⟩ := hx2.four
                have hfin : Lk.wrongFrom [] l = (2, ((m : Int) + 1)) := (Hw.out.trans (Lk.wrongFrom_bad hlt Hy.out (Lk.badAt_order HRG.out HORD.out) (by decide))).trans rfl
                refine (refBad_any g 2 (((m : Int) + 1)) _ hk2).mono ?_
                rintro e w9 ⟨rfl, hb9⟩
                have r9 := hr2.below hb9 rz
                have hB9 := hB2.trans (hb9.mono hB2.size)
                obtain ⟨q0, q1, qf, qz⟩ := r9.two
                clear r0 r1 rf rz
                go_wp2_with fail
                refine bodyPost_ret (v := .agg #[.int .i64 2, .int .i64 (((m : Int) + 1))]) ?_ rfl ⟨by rw [Hn.out, hfin], ?_⟩
                · simp [results, Try.results9, go_sem, q0, q1]
                · exact ((hB9.setCell (by exact Nat.le_refl _) _).setCell (by exact Nat.le_refl _) _)
          · have HORD := Lib.hid (HO.out true (by simp only [e6]; rfl))
            go_wp2_with fail
            clear y0 y1 y2 y3
            have hB2 : Below w.heap.size w ((wr.alloc (.cells #[.int .i64 ((m : Int) + 1)] 3)).alloc (.cells #[.int .i64 xo, .int .i64 xf, .int .i64 xt, .bool xa] 24)) := (hB0.alloc hB0.size _).alloc (by simp; omega) _
            have hr2 : Blk ((wr.alloc (.cells #[.int .i64 ((m : Int) + 1)] 3)).alloc (.cells #[.int .i64 xo, .int .i64 xf, .int .i64 xt, .bool xa] 24)) w.heap.size 27 [.int .i64 0, .int .i64 0] := (hr0.alloc _).alloc _
            have hk2 : Blk ((wr.alloc (.cells #[.int .i64 ((m : Int) + 1)] 3)).alloc (.cells #[.int .i64 xo, .int .i64 xf, .int .i64 xt, .bool xa] 24)) wr.heap.size 3 [.int .i64 ((m : Int) + 1)] := (Blk.new wr _ _).alloc _
            have hx2 : Blk ((wr.alloc (.cells #[.int .i64 ((m : Int) + 1)] 3)).alloc (.cells #[.int .i64 xo, .int .i64 xf, .int .i64 xt, .bool xa] 24)) (wr.heap.size + 1) 24 [.int .i64 xo, .int .i64 xf, .int .i64 xt, .bool xa] := by
              have h := Blk.new (wr.alloc (.cells #[.int .i64 ((m : Int) + 1)] 3)) 24 [.int .i64 xo, .int .i64 xf, .int .i64 xt, .bool xa]
              rwa [World.size_alloc] at h
            replace hB2 := hB2.alloc hB2.size (.cells #[.int .i64 yo, .int .i64 yf, .int .i64 yt, .bool ya] 24)
            replace hr2 := hr2.alloc (.cells #[.int .i64 yo, .int .i64 yf, .int .i64 yt, .bool ya] 24)
            replace hk2 := hk2.alloc (.cells #[.int .i64 yo, .int .i64 yf, .int .i64 yt, .bool ya] 24)
            replace hx2 := hx2.alloc (.cells #[.int .i64 yo, .int .i64 yf, .int .i64 yt, .bool ya] 24)
            clear hB0 hr0 r0 r1 rf rz h0 h1 h2 h3
            generalize ((wr.alloc (.cells #[.int .i64 ((m : Int) + 1)] 3)).alloc (.cells #[.int .i64 xo, .int .i64 xf, .int .i64 xt, .bool xa] 24)).alloc (.cells #[.int .i64 yo, .int .i64 yf, .int .i64 yt, .bool ya] 24) = w2 at *
            generalize wr.heap.size = g at *
            obtain ⟨r0, r1, rf, rz⟩ := hr2.two
            obtain ⟨k0, kf, kz⟩ := hk2.one
            obtain ⟨bx0, bx1, bx2, bx3, bxf, bxz⟩ := hx2.four
            have hfin : Lk.wrongFrom [] l = (2, ((m : Int) + 1)) := (Hw.out.trans (Lk.wrongFrom_bad hlt Hy.out (Lk.badAt_order HRG.out HORD.out) (by decide))).trans rfl
            refine (refBad_any g 2 (((m : Int) + 1)) _ hk2).mono ?_
            rintro e w9 ⟨rfl, hb9⟩
            have r9 := hr2.below hb9 rz
            have hB9 := hB2.trans (hb9.mono hB2.size)
            obtain ⟨q0, q1, qf, qz⟩ := r9.two
            clear r0 r1 rf rz
            go_wp2_with fail
            refine bodyPost_ret (v := .agg #[.int .i64 2, .int .i64 (((m : Int) + 1))]) ?_ rfl ⟨by rw [Hn.out, hfin], ?_⟩
            · simp [results, Try.results9, go_sem, q0, q1]
            · exact ((hB9.setCell (by exact Nat.le_refl _) _).setCell (by exact Nat.le_refl _) _)
      · obtain rfl : k = l.length := by omega
        have hfin : Lk.wrongFrom [] l = (0, 0) := by rw [Hw.out, List.drop_length]; rfl
        go_wp2_with fail
        refine bodyPost_ret (v := .agg #[.int .i64 0, .int .i64 0]) ?_ rfl ⟨by rw [Hn.out, hfin], ?_⟩
        · simp [results, Try.results9, go_sem, r0, r1]
        · exact ((hB0.setCell (by exact Nat.le_refl _) _).setCell (by exact Nat.le_refl _) _)

end Go.Proofs.Ytjppfhgkanbemaa
