/-
  The walks of lock.Wrong, and of what it calls: it returns what Lk.wrong gives.
-/
import Derived.Test.YtjppfhgkanbemaaLkWalks
namespace Go.Proofs.Ytjppfhgkanbemaa
open Go.RowKit

theorem Blk.lkAt {w : World} {g : Nat} {t : TypeId} {xo xf xt : Int} {xa : Bool} (h : Blk w g t [.int .i64 xo, .int .i64 xf, .int .i64 xt, .bool xa]) : LkAt w g 0 ⟨xo, xf, xt, xa⟩ :=
  ⟨h.cell 0, h.cell 1, h.cell 2, h.cell 3⟩

theorem wrong1_any (g : Nat) (y x : Lk) (w : World) (hx : Blk w g 24 [.int .i64 x.o, .int .i64 x.f, .int .i64 x.t, .bool x.a]) :
    Calls Try.prog 20 #[.agg #[.int .i64 y.o, .int .i64 y.f, .int .i64 y.t, .bool y.a], .pointer (some ⟨g, 0, none⟩)] w fun e w' => e = .returned (.bool (Lk.clash y x)) ∧ Below w.heap.size w w' := by
  obtain ⟨xo, xf, xt, xa⟩ := x
  obtain ⟨yo, yf, yt, ya⟩ := y
  obtain ⟨x0, x1, x2, x3, xfr, xz⟩ := hx.four
  dsimp only at *
  go_enter Try.func20, Try.ntmps20
  go_wp2_with fail
  refine (clash_any _ _ _ _ ⟨yo, yf, yt, ya⟩ ⟨xo, xf, xt, xa⟩ _ ⟨by go_simp, by go_simp, by go_simp, by go_simp⟩ ⟨by go_simp, by go_simp, by go_simp, by go_simp⟩).mono ?_
  rintro e w' ⟨rfl, nq, rfl⟩
  go_wp2_with fail
  go_ret
  exact ⟨rfl, below_drewN ((Below.refl _ _).alloc (Nat.le_refl _) _) _⟩

set_option maxHeartbeats 800000 in
theorem indexW_any (A : Option Addr) (n c g : Nat) (l : List Lk) (x : Lk) (w : World) (hl : LkRd w w.heap.size A l) (hn : n ≤ l.length) (hbig : n ≤ 9223372036854775807) (hx : Blk w g 24 [.int .i64 x.o, .int .i64 x.f, .int .i64 x.t, .bool x.a]) :
    Calls Try.prog 31 #[.slice A n c, .func (.func 20) #[] #[.pointer (some ⟨g, 0, none⟩)]] w fun e w' => ∃ i : Int, e = .returned (.int .i64 i) ∧ (0 ≤ i ↔ (l.take n).any (fun y => Lk.clash y x) = true) ∧ Below w.heap.size w w' := by
  have hxl := hx.lt
  go_enter Try.func31, Try.ntmps31
  go_wp2
  go_loopw [8] (fun i wr => ∃ k : Nat, k ≤ n ∧ i = .int .i64 k ∧ Hid ((l.take k).any (fun y => Lk.clash y x) = false) ∧ Below w.heap.size w wr) (fun i _ => n - (intOf i).toNat)
  case atStart => exact ⟨0, Nat.zero_le _, rfl, rfl, Below.refl _ _⟩
  case round =>
    obtain ⟨k, hk, rfl, hno, hB⟩ := hrel
    by_cases hlt : k < n
    · obtain ⟨b, o, rfl, hb, h0, h1, h2, h3⟩ := (LkRd.at_ (hl.below hB) (by omega : k < l.length))
      have hbx := hx.below hB hxl
      have hstep : Hid ((l.take (k + 1)).any (fun y => Lk.clash y x) = Lk.clash l[k] x) := by
        show _ = _
        rw [List.take_succ_eq_append_getElem (by omega), List.any_append, hno.out]
        simp
      generalize hy : l[k] = y at *
      have Hy := Lib.hid hy
      clear hy
      go_wp2_with fail
      refine (wrong1_any g y x _ hbx).mono ?_
      rintro e w1 ⟨rfl, hb1⟩
      have hB1 := hB.trans (hb1.mono hB.size)
      rcases hc : Lk.clash y x with _ | _
      · go_wp2_with fail
        go_roundw
        case rel => exact ⟨k + 1, hlt, by go_num, by rw [hc] at hstep; exact hstep, hB1⟩
        case measure => simp [intOf]; omega
      · go_wp2_with fail
        go_ret
        refine ⟨_, rfl, ?_, hB1⟩
        have e1 : (l.take (k + 1)).any (fun y => Lk.clash y x) = true := hstep.out.trans hc
        have e2 : (l.take n).any (fun y => Lk.clash y x) = true := by
          have : l.take n = l.take (k + 1) ++ (l.take n).drop (k + 1) := by
            rw [show l.take (k + 1) = (l.take n).take (k + 1) from by rw [List.take_take]; congr 1; omega, List.take_append_drop]
          rw [this, List.any_append, e1, Bool.true_or]
        rw [e2]
        simp
    · go_wp2_with fail
      go_ret
      refine ⟨_, rfl, ?_, hB⟩
      have : k = n := by omega
      subst this
      rw [hno.out]
      simp

theorem containsW_any (A : Option Addr) (n c g : Nat) (l : List Lk) (x : Lk) (w : World) (hl : LkRd w w.heap.size A l) (hn : n ≤ l.length) (hbig : n ≤ 9223372036854775807) (hx : Blk w g 24 [.int .i64 x.o, .int .i64 x.f, .int .i64 x.t, .bool x.a]) :
    Calls Try.prog 19 #[.slice A n c, .func (.func 20) #[] #[.pointer (some ⟨g, 0, none⟩)]] w fun e w' => e = .returned (.bool ((l.take n).any (fun y => Lk.clash y x))) ∧ Below w.heap.size w w' := by
  have hc := indexW_any A n c g l x w hl hn hbig hx
  clear hx hl
  generalize (l.take n).any (fun y => Lk.clash y x) = r at *
  go_enter Try.func19, Try.ntmps19
  go_wp2_with fail
  refine hc.mono ?_
  rintro e w1 ⟨i, rfl, hi, hb⟩
  have Hi := Lib.hid hi
  clear hi hc
  go_wp2_with fail
  go_ret
  refine ⟨?_, hb⟩
  have e : decide (0 ≤ i) = r := by
    rw [Bool.eq_iff_iff, decide_eq_true_eq]
    exact Hi.out
  rw [← e]
  rfl

end Go.Proofs.Ytjppfhgkanbemaa
