/-
  The walks of lock.span, Take and Free.
-/
import Derived.Test.YtjppfhgkanbemaaLkWrong2
import Derived.Test.YtjppfhgkanbemaaLkTidy
import Derived.Test.YtjppfhgkanbemaaMem2
namespace Go.Proofs.Ytjppfhgkanbemaa
open Go.RowKit

theorem lkRd_one (w : World) (B : Nat) (x : Lk) (hB : w.heap.size < B) : LkRd (w.alloc (.cells #[.int .i64 x.o, .int .i64 x.f, .int .i64 x.t, .bool x.a] 24)) B (some ⟨w.heap.size, 0, none⟩) [x] :=
  ⟨rfl, fun _ => ⟨w.heap.size, 0, rfl, hB, fun j u hu => by
    rw [Nat.zero_add]
    exact ((Blk.new w 24 [.int .i64 x.o, .int .i64 x.f, .int .i64 x.t, .bool x.a]).cell j).trans hu⟩⟩

theorem field_fault (a b : Int) (W : World) : (Instr.field 27 (.agg #[.int .i64 a, .int .i64 b]) 0).run Try.prog W = .ok (.int .i64 a) W := by kernel_rfl

theorem span_any (g : Nat) (x : Lk) (w : World) (hx : Blk w g 24 [.int .i64 x.o, .int .i64 x.f, .int .i64 x.t, .bool x.a]) :
    Calls Try.prog 23 #[.pointer (some ⟨g, 0, none⟩)] w fun e w' => e = .returned (.int .i64 (Lk.wrong [x]).1) ∧ Below w.heap.size w w' := by
  obtain ⟨xo, xf, xt, xa⟩ := x
  obtain ⟨x0, x1, x2, x3, xfr, xz⟩ := hx.four
  dsimp only at *
  have hfd := field_fault
  have c := fun W => wrong_any (some ⟨w.heap.size, 0, none⟩) 1 [⟨xo, xf, xt, xa⟩] W
  generalize Lk.wrong [⟨xo, xf, xt, xa⟩] = r at *
  obtain ⟨r1, r2⟩ := r
  dsimp only at *
  go_enter Try.func23, Try.ntmps23
  go_wp2_with fail
  have hr := lkRd_one w (w.heap.size + 1) ⟨xo, xf, xt, xa⟩ (by omega)
  refine (c _ (by simpa using hr) (Nat.le_refl _) (by simp)).mono ?_
  rintro e w' ⟨rfl, hb⟩
  go_wp2_with fail
  go_ret
  exact ⟨rfl, (((Below.refl _ _).alloc (Nat.le_refl _) _).trans (hb.mono (by simp)))⟩

/-- What Take answers. -/
def TakeRel (l : List Lk) (x : Lk) (m : List Lk) (err : Int) : Prop :=
  ((Lk.wrong l).1 ≠ 0 ∧ m = [] ∧ err = (Lk.wrong l).1) ∨
  ((Lk.wrong l).1 = 0 ∧ (Lk.wrong [x]).1 ≠ 0 ∧ m = [] ∧ err = (Lk.wrong [x]).1) ∨
  ((Lk.wrong l).1 = 0 ∧ (Lk.wrong [x]).1 = 0 ∧ (Lk.meets l x).isSome = true ∧ m = [] ∧ err = 13) ∨
  ((Lk.wrong l).1 = 0 ∧ (Lk.wrong [x]).1 = 0 ∧ (Lk.meets l x).isSome = false ∧ ∃ l' : List Lk, l'.Perm (Lk.cut l x ++ [x]) ∧ (l'.Pairwise fun x y => Lk.less y x = false) ∧
    ((40 < (Lk.tidy l').length ∧ m = [] ∧ err = 5) ∨ ((Lk.tidy l').length ≤ 40 ∧ m = Lk.tidy l' ∧ err = 0)))
/-- What Free answers. -/
def FreeRel (l : List Lk) (x : Lk) (m : List Lk) (err : Int) : Prop :=
  ((Lk.wrong l).1 ≠ 0 ∧ m = [] ∧ err = (Lk.wrong l).1) ∨
  ((Lk.wrong l).1 = 0 ∧ (Lk.wrong [x]).1 ≠ 0 ∧ m = [] ∧ err = (Lk.wrong [x]).1) ∨
  ((Lk.wrong l).1 = 0 ∧ (Lk.wrong [x]).1 = 0 ∧ ((40 < (Lk.cut l x).length ∧ m = [] ∧ err = 5) ∨ ((Lk.cut l x).length ≤ 40 ∧ m = Lk.cut l x ∧ err = 0)))

theorem lkOwn_nil (w : World) (base : Nat) : LkOwn w base (.slice none 0 0) [] := World.ownsRow_nil _ _ _ _
theorem wrong_le {l : List Lk} (h : (Lk.wrong l).1 = 0) : l.length ≤ 40 := by
  unfold Lk.wrong at h
  split at h
  · cases h
  · omega


set_option maxHeartbeats 1600000 in
set_option maxRecDepth 100000 in
theorem free_any (A : Option Addr) (c : Nat) (l : List Lk) (x : Lk) (w : World) (hl : LkRd w w.heap.size A l) (hc : l.length ≤ c) (hbig : l.length ≤ 9223372036854775807) :
    Calls Try.prog 15 #[.slice A l.length c, .agg #[.int .i64 x.o, .int .i64 x.f, .int .i64 x.t, .bool x.a]] w fun e w' => ∃ v m err, e = .returned (.tuple #[v, .int .i64 err]) ∧ FreeRel l x m err ∧ LkOwn w' w.heap.size v m ∧ Below w.heap.size w w' := by
  obtain ⟨xo, xf, xt, xa⟩ := x
  dsimp only
  have hB0 : Below w.heap.size w w := Below.refl _ _
  go_enter Try.func15, Try.ntmps15
  go_wp2_with fail
  have hB1 := hB0.alloc hB0.size (.cells #[.int .i64 xo, .int .i64 xf, .int .i64 xt, .bool xa] 24)
  have hx1 : Blk (w.alloc (.cells #[.int .i64 xo, .int .i64 xf, .int .i64 xt, .bool xa] 24)) w.heap.size 24 [.int .i64 xo, .int .i64 xf, .int .i64 xt, .bool xa] := Blk.new _ _ _
  clear hB0
  generalize w.alloc (.cells #[.int .i64 xo, .int .i64 xf, .int .i64 xt, .bool xa] 24) = w1 at *
  obtain ⟨bx0, bx1, bx2, bx3, bxf, bxz⟩ := hx1.four
  have c1 := wrong_any A c l w1 (hl.below hB1 |>.more hB1.size) hc hbig
  generalize hwl : Lk.wrong l = wl at c1
  obtain ⟨we, wa⟩ := wl
  have Hw := Lib.hid (congrArg Prod.fst hwl)
  clear hwl
  dsimp only at c1
  refine c1.mono ?_
  rintro e w2 ⟨rfl, hb⟩
  clear c1
  have hB2 := hB1.trans (hb.mono hB1.size)
  have hx2 := hx1.below hb hx1.lt
  clear hB1 hx1 bx0 bx1 bx2 bx3 bxf bxz hb
  obtain ⟨bx0, bx1, bx2, bx3, bxf, bxz⟩ := hx2.four
  rcases t : (we != 0) with _ | _
  · have tw : we = 0 := by simpa using t
    have Hz : Hid ((Lk.wrong l).1 = 0) := Hw.out.trans tw
    have hl40 := wrong_le Hz.out
    clear tw
    go_wp2_with fail
    have hB3 := hB2.alloc hB2.size (.cells #[.int .i64 we, .int .i64 wa] 27)
    have hx3 := hx2.alloc (.cells #[.int .i64 we, .int .i64 wa] 27)
    have hf3 : Blk (w2.alloc (.cells #[.int .i64 we, .int .i64 wa] 27)) w2.heap.size 27 [.int .i64 we, .int .i64 wa] := Blk.new _ _ _
    have gfB : w.heap.size ≤ w2.heap.size := hB2.size
    clear hB2 hx2 bx0 bx1 bx2 bx3 bxf bxz
    generalize w2.alloc (.cells #[.int .i64 we, .int .i64 wa] 27) = w3 at *
    generalize w2.heap.size = gf at *
    obtain ⟨bx0, bx1, bx2, bx3, bxf, bxz⟩ := hx3.four
    obtain ⟨bf0, bf1, bff, bfz⟩ := hf3.two
    have c1 := span_any w.heap.size ⟨xo, xf, xt, xa⟩ w3 hx3
    generalize hwl : (Lk.wrong [⟨xo, xf, xt, xa⟩]).1 = ws at c1
    have Hs := Lib.hid hwl
    clear hwl
    refine c1.mono ?_
    rintro e w4 ⟨rfl, hb⟩
    clear c1
    have hB4 := hB3.trans (hb.mono hB3.size)
    have hx4 := hx3.below hb hx3.lt
    have hf4 := hf3.below hb hf3.lt
    clear hB3 hx3 hf3 bx0 bx1 bx2 bx3 bf0 bf1 bxf bxz bff bfz hb
    obtain ⟨bx0, bx1, bx2, bx3, bxf, bxz⟩ := hx4.four
    obtain ⟨bf0, bf1, bff, bfz⟩ := hf4.two
    rcases t2 : (ws != 0) with _ | _
    · have tw : ws = 0 := by simpa using t2
      have Hsz : Hid ((Lk.wrong [⟨xo, xf, xt, xa⟩]).1 = 0) := Hs.out.trans tw
      clear tw
      go_wp2_with fail
      refine (cut_any A c w.heap.size 0 l ⟨xo, xf, xt, xa⟩ w4 (hl.below hB4 |>.more hB4.size) (by omega) hx4.lkAt hx4.lt).mono ?_
      rintro e w5 ⟨v, rfl, ho, hb⟩
      have ho5 := own_base ho hB4.size
      have hB5 := hB4.trans (hb.mono hB4.size)
      have hx5 := hx4.below hb hx4.lt
      have hf5 := hf4.below hb hf4.lt
      clear hB4 hx4 hf4 bx0 bx1 bx2 bx3 bf0 bf1 bxf bxz bff bfz hb
      obtain ⟨bx0, bx1, bx2, bx3, bxf, bxz⟩ := hx5.four
      obtain ⟨bf0, bf1, bff, bfz⟩ := hf5.two
      rcases own_shape ho with ⟨hv, hn0⟩ | ⟨g', cap', hv, _, _, _⟩
      · subst hv
        have e0 : Lk.cut l ⟨xo, xf, xt, xa⟩ = [] := List.eq_nil_of_length_eq_zero hn0
        go_wp2_with fail
        go_ret2
        exact ⟨_, _, _, rfl, .inr (.inr ⟨Hz.out, Hsz.out, .inr ⟨by rw [e0]; decide, rfl, rfl⟩⟩), ho5, hB5⟩
      · subst hv
        rcases t4 : decide ((40 : Int) < ((Lk.cut l ⟨xo, xf, xt, xa⟩).length : Int)) with _ | _
        · go_wp2_with fail
          go_ret2
          exact ⟨_, _, _, rfl, .inr (.inr ⟨Hz.out, Hsz.out, .inr ⟨by have := of_decide_eq_false t4; omega, rfl, rfl⟩⟩), ho5, hB5⟩
        · go_wp2_with fail
          go_ret2
          exact ⟨_, _, _, rfl, .inr (.inr ⟨Hz.out, Hsz.out, .inl ⟨by have := of_decide_eq_true t4; omega, rfl, rfl⟩⟩), lkOwn_nil _ _, hB5⟩
    · go_wp2_with fail
      go_ret2
      exact ⟨.slice none 0 0, [], _, rfl, .inr (.inl ⟨Hz.out, by rw [Hs.out]; simpa using t2, rfl, Hs.out.symm⟩), lkOwn_nil _ _, hB4⟩
  · go_wp2_with fail
    have hB3 := hB2.alloc hB2.size (.cells #[.int .i64 we, .int .i64 wa] 27)
    have hx3 := hx2.alloc (.cells #[.int .i64 we, .int .i64 wa] 27)
    have hf3 : Blk (w2.alloc (.cells #[.int .i64 we, .int .i64 wa] 27)) w2.heap.size 27 [.int .i64 we, .int .i64 wa] := Blk.new _ _ _
    have gfB : w.heap.size ≤ w2.heap.size := hB2.size
    clear hB2 hx2 bx0 bx1 bx2 bx3 bxf bxz
    generalize w2.alloc (.cells #[.int .i64 we, .int .i64 wa] 27) = w3 at *
    generalize w2.heap.size = gf at *
    obtain ⟨bx0, bx1, bx2, bx3, bxf, bxz⟩ := hx3.four
    obtain ⟨bf0, bf1, bff, bfz⟩ := hf3.two
    refine wp_region_quiet_lit (by kernel_rfl) (by kernel_rfl) ?_
    repeat (first | go_big_quiet_step (fail) | quiet_step (fail))
    refine wpQuiet_nil ?_
    intro w4 hw'
    obtain ⟨nq, hw''⟩ := hw'
    have hB4 := below_drewN hB3 nq
    have hx4 := hx3.drewN nq
    have hf4 := hf3.drewN nq
    rw [← hw''] at hB4 hx4 hf4
    clear hB3 hx3 hf3 bx0 bx1 bx2 bx3 bf0 bf1 bxf bxz bff bfz hw''
    obtain ⟨bx0, bx1, bx2, bx3, bxf, bxz⟩ := hx4.four
    obtain ⟨bf0, bf1, bff, bfz⟩ := hf4.two
    go_wp2_with fail
    go_ret2
    exact ⟨.slice none 0 0, [], _, rfl, .inl ⟨by rw [Hw.out]; simpa using t, rfl, Hw.out.symm⟩, lkOwn_nil _ _, hB4⟩

set_option maxHeartbeats 1600000 in
set_option maxRecDepth 100000 in
theorem take_any (A : Option Addr) (c : Nat) (l : List Lk) (x : Lk) (w : World) (hl : LkRd w w.heap.size A l) (hc : l.length ≤ c) (hbig : l.length ≤ 9223372036854775807) :
    Calls Try.prog 12 #[.slice A l.length c, .agg #[.int .i64 x.o, .int .i64 x.f, .int .i64 x.t, .bool x.a]] w fun e w' => ∃ v m err, e = .returned (.tuple #[v, .int .i64 err]) ∧ TakeRel l x m err ∧ LkOwn w' w.heap.size v m ∧ Below w.heap.size w w' := by
  obtain ⟨xo, xf, xt, xa⟩ := x
  dsimp only
  have hB0 : Below w.heap.size w w := Below.refl _ _
  go_enter Try.func12, Try.ntmps12
  go_wp2_with fail
  have hB1 := hB0.alloc hB0.size (.cells #[.int .i64 xo, .int .i64 xf, .int .i64 xt, .bool xa] 24)
  have hx1 : Blk (w.alloc (.cells #[.int .i64 xo, .int .i64 xf, .int .i64 xt, .bool xa] 24)) w.heap.size 24 [.int .i64 xo, .int .i64 xf, .int .i64 xt, .bool xa] := Blk.new _ _ _
  clear hB0
  generalize w.alloc (.cells #[.int .i64 xo, .int .i64 xf, .int .i64 xt, .bool xa] 24) = w1 at *
  obtain ⟨bx0, bx1, bx2, bx3, bxf, bxz⟩ := hx1.four
  have c1 := wrong_any A c l w1 (hl.below hB1 |>.more hB1.size) hc hbig
  generalize hwl : Lk.wrong l = wl at c1
  obtain ⟨we, wa⟩ := wl
  have Hw := Lib.hid (congrArg Prod.fst hwl)
  clear hwl
  dsimp only at c1
  refine c1.mono ?_
  rintro e w2 ⟨rfl, hb⟩
  clear c1
  have hB2 := hB1.trans (hb.mono hB1.size)
  have hx2 := hx1.below hb hx1.lt
  clear hB1 hx1 bx0 bx1 bx2 bx3 bxf bxz hb
  obtain ⟨bx0, bx1, bx2, bx3, bxf, bxz⟩ := hx2.four
  rcases t : (we != 0) with _ | _
  · have tw : we = 0 := by simpa using t
    have Hz : Hid ((Lk.wrong l).1 = 0) := Hw.out.trans tw
    have hl40 := wrong_le Hz.out
    clear tw
    go_wp2_with fail
    have hB3 := hB2.alloc hB2.size (.cells #[.int .i64 we, .int .i64 wa] 27)
    have hx3 := hx2.alloc (.cells #[.int .i64 we, .int .i64 wa] 27)
    have hf3 : Blk (w2.alloc (.cells #[.int .i64 we, .int .i64 wa] 27)) w2.heap.size 27 [.int .i64 we, .int .i64 wa] := Blk.new _ _ _
    have gfB : w.heap.size ≤ w2.heap.size := hB2.size
    clear hB2 hx2 bx0 bx1 bx2 bx3 bxf bxz
    generalize w2.alloc (.cells #[.int .i64 we, .int .i64 wa] 27) = w3 at *
    generalize w2.heap.size = gf at *
    obtain ⟨bx0, bx1, bx2, bx3, bxf, bxz⟩ := hx3.four
    obtain ⟨bf0, bf1, bff, bfz⟩ := hf3.two
    have c1 := span_any w.heap.size ⟨xo, xf, xt, xa⟩ w3 hx3
    generalize hwl : (Lk.wrong [⟨xo, xf, xt, xa⟩]).1 = ws at c1
    have Hs := Lib.hid hwl
    clear hwl
    refine c1.mono ?_
    rintro e w4 ⟨rfl, hb⟩
    clear c1
    have hB4 := hB3.trans (hb.mono hB3.size)
    have hx4 := hx3.below hb hx3.lt
    have hf4 := hf3.below hb hf3.lt
    clear hB3 hx3 hf3 bx0 bx1 bx2 bx3 bf0 bf1 bxf bxz bff bfz hb
    obtain ⟨bx0, bx1, bx2, bx3, bxf, bxz⟩ := hx4.four
    obtain ⟨bf0, bf1, bff, bfz⟩ := hf4.two
    rcases t2 : (ws != 0) with _ | _
    · have tw : ws = 0 := by simpa using t2
      have Hsz : Hid ((Lk.wrong [⟨xo, xf, xt, xa⟩]).1 = 0) := Hs.out.trans tw
      clear tw
      go_wp2_with fail
      have c1 := meets_any A c l ⟨xo, xf, xt, xa⟩ w4 (hl.below hB4 |>.more hB4.size) hbig
      generalize hmt : Lk.meets l ⟨xo, xf, xt, xa⟩ = mt at c1
      have Hm : Hid ((Lk.meets l ⟨xo, xf, xt, xa⟩).isSome = mt.isSome) := by rw [hmt]; rfl
      clear hmt
      generalize mt.getD Lk.zero = mz at c1
      generalize mt.isSome = mb at *
      obtain ⟨mo, mf, mt, ma⟩ := mz
      simp only [Lk.agg, Lk.cells] at c1
      refine Calls.mono (P := Try.prog) (f := 10) c1 ?_
      rintro e w5 ⟨rfl, hb⟩
      clear c1
      have hB5 := hB4.trans (hb.mono hB4.size)
      have hx5 := hx4.below hb hx4.lt
      have hf5 := hf4.below hb hf4.lt
      clear hB4 hx4 hf4 bx0 bx1 bx2 bx3 bf0 bf1 bxf bxz bff bfz hb
      obtain ⟨bx0, bx1, bx2, bx3, bxf, bxz⟩ := hx5.four
      obtain ⟨bf0, bf1, bff, bfz⟩ := hf5.two
      rcases mb with _ | _
      · go_wp2_with fail
        have hB6 := hB5.alloc hB5.size (.cells #[.int .i64 mo, .int .i64 mf, .int .i64 mt, .bool ma] 24)
        have hx6 := hx5.alloc (.cells #[.int .i64 mo, .int .i64 mf, .int .i64 mt, .bool ma] 24)
        have hf6 := hf5.alloc (.cells #[.int .i64 mo, .int .i64 mf, .int .i64 mt, .bool ma] 24)
        have hm6 : Blk (w5.alloc (.cells #[.int .i64 mo, .int .i64 mf, .int .i64 mt, .bool ma] 24)) w5.heap.size 24 [.int .i64 mo, .int .i64 mf, .int .i64 mt, .bool ma] := Blk.new _ _ _
        have gmB : w.heap.size ≤ w5.heap.size := hB5.size
        clear hB5 hx5 hf5 bx0 bx1 bx2 bx3 bf0 bf1 bxf bxz bff bfz
        generalize w5.alloc (.cells #[.int .i64 mo, .int .i64 mf, .int .i64 mt, .bool ma] 24) = w6 at *
        generalize w5.heap.size = gm at *
        obtain ⟨bx0, bx1, bx2, bx3, bxf, bxz⟩ := hx6.four
        obtain ⟨bf0, bf1, bff, bfz⟩ := hf6.two
        obtain ⟨bm0, bm1, bm2, bm3, bmf, bmz⟩ := hm6.four
        obtain ⟨i0, hi, hz0, hz1, hz2⟩ := info_parts info_lk
        have hlA : LkRd w6.drew w6.drew.heap.size A l := (hl.below (below_drewN hB6 1)).more hB6.size
        have hlB : LkRd (w6.alloc (.cells #[.int .i64 xo, .int .i64 xf, .int .i64 xt, .bool xa] 24)).drew (w6.alloc (.cells #[.int .i64 xo, .int .i64 xf, .int .i64 xt, .bool xa] 24)).drew.heap.size A l := (hl.below (below_drewN (hB6.alloc hB6.size _) 1)).more (hB6.alloc hB6.size _).size
        have hxA : Blk w6.drew w.heap.size 24 [.int .i64 xo, .int .i64 xf, .int .i64 xt, .bool xa] := hx6.drew
        have hxB : Blk (w6.alloc (.cells #[.int .i64 xo, .int .i64 xf, .int .i64 xt, .bool xa] 24)).drew w.heap.size 24 [.int .i64 xo, .int .i64 xf, .int .i64 xt, .bool xa] := (hx6.alloc _).drew
        have hTB : Blk (w6.alloc (.cells #[.int .i64 xo, .int .i64 xf, .int .i64 xt, .bool xa] 24)).drew w6.heap.size 24 [.int .i64 xo, .int .i64 xf, .int .i64 xt, .bool xa] := Blk.new _ _ _
        have hcl := Lk.cut_le l ⟨xo, xf, xt, xa⟩
        have hx6z := hx6.lt
        go_region_held3 (fun w' => w'.cell? ⟨w.heap.size, 0, none⟩ = some (.int .i64 xo) ∧ w'.cell? ⟨w.heap.size, 1, none⟩ = some (.int .i64 xf) ∧ w'.cell? ⟨w.heap.size, 2, none⟩ = some (.int .i64 xt) ∧ w'.cell? ⟨w.heap.size, 3, none⟩ = some (.bool xa))
          (first
            | go_keep
            | exact ⟨hx9.cell 0, hx9.cell 1, hx9.cell 2, hx9.cell 3⟩
            | exact ⟨hx8.cell 0, hx8.cell 1, hx8.cell 2, hx8.cell 3⟩
            | exact ⟨hx7.cell 0, hx7.cell 1, hx7.cell 2, hx7.cell 3⟩
            | exact ⟨(hx7.alloc _).cell 0, (hx7.alloc _).cell 1, (hx7.alloc _).cell 2, (hx7.alloc _).cell 3⟩
            | exact ⟨(hx6.alloc _).cell 0, (hx6.alloc _).cell 1, (hx6.alloc _).cell 2, (hx6.alloc _).cell 3⟩)
          (first
            | (go_at_call 25; refine (cut_any A c w.heap.size 0 l ⟨xo, xf, xt, xa⟩ _ (by exact hlA) (by omega) (by exact hxA.lkAt) (by exact hxA.lt)).mono ?_; rintro e w7 ⟨v7, rfl, ho7, hb7⟩; have hB7 : Below w.heap.size w w7 := (below_drewN hB6 1).trans (hb7.mono hB6.size); have hx7 := hxA.below hb7 hxA.lt; have hz7 : w6.heap.size ≤ w7.heap.size := hb7.size)
            | (go_at_call 25; refine (cut_any A c w.heap.size 0 l ⟨xo, xf, xt, xa⟩ _ (by exact hlB) (by omega) (by exact hxB.lkAt) (by exact hxB.lt)).mono ?_; rintro e w7 ⟨v7, rfl, ho7, hb7⟩; have hB7 : Below w.heap.size w w7 := (below_drewN (hB6.alloc hB6.size _) 1).trans (hb7.mono (hB6.alloc hB6.size _).size); have hx7 := hxB.below hb7 hxB.lt; have hT7 := hTB.below hb7 hTB.lt; have hz7 : w6.heap.size ≤ w7.heap.size := Nat.le_trans (by simp) hb7.size)
            | (refine step_appB (w7.alloc (.cells #[.int .i64 xo, .int .i64 xf, .int .i64 xt, .bool xa] 24)) rfl _ _ _ rfl w6.heap.size 24 i0 _ 4 32 Try.underlying22 hi hz0 hz1 hz2 rfl (by decide) v7 _ _ rfl (own_alloc (own_base ho7 (by simp)) _) w7.heap.size 24 [.int .i64 xo, .int .i64 xf, .int .i64 xt, .bool xa] rfl (Blk.new _ _ _) rfl (by simp [Value.oneCell']) (by omega) (by decide) (by simp; omega) ?_; intro v8 w8 hw8 hg8 hat8; have hB8 : Below w.heap.size w w8 := below_grown (hB7.alloc hB7.size _) hg8 (by simp; have := hB7.size; omega) (fun k hk => by have := (ho7.lt k hk).1; simp at this; have := hB6.size; omega); have hx8 := (hx7.alloc _).grown hg8 (own_ne ho7 (.inl (by exact hx6z))); obtain ⟨g8, cap8, hv8, hg8b⟩ := own_pos hw8; subst hv8)
            | (refine step_appB w7 rfl _ _ _ rfl w6.heap.size 24 i0 _ 4 32 Try.underlying22 hi hz0 hz1 hz2 rfl (by decide) v7 _ _ rfl (own_base ho7 (by simp)) w6.heap.size 24 [.int .i64 xo, .int .i64 xf, .int .i64 xt, .bool xa] rfl hT7 rfl (by simp [Value.oneCell']) (by omega) (by decide) (by omega) ?_; intro v8 w8 hw8 hg8 hat8; have hB8 : Below w.heap.size w w8 := below_grown hB7 hg8 hB7.size (fun k hk => by have := (ho7.lt k hk).1; simp at this; have := hB6.size; omega); have hx8 := hx7.grown hg8 (own_ne ho7 (.inl (by simp; omega))); obtain ⟨g8, cap8, hv8, hg8b⟩ := own_pos hw8; subst hv8)
            | (go_at_call 24; have c9 := tidy_any w6.heap.size g8 cap8 (Lk.cut l ⟨xo, xf, xt, xa⟩ ++ [⟨xo, xf, xt, xa⟩]) w8 (LkOwn.snoc (l := Lk.cut l ⟨xo, xf, xt, xa⟩) (y := ⟨xo, xf, xt, xa⟩) (by simpa using hw8) rfl) (by simp; omega); simp only [List.length_append, List.length_cons, List.length_nil, Nat.zero_add] at c9; refine c9.mono ?_; rintro e w9 ⟨v9, l9, rfl, hp9, hs9, ho9, hg9⟩; have hB9 : Below w.heap.size w w9 := below_grown hB8 hg9 hB8.size (fun k hk => by cases hk; have := hB6.size; omega); have hx9 := hx8.grown hg9 (by intro he; injection he with he; omega)))
        all_goals
          rcases own_shape ho9 with ⟨hv, h0⟩ | ⟨g9, cap9, hv, _, _, _⟩
          · subst hv
            go_wp2_with fail
            go_ret2
            exact ⟨_, _, _, rfl, .inr (.inr (.inr ⟨Hz.out, Hsz.out, Hm.out, l9, hp9, hs9, .inr ⟨by omega, rfl, rfl⟩⟩)), own_base ho9 hB8.size, hB9⟩
          · subst hv
            rcases t4 : decide ((40 : Int) < ((Lk.tidy l9).length : Int)) with _ | _
            · go_wp2_with fail
              go_ret2
              exact ⟨_, _, _, rfl, .inr (.inr (.inr ⟨Hz.out, Hsz.out, Hm.out, l9, hp9, hs9, .inr ⟨by have := of_decide_eq_false t4; omega, rfl, rfl⟩⟩)), own_base ho9 hB8.size, hB9⟩
            · go_wp2_with fail
              go_ret2
              exact ⟨_, _, _, rfl, .inr (.inr (.inr ⟨Hz.out, Hsz.out, Hm.out, l9, hp9, hs9, .inl ⟨by have := of_decide_eq_true t4; omega, rfl, rfl⟩⟩)), lkOwn_nil _ _, hB9⟩
      · go_wp2_with fail
        have hB6 := hB5.alloc hB5.size (.cells #[.int .i64 mo, .int .i64 mf, .int .i64 mt, .bool ma] 24)
        have hx6 := hx5.alloc (.cells #[.int .i64 mo, .int .i64 mf, .int .i64 mt, .bool ma] 24)
        have hf6 := hf5.alloc (.cells #[.int .i64 mo, .int .i64 mf, .int .i64 mt, .bool ma] 24)
        have hm6 : Blk (w5.alloc (.cells #[.int .i64 mo, .int .i64 mf, .int .i64 mt, .bool ma] 24)) w5.heap.size 24 [.int .i64 mo, .int .i64 mf, .int .i64 mt, .bool ma] := Blk.new _ _ _
        have gmB : w.heap.size ≤ w5.heap.size := hB5.size
        clear hB5 hx5 hf5 bx0 bx1 bx2 bx3 bf0 bf1 bxf bxz bff bfz
        generalize w5.alloc (.cells #[.int .i64 mo, .int .i64 mf, .int .i64 mt, .bool ma] 24) = w6 at *
        generalize w5.heap.size = gm at *
        obtain ⟨bx0, bx1, bx2, bx3, bxf, bxz⟩ := hx6.four
        obtain ⟨bf0, bf1, bff, bfz⟩ := hf6.two
        obtain ⟨bm0, bm1, bm2, bm3, bmf, bmz⟩ := hm6.four
        go_ret2
        exact ⟨.slice none 0 0, [], _, rfl, .inr (.inr (.inl ⟨Hz.out, Hsz.out, Hm.out, rfl, rfl⟩)), lkOwn_nil _ _, hB6⟩
    · go_wp2_with fail
      go_ret2
      exact ⟨.slice none 0 0, [], _, rfl, .inr (.inl ⟨Hz.out, by rw [Hs.out]; simpa using t2, rfl, Hs.out.symm⟩), lkOwn_nil _ _, hB4⟩
  · go_wp2_with fail
    have hB3 := hB2.alloc hB2.size (.cells #[.int .i64 we, .int .i64 wa] 27)
    have hx3 := hx2.alloc (.cells #[.int .i64 we, .int .i64 wa] 27)
    have hf3 : Blk (w2.alloc (.cells #[.int .i64 we, .int .i64 wa] 27)) w2.heap.size 27 [.int .i64 we, .int .i64 wa] := Blk.new _ _ _
    have gfB : w.heap.size ≤ w2.heap.size := hB2.size
    clear hB2 hx2 bx0 bx1 bx2 bx3 bxf bxz
    generalize w2.alloc (.cells #[.int .i64 we, .int .i64 wa] 27) = w3 at *
    generalize w2.heap.size = gf at *
    obtain ⟨bx0, bx1, bx2, bx3, bxf, bxz⟩ := hx3.four
    obtain ⟨bf0, bf1, bff, bfz⟩ := hf3.two
    refine wp_region_quiet_lit (by kernel_rfl) (by kernel_rfl) ?_
    repeat (first | go_big_quiet_step (fail) | quiet_step (fail))
    refine wpQuiet_nil ?_
    intro w4 hw'
    obtain ⟨nq, hw''⟩ := hw'
    have hB4 := below_drewN hB3 nq
    have hx4 := hx3.drewN nq
    have hf4 := hf3.drewN nq
    rw [← hw''] at hB4 hx4 hf4
    clear hB3 hx3 hf3 bx0 bx1 bx2 bx3 bf0 bf1 bxf bxz bff bfz hw''
    obtain ⟨bx0, bx1, bx2, bx3, bxf, bxz⟩ := hx4.four
    obtain ⟨bf0, bf1, bff, bfz⟩ := hf4.two
    go_wp2_with fail
    go_ret2
    exact ⟨.slice none 0 0, [], _, rfl, .inl ⟨by rw [Hw.out]; simpa using t, rfl, Hw.out.symm⟩, lkOwn_nil _ _, hB4⟩

end Go.Proofs.Ytjppfhgkanbemaa
