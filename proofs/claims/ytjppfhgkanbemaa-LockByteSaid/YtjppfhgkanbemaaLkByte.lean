/-
  The walk of tracelaw5.LockByte: it answers true.
-/
import Derived.Test.YtjppfhgkanbemaaLkByteLaw
namespace Go.Proofs.Ytjppfhgkanbemaa
open Go.RowKit

theorem in_not0 {x : Lk} {o k : Int} (h : (o != x.o) = true) : ¬ Lk.In x o k := by
  intro hi; simp [hi.1] at h
theorem in_not1 {x : Lk} {o k : Int} (h : decide (k < x.f) = true) : ¬ Lk.In x o k := by
  intro hi; have := hi.2.1; simp at h; omega
theorem in_not2 {x : Lk} {o k : Int} (h : decide (x.t ≤ k) = true) : ¬ Lk.In x o k := by
  intro hi; have := hi.2.2; simp at h; omega
theorem in_yes {x : Lk} {o k : Int} (h0 : (o != x.o) = false) (h1 : decide (k < x.f) = false) (h2 : decide (x.t ≤ k) = false) : Lk.In x o k := by
  simp at h0 h1 h2
  exact ⟨h0, h1, h2⟩

set_option maxHeartbeats 4000000 in
set_option maxRecDepth 100000 in
theorem lockByte_any (A : Option Addr) (c : Nat) (l : List Lk) (x : Lk) (fr : Bool) (ow k1 : Int) (w : World) (hl : LkRd w w.heap.size A l) (hc : l.length ≤ c) (hbig : l.length ≤ 9223372036854775807) :
    Calls Try.prog 5 #[.slice A l.length c, .agg #[.int .i64 x.o, .int .i64 x.f, .int .i64 x.t, .bool x.a], .bool fr, .int .i64 ow, .int .i64 k1] w fun e w' => e = .returned (.bool true) ∧ Below w.heap.size w w' := by
  obtain ⟨xo, xf, xt, xa⟩ := x
  dsimp only
  have hB0 : Below w.heap.size w w := Below.refl _ _
  go_enter Try.func5, Try.ntmps5
  go_wp2_with fail
  have hB3 : Below w.heap.size w (((w.alloc (.cells #[.int .i64 xo, .int .i64 xf, .int .i64 xt, .bool xa] 24)).alloc (.cells #[.int .i64 ow] 3)).alloc (.cells #[.int .i64 k1] 3)) := ((hB0.alloc hB0.size _).alloc (by simp) _).alloc (by simp; omega) _
  have hx3 : Blk (((w.alloc (.cells #[.int .i64 xo, .int .i64 xf, .int .i64 xt, .bool xa] 24)).alloc (.cells #[.int .i64 ow] 3)).alloc (.cells #[.int .i64 k1] 3)) w.heap.size 24 [.int .i64 xo, .int .i64 xf, .int .i64 xt, .bool xa] := ((Blk.new w _ _).alloc _).alloc _
  have ho3 : Blk (((w.alloc (.cells #[.int .i64 xo, .int .i64 xf, .int .i64 xt, .bool xa] 24)).alloc (.cells #[.int .i64 ow] 3)).alloc (.cells #[.int .i64 k1] 3)) (w.heap.size + 1) 3 [.int .i64 ow] := Blk.alloc (by simpa using Blk.new (w.alloc (.cells #[.int .i64 xo, .int .i64 xf, .int .i64 xt, .bool xa] 24)) 3 [.int .i64 ow]) _
  have ha3 : Blk (((w.alloc (.cells #[.int .i64 xo, .int .i64 xf, .int .i64 xt, .bool xa] 24)).alloc (.cells #[.int .i64 ow] 3)).alloc (.cells #[.int .i64 k1] 3)) (w.heap.size + 1 + 1) 3 [.int .i64 k1] := by simpa using Blk.new ((w.alloc (.cells #[.int .i64 xo, .int .i64 xf, .int .i64 xt, .bool xa] 24)).alloc (.cells #[.int .i64 ow] 3)) 3 [.int .i64 k1]
  clear hB0
  generalize ((w.alloc (.cells #[.int .i64 xo, .int .i64 xf, .int .i64 xt, .bool xa] 24)).alloc (.cells #[.int .i64 ow] 3)).alloc (.cells #[.int .i64 k1] 3) = w3 at *
  generalize w.heap.size + 1 + 1 = ga at *
  generalize w.heap.size + 1 = go at *
  obtain ⟨q0, q1, q2, q3, qf, qz⟩ := hx3.four
  obtain ⟨po0, pof, poz⟩ := ho3.one
  obtain ⟨pa0, paf, paz⟩ := ha3.one
  refine (alive_any w3).mono ?_
  rintro e w4 ⟨rfl, hb⟩
  have hB4 := hB3.trans (hb.mono hB3.size)
  have hx4 := hx3.below hb hx3.lt
  have ho4 := ho3.below hb ho3.lt
  have ha4 := ha3.below hb ha3.lt
  clear hB3 hx3 ho3 ha3 q0 q1 q2 q3 po0 pa0 qf qz pof poz paf paz hb
  obtain ⟨q0, q1, q2, q3, qf, qz⟩ := hx4.four
  obtain ⟨po0, pof, poz⟩ := ho4.one
  obtain ⟨pa0, paf, paz⟩ := ha4.one
  go_wp2_with fail
  refine (take_any A c l ⟨xo, xf, xt, xa⟩ w4 (hl.below hB4 |>.more hB4.size) hc hbig).mono ?_
  rintro e w5 ⟨v5, m5, err5, rfl, hr5, hw5, hb⟩
  have hm5 := take_le hr5
  obtain ⟨A5, c5, rfl, hc5, hm5r⟩ := hw5.rd
  clear hw5
  have hB5 := hB4.trans (hb.mono hB4.size)
  have hx5 := hx4.below hb hx4.lt
  have ho5 := ho4.below hb ho4.lt
  have ha5 := ha4.below hb ha4.lt
  clear hB4 hx4 ho4 ha4 q0 q1 q2 q3 po0 pa0 qf qz pof poz paf paz hb
  obtain ⟨q0, q1, q2, q3, qf, qz⟩ := hx5.four
  obtain ⟨po0, pof, poz⟩ := ho5.one
  obtain ⟨pa0, paf, paz⟩ := ha5.one
  rcases fr with _ | _
  · rcases t : (err5 != 0) with _ | _
    · have e0 : err5 = 0 := by simpa using t
      subst e0
      clear t
      have hh := @take_byte l m5 ⟨xo, xf, xt, xa⟩ hr5 ow k1
      clear hr5
      rcases t0 : (ow != xo) with _ | _
      · rcases t1 : decide (k1 < xf) with _ | _
        · rcases t2 : decide (xt ≤ k1) with _ | _
          · rcases xa with _ | _
            · have He := Lib.hid (hh.2 (in_yes t0 t1 t2))
              clear hh
              go_wp2_with fail
              refine (how_any A5 c5 go ga m5 ow k1 w5 hm5r (by omega) ho5 ha5).mono ?_
              rintro e w6 ⟨rfl, hb⟩
              rw [He.out]
              go_wp2_with fail
              go_ret
              exact ⟨rfl, hB5.trans (hb.mono hB5.size)⟩
            · have He := Lib.hid (hh.2 (in_yes t0 t1 t2))
              clear hh
              go_wp2_with fail
              refine (how_any A5 c5 go ga m5 ow k1 w5 hm5r (by omega) ho5 ha5).mono ?_
              rintro e w6 ⟨rfl, hb⟩
              rw [He.out]
              go_wp2_with fail
              go_ret
              exact ⟨rfl, hB5.trans (hb.mono hB5.size)⟩
          · have He := Lib.hid (hh.1 (in_not2 t2))
            clear hh
            go_wp2_with fail
            refine (how_any A c go ga l ow k1 w5 (hl.below hB5 |>.more hB5.size) hbig ho5 ha5).mono ?_
            rintro e w6 ⟨rfl, hb⟩
            rw [He.out]
            have hm6 := (hm5r.below hb).more hb.size
            have hB6 := hB5.trans (hb.mono hB5.size)
            have hx6 := hx5.below hb hx5.lt
            have ho6 := ho5.below hb ho5.lt
            have ha6 := ha5.below hb ha5.lt
            clear hB5 hx5 ho5 ha5 q0 q1 q2 q3 po0 pa0 qf qz pof poz paf paz hb
            obtain ⟨q0, q1, q2, q3, qf, qz⟩ := hx6.four
            obtain ⟨po0, pof, poz⟩ := ho6.one
            obtain ⟨pa0, paf, paz⟩ := ha6.one
            go_wp2_with fail
            refine (how_any A5 c5 go ga m5 ow k1 w6 hm6 (by omega) ho6 ha6).mono ?_
            rintro e w7 ⟨rfl, hb⟩
            go_wp2_with fail
            go_ret
            exact ⟨by simp, hB6.trans (hb.mono hB6.size)⟩
        · have He := Lib.hid (hh.1 (in_not1 t1))
          clear hh
          go_wp2_with fail
          refine (how_any A c go ga l ow k1 w5 (hl.below hB5 |>.more hB5.size) hbig ho5 ha5).mono ?_
          rintro e w6 ⟨rfl, hb⟩
          rw [He.out]
          have hm6 := (hm5r.below hb).more hb.size
          have hB6 := hB5.trans (hb.mono hB5.size)
          have hx6 := hx5.below hb hx5.lt
          have ho6 := ho5.below hb ho5.lt
          have ha6 := ha5.below hb ha5.lt
          clear hB5 hx5 ho5 ha5 q0 q1 q2 q3 po0 pa0 qf qz pof poz paf paz hb
          obtain ⟨q0, q1, q2, q3, qf, qz⟩ := hx6.four
          obtain ⟨po0, pof, poz⟩ := ho6.one
          obtain ⟨pa0, paf, paz⟩ := ha6.one
          go_wp2_with fail
          refine (how_any A5 c5 go ga m5 ow k1 w6 hm6 (by omega) ho6 ha6).mono ?_
          rintro e w7 ⟨rfl, hb⟩
          go_wp2_with fail
          go_ret
          exact ⟨by simp, hB6.trans (hb.mono hB6.size)⟩
      · have He := Lib.hid (hh.1 (in_not0 t0))
        clear hh
        go_wp2_with fail
        refine (how_any A c go ga l ow k1 w5 (hl.below hB5 |>.more hB5.size) hbig ho5 ha5).mono ?_
        rintro e w6 ⟨rfl, hb⟩
        rw [He.out]
        have hm6 := (hm5r.below hb).more hb.size
        have hB6 := hB5.trans (hb.mono hB5.size)
        have hx6 := hx5.below hb hx5.lt
        have ho6 := ho5.below hb ho5.lt
        have ha6 := ha5.below hb ha5.lt
        clear hB5 hx5 ho5 ha5 q0 q1 q2 q3 po0 pa0 qf qz pof poz paf paz hb
        obtain ⟨q0, q1, q2, q3, qf, qz⟩ := hx6.four
        obtain ⟨po0, pof, poz⟩ := ho6.one
        obtain ⟨pa0, paf, paz⟩ := ha6.one
        go_wp2_with fail
        refine (how_any A5 c5 go ga m5 ow k1 w6 hm6 (by omega) ho6 ha6).mono ?_
        rintro e w7 ⟨rfl, hb⟩
        go_wp2_with fail
        go_ret
        exact ⟨by simp, hB6.trans (hb.mono hB6.size)⟩
    · clear hr5
      go_wp2_with fail
      go_ret
      exact ⟨rfl, hB5⟩
  · clear hr5 hm5r hm5
    go_wp2_with fail
    refine (free_any A c l ⟨xo, xf, xt, xa⟩ w5 (hl.below hB5 |>.more hB5.size) hc hbig).mono ?_
    rintro e w6 ⟨v6, m6, err6, rfl, hr6, hw6, hb⟩
    have hm6 := free_le hr6
    obtain ⟨A6, c6, rfl, hc6, hm6r⟩ := hw6.rd
    clear hw6
    have hB6 := hB5.trans (hb.mono hB5.size)
    have hx6 := hx5.below hb hx5.lt
    have ho6 := ho5.below hb ho5.lt
    have ha6 := ha5.below hb ha5.lt
    clear hB5 hx5 ho5 ha5 q0 q1 q2 q3 po0 pa0 qf qz pof poz paf paz hb
    obtain ⟨q0, q1, q2, q3, qf, qz⟩ := hx6.four
    obtain ⟨po0, pof, poz⟩ := ho6.one
    obtain ⟨pa0, paf, paz⟩ := ha6.one
    rcases t : (err6 != 0) with _ | _
    · have e0 : err6 = 0 := by simpa using t
      subst e0
      clear t
      have hh := @free_byte l m6 ⟨xo, xf, xt, xa⟩ hr6 ow k1
      clear hr6
      rcases t0 : (ow != xo) with _ | _
      · rcases t1 : decide (k1 < xf) with _ | _
        · rcases t2 : decide (xt ≤ k1) with _ | _
          · rcases xa with _ | _
            · have He := Lib.hid (hh.2 (in_yes t0 t1 t2))
              clear hh
              go_wp2_with fail
              refine (how_any A6 c6 go ga m6 ow k1 w6 hm6r (by omega) ho6 ha6).mono ?_
              rintro e w7 ⟨rfl, hb⟩
              rw [He.out]
              go_wp2_with fail
              go_ret
              exact ⟨rfl, hB6.trans (hb.mono hB6.size)⟩
            · have He := Lib.hid (hh.2 (in_yes t0 t1 t2))
              clear hh
              go_wp2_with fail
              refine (how_any A6 c6 go ga m6 ow k1 w6 hm6r (by omega) ho6 ha6).mono ?_
              rintro e w7 ⟨rfl, hb⟩
              rw [He.out]
              go_wp2_with fail
              go_ret
              exact ⟨rfl, hB6.trans (hb.mono hB6.size)⟩
          · have He := Lib.hid (hh.1 (in_not2 t2))
            clear hh
            go_wp2_with fail
            refine (how_any A c go ga l ow k1 w6 (hl.below hB6 |>.more hB6.size) hbig ho6 ha6).mono ?_
            rintro e w7 ⟨rfl, hb⟩
            rw [He.out]
            have hm7 := (hm6r.below hb).more hb.size
            have hB7 := hB6.trans (hb.mono hB6.size)
            have hx7 := hx6.below hb hx6.lt
            have ho7 := ho6.below hb ho6.lt
            have ha7 := ha6.below hb ha6.lt
            clear hB6 hx6 ho6 ha6 q0 q1 q2 q3 po0 pa0 qf qz pof poz paf paz hb
            obtain ⟨q0, q1, q2, q3, qf, qz⟩ := hx7.four
            obtain ⟨po0, pof, poz⟩ := ho7.one
            obtain ⟨pa0, paf, paz⟩ := ha7.one
            go_wp2_with fail
            refine (how_any A6 c6 go ga m6 ow k1 w7 hm7 (by omega) ho7 ha7).mono ?_
            rintro e w8 ⟨rfl, hb⟩
            go_wp2_with fail
            go_ret
            exact ⟨by simp, hB7.trans (hb.mono hB7.size)⟩
        · have He := Lib.hid (hh.1 (in_not1 t1))
          clear hh
          go_wp2_with fail
          refine (how_any A c go ga l ow k1 w6 (hl.below hB6 |>.more hB6.size) hbig ho6 ha6).mono ?_
          rintro e w7 ⟨rfl, hb⟩
          rw [He.out]
          have hm7 := (hm6r.below hb).more hb.size
          have hB7 := hB6.trans (hb.mono hB6.size)
          have hx7 := hx6.below hb hx6.lt
          have ho7 := ho6.below hb ho6.lt
          have ha7 := ha6.below hb ha6.lt
          clear hB6 hx6 ho6 ha6 q0 q1 q2 q3 po0 pa0 qf qz pof poz paf paz hb
          obtain ⟨q0, q1, q2, q3, qf, qz⟩ := hx7.four
          obtain ⟨po0, pof, poz⟩ := ho7.one
          obtain ⟨pa0, paf, paz⟩ := ha7.one
          go_wp2_with fail
          refine (how_any A6 c6 go ga m6 ow k1 w7 hm7 (by omega) ho7 ha7).mono ?_
          rintro e w8 ⟨rfl, hb⟩
          go_wp2_with fail
          go_ret
          exact ⟨by simp, hB7.trans (hb.mono hB7.size)⟩
      · have He := Lib.hid (hh.1 (in_not0 t0))
        clear hh
        go_wp2_with fail
        refine (how_any A c go ga l ow k1 w6 (hl.below hB6 |>.more hB6.size) hbig ho6 ha6).mono ?_
        rintro e w7 ⟨rfl, hb⟩
        rw [He.out]
        have hm7 := (hm6r.below hb).more hb.size
        have hB7 := hB6.trans (hb.mono hB6.size)
        have hx7 := hx6.below hb hx6.lt
        have ho7 := ho6.below hb ho6.lt
        have ha7 := ha6.below hb ha6.lt
        clear hB6 hx6 ho6 ha6 q0 q1 q2 q3 po0 pa0 qf qz pof poz paf paz hb
        obtain ⟨q0, q1, q2, q3, qf, qz⟩ := hx7.four
        obtain ⟨po0, pof, poz⟩ := ho7.one
        obtain ⟨pa0, paf, paz⟩ := ha7.one
        go_wp2_with fail
        refine (how_any A6 c6 go ga m6 ow k1 w7 hm7 (by omega) ho7 ha7).mono ?_
        rintro e w8 ⟨rfl, hb⟩
        go_wp2_with fail
        go_ret
        exact ⟨by simp, hB7.trans (hb.mono hB7.size)⟩
    · clear hr6
      go_wp2_with fail
      go_ret
      exact ⟨rfl, hB6⟩

end Go.Proofs.Ytjppfhgkanbemaa
