/-
  TopDup's own walk.
-/
import Derived.Test.YtjppfhgkanbemacGreatDoorSyTopA
import Derived.Test.YtjppfhgkanbemacGreatDoorSyTop2
import Derived.IntWalk
namespace Go.Proofs.YtjppfhgkanbemacGreatDoor
open Go.RowKit Go.Shelf Go.Sort

theorem dup_sm {n m : Int} : ∀ x ∈ Sy.dupL n m, CaSm x := fun x hx => by
  simp only [Sy.dupL, List.mem_cons, List.mem_nil_iff, or_false] at hx
  have z : (0 : Nat) ≤ 1048576 := by omega
  have z5 : (5 : Nat) ≤ 1048576 := by omega
  rcases hx with rfl | rfl | rfl | rfl | rfl | rfl
  · exact ⟨z5, z, z⟩
  · exact ⟨z, z, z⟩
  · exact ⟨z5, z, z⟩
  · exact ⟨z, z, z⟩
  · exact ⟨z, z, z⟩
  · exact ⟨z, z, z⟩
theorem one_take (x : ByteArray) (k : Nat) (h : x.data.toList = Sy.oneL.take k) : x = (⟨#[111, 110, 101]⟩ : ByteArray).extract 0 k := by
  refine bs_ext ?_
  rw [h, ext_data]
  simp [Sy.oneL]

set_option maxHeartbeats 4000000 in
set_option maxRecDepth 100000 in
theorem topDup_any (n m : Int) (w : World) : Calls Tryz.prog 12 #[.int .i64 n, .int .i64 m] w fun e w' => e = .returned (.bool true) ∧ Below w.heap.size w w' := by
  go_enter Tryz.func12, Tryz.ntmps12
  go_wp2_with fail
  refine (topAlive_any w).mono ?_
  rintro e w0 ⟨rfl, hB0⟩
  rcases tn0 : decide (n < 0) with _ | _
  rotate_left
  · go_wp2_with fail
    go_ret
    exact ⟨rfl, hB0⟩
  rcases tm0 : decide (m < 0) with _ | _
  rotate_left
  · go_wp2_with fail
    go_ret
    exact ⟨rfl, hB0⟩
  rcases tn1 : decide (10 < n) with _ | _
  rotate_left
  · go_wp2_with fail
    go_ret
    exact ⟨rfl, hB0⟩
  rcases tm1 : decide (10 < m) with _ | _
  rotate_left
  · go_wp2_with fail
    go_ret
    exact ⟨rfl, hB0⟩
  have hn0 : 0 ≤ n := by have := of_decide_eq_false tn0; omega
  have hn1 : n ≤ 10 := by have := of_decide_eq_false tn1; omega
  have hm0 : 0 ≤ m := by have := of_decide_eq_false tm0; omega
  have hm1 : m ≤ 10 := by have := of_decide_eq_false tm1; omega
  obtain ⟨n, rfl⟩ : ∃ k : Nat, n = (k : Int) := ⟨n.toNat, by omega⟩
  obtain ⟨m, rfl⟩ : ∃ k : Nat, m = (k : Int) := ⟨m.toNat, by omega⟩
  have hn : n ≤ 10 := by omega
  have hm : m ≤ 10 := by omega
  obtain ⟨a0, a1, a2, a3, a4, a5, hdu, h1, h2, h34, h5⟩ := Sy.dup n m hn hm
  have hpl : ∃ u T k, Sy.play Sy.bU (Sy.dupL n m) = ((u, T, k), [a0, a1, a2, a3, a4, a5], 0) := ⟨_, _, _, by
    rw [Sy.play_ok (by rw [Sy.bU_wrong]) (by show (6 : Nat) ≤ 80; omega), hdu]⟩
  obtain ⟨u, T, k6, hpl⟩ := hpl
  have HP := Lib.hid hpl
  have h34 : a3.text ++ a4.text = (⟨#[111, 110, 101]⟩ : ByteArray).extract 0 (min (min n 3 + m) 3) := one_take _ _ (by rw [data_app]; exact h34)
  have h5 : a5.text = (⟨#[111, 110, 101]⟩ : ByteArray).extract 0 (min m 3) := one_take _ _ h5
  have H34 := Lib.hid h34
  have H5 := Lib.hid h5
  have H1 := Lib.hid h1
  have H2 := Lib.hid h2
  clear hpl hdu h34 h5 h1 h2
  go_wp2_with fail
  refine (base_any w0).mono ?_
  rintro e w1 ⟨A1, rfl, hr1, hb⟩
  have hB1 := hB0.trans (hb.mono hB0.size)
  clear hb tn0 tn1 tm0 tm1
  go_wp2_with fail
  refine (tOpen_any ⟨#[100, 105, 114, 47, 97]⟩ 1 w1).mono ?_
  rintro e w2 ⟨rfl, hb⟩
  have hr2 := (hr1.below hb).more hb.size
  have hB2 := hB1.trans (hb.mono hB1.size)
  clear hb
  go_wp2_with fail
  refine (tOn_any 13 0 0 ⟨#[]⟩ w2).mono ?_
  rintro e w3 ⟨rfl, hb⟩
  have hr3 := (hr2.below hb).more hb.size
  have hB3 := hB2.trans (hb.mono hB2.size)
  clear hb
  go_wp2_with fail
  refine (tOpen_any ⟨#[100, 105, 114, 47, 97]⟩ 1 w3).mono ?_
  rintro e w4 ⟨rfl, hb⟩
  have hr4 := (hr3.below hb).more hb.size
  have hB4 := hB3.trans (hb.mono hB3.size)
  clear hb
  go_wp2_with fail
  refine (tOn_any 3 0 n ⟨#[]⟩ w4).mono ?_
  rintro e w5 ⟨rfl, hb⟩
  have hr5 := (hr4.below hb).more hb.size
  have hB5 := hB4.trans (hb.mono hB4.size)
  clear hb
  go_wp2_with fail
  refine (tOn_any 3 1 m ⟨#[]⟩ w5).mono ?_
  rintro e w6 ⟨rfl, hb⟩
  have hr6 := (hr5.below hb).more hb.size
  have hB6 := hB5.trans (hb.mono hB5.size)
  clear hb
  go_wp2_with fail
  refine (tOn_any 3 2 m ⟨#[]⟩ w6).mono ?_
  rintro e w7 ⟨rfl, hb⟩
  have hr7 := (hr6.below hb).more hb.size
  have hB7 := hB6.trans (hb.mono hB6.size)
  clear hb hr1 hr2 hr3 hr4 hr5 hr6 hB0 hB1 hB2 hB3 hB4 hB5 hB6
  have hl8 : Blk (w7.alloc (.cells ((Sy.dupL n m).flatMap Ca.cells).toArray 50)) w7.heap.size 50 ((Sy.dupL n m).flatMap Ca.cells) := Blk.new w7 _ _
  have hb8 : Below w7.heap.size w7 (w7.alloc (.cells ((Sy.dupL n m).flatMap Ca.cells).toArray 50)) := (Below.refl _ w7).alloc (Nat.le_refl _) _
  have hr8 := (hr7.below hb8).more hb8.size
  have hB8 := hB7.trans (hb8.mono hB7.size)
  have cP := play_any none A1 (some ⟨w7.heap.size, 0, none⟩) 0 1 6 Sy.bU (Sy.dupL n m) _ hr8 bU_sm (cas_blk hl8) dup_sm (by show (6 : Nat) ≤ 4000000; omega)
  rw [HP.out] at cP
  unfold PlayRel at cP
  dsimp only at cP
  have HC := Lib.hid cP
  clear cP hl8 hb8 hr8 hr7 HP
  go_wp2_with fail
  refine HC.out.mono ?_
  rintro e w9 ⟨A6, A6', cu6, cv6, AT, cT, v, rfl, -, -, -, hO, hb⟩
  have hB9 := hB8.trans (hb.mono hB8.size)
  obtain ⟨Aa, ca, rfl, hat⟩ := hO.at_
  clear hb hO hB7 hB8 HC
  obtain ⟨b, o, -, -, rfl, hbz, -, p1, -, -, -⟩ := hat 1 (by show (1 : Nat) < 6; omega)
  obtain ⟨b', o', -, -, hbe, -, -, q1, -, -, -⟩ := hat 2 (by show (2 : Nat) < 6; omega)
  cases hbe
  obtain ⟨b', o', -, -, hbe, -, -, -, r2, -, -⟩ := hat 3 (by show (3 : Nat) < 6; omega)
  cases hbe
  obtain ⟨b', o', -, -, hbe, -, -, -, s2, -, -⟩ := hat 4 (by show (4 : Nat) < 6; omega)
  cases hbe
  obtain ⟨b', o', -, -, hbe, -, -, -, y2, -, -⟩ := hat 5 (by show (5 : Nat) < 6; omega)
  cases hbe
  clear hat
  replace p1 : w9.cell? ⟨b, o + 5, none⟩ = some (.int .i64 a1.n) := p1
  replace q1 : w9.cell? ⟨b, o + 9, none⟩ = some (.int .i64 a2.n) := q1
  replace r2 : w9.cell? ⟨b, o + 14, none⟩ = some (.string a3.text) := r2
  replace s2 : w9.cell? ⟨b, o + 18, none⟩ = some (.string a4.text) := s2
  replace y2 : w9.cell? ⟨b, o + 22, none⟩ = some (.string a5.text) := y2
  rw [H1.out] at p1
  rw [H2.out] at q1
  have hb10 := (Below.refl w9.heap.size w9).alloc (Nat.le_refl _) (.cells #[.slice A6 u.U.length cu6, .slice A6' u.L.length cv6, .slice AT T.length cT, .int .i64 k6] 33)
  have hB10 := hB9.trans (hb10.mono hB9.size)
  replace p1 := (hb10.cell (p := ⟨b, o + 5, none⟩) hbz).trans p1
  replace q1 := (hb10.cell (p := ⟨b, o + 9, none⟩) hbz).trans q1
  replace r2 := (hb10.cell (p := ⟨b, o + 14, none⟩) hbz).trans r2
  replace s2 := (hb10.cell (p := ⟨b, o + 18, none⟩) hbz).trans s2
  replace y2 := (hb10.cell (p := ⟨b, o + 22, none⟩) hbz).trans y2
  generalize a3.text = x3 at *
  generalize a4.text = x4 at *
  generalize a5.text = x5 at *
  clear hB9 H1 H2 hb10 hbz
  go_upto_region 7 with fail
  change Code.wp _ _ _ _ (w9.alloc (.cells #[.slice A6 u.U.length cu6, .slice A6' u.L.length cv6, .slice AT T.length cT, .int .i64 k6] 33))
  generalize w9.alloc (.cells #[.slice A6 u.U.length cu6, .slice A6' u.L.length cv6, .slice AT T.length cT, .int .i64 k6] 33) = w10 at *
  have p1' : w10.cell? ⟨b, o + 4 + 1, none⟩ = _ := p1
  have q1' : w10.cell? ⟨b, o + 8 + 1, none⟩ = _ := q1
  have r2' : w10.cell? ⟨b, o + 12 + 2, none⟩ = _ := r2
  have s2' : w10.cell? ⟨b, o + 16 + 2, none⟩ = _ := s2
  have y2' : w10.cell? ⟨b, o + 20 + 2, none⟩ = _ := y2
  obtain ⟨Y, hY⟩ : ∃ Y, Y = min (min n 3 + m) 3 := ⟨_, rfl⟩
  obtain ⟨Z, hZ⟩ : ∃ Z, Z = min m 3 := ⟨_, rfl⟩
  have hw : IntKind.i64.wrap (min (n : Int) 3 + (m : Int)) = min (n : Int) 3 + (m : Int) := IntWalk.i64_in _ (by omega)
  have hy : min (min (n : Int) 3 + (m : Int)) 3 = (Y : Int) := by omega
  have hz : min (m : Int) 3 = (Z : Int) := by omega
  have hY3 : (Y : Int) ≤ 3 := by omega
  have hZ3 : (Z : Int) ≤ 3 := by omega
  have hYn : ¬ ((3 : Int) < (Y : Int)) := by omega
  have hZn : ¬ ((3 : Int) < (Z : Int)) := by omega
  have f34 : ((x3 ++ x4).toList == ((⟨#[111, 110, 101]⟩ : ByteArray).extract 0 Y).toList) = true := by rw [H34.out, hY]; simp
  have f5 : (x5.toList == ((⟨#[111, 110, 101]⟩ : ByteArray).extract 0 Z).toList) = true := by rw [H5.out, hZ]; simp
  have hxs : ¬ 9223372036854775807 < x3.size + x4.size := by
    have h1 := congrArg ByteArray.size H34.out
    rw [ByteArray.size_append] at h1
    have h2 : ((⟨#[111, 110, 101]⟩ : ByteArray).extract 0 (min (min n 3 + m) 3)).size ≤ 3 := by
      rw [ByteArray.size_extract]
      show min (min (min n 3 + m) 3) 3 - 0 ≤ 3
      omega
    omega
  clear hY hZ hn0 hn1 hm0 hm1 hn hm H34 H5
  refine wp_region_quiet_lit (by kernel_rfl) (by kernel_rfl) ?_
  repeat (first | go_big_quiet_step (fail) | quiet_step (fail))
  refine wpQuiet_nil ?_
  intro w2 hw'
  obtain ⟨nq, hw''⟩ := hw'
  subst hw''
  go_wp2_with fail
  go_ret
  exact ⟨rfl, below_drewN hB10 nq⟩
end Go.Proofs.YtjppfhgkanbemacGreatDoor
