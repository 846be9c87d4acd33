/-
  TopCopy's own walk. (Printed by wip/gensytopc.py.)
-/
import Derived.Test.YtjppfhgkanbemabGreatDoorSyTopA
namespace Go.Proofs.YtjppfhgkanbemabGreatDoor
open Go.RowKit Go.Shelf Go.Sort

theorem info_ca : (Tryz.prog.info? 24).map (fun i => (i.zero, i.size, i.bytes)) = some (some (.agg #[.int .i64 0, .int .i64 0, .int .i64 0, .int .i64 0, .int .i64 0, .string ⟨#[]⟩, .string ⟨#[]⟩, .string ⟨#[]⟩, .bool false]), 9, 96) := by kernel_rfl
/-- A row of calls of the call's own. -/
theorem cas_own {w : World} {base : Nat} {A : Option Addr} {c : Nat} {l : List Ca} (h : w.ownsRow base 24 9 (.slice A l.length c) l.length (l.flatMap Ca.cells)) : CasRd w A l := fun k hk => by
  obtain ⟨b, o, e, hb, hc⟩ := (Rd.of_own h).2 (by omega)
  have key : ∀ j, (hj : j < 9) → w.cell? ⟨b, o + k * 9 + j, none⟩ = l[k].cells[j]? := fun j hj => by
    have h1 := cells_at l k hk j hj
    have hj2 : j < l[k].cells.length := hj
    rw [List.getElem?_eq_getElem hj2] at h1 ⊢
    rw [Nat.add_assoc]
    exact hc _ _ h1
  exact ⟨b, o, e, hb, key 0 (by omega), key 1 (by omega), key 2 (by omega), key 3 (by omega), key 4 (by omega), key 5 (by omega), key 6 (by omega), key 7 (by omega), key 8 (by omega)⟩
theorem base_off (w : World) : Calls Tryz.prog 12 #[] w fun e w' => ∃ A', e = .returned (.agg #[.slice none 0 0, .slice A' 1 1]) ∧ Off (fun k => k < w.heap.size) w' (fun w => UnRd w w.heap.size none A' 0 1 Sy.bU) ∧ Below w.heap.size w w' := by
  have h1 := Blk.new (w.alloc (.cells #[.slice none 0 0, .slice (some ⟨w.heap.size + 1 + 1, 0, none⟩) 1 1] 33)) 45 (En.flat [Sy.tD, Sy.tA, Sy.tB])
  have h2 := Blk.new ((w.alloc (.cells #[.slice none 0 0, .slice (some ⟨w.heap.size + 1 + 1, 0, none⟩) 1 1] 33)).alloc (.cells (En.flat [Sy.tD, Sy.tA, Sy.tB]).toArray 45)) 30 [.slice (some ⟨w.heap.size + 1, 0, none⟩) 3 3]
  have h1 := h1.alloc (.cells #[.slice (some ⟨w.heap.size + 1, 0, none⟩) 3 3] 30)
  simp only [World.size_alloc] at h1 h2
  have hr : Off (fun k => k < w.heap.size) (((w.alloc (.cells #[.slice none 0 0, .slice (some ⟨w.heap.size + 1 + 1, 0, none⟩) 1 1] 33)).alloc (.cells (En.flat [Sy.tD, Sy.tA, Sy.tB]).toArray 45)).alloc (.cells #[.slice (some ⟨w.heap.size + 1, 0, none⟩) 3 3] 30)) (fun w' => UnRd w' w'.heap.size none (some ⟨w.heap.size + 1 + 1, 0, none⟩) 0 1 Sy.bU) := fun w2 _ hk => by
    have h1' : Blk w2 _ _ _ := (hk _ h1.lt (by omega)).trans h1
    have h2' : Blk w2 _ _ _ := (hk _ h2.lt (by omega)).trans h2
    exact ⟨Rd.nil, Nat.le_refl _, blk_ts1' (l := [Sy.tD, Sy.tA, Sy.tB]) h2' (blk_en' h1') (by decide), fun h => by cases h⟩
  have hB : Below w.heap.size w (((w.alloc (.cells #[.slice none 0 0, .slice (some ⟨w.heap.size + 1 + 1, 0, none⟩) 1 1] 33)).alloc (.cells (En.flat [Sy.tD, Sy.tA, Sy.tB]).toArray 45)).alloc (.cells #[.slice (some ⟨w.heap.size + 1, 0, none⟩) 3 3] 30)) := by
    have hb := (Below.refl w.heap.size w).alloc (Nat.le_refl _) (.cells #[.slice none 0 0, .slice (some ⟨w.heap.size + 1 + 1, 0, none⟩) 1 1] 33)
    have hb := hb.alloc hb.size (.cells (En.flat [Sy.tD, Sy.tA, Sy.tB]).toArray 45)
    exact hb.alloc hb.size _
  have HR := Lib.hid hr
  have HB := Lib.hid hB
  clear h1 h2 hr hB
  go_enter Tryz.func12, Tryz.ntmps12
  go_wp2_with fail
  refine bodyPost_ret (v := .agg #[.slice none 0 0, .slice (some ⟨w.heap.size + 1 + 1, 0, none⟩) 1 1]) ?_ rfl ?_
  · simp [results, Tryz.results12, go_sem]
  exact ⟨_, rfl, HR.out, HB.out⟩
theorem copy_sm {n : Int} {text : ByteArray} (ht : text.size ≤ 1048576) : ∀ x ∈ Sy.copyL n ++ [Sy.onC 4 0 0 text], CaSm x := fun x hx => by
  simp only [Sy.copyL, List.mem_append, List.mem_cons, List.mem_nil_iff, or_false] at hx
  have z : (0 : Nat) ≤ 1048576 := by omega
  have z3 : (3 : Nat) ≤ 1048576 := by omega
  have z5 : (5 : Nat) ≤ 1048576 := by omega
  rcases hx with (rfl | rfl | rfl | rfl | rfl) | rfl
  · exact ⟨z5, z, z⟩
  · exact ⟨z, z, z⟩
  · exact ⟨z3, z, z⟩
  · exact ⟨z5, z, z⟩
  · exact ⟨z, z, z⟩
  · exact ⟨z, z, ht⟩
theorem want_short (text : ByteArray) (_h : text.size < 3) : text ++ (⟨#[111, 110, 101]⟩ : ByteArray).extract text.size 3 = Sy.bytesOf (Sy.wantB text.data.toList) := by
  refine bs_ext ?_
  rw [data_app, ext_data]
  unfold Sy.wantB
  rw [List.take_of_length_le (by show (3 : Nat) ≤ 3; omega), size_length]
  rfl
theorem want_long (text : ByteArray) (_h : ¬ text.size < 3) : text = Sy.bytesOf (Sy.wantB text.data.toList) := by
  refine bs_ext ?_
  unfold Sy.wantB
  rw [List.drop_of_length_le (by rw [size_length]; show (3 : Nat) ≤ _; omega), List.append_nil]
  rfl

set_option maxHeartbeats 4000000 in
set_option maxRecDepth 100000 in
theorem topCopy_any (text : ByteArray) (n : Int) (ht : text.size ≤ 1048576) (w : World) : Calls Tryz.prog 3 #[.string text, .int .i64 n] w fun e w' => e = .returned (.bool true) ∧ Below w.heap.size w w' := by
  obtain ⟨i0, hif, hi0, hi1, hi2⟩ := info_parts info_ca
  go_enter Tryz.func3, Tryz.ntmps3
  go_wp2_with fail
  refine (topAlive_any w).mono ?_
  rintro e w0 ⟨rfl, hB0⟩
  rcases t90 : decide ((90 : Int) < (text.size : Int)) with _ | _
  rotate_left
  · go_wp2_with fail
    go_ret
    exact ⟨rfl, hB0⟩
  rcases tn0 : decide (n < 0) with _ | _
  rotate_left
  · go_wp2_with fail
    go_ret
    exact ⟨rfl, hB0⟩
  rcases tn1 : decide (100 < n) with _ | _
  rotate_left
  · go_wp2_with fail
    go_ret
    exact ⟨rfl, hB0⟩
  have h90 : text.size ≤ 90 := by have := of_decide_eq_false t90; omega
  have hn0 : 0 ≤ n := by have := of_decide_eq_false tn0; omega
  have hn1 : n ≤ 100 := by have := of_decide_eq_false tn1; omega
  obtain ⟨la, hla, hcf⟩ := Sy.copy_first n hn0 hn1
  obtain ⟨s2, a5, hcw, _, ha5, hU0, hU2⟩ := Sy.copy_write text h90
  have hp1 : Sy.play Sy.bU (Sy.copyL n) = ((Sy.bU, [Sy.tD, Sy.tA, Sy.tB], 1), la, 0) := by
    rw [Sy.play_ok (by rw [Sy.bU_wrong]) (by show (5 : Nat) ≤ 80; omega), hcf]
    rfl
  have hp2 : Sy.play Sy.bU (Sy.copyL n ++ [Sy.onC 4 0 0 text]) = ((s2.u, s2.T, s2.files.length), la ++ [a5], 0) := by
    rw [Sy.play_ok (by rw [Sy.bU_wrong]) (by show (6 : Nat) ≤ 80; omega), Sy.calls_app, hcf]
    show (((Sy.call (Sy.stA 3 0) (Sy.onC 4 0 0 text)).1.u, (Sy.call (Sy.stA 3 0) (Sy.onC 4 0 0 text)).1.T, (Sy.call (Sy.stA 3 0) (Sy.onC 4 0 0 text)).1.files.length), la ++ [(Sy.call (Sy.stA 3 0) (Sy.onC 4 0 0 text)).2], 0) = _
    rw [hcw]
  rcases hse : s2.u with ⟨U2, L2⟩
  rw [hse] at hp2 hU0 hU2
  dsimp only at hU0 hU2
  generalize s2.T = T2 at hp2
  generalize s2.files.length = n2 at hp2
  obtain ⟨m, hm⟩ : ∃ m, m = U2.length := ⟨_, rfl⟩
  obtain ⟨X, hX⟩ : ∃ X, X = Sy.bytesOf (Sy.wantB text.data.toList) := ⟨_, rfl⟩
  have HM := Lib.hid hm
  have HXX := Lib.hid hX
  have HP1 := Lib.hid hp1
  have HP2 := Lib.hid hp2
  have HLA := Lib.hid hla
  have HA5 := Lib.hid ha5
  have HU0 := Lib.hid hU0
  have HU2 := Lib.hid hU2
  clear hcf hcw hp1 hp2 hla ha5 hU0 hU2 hm hX hse
  go_wp2_with fail
  refine (tOpen_any ⟨#[100, 105, 114, 47, 97]⟩ 3 w0).mono ?_
  rintro e w1 ⟨rfl, hb⟩
  have hB1 := hB0.trans (hb.mono hB0.size)
  clear hb
  go_wp2_with fail
  refine (tOn_any 3 0 n ⟨#[]⟩ w1).mono ?_
  rintro e w2 ⟨rfl, hb⟩
  have hB2 := hB1.trans (hb.mono hB1.size)
  clear hb
  go_wp2_with fail
  refine (tAt_any 11 ⟨#[100, 105, 114]⟩ ⟨#[]⟩ w2).mono ?_
  rintro e w3 ⟨rfl, hb⟩
  have hB3 := hB2.trans (hb.mono hB2.size)
  clear hb
  go_wp2_with fail
  refine (tAt_any 12 ⟨#[100, 105, 114, 47, 98]⟩ ⟨#[]⟩ w3).mono ?_
  rintro e w4 ⟨rfl, hb⟩
  have hB4 := hB3.trans (hb.mono hB3.size)
  clear hb
  go_wp2_with fail
  refine (tOn_any 5 0 0 ⟨#[]⟩ w4).mono ?_
  rintro e w5 ⟨rfl, hb⟩
  have hB5 := hB4.trans (hb.mono hB4.size)
  clear hb hB0 hB1 hB2 hB3 hB4 t90 tn0 tn1
  have hglw : w.heap.size ≤ w5.heap.size := hB5.size
  have hB6 := hB5.alloc hB5.size (.cells ((Sy.copyL n).flatMap Ca.cells).toArray 24)
  have ho6 : (w5.alloc (.cells ((Sy.copyL n).flatMap Ca.cells).toArray 24)).ownsRow w.heap.size 24 9 (.slice (some ⟨w5.heap.size, 0, none⟩) 5 5) 5 ((Sy.copyL n).flatMap Ca.cells) := ⟨rfl, .inr ⟨w5.heap.size, 5, ((Sy.copyL n).flatMap Ca.cells).toArray, rfl, hB5.size, heap_alloc_new w5 _, Nat.le_refl _, by decide, rfl, rfl⟩⟩
  have hgl6 : w5.heap.size < (w5.alloc (.cells ((Sy.copyL n).flatMap Ca.cells).toArray 24)).heap.size := by simp only [World.size_alloc]; omega
  have HX : Hid ((w5.alloc (.cells ((Sy.copyL n).flatMap Ca.cells).toArray 24)) = (w5.alloc (.cells ((Sy.copyL n).flatMap Ca.cells).toArray 24))) := Lib.hid rfl
  go_upto_region 6 with fail
  change Code.wp _ _ _ _ (w5.alloc (.cells ((Sy.copyL n).flatMap Ca.cells).toArray 24))
  clear HX
  generalize w5.alloc (.cells ((Sy.copyL n).flatMap Ca.cells).toArray 24) = w6 at *
  generalize w5.heap.size = gl at *
  clear hB5
  go_wp2_with fail
  refine (base_any w6).mono ?_
  rintro e w7 ⟨A7, rfl, hr7, hb⟩
  have hB7 := hB6.trans (hb.mono hB6.size)
  have ho7 := own_below ho6 hb (Nat.le_refl _)
  have hgl7 := Nat.lt_of_lt_of_le hgl6 hb.size
  have cP := play_any none A7 (some ⟨gl, 0, none⟩) 0 1 5 Sy.bU (Sy.copyL n) w7 hr7 bU_sm (cas_own (l := Sy.copyL n) ho7) (fun x hx => copy_sm ht x (List.mem_append.2 (.inl hx))) (by show (5 : Nat) ≤ 4000000; omega)
  rw [HP1.out] at cP
  unfold PlayRel at cP
  dsimp only at cP
  have HC1 := Lib.hid cP
  clear cP hr7 hb HP1
  go_wp2_with fail
  refine HC1.out.mono ?_
  rintro e w8 ⟨A8, A8', c8, c8', AT, cT, v8, rfl, _, _, _, _, hb⟩
  have hB8 := hB7.trans (hb.mono hB7.size)
  have ho8 := own_below ho7 hb (Nat.le_refl _)
  have hgl8 := Nat.lt_of_lt_of_le hgl7 hb.size
  have hb9 : Below w8.heap.size w8 (w8.alloc (.cells #[.slice A8 0 c8, .slice A8' 1 c8', .slice AT 3 cT, .int .i64 1] 35)) := (Below.refl _ w8).alloc (Nat.le_refl _) _
  have hB9 := hB8.trans (hb9.mono hB8.size)
  have ho9 := own_below ho8 hb9 (Nat.le_refl _)
  have hs9 := Blk.new w8 35 [.slice A8 0 c8, .slice A8' 1 c8', .slice AT 3 cT, .int .i64 1]
  clear hb hb9 ho6 ho7 ho8 HC1 hB6 hB7 hB8 hgl6 hgl7
  go_upto_region 7 with fail
  change Code.wp _ _ _ _ (w8.alloc (.cells #[.slice A8 0 c8, .slice A8' 1 c8', .slice AT 3 cT, .int .i64 1] 35))
  generalize w8.alloc (.cells #[.slice A8 0 c8, .slice A8' 1 c8', .slice AT 3 cT, .int .i64 1] 35) = w9 at *
  generalize w8.heap.size = g1 at *
  go_wp2_with fail
  have hg9 := hs9.lt
  refine (base_off w9).mono ?_
  rintro e w10 ⟨A10, rfl, hr10, hb⟩
  have hB10 := hB9.trans (hb.mono hB9.size)
  have ho10 := own_below ho9 hb (Nat.le_refl _)
  have hs10 := hs9.below hb hs9.lt
  clear hb
  go_wp2_with fail
  refine (tOn_any 4 0 0 text w10).mono ?_
  rintro e w11 ⟨rfl, hb⟩
  have hr11 := hr10.on (Fr.of hb) (Sub.refl _ _)
  have hB11 := hB10.trans (hb.mono hB10.size)
  have ho11 := own_below ho10 hb (Nat.le_refl _)
  have hs11 := hs10.below hb hs10.lt
  clear hb ho9 ho10 hs9 hs10 hr10 hB9 hB10
  go_wp2_with (at_builtin; go_must (refine wpList_app1 w11 rfl _ _ _ rfl w.heap.size 24 i0 _ 9 96 Tryz.underlying28 hif hi0 hi1 hi2 rfl (by decide) (.slice (some ⟨gl, 0, none⟩) 5 5) _ _ rfl ho11 [.int .i64 4, .int .i64 0, .int .i64 0, .int .i64 0, .int .i64 0, .string ⟨#[]⟩, .string ⟨#[]⟩, .string text, .bool false] rfl rfl (by simp [Value.oneCell']) (by omega) (by decide) hB11.size _ rfl ?_); intro v12 w12 own12 grown12 at12; obtain ⟨A12, c12, rfl⟩ := own_slice own12)
  have hrow : (Value.slice (some ⟨gl, 0, none⟩) 5 5).ownBlock = some gl := rfl
  rw [hrow] at grown12
  have hs12 := hs11.grown grown12 (fun h => by injection h with h; omega)
  have hB12 := below_grown hB11 grown12 hB11.size (fun k hk => by injection hk with hk; subst hk; exact hglw)
  have hr12 := (hr11.on (X := fun k => k < w9.heap.size) (Y := fun k => k < w9.heap.size) (Fr.grown grown12 fun k hk => by injection hk with hk; show k < w9.heap.size; omega) (Sub.refl _ _)).here
  have ho12 : w12.ownsRow w.heap.size 24 9 (.slice A12 (Sy.copyL n ++ [Sy.onC 4 0 0 text]).length c12) (Sy.copyL n ++ [Sy.onC 4 0 0 text]).length ((Sy.copyL n ++ [Sy.onC 4 0 0 text]).flatMap Ca.cells) := own12
  have cP := play_any none A10 A12 0 1 c12 Sy.bU (Sy.copyL n ++ [Sy.onC 4 0 0 text]) w12 hr12 bU_sm (cas_own ho12) (copy_sm ht) (by show (6 : Nat) ≤ 4000000; omega)
  rw [HP2.out] at cP
  unfold PlayRel at cP
  dsimp only at cP
  rw [← HM.out] at cP
  have HC2 := Lib.hid cP
  clear cP hr12 HP2 ho12 own12 grown12 at12 hr11 hs11 hB11 ho11
  refine HC2.out.mono ?_
  rintro e w13 ⟨A13, A13', c13, c13', AT2, cT2, v13, rfl, hU13, _, _, hO13, hb⟩
  have hB13 := hB12.trans (hb.mono hB12.size)
  have hs13 := hs12.below hb hs12.lt
  have hsc : w13.cell? ⟨g1, 0, none⟩ = some (.slice A8 0 c8) := hs13.cell 0
  have hgz : g1 < w13.heap.size := hs13.lt
  obtain ⟨Aa, ca, hv, hat⟩ := hO13.at_
  have hl6 : (la ++ [a5]).length = 6 := by rw [List.length_append, HLA.out]; rfl
  obtain ⟨b, o, -, -, rfl, hbz, -, q1, -, -, -⟩ := hat 5 (by rw [hl6]; omega)
  have hx5 : (la ++ [a5])[5]'(by rw [hl6]; omega) = a5 := by
    rw [List.getElem_append_right (by rw [HLA.out]; omega)]
    simp [HLA.out]
  rw [hx5, HA5.out] at q1
  have q1 : w13.cell? ⟨b, o + 21, none⟩ = some (.int .i64 text.size) := q1
  have q1' : w13.cell? ⟨b, o + 20 + 1, none⟩ = some (.int .i64 text.size) := q1
  rw [hl6] at hv
  subst hv
  have HUU := Lib.hid hU13
  have HB13 := Lib.hid hB13
  clear hs12 hs13 hb hB12 hO13 hat hx5 hl6 HC2 HLA HA5 hU13 hB13
  rcases Classical.em (Sy.wantB text.data.toList = [111, 110, 101]) with hone | hone
  · have hm : m = 0 := by rw [HM.out, HU0.out hone]; rfl
    subst hm
    have hwo : ∀ x : ByteArray, x = X → (x.toList == [111, 110, 101]) = true := fun x hx => by
      rw [Lib.toList_data, hx, HXX.out, hone]; rfl
    clear HU0 HU2 HUU HM
    have HB14 := Lib.hid (HB13.out.alloc HB13.out.size (.cells #[.slice A13 0 c13, .slice A13' L2.length c13', .slice AT2 T2.length cT2, .int .i64 n2] 35))
    go_upto_region 8 with fail
    change Code.wp _ _ _ _ (w13.alloc (.cells #[.slice A13 0 c13, .slice A13' L2.length c13', .slice AT2 T2.length cT2, .int .i64 n2] 35))
    rcases t3 : decide ((text.size : Int) < 3) with _ | _
    · have hlong : ¬ text.size < 3 := by have := of_decide_eq_false t3; omega
      have f4 := hwo text ((want_long text hlong).trans HXX.out.symm)
      clear hwo HXX
      go_wp2_with fail
      go_ret
      exact ⟨rfl, HB14.out⟩
    · have hsh : text.size < 3 := by have := of_decide_eq_true t3; omega
      have f4 := hwo _ ((want_short text hsh).trans HXX.out.symm)
      have hle : (text.size : Int) ≤ 3 := by omega
      have hnl : ¬ ((3 : Int) < (text.size : Int)) := by omega
      clear hwo HXX
      go_wp2_with fail
      go_ret
      exact ⟨rfl, HB14.out⟩
  · have hwo : ∀ x : ByteArray, x = X → (x.toList == [111, 110, 101]) = false := fun x hx => by
      rw [Lib.toList_data, hx, HXX.out, data_bytes]
      exact beq_eq_false_iff_ne.2 hone
    have hUe := HU2.out hone
    have hm : m = 2 := by rw [HM.out, hUe]; rfl
    subst hm
    subst hUe
    obtain ⟨bu, ou, rfl, hbu, d0, -, d2, -⟩ := EnRd.at_ HUU.out.up (k := 1) (by show (1 : Nat) < 2; omega)
    have e0 : w13.cell? ⟨bu, ou + 4, none⟩ = some (.string ⟨#[100, 105, 114, 47, 97]⟩) := d0
    have e2 : w13.cell? ⟨bu, ou + 4 + 2, none⟩ = some (.string (Sy.bytesOf (Sy.wantB text.data.toList))) := d2
    rw [← HXX.out] at e2
    have e2' : w13.cell? ⟨bu, ou + 6, none⟩ = some (.string X) := e2
    clear HU0 HU2 HUU HM d0 d2
    have HB14 := Lib.hid (HB13.out.alloc HB13.out.size (.cells #[.slice (some ⟨bu, ou, none⟩) 2 c13, .slice A13' L2.length c13', .slice AT2 T2.length cT2, .int .i64 n2] 35))
    go_upto_region 8 with fail
    change Code.wp _ _ _ _ (w13.alloc (.cells #[.slice (some ⟨bu, ou, none⟩) 2 c13, .slice A13' L2.length c13', .slice AT2 T2.length cT2, .int .i64 n2] 35))
    rcases t3 : decide ((text.size : Int) < 3) with _ | _
    · have hlong : ¬ text.size < 3 := by have := of_decide_eq_false t3; omega
      have hY := (want_long text hlong).trans HXX.out.symm
      have f4 := hwo text hY
      have HY := Lib.hid hY
      clear hwo HXX hY
      go_wp2_with fail
      go_ret
      refine ⟨?_, HB14.out⟩
      show Ending.returned (.bool (X.toList == text.toList)) = _
      rw [← HY.out]
      simp
    · have hsh : text.size < 3 := by have := of_decide_eq_true t3; omega
      have hY := (want_short text hsh).trans HXX.out.symm
      have f4 := hwo _ hY
      have HY := Lib.hid hY
      have hle : (text.size : Int) ≤ 3 := by omega
      have hnl : ¬ ((3 : Int) < (text.size : Int)) := by omega
      clear hwo HXX hY
      go_wp2_with fail
      go_ret
      refine ⟨?_, HB14.out⟩
      show Ending.returned (.bool (X.toList == (text ++ (⟨#[111, 110, 101]⟩ : ByteArray).extract text.size 3).toList)) = _
      rw [HY.out]
      simp
end Go.Proofs.YtjppfhgkanbemabGreatDoor
