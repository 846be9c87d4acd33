/-
  TopMoved'' own walk. (Printed by wip/gentop.py.)
-/
import Derived.Test.YtjppfhgkanbemacGreatDoorSyTopA
import Derived.Test.YtjppfhgkanbemacGreatDoorSyTop3
namespace Go.Proofs.YtjppfhgkanbemacGreatDoor
open Go.RowKit Go.Shelf Go.Sort

theorem moved_sm {p pb text : ByteArray} (h1 : p.size ≤ 1048576) (h2 : pb.size ≤ 1048576) (h3 : text.size ≤ 1048576) : ∀ x ∈ Sy.movedC p pb text, CaSm x := fun x hx => by
  simp only [Sy.movedC, List.mem_cons, List.mem_nil_iff, or_false] at hx
  have z : (0 : Nat) ≤ 1048576 := by omega
  have z3 : (3 : Nat) ≤ 1048576 := by omega
  have z5 : (5 : Nat) ≤ 1048576 := by omega
  rcases hx with rfl | rfl | rfl | rfl | rfl | rfl
  · exact ⟨z5, z, z⟩
  · exact ⟨z3, h1, z⟩
  · exact ⟨z, z, h3⟩
  · exact ⟨h2, z, z⟩
  · exact ⟨h1, z, z⟩
  · exact ⟨z3, z, z⟩

set_option maxHeartbeats 4000000 in
set_option maxRecDepth 100000 in
theorem topMoved_any (tq text : ByteArray) (hto : tq.size ≤ 1048576) (ht : text.size ≤ 1048576) (w : World) : Calls Tryz.prog 10 #[.string tq, .string text] w fun e w' => e = .returned (.bool true) ∧ Below w.heap.size w w' := by
  have cN := fun W => named_any tq W (by unfold maxLen; omega)
  obtain ⟨nm, hnm⟩ : ∃ nm, nm = Pt.named tq.data.toList := ⟨_, rfl⟩
  rw [← hnm] at cN
  have HNM := Lib.hid hnm
  clear hnm
  go_enter Tryz.func10, Tryz.ntmps10
  go_wp2_with fail
  refine (topAlive_any w).mono ?_
  rintro e w0 ⟨rfl, hB0⟩
  cases nm
  · go_wp2_with (go_at_call 29; refine (cN w0).mono ?_; rintro e w0 ⟨rfl, rfl⟩)
    go_ret
    exact ⟨rfl, hB0⟩
  rcases td : (tq.toList == [100, 105, 114]) with _ | _
  rotate_left
  · go_wp2_with (go_at_call 29; refine (cN w0).mono ?_; rintro e w0 ⟨rfl, rfl⟩)
    go_ret
    exact ⟨rfl, hB0⟩
  rcases t90 : decide ((90 : Int) < (text.size : Int)) with _ | _
  rotate_left
  · go_wp2_with (go_at_call 29; refine (cN w0).mono ?_; rintro e w0 ⟨rfl, rfl⟩)
    go_ret
    exact ⟨rfl, hB0⟩
  have h90 : text.size ≤ 90 := by have := of_decide_eq_false t90; omega
  have hne : tq.data.toList ≠ Sy.dirB.data.toList := fun q => by
    rw [Lib.toList_data, q] at td
    exact absurd td (by decide)
  obtain ⟨a0, a1, a2, a3, a4, a5, hmo, he1, ht3, hn4, he5⟩ := Sy.moved («to» := tq) (text := text) (pb := tq ++ ⟨#[47, 98]⟩) HNM.out.symm hne h90 (by rw [data_app])
  have hpl : ∃ u T n, Sy.play Sy.bU (Sy.movedC tq (tq ++ ⟨#[47, 98]⟩) text) = ((u, T, n), [a0, a1, a2, a3, a4, a5], 0) := ⟨_, _, _, by
    rw [Sy.play_ok (by rw [Sy.bU_wrong]) (by show (6 : Nat) ≤ 80; omega), hmo]⟩
  obtain ⟨u, T, n, hpl⟩ := hpl
  have HP := Lib.hid hpl
  have ht3 : a3.text = ⟨#[116, 119, 111]⟩ ++ text := bs_ext (by rw [ht3, data_app]; rfl)
  have HT3 := Lib.hid ht3
  have hn4l : (a4.names.length : Int) = 2 := by rw [hn4]; rfl
  have hsm := moved_sm hto (show (tq ++ ⟨#[47, 98]⟩ : ByteArray).size ≤ 1048576 by
    have h1 := Sy.named_len HNM.out.symm
    rw [size_length] at h1
    rw [ByteArray.size_append]
    show tq.size + 2 ≤ _
    omega) ht
  have HSM := Lib.hid hsm
  clear hpl hmo hsm hne
  go_wp2_with (first | (go_at_call 29; refine (cN w0).mono ?_; rintro e w0 ⟨rfl, rfl⟩))
  clear td t90
  refine (tOpen_any ⟨#[100, 105, 114, 47, 98]⟩ 7 w0).mono ?_
  rintro e w1 ⟨rfl, hb⟩
  have hB1 := hB0.trans (hb.mono hB0.size)
  clear hb
  go_wp2_with fail
  refine (tAt_any 9 ⟨#[100, 105, 114]⟩ tq w1).mono ?_
  rintro e w2 ⟨rfl, hb⟩
  have hB2 := hB1.trans (hb.mono hB1.size)
  clear hb
  go_wp2_with fail
  refine (tOn_any 4 0 0 text w2).mono ?_
  rintro e w3 ⟨rfl, hb⟩
  have hB3 := hB2.trans (hb.mono hB2.size)
  clear hb
  go_wp2_with fail
  have cO := tAt_any 12 (tq ++ (⟨#[47, 98]⟩ : ByteArray)) ⟨#[]⟩ w3
  refine cO.mono ?_
  rintro e w4 ⟨rfl, hb⟩
  have hB4 := hB3.trans (hb.mono hB3.size)
  clear hb cO
  generalize tq ++ (⟨#[47, 98]⟩ : ByteArray) = pn at *
  go_wp2_with fail
  refine (tAt_any 11 tq ⟨#[]⟩ w4).mono ?_
  rintro e w5 ⟨rfl, hb⟩
  have hB5 := hB4.trans (hb.mono hB4.size)
  clear hb
  go_wp2_with fail
  refine (tAt_any 12 ⟨#[100, 105, 114]⟩ ⟨#[]⟩ w5).mono ?_
  rintro e w6 ⟨rfl, hb⟩
  have hB6 := hB5.trans (hb.mono hB5.size)
  clear hb
  have hB7 := hB6.alloc hB6.size (.cells ((Sy.movedC tq pn text).flatMap Ca.cells).toArray 50)
  have hl7 : Blk (w6.alloc (.cells ((Sy.movedC tq pn text).flatMap Ca.cells).toArray 50)) w6.heap.size 50 ((Sy.movedC tq pn text).flatMap Ca.cells) := Blk.new w6 _ _
  go_upto_region 6 with fail
  change Code.wp _ _ _ _ (w6.alloc (.cells ((Sy.movedC tq pn text).flatMap Ca.cells).toArray 50))
  generalize w6.alloc (.cells ((Sy.movedC tq pn text).flatMap Ca.cells).toArray 50) = w7 at *
  generalize w6.heap.size = gl at *
  clear hB0 hB1 hB2 hB3 hB4 hB5 hB6
  go_wp2_with fail
  refine (base_any w7).mono ?_
  rintro e w8 ⟨Ab, rfl, hrb, hb⟩
  have hB8 := hB7.trans (hb.mono hB7.size)
  have cP := play_any none Ab (some ⟨gl, 0, none⟩) 0 1 6 Sy.bU (Sy.movedC tq pn text) w8 hrb bU_sm (cas_blk (hl7.below hb hl7.lt)) HSM.out (by show (6 : Nat) ≤ 4000000; omega)
  rw [HP.out] at cP
  unfold PlayRel at cP
  dsimp only at cP
  have HC := Lib.hid cP
  clear cP hrb hb HP hl7
  go_wp2_with fail
  refine HC.out.mono ?_
  rintro e w9 ⟨Aq, Aq', cq, cq', AT, cT, v, rfl, -, -, -, hO, hb⟩
  have hB9 := hB8.trans (hb.mono hB8.size)
  clear hb HC
  obtain ⟨Aa, ca, rfl, hat⟩ := hO.at_
  clear hO
  obtain ⟨b, o, -, -, rfl, hb, p0, -, -, -, -⟩ := hat 1 (by show (1 : Nat) < 6; omega)
  obtain ⟨b', o', -, -, hbe, -, -, -, q2, -, -⟩ := hat 3 (by show (3 : Nat) < 6; omega)
  cases hbe
  obtain ⟨b', o', Ak4, ck4, hbe, -, -, -, -, r3, -⟩ := hat 4 (by show (4 : Nat) < 6; omega)
  cases hbe
  obtain ⟨b', o', -, -, hbe, -, s0, -, -, -, -⟩ := hat 5 (by show (5 : Nat) < 6; omega)
  cases hbe
  replace p0 : w9.cell? ⟨b, o + 4, none⟩ = some (.int .i64 a1.err) := p0
  replace q2 : w9.cell? ⟨b, o + 12 + 2, none⟩ = some (.string a3.text) := q2
  replace r3 : w9.cell? ⟨b, o + 16 + 3, none⟩ = some (.slice Ak4 a4.names.length ck4) := r3
  replace s0 : w9.cell? ⟨b, o + 20, none⟩ = some (.int .i64 a5.err) := s0
  rw [he1] at p0
  rw [show a4.names.length = 2 by omega] at r3
  rw [he5] at s0
  have q2' : w9.cell? ⟨b, o + 14, none⟩ = some (.string a3.text) := q2
  have r3' : w9.cell? ⟨b, o + 19, none⟩ = some (.slice Ak4 2 ck4) := r3
  have f4 : (a3.text.toList == ((⟨#[116, 119, 111]⟩ : ByteArray) ++ text).toList) = true := by rw [HT3.out]; simp
  generalize a3.text = x3 at *
  have hB10 := hB9.alloc hB9.size (.cells #[.slice Aq u.U.length cq, .slice Aq' u.L.length cq', .slice AT T.length cT, .int .i64 n] 33)
  clear hat ht3 hn4
  go_wp2_with fail
  go_ret
  refine ⟨?_, hB10⟩
  first | rfl | (show Ending.returned (.bool _) = _; simp)
end Go.Proofs.YtjppfhgkanbemacGreatDoor
