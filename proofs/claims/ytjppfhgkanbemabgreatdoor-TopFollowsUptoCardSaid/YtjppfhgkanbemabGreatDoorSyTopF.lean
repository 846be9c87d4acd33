/-
  TopFollows' own walk. (Printed by wip/gensytopf.py.)
-/
import Derived.Test.YtjppfhgkanbemabGreatDoorSyTopA
namespace Go.Proofs.YtjppfhgkanbemabGreatDoor
open Go.RowKit Go.Shelf Go.Sort

def followsL (text : ByteArray) : List Ca := [Sy.openA Sy.dirAB 1, Sy.openA Sy.dirAB 34, Sy.onC 4 1 0 text, Sy.onC 3 0 100 Sy.noE]
set_option maxHeartbeats 2000000 in
set_option maxRecDepth 100000 in
theorem topFollows_any (text : ByteArray) (ht : text.size ≤ 1048576) (w : World) : Calls Tryz.prog 4 #[.string text] w fun e w' => e = .returned (.bool true) ∧ Below w.heap.size w w' := by
  go_enter Tryz.func4, Tryz.ntmps4
  go_wp2_with fail
  refine (topAlive_any w).mono ?_
  rintro e w0 ⟨rfl, hB0⟩
  rcases t90 : decide ((90 : Int) < (text.size : Int)) with _ | _
  rotate_left
  · go_wp2_with fail
    go_ret
    exact ⟨rfl, hB0⟩
  have h90 : text.size ≤ 90 := by have := of_decide_eq_false t90; omega
  obtain ⟨a0, a1, a2, a3, hfo, he3, ht3⟩ := Sy.follows text h90
  have hpl : ∃ u T n, Sy.play Sy.bU (followsL text) = ((u, T, n), [a0, a1, a2, a3], 0) := ⟨_, _, _, by
    rw [Sy.play_ok (by rw [Sy.bU_wrong]) (by show (4 : Nat) ≤ 80; omega)]
    unfold followsL
    rw [hfo]⟩
  obtain ⟨u, T, n, hpl⟩ := hpl
  have HP := Lib.hid hpl
  clear hpl hfo
  go_wp2_with fail
  refine (base_any w0).mono ?_
  rintro e w1 ⟨A1, rfl, hr1, hb1⟩
  have hB1 := hB0.trans (hb1.mono hB0.size)
  go_wp2_with fail
  refine (tOpen_any ⟨#[100, 105, 114, 47, 97]⟩ 1 w1).mono ?_
  rintro e w2 ⟨rfl, hb2⟩
  have hr2 := (hr1.below hb2).more hb2.size
  have hB2 := hB1.trans (hb2.mono hB1.size)
  go_wp2_with fail
  refine (tOpen_any ⟨#[100, 105, 114, 47, 97]⟩ 34 w2).mono ?_
  rintro e w3 ⟨rfl, hb3⟩
  have hr3 := (hr2.below hb3).more hb3.size
  have hB3 := hB2.trans (hb3.mono hB2.size)
  go_wp2_with fail
  refine (tOn_any 4 1 0 text w3).mono ?_
  rintro e w4 ⟨rfl, hb4⟩
  have hr4 := (hr3.below hb4).more hb4.size
  have hB4 := hB3.trans (hb4.mono hB3.size)
  go_wp2_with fail
  refine (tOn_any 3 0 100 ⟨#[]⟩ w4).mono ?_
  rintro e w5 ⟨rfl, hb5⟩
  have hr5 := (hr4.below hb5).more hb5.size
  have hB5 := hB4.trans (hb5.mono hB4.size)
  clear hr1 hr2 hr3 hr4 hb1 hb2 hb3 hb4 hb5 hB0 hB1 hB2 hB3 hB4 t90
  have hl6 : Blk (w5.alloc (.cells ((followsL text).flatMap Ca.cells).toArray 24)) w5.heap.size 24 ((followsL text).flatMap Ca.cells) := Blk.new w5 _ _
  have hb6 : Below w5.heap.size w5 (w5.alloc (.cells ((followsL text).flatMap Ca.cells).toArray 24)) := (Below.refl _ w5).alloc (Nat.le_refl _) _
  have hr6 := (hr5.below hb6).more hb6.size
  have hB6 := hB5.trans (hb6.mono hB5.size)
  have cP := play_any none A1 (some ⟨w5.heap.size, 0, none⟩) 0 1 4 Sy.bU (followsL text) _ hr6 bU_sm (cas_blk hl6) (fun x hx => by
    simp only [followsL, List.mem_cons, List.mem_nil_iff, or_false] at hx
    rcases hx with rfl | rfl | rfl | rfl
    · exact ⟨by decide, by decide, by decide⟩
    · exact ⟨by decide, by decide, by decide⟩
    · exact ⟨by show (0 : Nat) ≤ 1048576; omega, by show (0 : Nat) ≤ 1048576; omega, ht⟩
    · exact ⟨by decide, by decide, by decide⟩) (by show (4 : Nat) ≤ 4000000; omega)
  rw [HP.out] at cP
  unfold PlayRel at cP
  dsimp only at cP
  have HC := Lib.hid cP
  clear cP hl6 hb6 hr6 hr5 HP
  go_wp2_with fail
  refine HC.out.mono ?_
  rintro e w7 ⟨A6, A6', cu6, cv6, AT, cT, v, rfl, hU6, hT6, hcT, hO6, hb7⟩
  obtain ⟨Aa, ca, rfl, hat⟩ := hO6.at_
  obtain ⟨b, o, Ak, ck, rfl, hb, q0, q1, q2, q3, _⟩ := hat 3 (by show (3 : Nat) < 4; omega)
  have q0 : w7.cell? ⟨b, o + 12, none⟩ = some (.int .i64 a3.err) := q0
  have q2 : w7.cell? ⟨b, o + 12 + 2, none⟩ = some (.string a3.text) := q2
  have q2' : w7.cell? ⟨b, o + 14, none⟩ = some (.string a3.text) := q2
  have HT3 := Lib.hid ht3
  have hB7 := hB6.trans (hb7.mono hB6.size)
  have hbz : b < w7.heap.size := hb
  have hB8 := hB7.alloc hB7.size (.cells #[.slice A6 u.U.length cu6, .slice A6' u.L.length cv6, .slice AT T.length cT, .int .i64 n] 35)
  clear q1 q3 hat hU6 hT6 hO6 hb7 hB5 hB6 HC hB7 ht3
  have hl4 : (([a0, a1, a2, a3] : List An).length : Int) = 4 := rfl
  go_wp2_with fail
  go_ret
  refine ⟨?_, hB8⟩
  show Ending.returned (.bool (a3.text.toList == text.toList)) = _
  rw [HT3.out]
  simp
end Go.Proofs.YtjppfhgkanbemabGreatDoor
