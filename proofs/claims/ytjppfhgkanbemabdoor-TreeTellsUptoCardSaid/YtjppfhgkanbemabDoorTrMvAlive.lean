/-
  tracelaw2's small tree and its closed fact.
-/
import Derived.Test.YtjppfhgkanbemabDoorTrMove
import Derived.KernelRfl
namespace Go.Proofs.YtjppfhgkanbemabDoor
open Go.RowKit Go.Shelf Go.Sort

theorem field_faultC (a b : Int) (W : World) : (Instr.field 29 (.agg #[.int .i64 a, .int .i64 b]) 0).run Tryd.prog W = .ok (.int .i64 a) W := by kernel_rfl

def sA : En := ⟨⟨#[97]⟩, 2, ⟨#[]⟩, false⟩
def sB : En := ⟨⟨#[97, 47, 98]⟩, 1, ⟨#[120]⟩, false⟩
def sC : En := ⟨⟨#[99]⟩, 3, ⟨#[97]⟩, false⟩
def sD : En := ⟨⟨#[100]⟩, 2, ⟨#[]⟩, false⟩
def sE : En := ⟨⟨#[100, 47, 98]⟩, 1, ⟨#[120]⟩, false⟩
theorem sm_move : Tr.move [sA, sB, sC] [97] [100] = ([sC, sD, sE], 0) := by kernel_rfl
theorem sm_list : Tr.list [sC, sD, sE] [100] = ([[98]], 0) := by kernel_rfl
theorem sm_remove : Tr.remove [sA, sB, sC] [97] = ([], 11) := by kernel_rfl
theorem sm_wrong : Tr.wrong [sA, sB, sC] false = (0, 0) := by kernel_rfl
theorem sm_wrong2 : Tr.wrong [sC, sD, sE] false = (0, 0) := by kernel_rfl
theorem sm_sm : Sm [sA, sB, sC] := fun e he => by simp only [List.mem_cons, List.mem_nil_iff, or_false] at he; rcases he with rfl | rfl | rfl <;> exact ⟨by decide, by decide⟩
theorem sm_sm2 : Sm [sC, sD, sE] := fun e he => by simp only [List.mem_cons, List.mem_nil_iff, or_false] at he; rcases he with rfl | rfl | rfl <;> exact ⟨by decide, by decide⟩
theorem sm_srt2 : Tr.Srt [sC, sD, sE] := ((Tr.wrong_zero _ _).1 (by rw [sm_wrong2])).2.2.1

theorem small_any (w : World) : Calls Tryd.prog 36 #[] w fun e w' => e = .returned (.slice (some ⟨w.heap.size, 0, none⟩) 3 3) ∧ EnRd w' w'.heap.size (some ⟨w.heap.size, 0, none⟩) [sA, sB, sC] ∧ Below w.heap.size w w' := by
  have h := EnRd.lit w [sA, sB, sC] (cs := #[.string ⟨#[97]⟩, .int .i64 2, .string ⟨#[]⟩, .bool false, .string ⟨#[97, 47, 98]⟩, .int .i64 1, .string ⟨#[120]⟩, .bool false, .string ⟨#[99]⟩, .int .i64 3, .string ⟨#[97]⟩, .bool false]) rfl
  go_enter Tryd.func36, Tryd.ntmps36
  go_wp2_with fail
  go_ret
  exact ⟨rfl, by rw [World.size_alloc]; exact h, (Below.refl _ _).alloc (Nat.le_refl _) _⟩

set_option maxHeartbeats 2000000 in
set_option maxRecDepth 100000 in
theorem trAlive_any (w : World) : Calls Tryd.prog 11 #[] w fun e w' => e = .returned (.bool true) ∧ Below w.heap.size w w' := by
  go_enter Tryd.func11, Tryd.ntmps11
  go_wp2_with fail
  refine (small_any w).mono ?_
  rintro e w1 ⟨rfl, hr1, hB1⟩
  go_wp2_with fail
  have cM : Calls Tryd.prog 12 #[.slice (some ⟨w.heap.size, 0, none⟩) 3 3, .string ⟨#[97]⟩, .string ⟨#[100]⟩] w1 (MoveRel [sA, sB, sC] [97] [100] w1) :=
    move_any _ 3 [sA, sB, sC] ⟨#[97]⟩ ⟨#[100]⟩ w1 hr1 (by decide) sm_sm (by decide) (by decide) (by decide)
  unfold MoveRel at cM
  rw [sm_move] at cM
  dsimp only at cM
  refine cM.mono ?_
  rintro e w2 ⟨v, rfl, ho, hb⟩
  have hB2 := hB1.trans (hb.mono hB1.size)
  clear cM hb hr1 hB1
  obtain ⟨A, c, rfl, hc, hr⟩ := EnOwn.rd ho
  clear ho
  go_wp2_with fail
  have cL : Calls Tryd.prog 19 #[.slice A 3 c, .string ⟨#[100]⟩] w2 (ListRel [sC, sD, sE] [100] w2) :=
    list_any A c [sC, sD, sE] ⟨#[100]⟩ w2 hr sm_sm2 sm_srt2 (by decide) (by decide)
  unfold ListRel at cL
  rw [sm_list] at cL
  dsimp only at cL
  refine cL.mono ?_
  rintro e w3 ⟨v3, rfl, ho3, hb⟩
  have hB3 := hB2.trans (hb.mono hB2.size)
  have hr3 := (hr.below hb).more hb.size
  clear cL hb hB2 hr
  obtain ⟨A3, c3, rfl, hr4⟩ : ∃ A c, v3 = .slice A 1 c ∧ StrRd w3 w3.heap.size A [[98]] := by
    rcases own_shape ho3 with ⟨h1, h2⟩ | ⟨g, cap, h1, _, _, _⟩
    · cases h2
    · subst h1; exact ⟨_, _, rfl, Rd.of_own ho3⟩
  clear ho3
  go_wp2_with fail
  refine (small_any w3).mono ?_
  rintro e w4 ⟨rfl, hr5, hb⟩
  have hB4 := hB3.trans (hb.mono hB3.size)
  have hr3 := (hr3.below hb).more hb.size
  have hr4 := Rd.more (Rd.below hr4 hb) hb.size
  clear hb hB3
  go_wp2_with fail
  have cR : Calls Tryd.prog 24 #[.slice (some ⟨w3.heap.size, 0, none⟩) 3 3, .string ⟨#[97]⟩] w4 (RemRel [sA, sB, sC] [97] w4) :=
    remove_any _ 3 [sA, sB, sC] ⟨#[97]⟩ w4 hr5 (by decide) sm_sm (by decide) (by decide)
  unfold RemRel at cR
  rw [sm_remove] at cR
  dsimp only at cR
  refine cR.mono ?_
  rintro e w5 ⟨v5, rfl, ho5, hb⟩
  have hB5 := hB4.trans (hb.mono hB4.size)
  have hr3 := (hr3.below hb).more hb.size
  have hr4 : StrRd w5 w5.heap.size A3 [[98]] := Rd.more (Rd.below hr4 hb) hb.size
  clear cR hb hB4 ho5 hr5
  obtain ⟨b, o, rfl, hbz, h0, h1, h2, h3⟩ := EnRd.at_ hr3 (k := 1) (by decide)
  obtain ⟨b2, o2, rfl, hbz2, k0⟩ := StrRd.at_ hr4 (k := 0) (by decide)
  replace h0 : w5.cell? ⟨b, o + 4, none⟩ = some (.string ⟨#[100]⟩) := h0
  replace k0 : w5.cell? ⟨b2, o2, none⟩ = some (.string ⟨#[98]⟩) := k0
  clear h1 h2 h3 hr3 hr4
  have hl : ([sC, sD, sE] : List En).length = 3 := rfl
  try rw [hl]
  go_wp2_with fail
  refine (small_any w5).mono ?_
  rintro e w6 ⟨rfl, hr6, hb⟩
  have hB6 := hB5.trans (hb.mono hB5.size)
  clear hb hB5
  go_wp2_with fail
  have cW : Calls Tryd.prog 13 #[.slice (some ⟨w5.heap.size, 0, none⟩) 3 3] w6 _ := wrongT_any _ 3 [sA, sB, sC] w6 hr6 (by decide) sm_sm (by decide)
  rw [sm_wrong] at cW
  refine cW.mono ?_
  rintro e w7 ⟨rfl, hb⟩
  have hB7 := hB6.trans (hb.mono hB6.size)
  have hfd := field_faultC
  go_wp2_with fail
  go_ret
  exact ⟨rfl, hB7⟩
end Go.Proofs.YtjppfhgkanbemabDoor
