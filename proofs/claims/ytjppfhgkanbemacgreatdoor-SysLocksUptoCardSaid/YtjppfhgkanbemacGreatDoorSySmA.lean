/-
  tracelaw6's small pieces: the union at hand and its closed fact.
-/
import Derived.Test.YtjppfhgkanbemacGreatDoorSyTopA
namespace Go.Proofs.YtjppfhgkanbemacGreatDoor
open Go.RowKit Go.Shelf Go.Sort

def smA : En := ⟨⟨#[97]⟩, 1, ⟨#[104, 101, 108, 108, 111]⟩, false⟩
def smU : Un := ⟨[], [[smA]]⟩
def smL : List Ca := [Sy.openC 0 ⟨#[97]⟩, Sy.unlinkC ⟨#[97]⟩, Sy.readC 0 3]
def helB : ByteArray := ⟨#[104, 101, 108]⟩
theorem sm_err : (Sy.play smU smL).2.2 = 0 := by kernel_rfl
theorem sm_len : (Sy.play smU smL).2.1.length = 3 := by kernel_rfl
theorem sm_text : ((Sy.play smU smL).2.1.getD 2 (.no 0)).text = helB := by kernel_rfl
theorem sm_tree : (Sy.play smU smL).1.2.1.length = 0 := by kernel_rfl
theorem sm_open : (Sy.play smU smL).1.2.2 = 1 := by kernel_rfl
theorem smU_sm : UnSm smU := by
  refine ⟨fun l hl => ?_, by decide, fun l hl => ?_⟩
  · have hl : l = [] ∨ l = [smA] := by simpa [Un.all, smU] using hl
    rcases hl with rfl | rfl
    · exact ⟨fun _ h => (nomatch h), by decide⟩
    · exact ⟨fun e he => by simp only [List.mem_cons, List.mem_nil_iff, or_false] at he; subst he; exact ⟨by decide, by decide⟩, by decide⟩
  · have hl : l = [] ∨ l = [smA] := by simpa [Un.all, smU] using hl
    rcases hl with rfl | rfl <;> decide
theorem smSmall_any (w : World) : Calls Tryz.prog 35 #[] w fun e w' => ∃ A', e = .returned (.agg #[.slice none 0 0, .slice A' 1 1]) ∧ UnRd w' w'.heap.size none A' 0 1 smU ∧ Below w.heap.size w w' := by
  have h1 := Blk.new (w.alloc (.cells #[.slice none 0 0, .slice (some ⟨w.heap.size + 1 + 1, 0, none⟩) 1 1] 26)) 53 (En.flat [smA])
  have h2 := Blk.new ((w.alloc (.cells #[.slice none 0 0, .slice (some ⟨w.heap.size + 1 + 1, 0, none⟩) 1 1] 26)).alloc (.cells (En.flat [smA]).toArray 53)) 23 [.slice (some ⟨w.heap.size + 1, 0, none⟩) 1 1]
  have h1 := h1.alloc (.cells #[.slice (some ⟨w.heap.size + 1, 0, none⟩) 1 1] 23)
  simp only [World.size_alloc] at h1 h2
  have hr : UnRd (((w.alloc (.cells #[.slice none 0 0, .slice (some ⟨w.heap.size + 1 + 1, 0, none⟩) 1 1] 26)).alloc (.cells (En.flat [smA]).toArray 53)).alloc (.cells #[.slice (some ⟨w.heap.size + 1, 0, none⟩) 1 1] 23)) _ none (some ⟨w.heap.size + 1 + 1, 0, none⟩) 0 1 smU :=
    ⟨Rd.nil, Nat.le_refl _, blk_ts1' (l := [smA]) h2 (blk_en' h1) (by decide), fun h => by cases h⟩
  have hB : Below w.heap.size w (((w.alloc (.cells #[.slice none 0 0, .slice (some ⟨w.heap.size + 1 + 1, 0, none⟩) 1 1] 26)).alloc (.cells (En.flat [smA]).toArray 53)).alloc (.cells #[.slice (some ⟨w.heap.size + 1, 0, none⟩) 1 1] 23)) := by
    have hb := (Below.refl w.heap.size w).alloc (Nat.le_refl _) (.cells #[.slice none 0 0, .slice (some ⟨w.heap.size + 1 + 1, 0, none⟩) 1 1] 26)
    have hb := hb.alloc hb.size (.cells (En.flat [smA]).toArray 53)
    exact hb.alloc hb.size _
  have HR := Lib.hid hr
  have HB := Lib.hid hB
  clear h1 h2 hr hB
  go_enter Tryz.func35, Tryz.ntmps35
  go_wp2_with fail
  refine bodyPost_ret (v := .agg #[.slice none 0 0, .slice (some ⟨w.heap.size + 1 + 1, 0, none⟩) 1 1]) ?_ rfl ?_
  · simp [results, Tryz.results35, go_sem]
  exact ⟨_, rfl, HR.out, HB.out⟩

set_option maxHeartbeats 2000000 in
set_option maxRecDepth 100000 in
theorem law6Alive_any (w : World) : Calls Tryz.prog 13 #[] w fun e w' => e = .returned (.bool true) ∧ Below w.heap.size w w' := by
  have h1 := sm_err
  have h2 := sm_len
  have h3 := sm_text
  have h4 := sm_tree
  have h5 := sm_open
  obtain ⟨r, hr⟩ : ∃ r, r = Sy.play smU smL := ⟨_, rfl⟩
  rw [← hr] at h1 h2 h3 h4 h5
  obtain ⟨⟨s, T, n⟩, an, e0⟩ := r
  dsimp only at h1 h2 h3 h4 h5
  subst h1 h5
  have HP := Lib.hid hr.symm
  have hk2 : 2 < an.length := by omega
  rw [getD_at hk2] at h3
  have HL := Lib.hid h2
  have HT := Lib.hid h3
  have HU := Lib.hid h4
  clear hr h2 h3 h4
  go_enter Tryz.func13, Tryz.ntmps13
  go_wp2_with fail
  refine (smSmall_any w).mono ?_
  rintro e w4 ⟨A1, rfl, hr4, hB4⟩
  have hl5 : Blk (w4.alloc (.cells (smL.flatMap Ca.cells).toArray 50)) w4.heap.size 50 (smL.flatMap Ca.cells) := Blk.new w4 _ _
  have hb5 : Below w4.heap.size w4 (w4.alloc (.cells (smL.flatMap Ca.cells).toArray 50)) := (Below.refl _ w4).alloc (Nat.le_refl _) _
  have hr5 := (hr4.below hb5).more hb5.size
  have hB5 := hB4.trans (hb5.mono hB4.size)
  have cP := play_any none A1 (some ⟨w4.heap.size, 0, none⟩) 0 1 3 smU smL _ hr5 smU_sm (cas_blk hl5) (fun x hx => by
    simp only [smL, List.mem_cons, List.mem_nil_iff, or_false] at hx
    rcases hx with rfl | rfl | rfl <;> exact ⟨by decide, by decide, by decide⟩) (by decide)
  rw [HP.out] at cP
  unfold PlayRel at cP
  dsimp only at cP
  have HC := Lib.hid cP
  clear cP hl5 hb5 hr5 hr4
  go_wp2_with fail
  refine HC.out.mono ?_
  rintro e w6 ⟨A6, A6', cu6, cv6, AT, cT, v, rfl, -, -, -, hO6, hb6⟩
  obtain ⟨Aa, ca, rfl, hat⟩ := hO6.at_
  obtain ⟨b, o, Ak, ck, rfl, hb, -, -, q2, -, -⟩ := hat 2 hk2
  rw [HT.out] at q2
  rw [HL.out]
  have hB6 := hB5.trans (hb6.mono hB5.size)
  have hb7 : b < w6.heap.size := hb
  have q2 : w6.cell? ⟨b, o + 8 + 2, none⟩ = some (.string helB) := q2
  have q2' : w6.cell? ⟨b, o + 10, none⟩ = some (.string helB) := q2
  have hB7 := hB6.alloc hB6.size (.cells #[.slice A6 s.U.length cu6, .slice A6' s.L.length cv6, .slice AT T.length cT, .int .i64 1] 33)
  rw [HU.out] at hB7 ⊢
  clear hat hO6 hb6 hB5 HC HP
  have htl : (helB.toList == [104, 101, 108]) = true := by rw [Lib.toList_data]; rfl
  go_wp2_with fail
  go_ret
  exact ⟨rfl, hB7⟩
end Go.Proofs.YtjppfhgkanbemacGreatDoor
