/-
  Named, as the program and as the document has it.
-/
import Derived.Test.YtjppfhgkanbemabDoorProg
import Derived.Test.YtjppfhgkanbemabDoorPtPure
import Derived.Lib.Hide
import Derived.WalkKit
import Derived.LoopTactic
import Derived.Laws.IdiomStrings
import Derived.Below
namespace Go.Proofs.YtjppfhgkanbemabDoor
open Go.RowKit

theorem ret_bool {a b : Bool} (h : a = b) : Ending.returned (.bool a) = .returned (.bool b) := by rw [h]
theorem take_byte (s : ByteArray) (k : Nat) (h : k < s.size) : s.data.toList.take (k + 1) = s.data.toList.take k ++ [s[k]] := by
  rw [List.take_succ_eq_append_getElem (by simpa using h)]; rfl
theorem take_all_byte (s : ByteArray) : s.data.toList.take s.size = s.data.toList := List.take_of_length_le (by simp)
theorem size_length (s : ByteArray) : s.data.toList.length = s.size := by simp
theorem mem_byte (s : ByteArray) (k : Nat) (h : k < s.size) : s[k] ∈ s.data.toList := by
  have : s[k] ∈ s.data.toList.take (k + 1) := by rw [take_byte s k h]; simp
  exact List.mem_of_mem_take this
theorem named_short {s : ByteArray} (h : s.size < 1) : Pt.named s.data.toList = false := by
  unfold Pt.named; rw [size_length, decide_eq_false (show ¬ 1 ≤ s.size by omega)]; rfl
theorem named_long {s : ByteArray} (h : 12 < s.size) : Pt.named s.data.toList = false := by
  unfold Pt.named; rw [size_length, decide_eq_false (show ¬ s.size ≤ 12 by omega)]; simp
theorem named_bad {s : ByteArray} (k : Nat) (hk : k < s.size) (h : Pt.letter s[k] = false) : Pt.named s.data.toList = false := by
  unfold Pt.named
  have : s.data.toList.all Pt.letter = false := by
    rw [List.all_eq_false]; exact ⟨s[k], mem_byte s k hk, by simp [h]⟩
  rw [this, Bool.and_false]
theorem named_good {s : ByteArray} (h1 : 1 ≤ s.size) (h2 : s.size ≤ 12) (h : (s.data.toList.take s.size).all Pt.letter = true) : Pt.named s.data.toList = true := by
  unfold Pt.named
  rw [take_all_byte] at h
  rw [size_length, decide_eq_true h1, decide_eq_true h2, h]; rfl
theorem named_end {s : ByteArray} (h1 : 1 ≤ s.size) (h : (s.data.toList.take s.size).all Pt.letter = true) : Pt.named s.data.toList = decide ((s.size : Int) ≤ 12) := by
  rcases Nat.lt_or_ge 12 s.size with h2 | h2
  · rw [named_long h2, decide_eq_false (by omega)]
  · rw [named_good h1 h2 h, decide_eq_true (by omega)]
theorem letters_next {s : ByteArray} {k : Nat} (hk : k < s.size) (h : (s.data.toList.take k).all Pt.letter = true) (hc : Pt.letter s[k] = true) : (s.data.toList.take (k + 1)).all Pt.letter = true := by
  rw [take_byte s k hk, List.all_append, h]; simp [hc]
theorem letter_yes {c : UInt8} (h : (97 ≤ (c.toNat : Int) ∧ (c.toNat : Int) ≤ 122) ∨ (48 ≤ (c.toNat : Int) ∧ (c.toNat : Int) ≤ 57)) : Pt.letter c = true := by
  unfold Pt.letter
  rw [Bool.or_eq_true, Bool.and_eq_true, Bool.and_eq_true, decide_eq_true_eq, decide_eq_true_eq, decide_eq_true_eq, decide_eq_true_eq]; omega
theorem letter_no {c : UInt8} (h : ((c.toNat : Int) < 97 ∨ 122 < (c.toNat : Int)) ∧ ((c.toNat : Int) < 48 ∨ 57 < (c.toNat : Int))) : Pt.letter c = false := by
  rw [Bool.eq_false_iff]
  unfold Pt.letter
  rw [Ne, Bool.or_eq_true, Bool.and_eq_true, Bool.and_eq_true, decide_eq_true_eq, decide_eq_true_eq, decide_eq_true_eq, decide_eq_true_eq]; omega

theorem named_any (s : ByteArray) (w : World) (hs : s.size ≤ maxLen) :
    Calls Tryd.prog 68 #[.string s] w fun e w' => e = .returned (.bool (Pt.named s.data.toList)) ∧ w' = w := by
  unfold maxLen at hs
  rcases Nat.lt_or_ge s.size 1 with h1 | h1
  · have E := Lib.hid (named_short h1)
    go_enter Tryd.func68, Tryd.ntmps68
    go_wp2
    go_ret
    exact ⟨ret_bool E.out.symm, rfl⟩
  rcases Nat.lt_or_ge 12 s.size with h2 | h2
  · have E := Lib.hid (named_long h2)
    go_enter Tryd.func68, Tryd.ntmps68
    go_wp2
    go_ret
    exact ⟨ret_bool E.out.symm, rfl⟩
  go_enter Tryd.func68, Tryd.ntmps68
  go_wp2
  go_loop [15] (fun i => ∃ k : Nat, k ≤ s.size ∧ i = .int .i64 k ∧ (s.data.toList.take k).all Pt.letter = true) (fun i => s.size - (intOf i).toNat)
  case atStart => exact ⟨0, Nat.zero_le _, rfl, rfl⟩
  case round =>
    obtain ⟨k, hk, rfl, hl0⟩ := hrel
    have HL := Lib.hid hl0
    clear hl0
    by_cases hlt : k < s.size
    · go_wp2
      all_goals first
        | (go_round
           case rel => exact ⟨k + 1, by omega, by go_num, letters_next hlt HL.out (letter_yes (by omega))⟩
           case measure => simp [intOf]; omega)
        | (go_ret
           exact ⟨ret_bool (named_bad k hlt (letter_no (by omega))).symm, rfl⟩)
    · obtain rfl : k = s.size := by omega
      go_wp2
      go_ret
      exact ⟨ret_bool (named_good h1 h2 HL.out).symm, rfl⟩

theorem refNamed_core (s : ByteArray) (w w1 : World) (g cap : Nat) (hs : s.size ≤ 9223372036854775807)
    (hconv : (convert 9 122 (.string s)).run Tryd.prog w = .ok (.slice (some ⟨g, 0, none⟩) s.size cap) w1)
    (hC : ∀ j, (h : j < s.size) → w1.cell? ⟨g, j, none⟩ = some (.int .u8 (s[j].toNat : Int))) :
    Calls Tryd.prog 80 #[.string s] w fun e w' => e = .returned (.bool (Pt.named s.data.toList)) ∧ w' = w1 := by
  have HC := Lib.hid hC
  clear hC
  go_enter Tryd.func80, Tryd.ntmps80
  go_wp2
  go_loop [8] (fun i => ∃ k : Nat, k ≤ s.size ∧ i = .int .i64 k ∧ (s.data.toList.take k).all Pt.letter = true) (fun i => s.size - (intOf i).toNat)
  case atStart => exact ⟨0, Nat.zero_le _, rfl, rfl⟩
  case round =>
    obtain ⟨k, hk, rfl, hl0⟩ := hrel
    have HL := Lib.hid hl0
    clear hl0 hconv
    by_cases hlt : k < s.size
    · have hcell := HC.out k hlt
      rcases e57 : decide ((s[k].toNat : Int) ≤ 57) with _ | _ <;> rcases e122 : decide ((s[k].toNat : Int) ≤ 122) with _ | _ <;> by_cases a48 : 48 ≤ (s[k].toNat : Int) <;> by_cases a97 : 97 ≤ (s[k].toNat : Int)
      all_goals go_wp2
      all_goals simp only [decide_eq_true_eq, decide_eq_false_iff_not] at e57 e122
      all_goals first
        | (exfalso; omega)
        | (go_round
           case rel => exact ⟨k + 1, by omega, by go_num, letters_next hlt HL.out (letter_yes (by omega))⟩
           case measure => simp [intOf]; omega)
        | (go_ret
           exact ⟨ret_bool (named_bad k hlt (letter_no (by omega))).symm, rfl⟩)
    · obtain rfl : k = s.size := by omega
      rcases Nat.lt_or_ge s.size 1 with h1 | h1
      · have E := Lib.hid (named_short h1)
        go_wp2
        go_ret
        exact ⟨ret_bool E.out.symm, rfl⟩
      · go_wp2
        go_ret
        exact ⟨ret_bool (named_end h1 HL.out).symm, rfl⟩

theorem refNamed_any (s : ByteArray) (w : World) (hs : s.size ≤ maxLen) :
    Calls Tryd.prog 80 #[.string s] w fun e w' => e = .returned (.bool (Pt.named s.data.toList)) ∧ Below w.heap.size w w' := by
  unfold maxLen at hs
  refine (refNamed_core s w _ _ _ hs (run_bytes_of_string w 9 122 5 s Tryd.underlying9 Tryd.underlying122 Tryd.underlying5) ?_).mono ?_
  · intro j h
    show World.cell? (w.drew.alloc _) _ = _
    exact (World.cell?_alloc_mark w.drew _ _ _ j).trans (bytesRow_at s _ j h)
  · rintro e w' ⟨rfl, rfl⟩
    exact ⟨rfl, ((Below.refl _ w).drew).alloc (by simp) _⟩
end Go.Proofs.YtjppfhgkanbemabDoor
