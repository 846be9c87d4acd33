/-
  The library's functions on texts that paths use, by their contracts: Compare, Index at a slash, LastIndexByte, HasPrefix, Split at a slash.
-/
import Derived.Test.YtjppfhgkanbemabDoorStrs
import Derived.Test.YtjppfhgkanbemabDoorPtSplit
import Derived.Shelf.Strings.Split
import Derived.Shelf.Strings.LastIndex
import Derived.Shelf.Strings.Prefix
import Derived.Shelf.Small.Strs
import Derived.Lib.IndexBytes
import Derived.Lib.IndexLaws
namespace Go.Proofs.YtjppfhgkanbemabDoor
open Go.RowKit Go.Shelf

theorem compare_any (a b : Pt.Bs) (w : World) : Calls Tryd.prog 72 #[Pt.str a, Pt.str b] w fun e w' => e = .returned (.int .i64 (Lib.compareBytes a b)) ∧ w' = w :=
  Any.strings_Compare Tryd.lays106 ⟨a.toArray⟩ ⟨b.toArray⟩ w
theorem index_slash (s : ByteArray) (w : World) : Calls Tryd.prog 103 #[.string s, .string ⟨#[47]⟩] w fun e w' => e = .returned (.int .i64 (Lib.indexByte s.data.toList 47)) ∧ w' = w :=
  Any.strings_Index_one Tryd.lays143 s 47 w
theorem count_slash (s : ByteArray) (w : World) : Calls Tryd.prog 110 #[.string s, .string ⟨#[47]⟩] w fun e w' => e = .returned (.int .i64 (Lib.countByte s.data.toList 47)) ∧ w' = w :=
  Any.strings_Count_one Tryd.lays138 s 47 w
theorem lastIndex_any (s : ByteArray) (c : Int) (hs : s.size < 4611686018427387904) (w : World) : Calls Tryd.prog 77 #[.string s, .int .u8 c] w fun e w' => e = .returned (.int .i64 (Lib.lastIndexByte s c)) ∧ w' = w :=
  Any.strings_LastIndexByte Tryd.lays149 s c hs w
theorem hasPrefix_any (s p : ByteArray) (w : World) : Calls Tryd.prog 44 #[.string s, .string p] w fun e w' => e = .returned (.bool (Lib.hasPrefix s.data.toList p.data.toList)) ∧ w' = w :=
  Any.strings_HasPrefix Tryd.lays99 s p w

theorem noslash_none {l : Pt.Bs} (h : Lib.indexByte l 47 = -1) : ∀ c ∈ l, c ≠ 47 := by
  intro c hc e
  subst e
  obtain ⟨i, hi, he⟩ := List.getElem_of_mem hc
  exact Lib.indexByte_none h i (by rw [List.getElem?_eq_getElem hi, he])
theorem slash_at {l : Pt.Bs} {i : Nat} (h : Lib.indexByte l 47 = i) : l = l.take i ++ 47 :: l.drop (i + 1) ∧ (∀ c ∈ l.take i, c ≠ 47) ∧ i < l.length := by
  obtain ⟨h1, h2⟩ := Lib.indexByte_some h
  have hi : i < l.length := by
    rcases Nat.lt_or_ge i l.length with h0 | h0
    · exact h0
    · rw [List.getElem?_eq_none h0] at h1; cases h1
  refine ⟨?_, ?_, hi⟩
  · have e := (List.take_append_drop i l).symm
    rw [List.drop_eq_getElem_cons hi] at e
    rw [List.getElem?_eq_getElem hi] at h1
    rw [Option.some.inj h1] at e
    exact e
  · intro c hc e
    subst e
    obtain ⟨j, hj, he⟩ := List.getElem_of_mem hc
    rw [List.length_take] at hj
    rw [List.getElem_take] at he
    exact h2 j (by omega) (by rw [List.getElem?_eq_getElem (by omega), he])
theorem split_none {l : Pt.Bs} (h : Lib.indexByte l 47 = -1) : Pt.split l = [l] := Pt.split_one (noslash_none h)
theorem split_hit {l : Pt.Bs} {i : Nat} (h : Lib.indexByte l 47 = i) : Pt.split l = l.take i :: Pt.split (l.drop (i + 1)) := by
  obtain ⟨h1, h2, _⟩ := slash_at h
  have := Pt.split_piece h2 (l.drop (i + 1))
  rw [← h1] at this
  exact this
theorem splitK_split : ∀ (k : Nat) (l : Pt.Bs), l.count 47 ≤ k → Lib.splitK [47] 0 k l = Pt.split l
  | 0, l, h => by
    have hn : ∀ c ∈ l, c ≠ 47 := fun c hc e => by
      subst e
      have := List.count_pos_iff.2 hc
      omega
    rw [Pt.split_one hn]; rfl
  | k + 1, l, h => by
    unfold Lib.splitK
    rw [Lib.index_one]
    by_cases hm : Lib.indexByte l 47 = -1
    · rw [if_pos (by simp [hm]), split_none hm]
    · have hg := Lib.indexByte_ge l 47
      obtain ⟨i, hi⟩ : ∃ i : Nat, Lib.indexByte l 47 = i := ⟨(Lib.indexByte l 47).toNat, by omega⟩
      obtain ⟨h1, _, h3⟩ := slash_at hi
      rw [if_neg (by simpa using hm), split_hit hi]
      have e : (Lib.indexByte l 47).toNat = i := by omega
      rw [e]
      have hc : (l.drop (i + 1)).count 47 ≤ k := by
        rw [h1, List.count_append, List.count_cons] at h
        simp at h
        omega
      show l.take (i + 0) :: Lib.splitK [47] 0 k (l.drop (i + 1)) = _
      rw [splitK_split k _ hc]
      rfl

set_option maxHeartbeats 1000000 in
theorem split_any (s : ByteArray) (w : World) (hs : s.size < 4294967281) :
    Calls Tryd.prog 71 #[.string s, .string ⟨#[47]⟩] w fun e w' => ∃ n, e = .returned (.slice (some ⟨w.heap.size, 0, none⟩) n n) ∧ n = (Pt.split s.data.toList).length
      ∧ w' = w.alloc (.cells ((Pt.split s.data.toList).map Pt.str).toArray 9) := by
  have hcB : Lib.countB s ⟨#[47]⟩ = s.data.toList.count 47 := Lib.count_one 47 s.data.toList
  have hle := Lib.countB_le ⟨#[47]⟩ (by decide) s.size s (Nat.le_refl _)
  have hlen := Lib.splitB_all ⟨#[47]⟩ (by decide) 0 _ s rfl
  have c := Any.strings_genSplit_core Tryd.lays221 info_str s ⟨#[47]⟩ 0 (-1) (Lib.countB s ⟨#[47]⟩ + 1) w hs (by decide) (by decide)
    (fun x c hx => (index_slash x _).mono fun e w' ⟨he, hw⟩ => ⟨by rw [he]; exact congrArg (fun z => Ending.returned (Value.int .i64 z)) (Lib.index_one x.data.toList 47).symm, hw⟩)
    ((count_slash s w).mono fun e w' ⟨he, hw⟩ => ⟨by rw [he, hcB]; rfl, hw⟩) (by decide) (by decide) (by rw [if_pos (by decide)]; omega)
  rw [Nat.add_sub_cancel, hlen] at c
  have e2 : Lib.cellsOf (Lib.splitB ⟨#[47]⟩ 0 (Lib.countB s ⟨#[47]⟩) s) (Lib.countB s ⟨#[47]⟩ + 1) = ((Lib.splitB ⟨#[47]⟩ 0 (Lib.countB s ⟨#[47]⟩) s).map Value.string).toArray := by rw [← hlen]; exact Lib.cellsOf_full _
  have e3 : (Lib.splitB ⟨#[47]⟩ 0 (Lib.countB s ⟨#[47]⟩) s).map Value.string = (Pt.split s.data.toList).map Pt.str := by
    have h1 := Lib.splitB_data ⟨#[47]⟩ 0 (Lib.countB s ⟨#[47]⟩) s
    have h2 := splitK_split (Lib.countB s ⟨#[47]⟩) s.data.toList (by rw [hcB]; exact Nat.le_refl _)
    rw [← h2]
    show _ = (Lib.splitK (ByteArray.mk #[47]).data.toList 0 (Lib.countB s ⟨#[47]⟩) s.data.toList).map Pt.str
    rw [← h1, List.map_map]
    rfl
  have e4 : Lib.countB s ⟨#[47]⟩ + 1 = (Pt.split s.data.toList).length := by
    have := congrArg List.length e3
    rw [List.length_map, List.length_map, hlen] at this
    exact this
  rw [e2, e3, e4] at c
  generalize hn : (Pt.split s.data.toList).length = n at c ⊢
  generalize hc : ((Pt.split s.data.toList).map Pt.str).toArray = C at c ⊢
  have HN := Lib.hid hn
  have HC := Lib.hid hc
  clear hn hc e2 e3 e4 hlen hle hcB
  go_enter Tryd.func71, Tryd.ntmps71
  go_wp2_with (go_at_call 95; refine c.mono ?_; rintro e w' ⟨rfl, hw⟩; rw [hw])
  go_ret
  exact ⟨n, rfl, rfl, rfl⟩
end Go.Proofs.YtjppfhgkanbemabDoor
