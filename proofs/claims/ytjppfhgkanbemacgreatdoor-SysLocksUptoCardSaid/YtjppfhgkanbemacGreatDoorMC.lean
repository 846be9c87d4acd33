/-
  Named, as the program and as the document has it.
  Rows of texts of the call's own; the document's Split.
  The library's functions on texts that paths use, by their contracts: Compare, Index at a slash, LastIndexByte, HasPrefix, Split at a slash.
  Under, Cut and Join, as the program and as the document has them.
  Compare, and the document's Less.
-/
import Derived.Test.YtjppfhgkanbemacGreatDoorProg
import Derived.Test.YtjppfhgkanbemacGreatDoorMB
import Derived.Lib.Hide
import Derived.WalkKit
import Derived.LoopTactic
import Derived.Laws.IdiomStrings
import Derived.Below
import Derived.Test.YtjppfhgkanbemacGreatDoorMA
import Derived.Deep.DeepMust
import Derived.Test.YtjppfhgkanbemacGreatDoorStrs
import Derived.Shelf.Strings.Split
import Derived.Shelf.Strings.LastIndex
import Derived.Shelf.Strings.Prefix
import Derived.Shelf.Small.Strs
import Derived.Lib.IndexBytes
import Derived.Lib.IndexLaws
import Derived.Deep.QuietTactic
import Derived.BigQuiet
import Derived.WalkLawsBesides
namespace Go.Proofs.YtjppfhgkanbemacGreatDoor
open Go.RowKit

theorem ret_bool {a b : Bool} (h : a = b) : Ending.returned (.bool a) = .returned (.bool b) := by rw [h]
theorem take_byte (s : ByteArray) (k : Nat) (h : k < s.size) : s.data.toList.take (k + 1) = s.data.toList.take k ++ [s[k]] := by
  rw [List.take_succ_eq_append_getElem (by simpa using h)]; rfl
theorem take_all_byte (s : ByteArray) : s.data.toList.take s.size = s.data.toList := List.take_of_length_le (by simp)
theorem size_length (s : ByteArray) : s.data.toList.length = s.size := by simp
theorem mem_byte (s : ByteArray) (k : Nat) (h : k < s.size) : s[k] ∈ s.data.toList := by
  have : s[k] ∈ s.data.toList.take (k + 1) := by rw [take_byte s k h]; simp
  exact List.mem_of_mem_take this
theorem named_short {s : ByteArray} (h : s.size < 1) : Pt.named s.data.toList = false := by
  unfold Pt.named; rw [size_length, decide_eq_false (show ¬ 1 ≤ s.size by omega)]; rfl
theorem named_long {s : ByteArray} (h : 12 < s.size) : Pt.named s.data.toList = false := by
  unfold Pt.named; rw [size_length, decide_eq_false (show ¬ s.size ≤ 12 by omega)]; simp
theorem named_bad {s : ByteArray} (k : Nat) (hk : k < s.size) (h : Pt.letter s[k] = false) : Pt.named s.data.toList = false := by
  unfold Pt.named
  have : s.data.toList.all Pt.letter = false := by
    rw [List.all_eq_false]; exact ⟨s[k], mem_byte s k hk, by simp [h]⟩
  rw [this, Bool.and_false]
theorem named_good {s : ByteArray} (h1 : 1 ≤ s.size) (h2 : s.size ≤ 12) (h : (s.data.toList.take s.size).all Pt.letter = true) : Pt.named s.data.toList = true := by
  unfold Pt.named
  rw [take_all_byte] at h
  rw [size_length, decide_eq_true h1, decide_eq_true h2, h]; rfl
theorem named_end {s : ByteArray} (h1 : 1 ≤ s.size) (h : (s.data.toList.take s.size).all Pt.letter = true) : Pt.named s.data.toList = decide ((s.size : Int) ≤ 12) := by
  rcases Nat.lt_or_ge 12 s.size with h2 | h2
  · rw [named_long h2, decide_eq_false (by omega)]
  · rw [named_good h1 h2 h, decide_eq_true (by omega)]
theorem letters_next {s : ByteArray} {k : Nat} (hk : k < s.size) (h : (s.data.toList.take k).all Pt.letter = true) (hc : Pt.letter s[k] = true) : (s.data.toList.take (k + 1)).all Pt.letter = true := by
  rw [take_byte s k hk, List.all_append, h]; simp [hc]
theorem letter_yes {c : UInt8} (h : (97 ≤ (c.toNat : Int) ∧ (c.toNat : Int) ≤ 122) ∨ (48 ≤ (c.toNat : Int) ∧ (c.toNat : Int) ≤ 57)) : Pt.letter c = true := by
  unfold Pt.letter
  rw [Bool.or_eq_true, Bool.and_eq_true, Bool.and_eq_true, decide_eq_true_eq, decide_eq_true_eq, decide_eq_true_eq, decide_eq_true_eq]; omega
theorem letter_no {c : UInt8} (h : ((c.toNat : Int) < 97 ∨ 122 < (c.toNat : Int)) ∧ ((c.toNat : Int) < 48 ∨ 57 < (c.toNat : Int))) : Pt.letter c = false := by
  rw [Bool.eq_false_iff]
  unfold Pt.letter
  rw [Ne, Bool.or_eq_true, Bool.and_eq_true, Bool.and_eq_true, decide_eq_true_eq, decide_eq_true_eq, decide_eq_true_eq, decide_eq_true_eq]; omega

theorem named_any (s : ByteArray) (w : World) (hs : s.size ≤ maxLen) :
    Calls Tryz.prog 29 #[.string s] w fun e w' => e = .returned (.bool (Pt.named s.data.toList)) ∧ w' = w := by
  unfold maxLen at hs
  rcases Nat.lt_or_ge s.size 1 with h1 | h1
  · have E := Lib.hid (named_short h1)
    go_enter Tryz.func29, Tryz.ntmps29
    go_wp2
    go_ret
    exact ⟨ret_bool E.out.symm, rfl⟩
  rcases Nat.lt_or_ge 12 s.size with h2 | h2
  · have E := Lib.hid (named_long h2)
    go_enter Tryz.func29, Tryz.ntmps29
    go_wp2
    go_ret
    exact ⟨ret_bool E.out.symm, rfl⟩
  go_enter Tryz.func29, Tryz.ntmps29
  go_wp2
  go_loop [15] (fun i => ∃ k : Nat, k ≤ s.size ∧ i = .int .i64 k ∧ (s.data.toList.take k).all Pt.letter = true) (fun i => s.size - (intOf i).toNat)
  case atStart => exact ⟨0, Nat.zero_le _, rfl, rfl⟩
  case round =>
    obtain ⟨k, hk, rfl, hl0⟩ := hrel
    have HL := Lib.hid hl0
    clear hl0
    by_cases hlt : k < s.size
    · go_wp2
      all_goals first
        | (go_round
           case rel => exact ⟨k + 1, by omega, by go_num, letters_next hlt HL.out (letter_yes (by omega))⟩
           case measure => simp [intOf]; omega)
        | (go_ret
           exact ⟨ret_bool (named_bad k hlt (letter_no (by omega))).symm, rfl⟩)
    · obtain rfl : k = s.size := by omega
      go_wp2
      go_ret
      exact ⟨ret_bool (named_good h1 h2 HL.out).symm, rfl⟩

end Go.Proofs.YtjppfhgkanbemacGreatDoor

namespace Go.Proofs.YtjppfhgkanbemacGreatDoor
open Go.RowKit

theorem info_str : (Tryz.prog.info? 9).map (fun i => (i.zero, i.size, i.bytes)) = some (some (.string ByteArray.empty), 1, 16) := by kernel_rfl
/-- A text's value. -/
def Pt.str (l : Pt.Bs) : Value := .string ⟨l.toArray⟩
theorem str_of (s : ByteArray) : Value.string s = Pt.str s.data.toList := rfl
theorem str_extract (s : ByteArray) (a b : Nat) : Value.string (s.extract a b) = Pt.str ((s.data.toList.drop a).take (b - a)) := by
  unfold Pt.str
  congr 1
  apply ByteArray.ext
  apply Array.ext'
  rw [Lib.extract_data]
theorem str_cell (l : Pt.Bs) : (Pt.str l).oneCell' = true := rfl
/-- A row of texts of the call's own. -/
def StrOwn (w : World) (base : Nat) (v : Value) (l : List Pt.Bs) : Prop := w.ownsRow base 9 1 v l.length (l.map Pt.str)
/-- A slice of texts. -/
def StrRd (w : World) (B : Nat) (A : Option Addr) (l : List Pt.Bs) : Prop := Rd w B 1 A l.length (l.map Pt.str)
theorem StrOwn.snoc {w : World} {base n : Nat} {v x : Value} {xs : List Value} {l m : List Pt.Bs} {y : Pt.Bs} (h : w.ownsRow base 9 1 v (n + 1) (xs ++ [x]))
    (e : m = l ++ [y]) (hx' : x = Pt.str y) (hn : n = l.length := by rfl) (hx : xs = l.map Pt.str := by rfl) : StrOwn w base v m := by
  subst e hn hx hx'
  unfold StrOwn
  rw [List.map_append, List.length_append]
  exact h
theorem StrRd.at_ {w : World} {B : Nat} {A : Option Addr} {l : List Pt.Bs} (h : StrRd w B A l) {k : Nat} (hk : k < l.length) : ∃ b o, A = some ⟨b, o, none⟩ ∧ b < B ∧ w.cell? ⟨b, o + k, none⟩ = some (Pt.str l[k]) := by
  obtain ⟨b, o, e, hb, hc⟩ := h.2 (by omega)
  exact ⟨b, o, e, hb, hc k _ (by simp [hk])⟩

/-- A row of the call's own lies at the base or beyond. -/
theorem own_lo {w : World} {base : Nat} {e : TypeId} {size n : Nat} {v : Value} {xs : List Value} (h : w.ownsRow base e size v n xs) {q : Nat} (hq : v.ownBlock = some q) : base ≤ q := (h.lt q hq).1

/-! ### Split -/
theorem drop_piece {l : Pt.Bs} {a k : Nat} (h : ∀ j, a ≤ j → j < k → l[j]? ≠ some 47) : ∀ c ∈ (l.drop a).take (k - a), c ≠ 47 := by
  intro c hc e
  subst e
  obtain ⟨i, hi, he⟩ := List.getElem_of_mem hc
  rw [List.length_take, List.length_drop] at hi
  rw [List.getElem_take, List.getElem_drop] at he
  exact h (a + i) (by omega) (by omega) (by rw [List.getElem?_eq_getElem (by omega), he])
theorem split_next {l : Pt.Bs} {a k : Nat} (hk : k < l.length) (ha : a ≤ k) (h : ∀ j, a ≤ j → j < k → l[j]? ≠ some 47) (hs : l[k] = 47) :
    Pt.split (l.drop a) = (l.drop a).take (k - a) :: Pt.split (l.drop (k + 1)) := by
  have e : l.drop a = (l.drop a).take (k - a) ++ 47 :: l.drop (k + 1) := by
    have h1 := (List.take_append_drop (k - a) (l.drop a)).symm
    rw [List.drop_drop, show a + (k - a) = k by omega, List.drop_eq_getElem_cons hk, hs] at h1
    exact h1
  have h2 := Pt.split_piece (drop_piece h) (l.drop (k + 1))
  rw [← e] at h2
  exact h2
theorem split_last {l : Pt.Bs} {a : Nat} (h : ∀ j, a ≤ j → j < l.length → l[j]? ≠ some 47) : Pt.split (l.drop a) = [l.drop a] := by
  have h1 := drop_piece h
  rw [List.take_of_length_le (by simp)] at h1
  exact Pt.split_one h1
theorem split_len_le : ∀ l : Pt.Bs, (Pt.split l).length ≤ l.length + 1
  | [] => Nat.le_refl _
  | c :: r => by
    have ih := split_len_le r
    by_cases h : c = 47
    · subst h; rw [Pt.split_slash]; simp; omega
    · rw [Pt.split_cons h, Pt.onto_len _ _ (Pt.split_ne r)]; simp; omega

end Go.Proofs.YtjppfhgkanbemacGreatDoor

namespace Go.Proofs.YtjppfhgkanbemacGreatDoor
open Go.RowKit Go.Shelf

theorem compare_any (a b : Pt.Bs) (w : World) : Calls Tryz.prog 81 #[Pt.str a, Pt.str b] w fun e w' => e = .returned (.int .i64 (Lib.compareBytes a b)) ∧ w' = w :=
  Any.strings_Compare Tryz.lays106 ⟨a.toArray⟩ ⟨b.toArray⟩ w
theorem index_slash (s : ByteArray) (w : World) : Calls Tryz.prog 85 #[.string s, .string ⟨#[47]⟩] w fun e w' => e = .returned (.int .i64 (Lib.indexByte s.data.toList 47)) ∧ w' = w :=
  Any.strings_Index_one Tryz.lays143 s 47 w
theorem count_slash (s : ByteArray) (w : World) : Calls Tryz.prog 143 #[.string s, .string ⟨#[47]⟩] w fun e w' => e = .returned (.int .i64 (Lib.countByte s.data.toList 47)) ∧ w' = w :=
  Any.strings_Count_one Tryz.lays138 s 47 w
theorem lastIndex_any (s : ByteArray) (c : Int) (hs : s.size < 4611686018427387904) (w : World) : Calls Tryz.prog 82 #[.string s, .int .u8 c] w fun e w' => e = .returned (.int .i64 (Lib.lastIndexByte s c)) ∧ w' = w :=
  Any.strings_LastIndexByte Tryz.lays149 s c hs w
theorem hasPrefix_any (s p : ByteArray) (w : World) : Calls Tryz.prog 99 #[.string s, .string p] w fun e w' => e = .returned (.bool (Lib.hasPrefix s.data.toList p.data.toList)) ∧ w' = w :=
  Any.strings_HasPrefix Tryz.lays99 s p w

theorem noslash_none {l : Pt.Bs} (h : Lib.indexByte l 47 = -1) : ∀ c ∈ l, c ≠ 47 := by
  intro c hc e
  subst e
  obtain ⟨i, hi, he⟩ := List.getElem_of_mem hc
  exact Lib.indexByte_none h i (by rw [List.getElem?_eq_getElem hi, he])
theorem slash_at {l : Pt.Bs} {i : Nat} (h : Lib.indexByte l 47 = i) : l = l.take i ++ 47 :: l.drop (i + 1) ∧ (∀ c ∈ l.take i, c ≠ 47) ∧ i < l.length := by
  obtain ⟨h1, h2⟩ := Lib.indexByte_some h
  have hi : i < l.length := by
    rcases Nat.lt_or_ge i l.length with h0 | h0
    · exact h0
    · rw [List.getElem?_eq_none h0] at h1; cases h1
  refine ⟨?_, ?_, hi⟩
  · have e := (List.take_append_drop i l).symm
    rw [List.drop_eq_getElem_cons hi] at e
    rw [List.getElem?_eq_getElem hi] at h1
    rw [Option.some.inj h1] at e
    exact e
  · intro c hc e
    subst e
    obtain ⟨j, hj, he⟩ := List.getElem_of_mem hc
    rw [List.length_take] at hj
    rw [List.getElem_take] at he
    exact h2 j (by omega) (by rw [List.getElem?_eq_getElem (by omega), he])
theorem split_none {l : Pt.Bs} (h : Lib.indexByte l 47 = -1) : Pt.split l = [l] := Pt.split_one (noslash_none h)
theorem split_hit {l : Pt.Bs} {i : Nat} (h : Lib.indexByte l 47 = i) : Pt.split l = l.take i :: Pt.split (l.drop (i + 1)) := by
  obtain ⟨h1, h2, _⟩ := slash_at h
  have := Pt.split_piece h2 (l.drop (i + 1))
  rw [← h1] at this
  exact this
theorem splitK_split : ∀ (k : Nat) (l : Pt.Bs), l.count 47 ≤ k → Lib.splitK [47] 0 k l = Pt.split l
  | 0, l, h => by
    have hn : ∀ c ∈ l, c ≠ 47 := fun c hc e => by
      subst e
      have := List.count_pos_iff.2 hc
      omega
    rw [Pt.split_one hn]; rfl
  | k + 1, l, h => by
    unfold Lib.splitK
    rw [Lib.index_one]
    by_cases hm : Lib.indexByte l 47 = -1
    · rw [if_pos (by simp [hm]), split_none hm]
    · have hg := Lib.indexByte_ge l 47
      obtain ⟨i, hi⟩ : ∃ i : Nat, Lib.indexByte l 47 = i := ⟨(Lib.indexByte l 47).toNat, by omega⟩
      obtain ⟨h1, _, h3⟩ := slash_at hi
      rw [if_neg (by simpa using hm), split_hit hi]
      have e : (Lib.indexByte l 47).toNat = i := by omega
      rw [e]
      have hc : (l.drop (i + 1)).count 47 ≤ k := by
        rw [h1, List.count_append, List.count_cons] at h
        simp at h
        omega
      show l.take (i + 0) :: Lib.splitK [47] 0 k (l.drop (i + 1)) = _
      rw [splitK_split k _ hc]
      rfl

set_option maxHeartbeats 1000000 in
theorem split_any (s : ByteArray) (w : World) (hs : s.size < 4294967281) :
    Calls Tryz.prog 80 #[.string s, .string ⟨#[47]⟩] w fun e w' => ∃ n, e = .returned (.slice (some ⟨w.heap.size, 0, none⟩) n n) ∧ n = (Pt.split s.data.toList).length
      ∧ w' = w.alloc (.cells ((Pt.split s.data.toList).map Pt.str).toArray 9) := by
  have hcB : Lib.countB s ⟨#[47]⟩ = s.data.toList.count 47 := Lib.count_one 47 s.data.toList
  have hle := Lib.countB_le ⟨#[47]⟩ (by decide) s.size s (Nat.le_refl _)
  have hlen := Lib.splitB_all ⟨#[47]⟩ (by decide) 0 _ s rfl
  have c := Any.strings_genSplit_core Tryz.lays221 info_str s ⟨#[47]⟩ 0 (-1) (Lib.countB s ⟨#[47]⟩ + 1) w hs (by decide) (by decide)
    (fun x c hx => (index_slash x _).mono fun e w' ⟨he, hw⟩ => ⟨by rw [he]; exact congrArg (fun z => Ending.returned (Value.int .i64 z)) (Lib.index_one x.data.toList 47).symm, hw⟩)
    ((count_slash s w).mono fun e w' ⟨he, hw⟩ => ⟨by rw [he, hcB]; rfl, hw⟩) (by decide) (by decide) (by rw [if_pos (by decide)]; omega)
  rw [Nat.add_sub_cancel, hlen] at c
  have e2 : Lib.cellsOf (Lib.splitB ⟨#[47]⟩ 0 (Lib.countB s ⟨#[47]⟩) s) (Lib.countB s ⟨#[47]⟩ + 1) = ((Lib.splitB ⟨#[47]⟩ 0 (Lib.countB s ⟨#[47]⟩) s).map Value.string).toArray := by rw [← hlen]; exact Lib.cellsOf_full _
  have e3 : (Lib.splitB ⟨#[47]⟩ 0 (Lib.countB s ⟨#[47]⟩) s).map Value.string = (Pt.split s.data.toList).map Pt.str := by
    have h1 := Lib.splitB_data ⟨#[47]⟩ 0 (Lib.countB s ⟨#[47]⟩) s
    have h2 := splitK_split (Lib.countB s ⟨#[47]⟩) s.data.toList (by rw [hcB]; exact Nat.le_refl _)
    rw [← h2]
    show _ = (Lib.splitK (ByteArray.mk #[47]).data.toList 0 (Lib.countB s ⟨#[47]⟩) s.data.toList).map Pt.str
    rw [← h1, List.map_map]
    rfl
  have e4 : Lib.countB s ⟨#[47]⟩ + 1 = (Pt.split s.data.toList).length := by
    have := congrArg List.length e3
    rw [List.length_map, List.length_map, hlen] at this
    exact this
  rw [e2, e3, e4] at c
  generalize hn : (Pt.split s.data.toList).length = n at c ⊢
  generalize hc : ((Pt.split s.data.toList).map Pt.str).toArray = C at c ⊢
  have HN := Lib.hid hn
  have HC := Lib.hid hc
  clear hn hc e2 e3 e4 hlen hle hcB
  go_enter Tryz.func80, Tryz.ntmps80
  go_wp2_with (go_at_call 108; refine c.mono ?_; rintro e w' ⟨rfl, hw⟩; rw [hw])
  go_ret
  exact ⟨n, rfl, rfl, rfl⟩
end Go.Proofs.YtjppfhgkanbemacGreatDoor

namespace Go.Proofs.YtjppfhgkanbemacGreatDoor
open Go.RowKit Go.Shelf

/-- Only draws. -/
def Drawn (w w' : World) : Prop := ∃ n, w' = w.drewN n
theorem Drawn.refl (w : World) : Drawn w w := ⟨0, rfl⟩
theorem Drawn.below {B : Nat} {w w' : World} (h : Drawn w w') : Below B w w' := by
  obtain ⟨n, rfl⟩ := h
  exact below_drewN (Below.refl _ _) n
theorem ret_str {a b : Value} (h : a = b) : Ending.returned a = .returned b := by rw [h]
theorem data_app (a b : ByteArray) : (a ++ b).data.toList = a.data.toList ++ b.data.toList := by
  rw [ByteArray.data_append, Array.toList_append]
theorem empty_of {s : ByteArray} (h : s.data.toList = []) : s.toList = [] := by rw [Lib.toList_data]; exact h
theorem isEmpty_of {s : ByteArray} (h : s.data.toList = []) : s.toList.isEmpty = true := by rw [empty_of h]; rfl
theorem nonempty_of {s : ByteArray} (h : ¬ s.data.toList = []) : ¬ s.toList = [] := by rw [Lib.toList_data]; exact h
theorem notEmpty_of {s : ByteArray} (h : ¬ s.data.toList = []) : s.toList.isEmpty = false := by
  cases e : s.toList with
  | nil => exact absurd e (nonempty_of h)
  | cons _ _ => rfl
theorem under_nil (d : Pt.Bs) : Pt.under [] d = false := by
  unfold Pt.under Lib.hasPrefix
  split
  · rfl
  · cases d <;> rfl
theorem under_top {s : Pt.Bs} (h : ¬ s = []) : Pt.under s [] = true := by
  unfold Pt.under
  rw [if_pos rfl]
  cases s with
  | nil => exact absurd rfl h
  | cons _ _ => rfl
theorem under_has {s d : Pt.Bs} (h : ¬ d = []) : Pt.under s d = Lib.hasPrefix s (d ++ [47]) := by unfold Pt.under; rw [if_neg h]

theorem under_any (s d : ByteArray) (w : World) (hd : d.size ≤ 140737488355328) :
    Calls Tryz.prog 74 #[.string s, .string d] w fun e w' => e = .returned (.bool (Pt.under s.data.toList d.data.toList)) ∧ w' = w := by
  by_cases h1 : s.data.toList = []
  · have E : Pt.under s.data.toList d.data.toList = false := by rw [h1]; exact under_nil _
    have HE := Lib.hid E
    have g1 := empty_of h1
    have g2 := isEmpty_of h1
    clear E h1
    go_enter Tryz.func74, Tryz.ntmps74
    go_wp2
    go_ret
    exact ⟨ret_bool HE.out.symm, rfl⟩
  · have g1 := nonempty_of h1
    have g2 := notEmpty_of h1
    by_cases h2 : d.data.toList = []
    · have E : Pt.under s.data.toList d.data.toList = true := by rw [h2]; exact under_top h1
      have HE := Lib.hid E
      have g3 := empty_of h2
      have g4 := isEmpty_of h2
      clear E h1 h2
      go_enter Tryz.func74, Tryz.ntmps74
      go_wp2
      go_ret
      exact ⟨ret_bool HE.out.symm, rfl⟩
    · have E : Pt.under s.data.toList d.data.toList = Lib.hasPrefix s.data.toList (d ++ ⟨#[47]⟩).data.toList := by rw [under_has h2, data_app]
      have HE := Lib.hid E
      have g3 := nonempty_of h2
      have g4 := notEmpty_of h2
      clear E h1 h2
      go_enter Tryz.func74, Tryz.ntmps74
      go_wp2_with (go_at_call 99; refine (hasPrefix_any _ _ _).mono ?_; rintro e w' ⟨rfl, rfl⟩)
      go_ret
      exact ⟨ret_bool HE.out.symm, rfl⟩

theorem has_slash (s d : Pt.Bs) : Lib.hasPrefix s (d ++ [47]) = (decide (d.length < s.length) && (s.take d.length == d) && (s.getD d.length 0 == 47)) := by
  rw [Bool.eq_iff_iff]
  unfold Lib.hasPrefix
  rw [List.isPrefixOf_iff_prefix, Bool.and_eq_true, Bool.and_eq_true, decide_eq_true_eq, beq_iff_eq, beq_iff_eq]
  constructor
  · rintro ⟨r, rfl⟩
    refine ⟨⟨by simp, by simp [List.append_assoc]⟩, by simp [List.getD_eq_getElem?_getD]⟩
  · rintro ⟨⟨h1, h2⟩, h3⟩
    refine ⟨s.drop (d.length + 1), ?_⟩
    have e := List.take_append_drop d.length s
    rw [h2, List.drop_eq_getElem_cons h1] at e
    rw [List.getD_eq_getElem?_getD, List.getElem?_eq_getElem h1] at h3
    simp only [Option.getD_some] at h3
    rw [h3] at e
    rw [← e]; simp
/-! ### Cut -/
theorem dirOf_none {l : Pt.Bs} (h : ∀ c ∈ l, c ≠ 47) : Pt.dirOf l = [] ∧ Pt.nameOf l = l := by
  unfold Pt.dirOf Pt.nameOf; rw [Pt.split_one h]; exact ⟨rfl, rfl⟩
theorem dirOf_app {d n : Pt.Bs} (h : ∀ c ∈ n, c ≠ 47) : Pt.dirOf (d ++ 47 :: n) = d ∧ Pt.nameOf (d ++ 47 :: n) = n := by
  unfold Pt.dirOf Pt.nameOf
  rw [Pt.split_app, Pt.split_one h]
  exact ⟨by rw [List.dropLast_concat, Pt.glue_split], by simp⟩
/-- From a place on there is no slash. -/
def NoFrom (l : Pt.Bs) (k : Nat) : Prop := ∀ j, k ≤ j → l[j]? ≠ some 47
theorem noFrom_drop {l : Pt.Bs} {k : Nat} (h : NoFrom l k) : ∀ c ∈ l.drop k, c ≠ 47 := by
  intro c hc e
  subst e
  obtain ⟨i, hi, he⟩ := List.getElem_of_mem hc
  rw [List.getElem_drop] at he
  exact h (k + i) (by omega) (by rw [List.getElem?_eq_getElem (by rw [List.length_drop] at hi; omega), he])
theorem cut_at {l : Pt.Bs} {i : Nat} (hi : i < l.length) (hc : l[i] = 47) (hn : NoFrom l (i + 1)) : Pt.dirOf l = l.take i ∧ Pt.nameOf l = l.drop (i + 1) := by
  have e := (List.take_append_drop i l).symm
  rw [List.drop_eq_getElem_cons hi, hc] at e
  have := dirOf_app (d := l.take i) (noFrom_drop hn)
  rw [← e] at this
  exact this
theorem cut_no {l : Pt.Bs} (hn : NoFrom l 0) : Pt.dirOf l = [] ∧ Pt.nameOf l = l := dirOf_none (by have := noFrom_drop hn; simpa using this)
theorem byte_bang {s : ByteArray} {i : Nat} (hi : i < s.size) : s.data[i]! = s.data[i] := getElem!_pos s.data i hi
theorem ne47 {s : ByteArray} {i : Nat} (hi : i < s.size) (h : ((s.data[i]).toNat : Int) ≠ 47) : s.data.toList[i]? ≠ some 47 := by
  rw [List.getElem?_eq_getElem (by simpa using hi)]
  intro e
  have e2 : s.data[i] = 47 := by simpa using e
  rw [e2] at h
  exact h rfl
theorem is47 {s : ByteArray} {i : Nat} (hi : i < s.size) (h : ((s.data[i]).toNat : Int) = 47) : s.data.toList[i]'(by simpa using hi) = 47 := by
  have h2 : s.data[i].toNat = 47 := by omega
  have h3 : s.data[i] = 47 := UInt8.toNat_inj.1 h2
  simpa using h3
theorem cut_of_last (s : ByteArray) : (Lib.lastIndexByte s 47 = -1 ∧ NoFrom s.data.toList 0) ∨ ∃ i : Nat, ∃ h : i < s.size, Lib.lastIndexByte s 47 = i ∧ s.data.toList[i]'(by simpa using h) = 47 ∧ NoFrom s.data.toList (i + 1) := by
  rcases Lib.lastIndexByte_spec s 47 with ⟨e, hn⟩ | ⟨i, hi, e, hc, hn⟩
  · refine .inl ⟨e, fun j _ => ?_⟩
    rcases Nat.lt_or_ge j s.size with h | h
    · have := hn j h; rw [byte_bang h] at this; exact ne47 h this
    · rw [List.getElem?_eq_none (by simpa using h)]; simp
  · refine .inr ⟨i, hi, e, is47 hi (by rw [byte_bang hi] at hc; exact hc), fun j hj => ?_⟩
    rcases Nat.lt_or_ge j s.size with h | h
    · have := hn j (by omega) h; rw [byte_bang h] at this; exact ne47 h this
    · rw [List.getElem?_eq_none (by simpa using h)]; simp
theorem pair_str {s : ByteArray} {i : Nat} (h : Pt.dirOf s.data.toList = s.data.toList.take i ∧ Pt.nameOf s.data.toList = s.data.toList.drop (i + 1)) :
    (Value.tuple #[.string (s.extract 0 i), .string (s.extract (i + 1) s.size)]) = .tuple #[Pt.str (Pt.dirOf s.data.toList), Pt.str (Pt.nameOf s.data.toList)] := by
  rw [h.1, h.2, str_extract, str_extract, List.take_of_length_le (l := s.data.toList.drop (i + 1)) (by simp)]
  simp

theorem cut_any (s : ByteArray) (w : World) (hs : s.size ≤ 140737488355328) :
    Calls Tryz.prog 59 #[.string s] w fun e w' => e = .returned (.tuple #[Pt.str (Pt.dirOf s.data.toList), Pt.str (Pt.nameOf s.data.toList)]) ∧ Drawn w w' := by
  have c := lastIndex_any s 47 (by omega) w
  rcases cut_of_last s with ⟨hl, hn⟩ | ⟨i, hi, hl, hc, hn⟩
  · rw [hl] at c
    have HE := Lib.hid (cut_no hn)
    clear hl hn
    go_enter Tryz.func59, Tryz.ntmps59
    go_wp2_with (go_at_call 82; refine c.mono ?_; rintro e w' ⟨rfl, rfl⟩)
    go_ret2
    exact ⟨ret_str (by rw [HE.out.1, HE.out.2]; rfl), Drawn.refl _⟩
  · rw [hl] at c
    have HE := Lib.hid (pair_str (cut_at (by simpa using hi) hc hn))
    have hsum : IntKind.i64.wrap (↑i + 1) = ↑i + 1 := IntWalk.i64_in _ (by omega)
    clear hl hn hc
    go_enter Tryz.func59, Tryz.ntmps59
    go_wp2_with (go_at_call 82; refine c.mono ?_; rintro e w' ⟨rfl, rfl⟩)
    go_quiet (fail)
    clear hsum
    go_wp2
    go_ret2
    exact ⟨ret_str HE.out, ⟨_, rfl⟩⟩

end Go.Proofs.YtjppfhgkanbemacGreatDoor

namespace Go.Proofs.YtjppfhgkanbemacGreatDoor
open Go.RowKit Go.Shelf

/-- A block's cells are these texts. -/
def StrAt (w : World) (g : Nat) (l : List Pt.Bs) : Prop := ∀ k, (h : k < l.length) → w.cell? ⟨g, k, none⟩ = some (Pt.str l[k])
theorem StrAt.new (w : World) (l : List Pt.Bs) : StrAt (w.alloc (.cells (l.map Pt.str).toArray 9)) w.heap.size l := by
  intro k h
  rw [(Blk.new w _ (l.map Pt.str)).cell k]
  simp [h]
theorem StrAt.below {w w' : World} {g B : Nat} {l : List Pt.Bs} (h : StrAt w g l) (hb : Below B w w') (hg : g < B) : StrAt w' g l := fun k hk => (hb.cell (p := ⟨g, k, none⟩) hg).trans (h k hk)
theorem StrAt.drewN {w : World} {g : Nat} {l : List Pt.Bs} (h : StrAt w g l) (n : Nat) : StrAt (w.drewN n) g l := h

theorem Drawn.cell {w w' : World} (h : Drawn w w') (p : Addr) : w'.cell? p = w.cell? p := by
  obtain ⟨n, rfl⟩ := h
  rfl
theorem Drawn.more {w w' : World} (h : Drawn w w') (m : Nat) : Drawn w (w'.drewN m) := by
  obtain ⟨n, rfl⟩ := h
  exact ⟨n + m, by rw [World.drewN_drewN]⟩
theorem Drawn.trans {a b c : World} (h : Drawn a b) (k : Drawn b c) : Drawn a c := by
  obtain ⟨m, rfl⟩ := k
  exact h.more m
theorem cmpP_at {xs ys : List Pt.Bs} {k : Nat} (hx : k < xs.length) (hy : k < ys.length) :
    Pt.cmpP (xs.drop k) (ys.drop k) = if Lib.compareBytes xs[k] ys[k] = 0 then Pt.cmpP (xs.drop (k + 1)) (ys.drop (k + 1)) else Lib.compareBytes xs[k] ys[k] := by
  rw [List.drop_eq_getElem_cons hx, List.drop_eq_getElem_cons hy, Pt.cmpP_cons]
theorem cmpP_end {xs ys : List Pt.Bs} {k : Nat} (h : k = min xs.length ys.length) : Pt.cmpP (xs.drop k) (ys.drop k) = (xs.length : Int) - (ys.length : Int) := by
  rcases Nat.le_total xs.length ys.length with hl | hl
  · rw [Nat.min_eq_left hl] at h
    subst h
    rw [List.drop_length, Pt.cmpP_nil_l, List.length_drop]; omega
  · rw [Nat.min_eq_right hl] at h
    subst h
    rw [List.drop_length, Pt.cmpP_nil_r, List.length_drop]; omega
theorem ret_num {a b : Int} (h : a = b) : Ending.returned (.int .i64 a) = .returned (.int .i64 b) := by rw [h]

set_option maxHeartbeats 1000000 in
theorem cmp_core (s t : ByteArray) (xs ys : List Pt.Bs) (g1 g2 : Nat) (w W1 W2 : World)
    (c1 : Calls Tryz.prog 80 #[.string s, .string ⟨#[47]⟩] w fun e w' => e = .returned (.slice (some ⟨g1, 0, none⟩) xs.length xs.length) ∧ w' = W1)
    (c2 : Calls Tryz.prog 80 #[.string t, .string ⟨#[47]⟩] W1 fun e w' => e = .returned (.slice (some ⟨g2, 0, none⟩) ys.length ys.length) ∧ w' = W2)
    (hx : StrAt W2 g1 xs) (hy : StrAt W2 g2 ys) (hlx : xs.length ≤ 4294967296) (hly : ys.length ≤ 4294967296) :
    Calls Tryz.prog 58 #[.string s, .string t] w fun e w' => e = .returned (.int .i64 (Pt.cmpP xs ys)) ∧ Drawn W2 w' := by
  have HX := Lib.hid hx
  have HY := Lib.hid hy
  clear hx hy
  go_enter Tryz.func58, Tryz.ntmps58
  go_wp2_with fail
  refine c1.mono ?_
  rintro e w' ⟨rfl, rfl⟩
  go_wp2_with fail
  refine c2.mono ?_
  rintro e w' ⟨rfl, rfl⟩
  clear c1 c2
  go_wp2_with fail
  go_loopw [18] (fun i wr => ∃ k : Nat, k ≤ min xs.length ys.length ∧ i = .int .i64 k ∧ Drawn w' wr ∧ Hid (Pt.cmpP xs ys = Pt.cmpP (xs.drop k) (ys.drop k))) (fun i _ => min xs.length ys.length - (intOf i).toNat)
  case atStart => exact ⟨0, Nat.zero_le _, rfl, Drawn.refl _, Lib.hid rfl⟩
  case round =>
    obtain ⟨k, hk, rfl, hD, HS⟩ := hrel
    by_cases hlt : k < min xs.length ys.length
    · have hkx : k < xs.length := by omega
      have hky : k < ys.length := by omega
      have a1 := (hD.cell _).trans (HX.out k hkx)
      have a2 := (hD.cell _).trans (HY.out k hky)
      have HC := Lib.hid (HS.out.trans (cmpP_at hkx hky))
      clear HS
      generalize xs[k] = p at a1 HC
      generalize ys[k] = q at a2 HC
      rcases hc : (Lib.compareBytes p q != 0) with _ | _
      · have hz : Lib.compareBytes p q = 0 := by simpa using hc
        have HZ := Lib.hid hz
        clear hz
        go_wp2_with fail
        go_quiet ((go_at_call 81; exact Calls.quiet_of_same (compare_any _ _ _)))
        go_wp2_with fail
        go_roundw
        case rel => exact ⟨k + 1, by omega, by go_num, hD.more _, Lib.hid (by rw [HC.out, if_pos HZ.out])⟩
        case measure => simp [intOf]; omega
      · have hz : ¬ Lib.compareBytes p q = 0 := by simpa using hc
        have HZ := Lib.hid hz
        clear hz
        go_wp2_with fail
        go_quiet ((go_at_call 81; exact Calls.quiet_of_same (compare_any _ _ _)))
        go_wp2_with fail
        go_ret
        exact ⟨ret_num (by rw [HC.out, if_neg HZ.out]), hD.more _⟩
    · obtain rfl : k = min xs.length ys.length := by omega
      have HE := Lib.hid (HS.out.trans (cmpP_end rfl))
      clear HS
      have h0 : IntKind.i64.wrap (↑xs.length - ↑ys.length) = ↑xs.length - ↑ys.length := IntWalk.i64_in _ (by omega)
      go_wp2_with fail
      go_ret
      exact ⟨ret_num HE.out.symm, hD⟩

theorem cmp_any (s t : ByteArray) (w : World) (hs : s.size < 4294967281) (ht : t.size < 4294967281) :
    Calls Tryz.prog 58 #[.string s, .string t] w fun e w' => e = .returned (.int .i64 (Pt.cmp s.data.toList t.data.toList)) ∧ Below w.heap.size w w' := by
  have l1 := split_len_le s.data.toList
  have l2 := split_len_le t.data.toList
  rw [size_length] at l1 l2
  have c1 : Calls Tryz.prog 80 #[.string s, .string ⟨#[47]⟩] w fun e w' => e = .returned (.slice (some ⟨w.heap.size, 0, none⟩) (Pt.split s.data.toList).length (Pt.split s.data.toList).length) ∧ w' = w.alloc (.cells ((Pt.split s.data.toList).map Pt.str).toArray 9) :=
    (split_any s w hs).mono fun e w' ⟨n, he, hn, hw⟩ => ⟨by rw [he, hn], hw⟩
  have c2 : Calls Tryz.prog 80 #[.string t, .string ⟨#[47]⟩] (w.alloc (.cells ((Pt.split s.data.toList).map Pt.str).toArray 9)) fun e w' => e = .returned (.slice (some ⟨w.heap.size + 1, 0, none⟩) (Pt.split t.data.toList).length (Pt.split t.data.toList).length) ∧ w' = (w.alloc (.cells ((Pt.split s.data.toList).map Pt.str).toArray 9)).alloc (.cells ((Pt.split t.data.toList).map Pt.str).toArray 9) :=
    (split_any t _ ht).mono fun e w' ⟨n, he, hn, hw⟩ => ⟨by rw [he, hn, World.size_alloc], hw⟩
  have s1 := StrAt.new w (Pt.split s.data.toList)
  have s2 := StrAt.new (w.alloc (.cells ((Pt.split s.data.toList).map Pt.str).toArray 9)) (Pt.split t.data.toList)
  rw [World.size_alloc] at s2
  have b1 : Below w.heap.size w (w.alloc (.cells ((Pt.split s.data.toList).map Pt.str).toArray 9)) := (Below.refl _ _).alloc (Nat.le_refl _) _
  have b2 := b1.alloc b1.size (.cells ((Pt.split t.data.toList).map Pt.str).toArray 9)
  refine (cmp_core s t _ _ _ _ w _ _ c1 c2 (s1.below ((Below.refl (w.heap.size + 1) _).alloc (by simp) _) (Nat.lt_succ_self _)) s2 (by omega) (by omega)).mono fun e w' ⟨he, hd⟩ => ⟨he, ?_⟩
  exact b2.trans hd.below

theorem less_iff : ∀ p q : Pt.Bs, Op.bytesLess p q = true ↔ Lib.compareBytes p q < 0
  | [], [] => by simp [Op.bytesLess, Lib.compareBytes]
  | [], _ :: _ => by simp [Op.bytesLess, Lib.compareBytes]
  | _ :: _, [] => by simp [Op.bytesLess, Lib.compareBytes]
  | a :: x, b :: y => by
    unfold Op.bytesLess Lib.compareBytes
    have ih := less_iff x y
    by_cases h1 : a < b
    · simp [h1]
    · by_cases h2 : b < a
      · have h3 : ¬ a = b := fun e => by subst e; exact UInt8.lt_irrefl _ h2
        simp [h1, h2, h3]
      · have h3 : a = b := UInt8.le_antisymm (UInt8.not_lt.1 h2) (UInt8.not_lt.1 h1)
        subst h3
        simp [UInt8.lt_irrefl, ih]
theorem cb_cases (p q : Pt.Bs) : (Lib.compareBytes p q < 0 ∧ Op.bytesLess p q = true ∧ (p == q) = false) ∨ (Lib.compareBytes p q = 0 ∧ Op.bytesLess p q = false ∧ (p == q) = true) ∨ (0 < Lib.compareBytes p q ∧ Op.bytesLess p q = false ∧ (p == q) = false) := by
  have hl := less_iff p q
  rcases Int.lt_trichotomy (Lib.compareBytes p q) 0 with h | h | h
  · exact .inl ⟨h, hl.2 h, by rw [beq_eq_false_iff_ne]; intro e; rw [e, Pt.cb_self] at h; omega⟩
  · exact .inr (.inl ⟨h, by rw [Bool.eq_false_iff]; intro e; have := hl.1 e; omega, by rw [beq_iff_eq]; exact Pt.cb_zero h⟩)
  · exact .inr (.inr ⟨h, by rw [Bool.eq_false_iff]; intro e; have := hl.1 e; omega, by rw [beq_eq_false_iff_ne]; intro e; rw [e, Pt.cb_self] at h; omega⟩)
end Go.Proofs.YtjppfhgkanbemacGreatDoor
