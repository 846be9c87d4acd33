/-
  Under, Cut and Join, as the program and as the document has them.
-/
import Derived.Test.YtjppfhgkanbemabDoorPtLib
import Derived.Deep.QuietTactic
import Derived.BigQuiet
namespace Go.Proofs.YtjppfhgkanbemabDoor
open Go.RowKit Go.Shelf

/-- Only draws. -/
def Drawn (w w' : World) : Prop := ∃ n, w' = w.drewN n
theorem Drawn.refl (w : World) : Drawn w w := ⟨0, rfl⟩
theorem Drawn.below {B : Nat} {w w' : World} (h : Drawn w w') : Below B w w' := by
  obtain ⟨n, rfl⟩ := h
  exact below_drewN (Below.refl _ _) n
theorem ret_str {a b : Value} (h : a = b) : Ending.returned a = .returned b := by rw [h]
theorem data_app (a b : ByteArray) : (a ++ b).data.toList = a.data.toList ++ b.data.toList := by
  rw [ByteArray.data_append, Array.toList_append]
theorem empty_of {s : ByteArray} (h : s.data.toList = []) : s.toList = [] := by rw [Lib.toList_data]; exact h
theorem isEmpty_of {s : ByteArray} (h : s.data.toList = []) : s.toList.isEmpty = true := by rw [empty_of h]; rfl
theorem nonempty_of {s : ByteArray} (h : ¬ s.data.toList = []) : ¬ s.toList = [] := by rw [Lib.toList_data]; exact h
theorem notEmpty_of {s : ByteArray} (h : ¬ s.data.toList = []) : s.toList.isEmpty = false := by
  cases e : s.toList with
  | nil => exact absurd e (nonempty_of h)
  | cons _ _ => rfl
theorem under_nil (d : Pt.Bs) : Pt.under [] d = false := by
  unfold Pt.under Lib.hasPrefix
  split
  · rfl
  · cases d <;> rfl
theorem under_top {s : Pt.Bs} (h : ¬ s = []) : Pt.under s [] = true := by
  unfold Pt.under
  rw [if_pos rfl]
  cases s with
  | nil => exact absurd rfl h
  | cons _ _ => rfl
theorem under_has {s d : Pt.Bs} (h : ¬ d = []) : Pt.under s d = Lib.hasPrefix s (d ++ [47]) := by unfold Pt.under; rw [if_neg h]

theorem under_any (s d : ByteArray) (w : World) (hd : d.size ≤ 140737488355328) :
    Calls Tryd.prog 15 #[.string s, .string d] w fun e w' => e = .returned (.bool (Pt.under s.data.toList d.data.toList)) ∧ w' = w := by
  by_cases h1 : s.data.toList = []
  · have E : Pt.under s.data.toList d.data.toList = false := by rw [h1]; exact under_nil _
    have HE := Lib.hid E
    have g1 := empty_of h1
    have g2 := isEmpty_of h1
    clear E h1
    go_enter Tryd.func15, Tryd.ntmps15
    go_wp2
    go_ret
    exact ⟨ret_bool HE.out.symm, rfl⟩
  · have g1 := nonempty_of h1
    have g2 := notEmpty_of h1
    by_cases h2 : d.data.toList = []
    · have E : Pt.under s.data.toList d.data.toList = true := by rw [h2]; exact under_top h1
      have HE := Lib.hid E
      have g3 := empty_of h2
      have g4 := isEmpty_of h2
      clear E h1 h2
      go_enter Tryd.func15, Tryd.ntmps15
      go_wp2
      go_ret
      exact ⟨ret_bool HE.out.symm, rfl⟩
    · have E : Pt.under s.data.toList d.data.toList = Lib.hasPrefix s.data.toList (d ++ ⟨#[47]⟩).data.toList := by rw [under_has h2, data_app]
      have HE := Lib.hid E
      have g3 := nonempty_of h2
      have g4 := notEmpty_of h2
      clear E h1 h2
      go_enter Tryd.func15, Tryd.ntmps15
      go_wp2_with (go_at_call 44; refine (hasPrefix_any _ _ _).mono ?_; rintro e w' ⟨rfl, rfl⟩)
      go_ret
      exact ⟨ret_bool HE.out.symm, rfl⟩

theorem has_slash (s d : Pt.Bs) : Lib.hasPrefix s (d ++ [47]) = (decide (d.length < s.length) && (s.take d.length == d) && (s.getD d.length 0 == 47)) := by
  rw [Bool.eq_iff_iff]
  unfold Lib.hasPrefix
  rw [List.isPrefixOf_iff_prefix, Bool.and_eq_true, Bool.and_eq_true, decide_eq_true_eq, beq_iff_eq, beq_iff_eq]
  constructor
  · rintro ⟨r, rfl⟩
    refine ⟨⟨by simp, by simp [List.append_assoc]⟩, by simp [List.getD_eq_getElem?_getD]⟩
  · rintro ⟨⟨h1, h2⟩, h3⟩
    refine ⟨s.drop (d.length + 1), ?_⟩
    have e := List.take_append_drop d.length s
    rw [h2, List.drop_eq_getElem_cons h1] at e
    rw [List.getD_eq_getElem?_getD, List.getElem?_eq_getElem h1] at h3
    simp only [Option.getD_some] at h3
    rw [h3] at e
    rw [← e]; simp
theorem refUnder_any (s d : ByteArray) (w : World) (hd : d.size ≤ 140737488355328) :
    Calls Tryd.prog 57 #[.string s, .string d] w fun e w' => e = .returned (.bool (Pt.under s.data.toList d.data.toList)) ∧ w' = w := by
  by_cases h2 : d.data.toList = []
  · have E : Pt.under s.data.toList d.data.toList = !s.toList.isEmpty := by
      by_cases h1 : s.data.toList = []
      · rw [h1, under_nil, isEmpty_of h1]; rfl
      · rw [h2, under_top h1, notEmpty_of h1]; rfl
    have HE := Lib.hid E
    have g3 := empty_of h2
    have g4 := isEmpty_of h2
    clear E h2
    go_enter Tryd.func57, Tryd.ntmps57
    go_wp2
    go_ret
    exact ⟨ret_bool HE.out.symm, rfl⟩
  · have HE := Lib.hid ((under_has h2).trans (has_slash s.data.toList d.data.toList))
    have g3 := nonempty_of h2
    have g4 := notEmpty_of h2
    clear h2
    rcases Nat.lt_or_ge d.size s.size with hlt | hge
    · by_cases h5 : (s.extract 0 d.size).toList = d.toList
      · go_enter Tryd.func57, Tryd.ntmps57
        go_wp2
        go_ret
        refine ⟨ret_bool ?_, rfl⟩
        rw [HE.out, size_length, size_length, decide_eq_true hlt]
        have e1 : s.data.toList.take d.size = d.data.toList := by
          rw [Lib.toList_data, Lib.toList_data, Lib.extract_data] at h5
          simpa using h5
        rw [e1, beq_self_eq_true, Bool.true_and, Bool.true_and]
        have e2 : s.data.toList.getD d.size 0 = s.data[d.size] := by
          rw [List.getD_eq_getElem?_getD, List.getElem?_eq_getElem (by simpa using hlt)]; simp
        rw [e2, Bool.eq_iff_iff, beq_iff_eq, beq_iff_eq]
        show ((s.data[d.size].toNat : Int) = 47) ↔ _
        constructor
        · intro h; exact UInt8.toNat_inj.1 (show _ = (47 : UInt8).toNat by have : (47 : UInt8).toNat = 47 := rfl; omega)
        · intro h; rw [h]; rfl
      · go_enter Tryd.func57, Tryd.ntmps57
        go_wp2
        go_ret
        refine ⟨ret_bool ?_, rfl⟩
        rw [HE.out, size_length]
        have e1 : (s.data.toList.take d.size == d.data.toList) = false := by
          rw [Lib.toList_data, Lib.toList_data, Lib.extract_data] at h5
          rw [beq_eq_false_iff_ne]
          simpa using h5
        rw [e1]; simp
    · go_enter Tryd.func57, Tryd.ntmps57
      go_wp2
      go_ret
      refine ⟨ret_bool ?_, rfl⟩
      rw [HE.out, size_length, size_length, decide_eq_false (by omega)]; rfl

/-! ### Cut -/
theorem dirOf_none {l : Pt.Bs} (h : ∀ c ∈ l, c ≠ 47) : Pt.dirOf l = [] ∧ Pt.nameOf l = l := by
  unfold Pt.dirOf Pt.nameOf; rw [Pt.split_one h]; exact ⟨rfl, rfl⟩
theorem dirOf_app {d n : Pt.Bs} (h : ∀ c ∈ n, c ≠ 47) : Pt.dirOf (d ++ 47 :: n) = d ∧ Pt.nameOf (d ++ 47 :: n) = n := by
  unfold Pt.dirOf Pt.nameOf
  rw [Pt.split_app, Pt.split_one h]
  exact ⟨by rw [List.dropLast_concat, Pt.glue_split], by simp⟩
/-- From a place on there is no slash. -/
def NoFrom (l : Pt.Bs) (k : Nat) : Prop := ∀ j, k ≤ j → l[j]? ≠ some 47
theorem noFrom_drop {l : Pt.Bs} {k : Nat} (h : NoFrom l k) : ∀ c ∈ l.drop k, c ≠ 47 := by
  intro c hc e
  subst e
  obtain ⟨i, hi, he⟩ := List.getElem_of_mem hc
  rw [List.getElem_drop] at he
  exact h (k + i) (by omega) (by rw [List.getElem?_eq_getElem (by rw [List.length_drop] at hi; omega), he])
theorem cut_at {l : Pt.Bs} {i : Nat} (hi : i < l.length) (hc : l[i] = 47) (hn : NoFrom l (i + 1)) : Pt.dirOf l = l.take i ∧ Pt.nameOf l = l.drop (i + 1) := by
  have e := (List.take_append_drop i l).symm
  rw [List.drop_eq_getElem_cons hi, hc] at e
  have := dirOf_app (d := l.take i) (noFrom_drop hn)
  rw [← e] at this
  exact this
theorem cut_no {l : Pt.Bs} (hn : NoFrom l 0) : Pt.dirOf l = [] ∧ Pt.nameOf l = l := dirOf_none (by have := noFrom_drop hn; simpa using this)
theorem byte_bang {s : ByteArray} {i : Nat} (hi : i < s.size) : s.data[i]! = s.data[i] := getElem!_pos s.data i hi
theorem ne47 {s : ByteArray} {i : Nat} (hi : i < s.size) (h : ((s.data[i]).toNat : Int) ≠ 47) : s.data.toList[i]? ≠ some 47 := by
  rw [List.getElem?_eq_getElem (by simpa using hi)]
  intro e
  have e2 : s.data[i] = 47 := by simpa using e
  rw [e2] at h
  exact h rfl
theorem is47 {s : ByteArray} {i : Nat} (hi : i < s.size) (h : ((s.data[i]).toNat : Int) = 47) : s.data.toList[i]'(by simpa using hi) = 47 := by
  have h2 : s.data[i].toNat = 47 := by omega
  have h3 : s.data[i] = 47 := UInt8.toNat_inj.1 h2
  simpa using h3
theorem cut_of_last (s : ByteArray) : (Lib.lastIndexByte s 47 = -1 ∧ NoFrom s.data.toList 0) ∨ ∃ i : Nat, ∃ h : i < s.size, Lib.lastIndexByte s 47 = i ∧ s.data.toList[i]'(by simpa using h) = 47 ∧ NoFrom s.data.toList (i + 1) := by
  rcases Lib.lastIndexByte_spec s 47 with ⟨e, hn⟩ | ⟨i, hi, e, hc, hn⟩
  · refine .inl ⟨e, fun j _ => ?_⟩
    rcases Nat.lt_or_ge j s.size with h | h
    · have := hn j h; rw [byte_bang h] at this; exact ne47 h this
    · rw [List.getElem?_eq_none (by simpa using h)]; simp
  · refine .inr ⟨i, hi, e, is47 hi (by rw [byte_bang hi] at hc; exact hc), fun j hj => ?_⟩
    rcases Nat.lt_or_ge j s.size with h | h
    · have := hn j (by omega) h; rw [byte_bang h] at this; exact ne47 h this
    · rw [List.getElem?_eq_none (by simpa using h)]; simp
theorem pair_str {s : ByteArray} {i : Nat} (h : Pt.dirOf s.data.toList = s.data.toList.take i ∧ Pt.nameOf s.data.toList = s.data.toList.drop (i + 1)) :
    (Value.tuple #[.string (s.extract 0 i), .string (s.extract (i + 1) s.size)]) = .tuple #[Pt.str (Pt.dirOf s.data.toList), Pt.str (Pt.nameOf s.data.toList)] := by
  rw [h.1, h.2, str_extract, str_extract, List.take_of_length_le (l := s.data.toList.drop (i + 1)) (by simp)]
  simp

theorem cut_any (s : ByteArray) (w : World) (hs : s.size ≤ 140737488355328) :
    Calls Tryd.prog 48 #[.string s] w fun e w' => e = .returned (.tuple #[Pt.str (Pt.dirOf s.data.toList), Pt.str (Pt.nameOf s.data.toList)]) ∧ Drawn w w' := by
  have c := lastIndex_any s 47 (by omega) w
  rcases cut_of_last s with ⟨hl, hn⟩ | ⟨i, hi, hl, hc, hn⟩
  · rw [hl] at c
    have HE := Lib.hid (cut_no hn)
    clear hl hn
    go_enter Tryd.func48, Tryd.ntmps48
    go_wp2_with (go_at_call 77; refine c.mono ?_; rintro e w' ⟨rfl, rfl⟩)
    go_ret2
    exact ⟨ret_str (by rw [HE.out.1, HE.out.2]; rfl), Drawn.refl _⟩
  · rw [hl] at c
    have HE := Lib.hid (pair_str (cut_at (by simpa using hi) hc hn))
    have hsum : IntKind.i64.wrap (↑i + 1) = ↑i + 1 := IntWalk.i64_in _ (by omega)
    clear hl hn hc
    go_enter Tryd.func48, Tryd.ntmps48
    go_wp2_with (go_at_call 77; refine c.mono ?_; rintro e w' ⟨rfl, rfl⟩)
    go_quiet (fail)
    clear hsum
    go_wp2
    go_ret2
    exact ⟨ret_str HE.out, ⟨_, rfl⟩⟩

theorem refCut_any (s : ByteArray) (w : World) (hs : s.size ≤ 140737488355328) :
    Calls Tryd.prog 47 #[.string s] w fun e w' => e = .returned (.tuple #[Pt.str (Pt.dirOf s.data.toList), Pt.str (Pt.nameOf s.data.toList)]) ∧ Drawn w w' := by
  go_enter Tryd.func47, Tryd.ntmps47
  go_wp2
  go_loop [4] (fun i => ∃ k : Nat, k ≤ s.size ∧ i = .int .i64 ((k : Int) - 1) ∧ Hid (NoFrom s.data.toList k)) (fun i => (intOf i + 1).toNat)
  case atStart => exact ⟨s.size, Nat.le_refl _, rfl, Lib.hid fun j h => by rw [List.getElem?_eq_none (by simpa using h)]; simp⟩
  case round =>
    obtain ⟨k, hk, rfl, HN⟩ := hrel
    cases k with
    | zero =>
      have HE := Lib.hid (cut_no HN.out)
      go_wp2
      go_ret2
      exact ⟨ret_str (by rw [HE.out.1, HE.out.2]; rfl), Drawn.refl _⟩
    | succ i =>
      have e1 : ((i + 1 : Nat) : Int) - 1 = (i : Int) := by omega
      rw [e1]
      have hi : i < s.size := by omega
      rcases hc : ((s[i].toNat : Int) == 47) with _ | _
      · go_wp2
        go_round
        case rel =>
          refine ⟨i, by omega, by go_num, Lib.hid fun j hj => ?_⟩
          rcases Nat.lt_or_ge i j with h | h
          · exact HN.out j h
          · obtain rfl : j = i := by omega
            exact ne47 hi (by have h0 : ¬ (s[j].toNat : Int) = 47 := by simpa using hc
                              exact h0)
        case measure => simp [intOf]
      · have h47 : (s[i].toNat : Int) = 47 := by simpa using hc
        have HE := Lib.hid (pair_str (cut_at (by simpa using hi) (is47 hi h47) HN.out))
        have hsum : IntKind.i64.wrap (↑i + 1) = ↑i + 1 := IntWalk.i64_in _ (by omega)
        clear h47
        go_wp2
        go_quiet (fail)
        clear hsum
        go_wp2
        go_ret2
        exact ⟨ret_str HE.out, ⟨_, rfl⟩⟩
end Go.Proofs.YtjppfhgkanbemabDoor
