/-
  Rows of texts of the call's own; the document's Split.
-/
import Derived.Test.YtjppfhgkanbemabDoorMem
import Derived.Test.YtjppfhgkanbemabDoorPtNamed
import Derived.Deep.DeepMust
namespace Go.Proofs.YtjppfhgkanbemabDoor
open Go.RowKit

theorem info_str : (Tryd.prog.info? 9).map (fun i => (i.zero, i.size, i.bytes)) = some (some (.string ByteArray.empty), 1, 16) := by kernel_rfl
/-- A text's value. -/
def Pt.str (l : Pt.Bs) : Value := .string ⟨l.toArray⟩
theorem str_of (s : ByteArray) : Value.string s = Pt.str s.data.toList := rfl
theorem str_extract (s : ByteArray) (a b : Nat) : Value.string (s.extract a b) = Pt.str ((s.data.toList.drop a).take (b - a)) := by
  unfold Pt.str
  congr 1
  apply ByteArray.ext
  apply Array.ext'
  rw [Lib.extract_data]
theorem str_cell (l : Pt.Bs) : (Pt.str l).oneCell' = true := rfl
/-- A row of texts of the call's own. -/
def StrOwn (w : World) (base : Nat) (v : Value) (l : List Pt.Bs) : Prop := w.ownsRow base 9 1 v l.length (l.map Pt.str)
/-- A slice of texts. -/
def StrRd (w : World) (B : Nat) (A : Option Addr) (l : List Pt.Bs) : Prop := Rd w B 1 A l.length (l.map Pt.str)
theorem StrOwn.snoc {w : World} {base n : Nat} {v x : Value} {xs : List Value} {l m : List Pt.Bs} {y : Pt.Bs} (h : w.ownsRow base 9 1 v (n + 1) (xs ++ [x]))
    (e : m = l ++ [y]) (hx' : x = Pt.str y) (hn : n = l.length := by rfl) (hx : xs = l.map Pt.str := by rfl) : StrOwn w base v m := by
  subst e hn hx hx'
  unfold StrOwn
  rw [List.map_append, List.length_append]
  exact h
theorem StrRd.at_ {w : World} {B : Nat} {A : Option Addr} {l : List Pt.Bs} (h : StrRd w B A l) {k : Nat} (hk : k < l.length) : ∃ b o, A = some ⟨b, o, none⟩ ∧ b < B ∧ w.cell? ⟨b, o + k, none⟩ = some (Pt.str l[k]) := by
  obtain ⟨b, o, e, hb, hc⟩ := h.2 (by omega)
  exact ⟨b, o, e, hb, hc k _ (by simp [hk])⟩

/-- A row of the call's own lies at the base or beyond. -/
theorem own_lo {w : World} {base : Nat} {e : TypeId} {size n : Nat} {v : Value} {xs : List Value} (h : w.ownsRow base e size v n xs) {q : Nat} (hq : v.ownBlock = some q) : base ≤ q := (h.lt q hq).1

/-! ### Split -/
theorem drop_piece {l : Pt.Bs} {a k : Nat} (h : ∀ j, a ≤ j → j < k → l[j]? ≠ some 47) : ∀ c ∈ (l.drop a).take (k - a), c ≠ 47 := by
  intro c hc e
  subst e
  obtain ⟨i, hi, he⟩ := List.getElem_of_mem hc
  rw [List.length_take, List.length_drop] at hi
  rw [List.getElem_take, List.getElem_drop] at he
  exact h (a + i) (by omega) (by omega) (by rw [List.getElem?_eq_getElem (by omega), he])
theorem split_next {l : Pt.Bs} {a k : Nat} (hk : k < l.length) (ha : a ≤ k) (h : ∀ j, a ≤ j → j < k → l[j]? ≠ some 47) (hs : l[k] = 47) :
    Pt.split (l.drop a) = (l.drop a).take (k - a) :: Pt.split (l.drop (k + 1)) := by
  have e : l.drop a = (l.drop a).take (k - a) ++ 47 :: l.drop (k + 1) := by
    have h1 := (List.take_append_drop (k - a) (l.drop a)).symm
    rw [List.drop_drop, show a + (k - a) = k by omega, List.drop_eq_getElem_cons hk, hs] at h1
    exact h1
  have h2 := Pt.split_piece (drop_piece h) (l.drop (k + 1))
  rw [← e] at h2
  exact h2
theorem split_last {l : Pt.Bs} {a : Nat} (h : ∀ j, a ≤ j → j < l.length → l[j]? ≠ some 47) : Pt.split (l.drop a) = [l.drop a] := by
  have h1 := drop_piece h
  rw [List.take_of_length_le (by simp)] at h1
  exact Pt.split_one h1
theorem split_len_le : ∀ l : Pt.Bs, (Pt.split l).length ≤ l.length + 1
  | [] => Nat.le_refl _
  | c :: r => by
    have ih := split_len_le r
    by_cases h : c = 47
    · subst h; rw [Pt.split_slash]; simp; omega
    · rw [Pt.split_cons h, Pt.onto_len _ _ (Pt.split_ne r)]; simp; omega

set_option maxHeartbeats 1600000 in
set_option maxRecDepth 100000 in
theorem refSplit_any (s : ByteArray) (w : World) (hs : s.size ≤ 8796093022208 - 1) :
    Calls Tryd.prog 76 #[.string s] w fun e w' => ∃ v, e = .returned v ∧ StrOwn w' w.heap.size v (Pt.split s.data.toList) ∧ Below w.heap.size w w' := by
  obtain ⟨i0, hi, hz0, hz1, hz2⟩ := info_parts info_str
  go_enter Tryd.func76, Tryd.ntmps76
  go_wp2
  go_loopw [3, 4, 8] (fun v a i wr => ∃ k at_ : Nat, ∃ pre, k ≤ s.size ∧ at_ ≤ k ∧ pre.length ≤ at_ ∧ i = .int .i64 k ∧ a = .int .i64 at_ ∧ StrOwn wr w.heap.size v pre ∧ Below w.heap.size w wr
      ∧ Hid (Pt.split s.data.toList = pre ++ Pt.split (s.data.toList.drop at_)) ∧ Hid (∀ j, at_ ≤ j → j < k → s.data.toList[j]? ≠ some 47))
    (fun _ _ i _ => s.size - (intOf i).toNat)
  case atStart => exact ⟨0, 0, [], Nat.zero_le _, Nat.le_refl _, Nat.le_refl _, rfl, rfl, World.ownsRow_nil _ _ _ _, Below.refl _ _, Lib.hid rfl, Lib.hid (fun j _ h => by omega)⟩
  case round =>
    obtain ⟨k, a, pre, hk, ha, hp, rfl, rfl, hown, hB, HS, HN⟩ := hrel
    by_cases hlt : k < s.size
    · rcases hc : ((s[k].toNat : Int) == 47) with _ | _
      · go_wp2
        go_roundw
        case rel =>
          refine ⟨k + 1, a, pre, by omega, by omega, hp, by go_num, rfl, hown, hB, HS, Lib.hid fun j h1 h2 => ?_⟩
          rcases Nat.lt_or_ge j k with h | h
          · exact HN.out j h1 h
          · obtain rfl : j = k := by omega
            rw [List.getElem?_eq_getElem (by simpa using hlt)]
            intro e
            have e2 : s.data[j] = 47 := by simpa using e
            have e' : s[j] = 47 := e2
            rw [e'] at hc
            simp at hc
        case measure => simp [intOf]; omega
      · go_wp2_with (at_builtin; go_must (refine wpList_app1 wr rfl _ _ _ rfl w.heap.size 9 i0 _ 1 16 Tryd.underlying39 hi hz0 hz1 hz2 rfl (by decide) u3 _ _ rfl hown [.string (s.extract a k)] rfl rfl (by simp [Value.oneCell']) (by omega) (by decide) hB.size _ rfl ?_); intro v1 w1 own1 g1 at1)
        go_roundw
        case rel =>
          have hk47 : s.data.toList[k]'(by simpa using hlt) = 47 := by
            have h1 : (s[k].toNat : Int) = 47 := by simpa using hc
            have h2 : s[k].toNat = 47 := by omega
            have h3 : s.data[k] = 47 := UInt8.toNat_inj.1 h2
            simpa using h3
          refine ⟨k + 1, k + 1, pre ++ [(s.data.toList.drop a).take (k - a)], by omega, Nat.le_refl _, by simp; omega, by go_num, by go_num, StrOwn.snoc own1 rfl (str_extract s a k), hB.grown g1 hB.size (fun q e => (own_lo hown e)), Lib.hid ?_, Lib.hid fun j h1 h2 => by omega⟩
          rw [HS.out, split_next (by simpa using hlt) ha HN.out hk47]
          simp
        case measure => simp [intOf]; omega
    · obtain rfl : k = s.size := by omega
      go_wp2_with (at_builtin; go_must (refine wpList_app1 wr rfl _ _ _ rfl w.heap.size 9 i0 _ 1 16 Tryd.underlying39 hi hz0 hz1 hz2 rfl (by decide) u3 _ _ rfl hown [.string (s.extract a s.size)] rfl rfl (by simp [Value.oneCell']) (by omega) (by decide) hB.size _ rfl ?_); intro v1 w1 own1 g1 at1)
      go_ret
      refine ⟨_, rfl, StrOwn.snoc own1 (y := s.data.toList.drop a) ?_ ?_, hB.grown g1 hB.size (fun q e => (own_lo hown e))⟩
      · rw [HS.out, split_last (by intro j h1 h2; exact HN.out j h1 (by simpa using h2))]
      · rw [str_extract, List.take_of_length_le (by simp)]
end Go.Proofs.YtjppfhgkanbemabDoor
