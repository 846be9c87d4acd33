/-
  The plain law of LockHeld: each one that leaves takes an owner away. No walk.
-/
import Derived.Test.YtjppfhgkanbemaaLkByteLaw
namespace Go.Proofs.Ytjppfhgkanbemaa
namespace Lk
def gone (l : List Lk) (x : Lk) (o : Int) : Nat := bif o == x.o || l.all (fun y => y.o != o) then 1 else 0
def left (l : List Lk) (x : Lk) : Nat := gone l x 0 + gone l x 1 + gone l x 2 + gone l x 3
theorem gone_le (l : List Lk) (x : Lk) (o : Int) : gone l x o ≤ 1 := by
  unfold gone; cases (o == x.o || l.all (fun y => y.o != o)) <;> simp
theorem gone_own (l : List Lk) (x : Lk) : gone l x x.o = 1 := by simp [gone]
theorem gone_hit (l : List Lk) (x : Lk) (o : Int) : gone (leave l o) x o = 1 := by
  have : (leave l o).all (fun y => y.o != o) = true := by
    rw [List.all_eq_true]
    intro y hy
    exact (List.mem_filter.1 hy).2
  simp [gone, this]
theorem gone_more (l : List Lk) (x : Lk) (o o' : Int) : gone l x o ≤ gone (leave l o') x o := by
  unfold gone
  rcases h : l.all (fun y => y.o != o) with _ | _
  · cases (o == x.o) <;> simp
  · have : (leave l o').all (fun y => y.o != o) = true := by
      rw [List.all_eq_true] at h ⊢
      intro y hy
      exact h y (List.mem_filter.1 hy).1
    simp [this]
theorem gone_not {l : List Lk} {x y : Lk} (hy : y ∈ l) (hne : y.o ≠ x.o) : gone l x y.o = 0 := by
  have : l.all (fun z => z.o != y.o) = false := by
    rw [List.all_eq_false]
    exact ⟨y, hy, by simp⟩
  have h2 : (y.o == x.o) = false := by simpa using hne
  simp [gone, this, h2]
theorem left_start (l : List Lk) {x : Lk} (hx : range x = false) : 1 ≤ left l x := by
  have h := gone_own l x
  rw [range_iff] at hx
  have h4 : x.o = 0 ∨ x.o = 1 ∨ x.o = 2 ∨ x.o = 3 := by omega
  unfold left
  rcases h4 with e | e | e | e <;> rw [e] at h <;> omega
theorem left_le (l : List Lk) (x : Lk) : left l x ≤ 4 := by
  have h0 := gone_le l x 0
  have h1 := gone_le l x 1
  have h2 := gone_le l x 2
  have h3 := gone_le l x 3
  unfold left
  omega
theorem left_step {l : List Lk} {x y : Lk} (hr : Right l) (hm : meets l x = some y) : left l x + 1 ≤ left (leave l y.o) x := by
  have hy : y ∈ l := List.mem_of_find?_eq_some hm
  have hc : clash y x = true := List.find?_some (p := fun y => clash y x) hm
  rw [clash_iff] at hc
  have hy0 := (range_iff y).1 (hr.1 y hy)
  have h4 : y.o = 0 ∨ y.o = 1 ∨ y.o = 2 ∨ y.o = 3 := by omega
  have a := gone_not hy hc.1
  have b := gone_hit l x y.o
  have h0 := gone_more l x 0 y.o
  have h1 := gone_more l x 1 y.o
  have h2 := gone_more l x 2 y.o
  have h3 := gone_more l x 3 y.o
  unfold left
  rcases h4 with e | e | e | e <;> rw [e] at a b h0 h1 h2 h3 ⊢ <;> omega
theorem leave_le (l : List Lk) (o : Int) : (leave l o).length ≤ l.length := List.length_filter_le _ _
end Lk
/-- Take's error, where the locks are right. -/
theorem take_err {l m : List Lk} {x : Lk} {e : Int} (h : TakeRel l x m e) (h1 : (Lk.wrong l).1 = 0) (h2 : (Lk.wrong [x]).1 = 0) : ((Lk.meets l x).isSome = true ∧ e = 13) ∨ ((Lk.meets l x).isSome = false ∧ (e = 0 ∨ e = 5)) := by
  rcases h with ⟨h, _⟩ | ⟨_, h, _⟩ | ⟨_, _, h, _, e⟩ | ⟨_, _, h, _, _, _, ⟨_, _, e⟩ | ⟨_, _, e⟩⟩
  · exact absurd h1 h
  · exact absurd h2 h
  · exact .inl ⟨h, e⟩
  · exact .inr ⟨h, .inr e⟩
  · exact .inr ⟨h, .inl e⟩
end Go.Proofs.Ytjppfhgkanbemaa
