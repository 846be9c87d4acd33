/-
  The plain law of LockByte: what Take and Free leave, byte by byte. No walk.
-/
import Derived.Test.YtjppfhgkanbemaaLkHow
import Derived.Test.YtjppfhgkanbemaaLkLaw2
import Derived.Test.YtjppfhgkanbemaaLkAlive
namespace Go.Proofs.Ytjppfhgkanbemaa
open Go.RowKit
namespace Lk
theorem howAt_iff (o k : Int) (y : Lk) : howAt o k y = true ↔ y.o = o ∧ y.f ≤ k ∧ k < y.t := by
  simp [howAt, and_assoc]
theorem how_has {l : List Lk} (h : Ok l) {o k : Int} {a : Bool} (hh : Has l o k a) : how l o k = way a := by
  unfold how
  rcases hf : l.find? (howAt o k) with _ | y
  · obtain ⟨z, hz, h1, h2, h3, _⟩ := hh
    have := List.find?_eq_none.1 hf z hz
    rw [howAt_iff] at this
    exact absurd ⟨h1, h2, h3⟩ this
  · have h1 := List.find?_some hf
    rw [howAt_iff] at h1
    have h2 : Has l o k y.a := ⟨y, List.mem_of_find?_eq_some hf, h1.1, h1.2.1, h1.2.2, rfl⟩
    exact congrArg way (has_one_way h h2 hh)
theorem how_hasnt {l : List Lk} {o k : Int} (hh : ∀ a, ¬ Has l o k a) : how l o k = 0 := by
  unfold how
  rcases hf : l.find? (howAt o k) with _ | y
  · rfl
  · have h1 := List.find?_some hf
    rw [howAt_iff] at h1
    exact absurd ⟨y, List.mem_of_find?_eq_some hf, h1.1, h1.2.1, h1.2.2, rfl⟩ (hh y.a)
theorem how_same {l m : List Lk} (h : Ok l) (hm : Ok m) {o k : Int} (hh : ∀ a, Has l o k a ↔ Has m o k a) : how l o k = how m o k := by
  by_cases e : ∃ a, Has l o k a
  · obtain ⟨a, ha⟩ := e
    rw [how_has h ha, how_has hm ((hh a).1 ha)]
  · have h1 : ∀ a, ¬ Has l o k a := fun a ha => e ⟨a, ha⟩
    rw [how_hasnt h1, how_hasnt fun a ha => h1 a ((hh a).2 ha)]
end Lk

theorem err_clash {p : List Lk} {x : Lk} : Lk.badAt p x = 0 ∨ Lk.badAt p x = 3 ∨ Lk.badAt p x = 2 ∨ Lk.badAt p x = 8 := by
  unfold Lk.badAt
  split
  · exact .inr (.inl rfl)
  · split
    · exact .inr (.inr (.inl rfl))
    · split
      · exact .inr (.inr (.inr rfl))
      · exact .inl rfl
/-- What Take leaves. -/
theorem take_zero {l m : List Lk} {x : Lk} (h : TakeRel l x m 0) : Lk.Right l ∧ Lk.range x = false ∧ (Lk.meets l x).isSome = false ∧ m.length ≤ 40 ∧ Lk.Right m ∧ ∀ o k a, Lk.Has m o k a ↔ (Lk.Has l o k a ∧ ¬ Lk.In x o k) ∨ (Lk.In x o k ∧ a = x.a) := by
  rcases h with ⟨h, _, e⟩ | ⟨_, h, _, e⟩ | ⟨_, _, _, _, e⟩ | ⟨h1, h2, h3, l', hp, hs, h⟩
  · exact absurd e.symm h
  · exact absurd e.symm h
  · cases e
  · rcases h with ⟨_, _, e⟩ | ⟨h5, rfl, _⟩
    · cases e
    · have r1 := ((Lk.wrong_zero l).1 h1).2
      have r2 := (Lk.right_one x).1 ((Lk.wrong_zero [x]).1 h2).2
      obtain ⟨r3, r4⟩ := Lk.taken_right r1 r2 h3 hp hs
      exact ⟨r1, r2, h3, h5, r3, r4⟩
/-- What Free leaves. -/
theorem free_zero {l m : List Lk} {x : Lk} (h : FreeRel l x m 0) : Lk.Right l ∧ Lk.range x = false ∧ m.length ≤ 40 ∧ Lk.Right m ∧ ∀ o k a, Lk.Has m o k a ↔ Lk.Has l o k a ∧ ¬ Lk.In x o k := by
  rcases h with ⟨h, _, e⟩ | ⟨_, h, _, e⟩ | ⟨h1, h2, h⟩
  · exact absurd e.symm h
  · exact absurd e.symm h
  · rcases h with ⟨_, _, e⟩ | ⟨h5, rfl, _⟩
    · cases e
    · have r1 := ((Lk.wrong_zero l).1 h1).2
      have r2 := (Lk.right_one x).1 ((Lk.wrong_zero [x]).1 h2).2
      obtain ⟨r3, r4⟩ := Lk.freed_right r1 r2
      exact ⟨r1, r2, h5, r3, r4⟩
theorem take_le {l m : List Lk} {x : Lk} {err : Int} (h : TakeRel l x m err) : m.length ≤ 40 := by
  rcases h with ⟨_, rfl, _⟩ | ⟨_, _, rfl, _⟩ | ⟨_, _, _, rfl, _⟩ | ⟨_, _, _, _, _, _, ⟨_, rfl, _⟩ | ⟨h, rfl, _⟩⟩ <;> first | exact h | simp
theorem free_le {l m : List Lk} {x : Lk} {err : Int} (h : FreeRel l x m err) : m.length ≤ 40 := by
  rcases h with ⟨_, rfl, _⟩ | ⟨_, _, rfl, _⟩ | ⟨_, _, ⟨_, rfl, _⟩ | ⟨h, rfl, _⟩⟩ <;> first | exact h | simp
/-- Where there is an error there are no locks. -/
theorem take_none {l m : List Lk} {x : Lk} {err : Int} (h : TakeRel l x m err) (he : err ≠ 0) : m = [] := by
  rcases h with ⟨_, e, _⟩ | ⟨_, _, e, _⟩ | ⟨_, _, _, e, _⟩ | ⟨_, _, _, _, _, _, ⟨_, e, _⟩ | ⟨_, _, h⟩⟩
  all_goals first | exact e | exact absurd h he
theorem free_none {l m : List Lk} {x : Lk} {err : Int} (h : FreeRel l x m err) (he : err ≠ 0) : m = [] := by
  rcases h with ⟨_, e, _⟩ | ⟨_, _, e, _⟩ | ⟨_, _, ⟨_, e, _⟩ | ⟨_, _, h⟩⟩
  all_goals first | exact e | exact absurd h he
theorem take_byte {l m : List Lk} {x : Lk} (h : TakeRel l x m 0) {o k : Int} : (¬ Lk.In x o k → Lk.how l o k = Lk.how m o k) ∧ (Lk.In x o k → Lk.how m o k = Lk.way x.a) := by
  obtain ⟨h1, _, _, _, h2, h3⟩ := take_zero h
  have o1 := ((Lk.right_iff _).1 h1).1
  have o2 := ((Lk.right_iff _).1 h2).1
  refine ⟨fun hn => Lk.how_same o1 o2 fun a => ?_, fun hi => Lk.how_has o2 ((h3 o k x.a).2 (.inr ⟨hi, rfl⟩))⟩
  rw [h3]
  constructor
  · exact fun h => .inl ⟨h, hn⟩
  · rintro (h | h)
    · exact h.1
    · exact absurd h.1 hn
theorem free_byte {l m : List Lk} {x : Lk} (h : FreeRel l x m 0) {o k : Int} : (¬ Lk.In x o k → Lk.how l o k = Lk.how m o k) ∧ (Lk.In x o k → Lk.how m o k = 0) := by
  obtain ⟨h1, _, _, h2, h3⟩ := free_zero h
  have o1 := ((Lk.right_iff _).1 h1).1
  have o2 := ((Lk.right_iff _).1 h2).1
  refine ⟨fun hn => Lk.how_same o1 o2 fun a => ?_, fun hi => Lk.how_hasnt fun a ha => ((h3 o k a).1 ha).2 hi⟩
  rw [h3]
  exact ⟨fun h => ⟨h, hn⟩, fun h => h.1⟩

/-- A row of the call's own, as an argument. -/
theorem LkOwn.rd {w : World} {base : Nat} {v : Value} {l : List Lk} (h : LkOwn w base v l) : ∃ A c, v = .slice A l.length c ∧ l.length ≤ c ∧ LkRd w w.heap.size A l := by
  rcases own_shape h with ⟨rfl, h0⟩ | ⟨g, cap, rfl, _, _, hc⟩
  · have e : l = [] := List.length_eq_zero_iff.1 h0
    subst e
    exact ⟨none, 0, rfl, Nat.le_refl _, Rd.nil⟩
  · exact ⟨some ⟨g, 0, none⟩, cap, rfl, hc, Rd.of_own h⟩
end Go.Proofs.Ytjppfhgkanbemaa
