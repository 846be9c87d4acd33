/-
  What the document's SetLock answers, and that Take and Free answer it too: plain.
-/
import Derived.Test.YtjppfhgkanbemaaLkRuns
import Derived.Test.YtjppfhgkanbemaaLkByteLaw
namespace Go.Proofs.Ytjppfhgkanbemaa
open Go.RowKit

theorem way_pos (a : Bool) : 0 < Lk.way a := by cases a <;> decide
theorem bytesF_val (l : List Lk) (o : Int) : ∀ j, bytesF l o j = 0 ∨ ∃ a, bytesF l o j = Lk.way a := by
  have h : ∀ k, k ≤ l.length → ∀ j, bytesF (l.take k) o j = 0 ∨ ∃ a, bytesF (l.take k) o j = Lk.way a := by
    intro k
    induction k with
    | zero => intro _ j; exact .inl rfl
    | succ k ih =>
      intro hk j
      rw [← bytesF_next (by omega : k < l.length)]
      unfold part
      split
      · exact .inr ⟨_, rfl⟩
      · exact ih (by omega) j
  have := h l.length (Nat.le_refl _)
  rwa [List.take_length] at this
theorem bytesF_has {l : List Lk} (hl : Lk.Ok l) (o : Int) (j : Nat) (a : Bool) : bytesF l o j = Lk.way a ↔ Lk.Has l o j a := by
  have h : ∀ k, k ≤ l.length → (bytesF (l.take k) o j = Lk.way a ↔ Lk.Has (l.take k) o j a) := by
    intro k
    induction k with
    | zero =>
      intro _
      constructor
      · intro e
        have h1 := way_pos a
        have h2 : bytesF (l.take 0) o j = 0 := rfl
        omega
      · rintro ⟨y, hy, _⟩; simp at hy
    | succ k ih =>
      intro hk
      have hlt : k < l.length := by omega
      have ih := ih (by omega)
      rw [← bytesF_next hlt, List.take_succ_eq_append_getElem hlt, Lk.has_append]
      unfold part
      by_cases c : l[k].o = o ∧ l[k].f ≤ (j : Int) ∧ (j : Int) < l[k].t
      · rw [if_pos c]
        have hin : Lk.Has l o j l[k].a := ⟨l[k], List.getElem_mem hlt, c.1, c.2.1, c.2.2, rfl⟩
        constructor
        · intro e
          exact .inr ⟨l[k], List.mem_singleton.2 rfl, c.1, c.2.1, c.2.2, way_inj e⟩
        · rintro (⟨y, hy, h1⟩ | ⟨y, hy, _, _, _, h4⟩)
          · have := Lk.has_one_way hl hin ⟨y, List.mem_of_mem_take hy, h1⟩
            rw [this]
          · rw [List.mem_singleton.1 hy] at h4; rw [h4]
      · rw [if_neg c, ih]
        constructor
        · exact .inl
        · rintro (h1 | ⟨y, hy, h1, h2, h3, _⟩)
          · exact h1
          · rw [List.mem_singleton.1 hy] at h1 h2 h3; exact absurd ⟨h1, h2, h3⟩ c
  have := h l.length (Nat.le_refl _)
  rwa [List.take_length] at this

/-- How an owner's bytes are then. -/
def setF (l : List Lk) (x : Lk) (how : Int) (o : Int) : Nat → Int := fun k => if x.o = o ∧ x.f ≤ k ∧ (k : Int) < x.t then how else bytesF l o k
/-- What is collected, when the owners below q are over. -/
structure SetTo (l : List Lk) (x : Lk) (how : Int) (q : Nat) (out : List Lk) : Prop where
  ok : Lk.Ok out
  mine : ∀ y ∈ out, y.o < q
  len : out.length ≤ 1000 * q
  has : ∀ (o : Nat) (j : Nat) (a : Bool), o < q → j < 1000 → (Lk.Has out o j a ↔ setF l x how o j = Lk.way a)
theorem set_start (l : List Lk) (x : Lk) (how : Int) : SetTo l x how 0 [] :=
  ⟨Lk.ok_nil, fun _ h => (nomatch h), Nat.le_refl _, fun _ _ _ h => absurd h (Nat.not_lt_zero _)⟩
theorem set_next {l : List Lk} {x : Lk} {how : Int} {q : Nat} {out r : List Lk} (h : SetTo l x how q out) (hr : RunsTo (setF l x how q) q 1000 r) : SetTo l x how (q + 1) (out ++ r) := by
  refine ⟨⟨?_, ?_⟩, ?_, by rw [List.length_append]; have := h.len; have := hr.len; omega, fun o j a ho hj => ?_⟩
  · intro y hy
    rcases List.mem_append.1 hy with hy | hy
    · exact h.ok.1 y hy
    · exact hr.ok.1 y hy
  · refine List.pairwise_append.2 ⟨h.ok.2, hr.ok.2, fun y hy z hz => ?_⟩
    rw [Lk.order_iff]
    have h1 := h.mine y hy
    have h2 := (hr.mine z hz).1
    exact ⟨by omega, fun e => by omega⟩
  · intro y hy
    rcases List.mem_append.1 hy with hy | hy
    · have := h.mine y hy; omega
    · have := (hr.mine y hy).1; omega
  · rw [Lk.has_append]
    rcases Nat.lt_or_ge o q with hlt | hge
    · rw [← h.has o j a hlt hj]
      constructor
      · rintro (h1 | ⟨y, hy, h1, _⟩)
        · exact h1
        · have := (hr.mine y hy).1; omega
      · exact .inl
    · obtain rfl : o = q := by omega
      rw [← hr.has j a hj]
      constructor
      · rintro (⟨y, hy, h1, _⟩ | h1)
        · have := h.mine y hy; omega
        · exact h1
      · exact .inr

/-- What SetLock answers. -/
def SetRel (l : List Lk) (x : Lk) (how : Int) (m : List Lk) (err : Int) : Prop :=
  ((Lk.wrong l).1 ≠ 0 ∧ m = [] ∧ err = (Lk.wrong l).1) ∨
  ((Lk.wrong l).1 = 0 ∧ (Lk.wrong [x]).1 ≠ 0 ∧ m = [] ∧ err = (Lk.wrong [x]).1) ∨
  ((Lk.wrong l).1 = 0 ∧ (Lk.wrong [x]).1 = 0 ∧ 0 < how ∧ (Lk.meets l x).isSome = true ∧ m = [] ∧ err = 13) ∨
  ((Lk.wrong l).1 = 0 ∧ (Lk.wrong [x]).1 = 0 ∧ (0 < how → (Lk.meets l x).isSome = false) ∧ ∃ out, SetTo l x how 4 out ∧ ((40 < out.length ∧ m = [] ∧ err = 5) ∨ (out.length ≤ 40 ∧ m = out ∧ err = 0)))

theorem wrong_one {x : Lk} (h : (Lk.wrong [x]).1 = 0) : Lk.range x = false := ((Lk.wrong_zero [x]).1 h).2.1 x (by simp)
/-- Two lists in order that have the same bytes, of owners and places that there are, are the same. -/
theorem same_of {m out l : List Lk} {x : Lk} {how : Int} (hm : Lk.Ok m) (ho : SetTo l x how 4 out) (h : ∀ (o j : Nat) (a : Bool), o < 4 → j < 1000 → (Lk.Has m o j a ↔ setF l x how o j = Lk.way a)) : m = out := by
  refine Lk.ok_unique hm ho.ok fun o k a => ?_
  have inb : ∀ {z : List Lk}, Lk.Ok z → Lk.Has z o k a → 0 ≤ o ∧ o < 4 ∧ 0 ≤ k ∧ k < 1000 := by
    rintro z hz ⟨y, hy, h1, h2, h3, _⟩
    have := hz.1 y hy
    rw [Lk.range_iff] at this
    omega
  have both : 0 ≤ o ∧ o < 4 ∧ 0 ≤ k ∧ k < 1000 → (Lk.Has m o k a ↔ Lk.Has out o k a) := by
    rintro ⟨h1, h2, h3, h4⟩
    obtain ⟨o', rfl⟩ : ∃ o' : Nat, o = o' := ⟨o.toNat, by omega⟩
    obtain ⟨k', rfl⟩ : ∃ k' : Nat, k = k' := ⟨k.toNat, by omega⟩
    rw [h o' k' a (by omega) (by omega), ho.has o' k' a (by omega) (by omega)]
  constructor
  · intro hh; exact (both (inb hm hh)).1 hh
  · intro hh; exact (both (inb ho.ok hh)).2 hh
theorem in_iff (x : Lk) (o k : Int) : Lk.In x o k ↔ (x.o = o ∧ x.f ≤ k ∧ k < x.t) := by
  unfold Lk.In
  constructor
  · rintro ⟨h1, h2⟩; exact ⟨h1.symm, h2⟩
  · rintro ⟨h1, h2⟩; exact ⟨h1.symm, h2⟩

theorem freed_same {l out : List Lk} {x : Lk} (hl : Lk.Right l) (hx : Lk.range x = false) (ho : SetTo l x 0 4 out) : Lk.cut l x = out := by
  obtain ⟨h1, h2⟩ := Lk.freed_right hl hx
  refine same_of ((Lk.right_iff _).1 h1).1 ho fun o j a _ _ => ?_
  rw [h2, in_iff]
  unfold setF
  by_cases c : x.o = (o : Int) ∧ x.f ≤ (j : Int) ∧ (j : Int) < x.t
  · rw [if_pos c]
    constructor
    · intro h; exact absurd c h.2
    · intro e; have := way_pos a; omega
  · rw [if_neg c, bytesF_has ((Lk.right_iff _).1 hl).1]
    exact ⟨fun h => h.1, fun h => ⟨h, c⟩⟩
theorem taken_same {l l' out : List Lk} {x : Lk} (hl : Lk.Right l) (hx : Lk.range x = false) (hm : (Lk.meets l x).isSome = false) (hp : l'.Perm (Lk.cut l x ++ [x])) (hs : l'.Pairwise fun x y => Lk.less y x = false)
    (ho : SetTo l x (Lk.way x.a) 4 out) : Lk.tidy l' = out := by
  obtain ⟨h1, h2⟩ := Lk.taken_right hl hx hm hp hs
  refine same_of ((Lk.right_iff _).1 h1).1 ho fun o j a _ _ => ?_
  rw [h2, in_iff]
  unfold setF
  by_cases c : x.o = (o : Int) ∧ x.f ≤ (j : Int) ∧ (j : Int) < x.t
  · rw [if_pos c]
    constructor
    · rintro (h | ⟨_, h⟩)
      · exact absurd c h.2
      · rw [h]
    · intro e; exact .inr ⟨c, (way_inj e).symm⟩
  · rw [if_neg c, bytesF_has ((Lk.right_iff _).1 hl).1]
    constructor
    · rintro (h | h)
      · exact h.1
      · exact absurd h.1 c
    · intro h; exact .inl ⟨h, c⟩
theorem take_set {l m m' : List Lk} {x : Lk} {err err' : Int} (h : TakeRel l x m err) (k : SetRel l x (Lk.way x.a) m' err') : m = m' ∧ err = err' := by
  have hpos := way_pos x.a
  rcases h with ⟨a1, rfl, rfl⟩ | ⟨a1, a2, rfl, rfl⟩ | ⟨a1, a2, a3, rfl, rfl⟩ | ⟨a1, a2, a3, l', hp, hs, a4⟩
  · rcases k with ⟨_, rfl, rfl⟩ | ⟨b1, _⟩ | ⟨b1, _⟩ | ⟨b1, _⟩
    · exact ⟨rfl, rfl⟩
    all_goals exact absurd b1 a1
  · rcases k with ⟨b1, _⟩ | ⟨_, _, rfl, rfl⟩ | ⟨_, b2, _⟩ | ⟨_, b2, _⟩
    · exact absurd a1 b1
    · exact ⟨rfl, rfl⟩
    all_goals exact absurd b2 a2
  · rcases k with ⟨b1, _⟩ | ⟨_, b2, _⟩ | ⟨_, _, _, _, rfl, rfl⟩ | ⟨_, _, b3, _⟩
    · exact absurd a1 b1
    · exact absurd a2 b2
    · exact ⟨rfl, rfl⟩
    · rw [b3 hpos] at a3; cases a3
  · rcases k with ⟨b1, _⟩ | ⟨_, b2, _⟩ | ⟨_, _, _, b3, _⟩ | ⟨_, _, _, out, ho, b4⟩
    · exact absurd a1 b1
    · exact absurd a2 b2
    · rw [a3] at b3; cases b3
    · have e := taken_same ((Lk.wrong_zero l).1 a1).2 (wrong_one a2) a3 hp hs ho
      rw [e] at a4
      rcases a4 with ⟨c1, rfl, rfl⟩ | ⟨c1, rfl, rfl⟩
      · rcases b4 with ⟨_, rfl, rfl⟩ | ⟨d1, _⟩
        · exact ⟨rfl, rfl⟩
        · omega
      · rcases b4 with ⟨d1, _⟩ | ⟨_, rfl, rfl⟩
        · omega
        · exact ⟨rfl, rfl⟩
theorem free_set {l m m' : List Lk} {x : Lk} {err err' : Int} (h : FreeRel l x m err) (k : SetRel l x 0 m' err') : m = m' ∧ err = err' := by
  rcases h with ⟨a1, rfl, rfl⟩ | ⟨a1, a2, rfl, rfl⟩ | ⟨a1, a2, a4⟩
  · rcases k with ⟨_, rfl, rfl⟩ | ⟨b1, _⟩ | ⟨b1, _⟩ | ⟨b1, _⟩
    · exact ⟨rfl, rfl⟩
    all_goals exact absurd b1 a1
  · rcases k with ⟨b1, _⟩ | ⟨_, _, rfl, rfl⟩ | ⟨_, b2, _⟩ | ⟨_, b2, _⟩
    · exact absurd a1 b1
    · exact ⟨rfl, rfl⟩
    all_goals exact absurd b2 a2
  · rcases k with ⟨b1, _⟩ | ⟨_, b2, _⟩ | ⟨_, _, b3, _⟩ | ⟨_, _, _, out, ho, b4⟩
    · exact absurd a1 b1
    · exact absurd a2 b2
    · exact absurd b3 (by decide)
    · have e := freed_same ((Lk.wrong_zero l).1 a1).2 (wrong_one a2) ho
      rw [e] at a4
      rcases a4 with ⟨c1, rfl, rfl⟩ | ⟨c1, rfl, rfl⟩
      · rcases b4 with ⟨_, rfl, rfl⟩ | ⟨d1, _⟩
        · exact ⟨rfl, rfl⟩
        · omega
      · rcases b4 with ⟨d1, _⟩ | ⟨_, rfl, rfl⟩
        · omega
        · exact ⟨rfl, rfl⟩
end Go.Proofs.Ytjppfhgkanbemaa
