/-
  The row's arguments: a slice of locks, a lock by value, read off as lists and numbers.
-/
import Derived.Test.YtjppfhgkanbemaaLkWalks
import Derived.Deep.Slices
import Derived.Deep.Fields
import Derived.ProofKit
import Derived.ChangeSame
namespace Go.Proofs.Ytjppfhgkanbemaa
open Go.RowKit Go.ChangeShapes Go.WideShapes Go.Deep

noncomputable def lockFields : TypeDesc → List (Nat × Nat × Option TypeDesc)
  | .struct fs => fs.toList.map fun f => (f.offset, Try.prog.cellsOf f.type, Try.prog.underlying f.type)
  | _ => []
theorem lock_fields : (Try.prog.underlying 24).map lockFields = some [(0, 1, some (.int .i64)), (1, 1, some (.int .i64)), (2, 1, some (.int .i64)), (3, 1, some .bool)] := by kernel_rfl
theorem lock_cells : Try.prog.cellsOf 24 = 4 := by kernel_rfl

section
variable {H : Type} {enc : TypeId × Value → H} {w : World} {base : Nat} {spare : Nat → Bool} {held : Bool}
/-- A lock's four cells. -/
theorem open_lock {fuel : Nat} {cs : List Value} {x : DataW H × List MemPlace} (h : DataW.trod enc Try.prog w base spare held fuel 24 cs = some x) : ∃ y : Lk, cs = y.cells := by
  have hl := lock_fields
  rcases hu : Try.prog.underlying 24 with _ | T
  · rw [hu] at hl; cases hl
  · rw [hu] at hl
    simp only [Option.map_some, Option.some.injEq] at hl
    cases T with
    | struct fs =>
      simp only [lockFields] at hl
      obtain ⟨ys, n, _, _, hlen, hys, hf⟩ := DataW.trod_struct hu h
      rw [lock_cells] at hlen
      have hfs : fs.toList.length = 4 := by have := congrArg List.length hl; simpa using this
      obtain ⟨fl⟩ := fs
      match fl, hfs, cs, hlen, ys, hys with
      | [f0, f1, f2, f3], _, [c0, c1, c2, c3], _, [y0, y1, y2, y3], _ =>
        simp only [List.map_cons, List.map_nil, List.cons.injEq, Prod.mk.injEq, and_true] at hl
        obtain ⟨⟨a0, b0, d0⟩, ⟨a1, b1, d1⟩, ⟨a2, b2, d2⟩, ⟨a3, b3, d3⟩⟩ := hl
        have g0 := hf 0 f0 rfl
        have g1 := hf 1 f1 rfl
        have g2 := hf 2 f2 rfl
        have g3 := hf 3 f3 rfl
        rw [a0, b0] at g0
        rw [a1, b1] at g1
        rw [a2, b2] at g2
        rw [a3, b3] at g3
        obtain ⟨n0, e0, _⟩ := DataW.trod_int d0 (x := y0) g0
        obtain ⟨n1, e1, _⟩ := DataW.trod_int d1 (x := y1) g1
        obtain ⟨n2, e2, _⟩ := DataW.trod_int d2 (x := y2) g2
        obtain ⟨n3, e3, _⟩ := DataW.trod_bool d3 (x := y3) g3
        simp at e0 e1 e2 e3
        exact ⟨⟨n0, n1, n2, n3⟩, by simp [Lk.cells, e0, e1, e2, e3]⟩
    | _ => simp [lockFields] at hl

theorem list_of {n : Nat} {P : Nat → Lk → Prop} (h : ∀ i, i < n → ∃ y, P i y) : ∃ l : List Lk, l.length = n ∧ ∀ i (hi : i < l.length), P i l[i] := by
  induction n with
  | zero => exact ⟨[], rfl, fun i hi => by cases hi⟩
  | succ n ih =>
    obtain ⟨l, hl, hp⟩ := ih fun i hi => h i (by omega)
    obtain ⟨y, hy⟩ := h n (by omega)
    refine ⟨l ++ [y], by simp [hl], fun i hi => ?_⟩
    by_cases e : i < l.length
    · rw [List.getElem_append_left e]; exact hp i e
    · have : i = n := by simp at hi; omega
      subst this
      rw [List.getElem_append_right (by omega)]
      simpa [hl] using hy

theorem flat_size (l : List Lk) : (Lk.flat l).length = l.length * 4 := by
  induction l with
  | nil => rfl
  | cons x r ih =>
    have e : Lk.flat (x :: r) = x.cells ++ Lk.flat r := rfl
    rw [e, List.length_append, ih]
    simp [Lk.cells]
    omega

/-- A slice of locks. -/
theorem open_locks {v : Value} {d : DataW H} {p : List MemPlace} {r : Reach} {b0 : Nat} (hv : Value.okWide Try.prog w r b0 22 v)
    (h : DataW.Trod enc Try.prog w base spare held 22 v d p) :
    ∃ A c, ∃ l : List Lk, v = .slice A l.length c ∧ l.length ≤ c ∧ l.length ≤ 9223372036854775807 ∧ LkRd w w.heap.size A l := by
  obtain ⟨a0, len, cap, rfl⟩ := okWide_slice Try.underlying22 hv
  obtain ⟨fuel, hf⟩ := h
  rcases open_slice Try.underlying22 hf with ⟨hcs, _⟩ | ⟨a, len', cap', m, n, D, Pl, hcs, _, hl, hm, hmm, _, hi⟩
  · simp [Value.cells] at hcs
    obtain ⟨rfl, rfl, rfl⟩ := hcs
    exact ⟨none, 0, [], rfl, Nat.le_refl _, by decide, Rd.nil⟩
  · simp [Value.cells] at hcs
    obtain ⟨rfl, rfl, rfl⟩ := hcs
    have hml : len ≤ m := by rw [hmm]; split <;> omega
    have key : ∀ i, i < len → ∃ y : Lk, ∀ j, j < 4 → w.cell? ((a.add (i * 4)).add j) = y.cells[j]? := by
      intro i hi'
      obtain ⟨cs', hc, ht⟩ := hi i (by omega)
      rw [lock_cells] at hc
      obtain ⟨_, _, hat⟩ := World.cells?_some hc
      obtain ⟨y, rfl⟩ := open_lock ht
      exact ⟨y, hat⟩
    obtain ⟨l, rfl, hp⟩ := list_of key
    refine ⟨some a, cap, l, rfl, hl, Nat.le_trans hl (Nat.le_trans hm (by decide)), flat_size l, fun hn => ?_⟩
    obtain ⟨b, off, spot⟩ := a
    have h00 := hp 0 hn 0 (by omega)
    have hs : w.cell? (((⟨b, off, spot⟩ : Addr).add (0 * 4)).add 0) = some (.int .i64 l[0].o) := h00
    have hspot : spot = none := by simpa [Addr.add] using World.cell?_spot hs
    subst hspot
    have hb : b < w.heap.size := by simpa [add_plain] using World.block_lt_of_cell? w _ hs
    refine ⟨b, off, rfl, hb, fun j u hu => ?_⟩
    have hj : j < l.length * 4 := by rw [← flat_size]; exact (List.getElem?_eq_some_iff.1 hu).1
    have hk : j / 4 < l.length := by omega
    have hc := hp (j / 4) hk (j % 4) (by omega)
    rw [add_plain, add_plain] at hc
    have e : off + j / 4 * 4 + j % 4 = off + j := by omega
    rw [e] at hc
    rw [hc]
    obtain ⟨f0, f1, f2, f3⟩ := flat_at l (j / 4) hk
    have h4 : j % 4 = 0 ∨ j % 4 = 1 ∨ j % 4 = 2 ∨ j % 4 = 3 := by omega
    rcases h4 with h4 | h4 | h4 | h4
    · rw [show j / 4 * 4 + 0 = j by omega] at f0
      rw [← hu, f0, h4]; rfl
    · rw [show j / 4 * 4 + 1 = j by omega] at f1
      rw [← hu, f1, h4]; rfl
    · rw [show j / 4 * 4 + 2 = j by omega] at f2
      rw [← hu, f2, h4]; rfl
    · rw [show j / 4 * 4 + 3 = j by omega] at f3
      rw [← hu, f3, h4]; rfl

/-- A lock by value. -/
theorem open_lockv {v : Value} {d : DataW H} {p : List MemPlace} {r : Reach} {b0 : Nat} (hv : Value.okWide Try.prog w r b0 24 v)
    (h : DataW.Trod enc Try.prog w base spare held 24 v d p) : ∃ y : Lk, v = .agg #[.int .i64 y.o, .int .i64 y.f, .int .i64 y.t, .bool y.a] := by
  have hl := lock_fields
  rcases hu : Try.prog.underlying 24 with _ | T
  · rw [hu] at hl; cases hl
  · rw [hu] at hl
    simp only [Option.map_some, Option.some.injEq] at hl
    cases T with
    | struct fs =>
      obtain ⟨cs, rfl, _⟩ := okWide_struct hu hv
      obtain ⟨fuel, hf⟩ := h
      obtain ⟨y, hy⟩ := open_lock hf
      obtain ⟨cl⟩ := cs
      simp [Value.cells, Lk.cells] at hy
      subst hy
      exact ⟨y, rfl⟩
    | _ => simp [lockFields] at hl
end
end Go.Proofs.Ytjppfhgkanbemaa
