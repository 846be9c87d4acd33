/-
  The rows' arguments: calls, read off as a list.
-/
import Derived.Test.YtjppfhgkanbemacGreatDoorTrRow
import Derived.Test.YtjppfhgkanbemacGreatDoorSH
namespace Go.Proofs.YtjppfhgkanbemacGreatDoor
open Go.RowKit Go.ChangeShapes Go.WideShapes Go.Deep

theorem call_fields : (Tryz.prog.underlying 50).map entryFields = some [(0, 1, some (.int .i64)), (1, 1, some (.int .i64)), (2, 1, some (.int .i64)), (3, 1, some (.int .i64)), (4, 1, some (.int .i64)), (5, 1, some .string), (6, 1, some .string), (7, 1, some .string), (8, 1, some .bool)] := by kernel_rfl
theorem call_cells : Tryz.prog.cellsOf 50 = 9 := by kernel_rfl
section
variable {H : Type} {enc : TypeId × Value → H} {w : World} {base : Nat} {spare : Nat → Bool} {held : Bool}
/-- A call's nine cells. -/
theorem open_call {fuel : Nat} {cs : List Value} {x : DataW H × List MemPlace} (h : DataW.trod enc Tryz.prog w base spare held fuel 50 cs = some x) : ∃ y : Ca, cs = y.cells ∧ y.path.size + y.to.size + y.text.size ≤ Rows.uptoBulk x.1 := by
  have hl := call_fields
  rcases hu : Tryz.prog.underlying 50 with _ | T
  · rw [hu] at hl; cases hl
  · rw [hu] at hl
    simp only [Option.map_some, Option.some.injEq] at hl
    cases T with
    | struct fs =>
      simp only [entryFields] at hl
      obtain ⟨ys, n, _, hx, hlen, hys, hf⟩ := DataW.trod_struct hu h
      rw [call_cells] at hlen
      have hfs : fs.toList.length = 9 := by have := congrArg List.length hl; simpa using this
      obtain ⟨fl⟩ := fs
      match fl, hfs, cs, hlen, ys, hys with
      | [f0, f1, f2, f3, f4, f5, f6, f7, f8], _, [c0, c1, c2, c3, c4, c5, c6, c7, c8], _, [y0, y1, y2, y3, y4, y5, y6, y7, y8], _ =>
        simp only [List.map_cons, List.map_nil, List.cons.injEq, Prod.mk.injEq, and_true] at hl
        obtain ⟨⟨a0, b0, d0⟩, ⟨a1, b1, d1⟩, ⟨a2, b2, d2⟩, ⟨a3, b3, d3⟩, ⟨a4, b4, d4⟩, ⟨a5, b5, d5⟩, ⟨a6, b6, d6⟩, ⟨a7, b7, d7⟩, ⟨a8, b8, d8⟩⟩ := hl
        have g0 := hf 0 f0 rfl
        rw [a0, b0] at g0
        have g1 := hf 1 f1 rfl
        rw [a1, b1] at g1
        have g2 := hf 2 f2 rfl
        rw [a2, b2] at g2
        have g3 := hf 3 f3 rfl
        rw [a3, b3] at g3
        have g4 := hf 4 f4 rfl
        rw [a4, b4] at g4
        have g5 := hf 5 f5 rfl
        rw [a5, b5] at g5
        have g6 := hf 6 f6 rfl
        rw [a6, b6] at g6
        have g7 := hf 7 f7 rfl
        rw [a7, b7] at g7
        have g8 := hf 8 f8 rfl
        rw [a8, b8] at g8
        obtain ⟨v0, e0, _⟩ := DataW.trod_int d0 (x := y0) g0
        obtain ⟨v1, e1, _⟩ := DataW.trod_int d1 (x := y1) g1
        obtain ⟨v2, e2, _⟩ := DataW.trod_int d2 (x := y2) g2
        obtain ⟨v3, e3, _⟩ := DataW.trod_int d3 (x := y3) g3
        obtain ⟨v4, e4, _⟩ := DataW.trod_int d4 (x := y4) g4
        obtain ⟨v5, e5, k5, _⟩ := DataW.trod_string d5 (x := y5) g5
        obtain ⟨v6, e6, k6, _⟩ := DataW.trod_string d6 (x := y6) g6
        obtain ⟨v7, e7, k7, _⟩ := DataW.trod_string d7 (x := y7) g7
        obtain ⟨v8, e8, _⟩ := DataW.trod_bool d8 (x := y8) g8
        simp at e0 e1 e2 e3 e4 e5 e6 e7 e8
        refine ⟨⟨v0, v1, v2, v3, v4, v5, v6, v7, v8⟩, by simp [Ca.cells, e0, e1, e2, e3, e4, e5, e6, e7, e8], ?_⟩
        rw [hx, k5, k6, k7]
        simp only [List.map_cons, List.map_nil, Rows.uptoBulk, Rows.uptoBulkAll, size_length]
        omega
    | _ => simp [entryFields] at hl
theorem clist_of {n : Nat} {P : Nat → Ca → Prop} (h : ∀ i, i < n → ∃ y, P i y) : ∃ l : List Ca, l.length = n ∧ ∀ i (hi : i < l.length), P i l[i] := by
  induction n with
  | zero => exact ⟨[], rfl, fun i hi => by cases hi⟩
  | succ n ih =>
    obtain ⟨l, hl, hp⟩ := ih fun i hi => h i (by omega)
    obtain ⟨y, hy⟩ := h n (by omega)
    refine ⟨l ++ [y], by simp [hl], fun i hi => ?_⟩
    by_cases e : i < l.length
    · rw [List.getElem_append_left e]; exact hp i e
    · have : i = n := by simp at hi; omega
      subst this
      rw [List.getElem_append_right (by omega)]
      simpa [hl] using hy
/-- Calls, by their one cell. -/
theorem open_calls_cell {fuel : Nat} {v : Value} {x : DataW H × List MemPlace} (hk : Rows.uptoBulk x.1 ≤ 1048576) (hf : DataW.trod enc Tryz.prog w base spare held fuel 27 [v] = some x) :
    ∃ A c, ∃ l : List Ca, v = .slice A l.length c ∧ l.length ≤ c ∧ l.length ≤ 1048576 ∧ CasRd w A l ∧ ∀ y ∈ l, CaSm y := by
  rcases open_slice Tryz.underlying27 hf with ⟨hcs, _⟩ | ⟨a, len, cap, m, n, D, Pl, hcs, _, hl, hm, hmm, hx, hi⟩
  · simp at hcs
    subst hcs
    exact ⟨none, 0, [], rfl, Nat.le_refl _, by decide, fun k hk => absurd hk (Nat.not_lt_zero k), fun _ h => (nomatch h)⟩
  · simp at hcs
    subst hcs
    have hml : len ≤ m := by rw [hmm]; split <;> omega
    have hbulk : Rows.uptoBulkAll ((List.range len).map D) ≤ 1048576 := by
      rw [hx] at hk
      simp only [Rows.uptoBulk] at hk
      omega
    have key : ∀ i, i < len → ∃ y : Ca, (∀ j, j < 9 → w.cell? ((a.add (i * 9)).add j) = y.cells[j]?) ∧ y.path.size + y.to.size + y.text.size ≤ 1048576 := by
      intro i hi'
      obtain ⟨cs', hc, ht⟩ := hi i (by omega)
      rw [call_cells] at hc
      obtain ⟨_, _, hat⟩ := World.cells?_some hc
      obtain ⟨y, rfl, hb⟩ := open_call ht
      refine ⟨y, hat, ?_⟩
      have : D i ∈ (List.range len).map D := List.mem_map.2 ⟨i, List.mem_range.2 hi', rfl⟩
      have := bulk_part this
      dsimp only at hb
      omega
    obtain ⟨l, rfl, hp⟩ := clist_of key
    have hlen : l.length ≤ 1048576 := by
      have := bulk_len ((List.range l.length).map D)
      simp only [List.length_map, List.length_range] at this
      omega
    refine ⟨some a, cap, l, rfl, hl, hlen, fun k hk' => ?_, fun e he => ?_⟩
    · obtain ⟨b, off, spot⟩ := a
      have h0 : 0 < l.length := Nat.lt_of_le_of_lt (Nat.zero_le _) hk'
      have h00 := (hp 0 h0).1 0 (by omega)
      have hs : w.cell? (((⟨b, off, spot⟩ : Addr).add (0 * 9)).add 0) = some (.int .i64 (l[0]'h0).kind) := h00
      have hspot : spot = none := by simpa [Addr.add] using World.cell?_spot hs
      subst hspot
      have hb : b < w.heap.size := by simpa [add_plain] using World.block_lt_of_cell? w _ hs
      have hc : ∀ j, j < 9 → w.cell? ⟨b, off + k * 9 + j, none⟩ = l[k].cells[j]? := fun j hj => by
        have h1 := (hp k hk').1 j hj
        rw [add_plain, add_plain] at h1
        exact h1
      have hz : ∀ j v, j < 9 → l[k].cells[j]? = some v → w.cell? ⟨b, off + k * 9 + j, none⟩ = some v := fun j v hj h => (hc j hj).trans h
      clear hc
      generalize l[k] = y at hz
      obtain ⟨y0, y1, y2, y3, y4, y5, y6, y7, y8⟩ := y
      exact ⟨b, off, rfl, hb, hz 0 _ (by decide) rfl, hz 1 _ (by decide) rfl, hz 2 _ (by decide) rfl, hz 3 _ (by decide) rfl, hz 4 _ (by decide) rfl, hz 5 _ (by decide) rfl, hz 6 _ (by decide) rfl, hz 7 _ (by decide) rfl, hz 8 _ (by decide) rfl⟩
    · obtain ⟨i, hi', rfl⟩ := List.getElem_of_mem he
      have h1 := (hp i hi').2
      exact ⟨by omega, by omega, by omega⟩
set_option maxRecDepth 100000 in
/-- Calls. -/
theorem open_calls {v : Value} {d : DataW H} {p : List MemPlace} {r : Reach} {b0 : Nat} (hk : Rows.uptoBulk d ≤ 1048576) (hv : Value.okWide Tryz.prog w r b0 27 v)
    (h : DataW.Trod enc Tryz.prog w base spare held 27 v d p) : ∃ A c, ∃ l : List Ca, v = .slice A l.length c ∧ l.length ≤ c ∧ l.length ≤ 1048576 ∧ CasRd w A l ∧ ∀ y ∈ l, CaSm y := by
  obtain ⟨a0, len, cap, rfl⟩ := okWide_slice Tryz.underlying27 hv
  obtain ⟨fuel, hf⟩ := h
  exact open_calls_cell (x := (d, p)) hk hf
end
end Go.Proofs.YtjppfhgkanbemacGreatDoor
