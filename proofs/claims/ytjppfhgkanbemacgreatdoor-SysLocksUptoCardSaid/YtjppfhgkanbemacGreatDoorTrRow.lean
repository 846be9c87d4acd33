/-
  The rows' arguments: entries, trees, lists of trees, read off as lists, with what the bound on their bulk gives.
-/
import Derived.Test.YtjppfhgkanbemacGreatDoorPtRow
import Derived.Test.YtjppfhgkanbemacGreatDoorMG
import Derived.Deep.Slices
import Derived.Deep.Fields
import Derived.ChangeSame
namespace Go.Proofs.YtjppfhgkanbemacGreatDoor
open Go.RowKit Go.ChangeShapes Go.WideShapes Go.Deep

noncomputable def entryFields : TypeDesc → List (Nat × Nat × Option TypeDesc)
  | .struct fs => fs.toList.map fun f => (f.offset, Tryz.prog.cellsOf f.type, Tryz.prog.underlying f.type)
  | _ => []
theorem entry_fields : (Tryz.prog.underlying 53).map entryFields = some [(0, 1, some .string), (1, 1, some (.int .i64)), (2, 1, some .string), (3, 1, some .bool)] := by kernel_rfl
theorem entry_cells : Tryz.prog.cellsOf 53 = 4 := by kernel_rfl
theorem tree_cells : Tryz.prog.cellsOf 23 = 1 := by kernel_rfl

theorem bulk_len {H : Type} (l : List (DataW H)) : l.length ≤ Rows.uptoBulkAll l := by
  induction l with
  | nil => simp
  | cons x r ih => have := bulk_one x; simp only [Rows.uptoBulkAll, List.length_cons]; omega

section
variable {H : Type} {enc : TypeId × Value → H} {w : World} {base : Nat} {spare : Nat → Bool} {held : Bool}
/-- An entry's four cells. -/
theorem open_entry {fuel : Nat} {cs : List Value} {x : DataW H × List MemPlace} (h : DataW.trod enc Tryz.prog w base spare held fuel 53 cs = some x) : ∃ y : En, cs = y.cells ∧ y.p.size + y.t.size ≤ Rows.uptoBulk x.1 := by
  have hl := entry_fields
  rcases hu : Tryz.prog.underlying 53 with _ | T
  · rw [hu] at hl; cases hl
  · rw [hu] at hl
    simp only [Option.map_some, Option.some.injEq] at hl
    cases T with
    | struct fs =>
      simp only [entryFields] at hl
      obtain ⟨ys, n, _, hx, hlen, hys, hf⟩ := DataW.trod_struct hu h
      rw [entry_cells] at hlen
      have hfs : fs.toList.length = 4 := by have := congrArg List.length hl; simpa using this
      obtain ⟨fl⟩ := fs
      match fl, hfs, cs, hlen, ys, hys with
      | [f0, f1, f2, f3], _, [c0, c1, c2, c3], _, [y0, y1, y2, y3], _ =>
        simp only [List.map_cons, List.map_nil, List.cons.injEq, Prod.mk.injEq, and_true] at hl
        obtain ⟨⟨a0, b0, d0⟩, ⟨a1, b1, d1⟩, ⟨a2, b2, d2⟩, ⟨a3, b3, d3⟩⟩ := hl
        have g0 := hf 0 f0 rfl
        have g1 := hf 1 f1 rfl
        have g2 := hf 2 f2 rfl
        have g3 := hf 3 f3 rfl
        rw [a0, b0] at g0
        rw [a1, b1] at g1
        rw [a2, b2] at g2
        rw [a3, b3] at g3
        obtain ⟨s0, e0, k0, _⟩ := DataW.trod_string d0 (x := y0) g0
        obtain ⟨n1, e1, _⟩ := DataW.trod_int d1 (x := y1) g1
        obtain ⟨s2, e2, k2, _⟩ := DataW.trod_string d2 (x := y2) g2
        obtain ⟨n3, e3, _⟩ := DataW.trod_bool d3 (x := y3) g3
        simp at e0 e1 e2 e3
        refine ⟨⟨s0, n1, s2, n3⟩, by simp [En.cells, e0, e1, e2, e3], ?_⟩
        rw [hx, k0, k2]
        simp only [List.map_cons, List.map_nil, Rows.uptoBulk, Rows.uptoBulkAll, size_length]
        omega
    | _ => simp [entryFields] at hl

theorem elist_of {n : Nat} {P : Nat → En → Prop} (h : ∀ i, i < n → ∃ y, P i y) : ∃ l : List En, l.length = n ∧ ∀ i (hi : i < l.length), P i l[i] := by
  induction n with
  | zero => exact ⟨[], rfl, fun i hi => by cases hi⟩
  | succ n ih =>
    obtain ⟨l, hl, hp⟩ := ih fun i hi => h i (by omega)
    obtain ⟨y, hy⟩ := h n (by omega)
    refine ⟨l ++ [y], by simp [hl], fun i hi => ?_⟩
    by_cases e : i < l.length
    · rw [List.getElem_append_left e]; exact hp i e
    · have : i = n := by simp at hi; omega
      subst this
      rw [List.getElem_append_right (by omega)]
      simpa [hl] using hy

/-- A tree, by its one cell. -/
theorem open_tree_cell {fuel : Nat} {v : Value} {x : DataW H × List MemPlace} (hk : Rows.uptoBulk x.1 ≤ 1048576) (hf : DataW.trod enc Tryz.prog w base spare held fuel 23 [v] = some x) :
    ∃ A c, ∃ l : List En, v = .slice A l.length c ∧ l.length ≤ c ∧ l.length ≤ 1048576 ∧ EnRd w w.heap.size A l ∧ Sm l := by
  rcases open_slice Tryz.underlying23 hf with ⟨hcs, _⟩ | ⟨a, len, cap, m, n, D, Pl, hcs, _, hl, hm, hmm, hx, hi⟩
  · simp at hcs
    subst hcs
    exact ⟨none, 0, [], rfl, Nat.le_refl _, by decide, Rd.nil, fun _ h => (nomatch h)⟩
  · simp at hcs
    subst hcs
    have hml : len ≤ m := by rw [hmm]; split <;> omega
    have hbulk : Rows.uptoBulkAll ((List.range len).map D) ≤ 1048576 := by
      rw [hx] at hk
      simp only [Rows.uptoBulk] at hk
      omega
    have key : ∀ i, i < len → ∃ y : En, (∀ j, j < 4 → w.cell? ((a.add (i * 4)).add j) = y.cells[j]?) ∧ y.p.size + y.t.size ≤ 1048576 := by
      intro i hi'
      obtain ⟨cs', hc, ht⟩ := hi i (by omega)
      rw [entry_cells] at hc
      obtain ⟨_, _, hat⟩ := World.cells?_some hc
      obtain ⟨y, rfl, hb⟩ := open_entry ht
      refine ⟨y, hat, ?_⟩
      have : D i ∈ (List.range len).map D := List.mem_map.2 ⟨i, List.mem_range.2 hi', rfl⟩
      have := bulk_part this
      dsimp only at hb
      omega
    obtain ⟨l, rfl, hp⟩ := elist_of key
    have hlen : l.length ≤ 1048576 := by
      have := bulk_len ((List.range l.length).map D)
      simp only [List.length_map, List.length_range] at this
      omega
    refine ⟨some a, cap, l, rfl, hl, hlen, ⟨eflat_len l, fun hn => ?_⟩, fun e he => ?_⟩
    · obtain ⟨b, off, spot⟩ := a
      have h00 := (hp 0 hn).1 0 (by omega)
      have hs : w.cell? (((⟨b, off, spot⟩ : Addr).add (0 * 4)).add 0) = some (.string l[0].p) := h00
      have hspot : spot = none := by simpa [Addr.add] using World.cell?_spot hs
      subst hspot
      have hb : b < w.heap.size := by simpa [add_plain] using World.block_lt_of_cell? w _ hs
      refine ⟨b, off, rfl, hb, fun j u hu => ?_⟩
      have hj : j < l.length * 4 := by rw [← eflat_len]; exact (List.getElem?_eq_some_iff.1 hu).1
      have hk : j / 4 < l.length := by omega
      have hc := (hp (j / 4) hk).1 (j % 4) (by omega)
      rw [add_plain, add_plain] at hc
      have e : off + j / 4 * 4 + j % 4 = off + j := by omega
      rw [e] at hc
      rw [hc]
      obtain ⟨f0, f1, f2, f3⟩ := eflat_at l (j / 4) hk
      have h4 : j % 4 = 0 ∨ j % 4 = 1 ∨ j % 4 = 2 ∨ j % 4 = 3 := by omega
      rcases h4 with h4 | h4 | h4 | h4
      · rw [show j / 4 * 4 + 0 = j by omega] at f0
        rw [← hu, f0, h4]; rfl
      · rw [show j / 4 * 4 + 1 = j by omega] at f1
        rw [← hu, f1, h4]; rfl
      · rw [show j / 4 * 4 + 2 = j by omega] at f2
        rw [← hu, f2, h4]; rfl
      · rw [show j / 4 * 4 + 3 = j by omega] at f3
        rw [← hu, f3, h4]; rfl
    · obtain ⟨i, hi', rfl⟩ := List.getElem_of_mem he
      have := (hp i hi').2
      omega

set_option maxRecDepth 100000 in
/-- A tree. -/
theorem open_tree {v : Value} {d : DataW H} {p : List MemPlace} {r : Reach} {b0 : Nat} (hk : Rows.uptoBulk d ≤ 1048576) (hv : Value.okWide Tryz.prog w r b0 23 v)
    (h : DataW.Trod enc Tryz.prog w base spare held 23 v d p) :
    ∃ A c, ∃ l : List En, v = .slice A l.length c ∧ l.length ≤ c ∧ l.length ≤ 1048576 ∧ EnRd w w.heap.size A l ∧ Sm l := by
  obtain ⟨a0, len, cap, rfl⟩ := okWide_slice Tryz.underlying23 hv
  obtain ⟨fuel, hf⟩ := h
  exact open_tree_cell (x := (d, p)) hk hf

set_option maxRecDepth 100000 in
/-- An entry by value. -/
theorem open_entryv {v : Value} {d : DataW H} {p : List MemPlace} {r : Reach} {b0 : Nat} (hk : Rows.uptoBulk d ≤ 1048576) (hv : Value.okWide Tryz.prog w r b0 53 v)
    (h : DataW.Trod enc Tryz.prog w base spare held 53 v d p) : ∃ y : En, v = y.agg ∧ y.p.size < 4294967281 ∧ y.t.size < 4294967281 := by
  have hl := entry_fields
  rcases hu : Tryz.prog.underlying 53 with _ | T
  · rw [hu] at hl; cases hl
  · rw [hu] at hl
    simp only [Option.map_some, Option.some.injEq] at hl
    cases T with
    | struct fs =>
      obtain ⟨cs, rfl, _⟩ := okWide_struct hu hv
      obtain ⟨fuel, hf⟩ := h
      obtain ⟨y, hy, hb⟩ := open_entry hf
      obtain ⟨cl⟩ := cs
      simp [Value.cells, En.cells] at hy
      subst hy
      dsimp only at hb
      exact ⟨y, rfl, by omega, by omega⟩
    | _ => simp [entryFields] at hl

set_option maxRecDepth 100000 in
/-- A list of trees. -/
theorem open_trees {v : Value} {d : DataW H} {p : List MemPlace} {r : Reach} {b0 : Nat} (hk : Rows.uptoBulk d ≤ 1048576) (hv : Value.okWide Tryz.prog w r b0 24 v)
    (h : DataW.Trod enc Tryz.prog w base spare held 24 v d p) :
    ∃ A c, ∃ ls : List (List En), v = .slice A ls.length c ∧ ls.length ≤ c ∧ ls.length ≤ 1048576 ∧ TsRd w w.heap.size A ls ∧ Sms ls ∧ (A = none → c = 0) := by
  obtain ⟨a0, len0, cap0, rfl⟩ := okWide_slice Tryz.underlying24 hv
  obtain ⟨fuel, hf⟩ := h
  rcases open_slice Tryz.underlying24 hf with ⟨hcs, _⟩ | ⟨a, len, cap, m, n, D, Pl, hcs, _, hl, hm, hmm, hx, hi⟩
  · simp [Value.cells] at hcs
    obtain ⟨rfl, rfl, rfl⟩ := hcs
    exact ⟨none, 0, [], rfl, Nat.le_refl _, by decide, ⟨[], Rd.nil, fun k h => by cases h⟩, fun _ h => (nomatch h), fun _ => rfl⟩
  · simp [Value.cells] at hcs
    obtain ⟨rfl, rfl, rfl⟩ := hcs
    have hml : len0 ≤ m := by rw [hmm]; split <;> omega
    injection hx with hd _
    have hbulk : Rows.uptoBulkAll ((List.range len0).map D) ≤ 1048576 := by
      rw [hd] at hk
      simp only [Rows.uptoBulk] at hk
      omega
    have key : ∀ i, i < len0 → ∃ (u : Value) (A : Option Addr) (c : Nat) (l : List En), w.cell? (a.add i) = some u ∧ u = .slice A l.length c ∧ l.length ≤ c ∧ l.length ≤ 1048576 ∧ EnRd w w.heap.size A l ∧ Sm l := by
      intro i hi'
      obtain ⟨cs', hc, ht⟩ := hi i (by omega)
      rw [tree_cells, Nat.mul_one] at hc
      obtain ⟨hlen, _, hat⟩ := World.cells?_some hc
      have hb : Rows.uptoBulk (D i) ≤ 1048576 := by
        have : D i ∈ (List.range len0).map D := List.mem_map.2 ⟨i, List.mem_range.2 hi', rfl⟩
        have := bulk_part this
        omega
      match cs', hlen with
      | [u], _ =>
        obtain ⟨A, c, l, h1, h2, h3, h4, h5⟩ := open_tree_cell (x := (D i, Pl i)) hb ht
        refine ⟨u, A, c, l, ?_, h1, h2, h3, h4, h5⟩
        have := hat 0 (by omega)
        rw [show (a.add i).add 0 = a.add i from rfl] at this
        exact this
    have hlen : len0 ≤ 1048576 := by
      have := bulk_len ((List.range len0).map D)
      simp only [List.length_map, List.length_range] at this
      omega
    have build : ∀ n, n ≤ len0 → ∃ (vs : List Value) (ls : List (List En)), vs.length = n ∧ ls.length = n ∧ (∀ k (h : k < vs.length), w.cell? (a.add k) = some vs[k]) ∧ (∀ k (h : k < ls.length), ∃ Ak ck, vs[k]? = some (.slice Ak ls[k].length ck) ∧ ls[k].length ≤ ck ∧ EnRd w w.heap.size Ak ls[k]) ∧ Sms ls := by
      intro n
      induction n with
      | zero => intro _; exact ⟨[], [], rfl, rfl, (fun k h => absurd h (Nat.not_lt_zero k)), (fun k h => absurd h (Nat.not_lt_zero k)), fun _ h => (nomatch h)⟩
      | succ n ih =>
        intro hn
        obtain ⟨vs, ls, e1, e2, c1, c2, c3⟩ := ih (by omega)
        obtain ⟨u, A, c, l, k1, k2, k3, k4, k5, k6⟩ := key n (by omega)
        refine ⟨vs ++ [u], ls ++ [l], by simp [e1], by simp [e2], fun k h => ?_, fun k h => ?_, fun x hx => ?_⟩
        · by_cases e : k < vs.length
          · rw [List.getElem_append_left e]; exact c1 k e
          · have : k = n := by simp at h; omega
            subst this
            rw [List.getElem_append_right (by omega)]
            simpa [e1] using k1
        · by_cases e : k < ls.length
          · obtain ⟨Ak, ck, f1, f2, f3⟩ := c2 k e
            rw [List.getElem_append_left e]
            exact ⟨Ak, ck, by rw [List.getElem?_append_left (by omega)]; exact f1, f2, f3⟩
          · have : k = n := by simp at h; omega
            subst this
            rw [List.getElem_append_right (by omega)]
            refine ⟨A, c, ?_, ?_, ?_⟩
            · rw [List.getElem?_append_right (by omega)]; simp [e1, e2, k2]
            · simpa [e2] using k3
            · simpa [e2] using k5
        · rcases List.mem_append.1 hx with h | h
          · exact c3 x h
          · rw [List.mem_singleton.1 h]; exact ⟨k6, by omega⟩
    obtain ⟨vs, ls, e1, e2, c1, c2, c3⟩ := build len0 (Nat.le_refl _)
    refine ⟨some a, cap0, ls, by rw [e2], by omega, by omega, ⟨vs, ⟨by rw [e1, e2]; simp, fun hn => ?_⟩, c2⟩, c3, fun h => by cases h⟩
    obtain ⟨b, off, spot⟩ := a
    have h00 := c1 0 (by omega)
    have hspot : spot = none := by simpa [Addr.add] using World.cell?_spot h00
    subst hspot
    have hb : b < w.heap.size := by simpa [add_plain] using World.block_lt_of_cell? w _ h00
    refine ⟨b, off, rfl, hb, fun j u hu => ?_⟩
    have hj : j < vs.length := (List.getElem?_eq_some_iff.1 hu).1
    have := c1 j hj
    rw [add_plain] at this
    rw [this]
    rw [List.getElem?_eq_getElem hj] at hu
    exact hu
end
end Go.Proofs.YtjppfhgkanbemacGreatDoor
