/-
  A union as a row's argument, read off.
-/
import Derived.Test.YtjppfhgkanbemacGreatDoorTrRow
import Derived.Test.YtjppfhgkanbemacGreatDoorMI
namespace Go.Proofs.YtjppfhgkanbemacGreatDoor
open Go.RowKit Go.ChangeShapes Go.WideShapes Go.Deep

noncomputable def fieldsOf : TypeDesc → List (Nat × Nat × TypeId)
  | .struct fs => fs.toList.map fun f => (f.offset, Tryz.prog.cellsOf f.type, f.type)
  | _ => []
theorem union_fields : (Tryz.prog.underlying 26).map fieldsOf = some [(0, 1, 23), (1, 1, 24)] := by kernel_rfl
theorem union_cells : Tryz.prog.cellsOf 26 = 2 := by kernel_rfl

section
variable {H : Type} {enc : TypeId × Value → H} {w : World} {base : Nat} {spare : Nat → Bool} {held : Bool}
/-- A list of trees, by its one cell. -/
theorem open_trees_cell {fuel : Nat} {v : Value} {x : DataW H × List MemPlace} (hk : Rows.uptoBulk x.1 ≤ 1048576) (hf : DataW.trod enc Tryz.prog w base spare held fuel 24 [v] = some x) :
    ∃ A c, ∃ ls : List (List En), v = .slice A ls.length c ∧ ls.length ≤ c ∧ ls.length ≤ 1048576 ∧ TsRd w w.heap.size A ls ∧ (∀ l ∈ ls, Sm l ∧ l.length ≤ 1048576) ∧ (A = none → c = 0) := by
  rcases open_slice Tryz.underlying24 hf with ⟨hcs, _⟩ | ⟨a, len0, cap0, m, n, D, Pl, hcs, _, hl, hm, hmm, hx, hi⟩
  · simp at hcs
    subst hcs
    exact ⟨none, 0, [], rfl, Nat.le_refl _, by decide, ⟨[], Rd.nil, fun k h => by cases h⟩, fun _ h => (nomatch h), fun _ => rfl⟩
  · simp at hcs
    subst hcs
    have hml : len0 ≤ m := by rw [hmm]; split <;> omega
    have hd := congrArg Prod.fst hx
    dsimp only at hd
    have hbulk : Rows.uptoBulkAll ((List.range len0).map D) ≤ 1048576 := by
      rw [hd] at hk
      simp only [Rows.uptoBulk] at hk
      omega
    have key : ∀ i, i < len0 → ∃ (u : Value) (A : Option Addr) (c : Nat) (l : List En), w.cell? (a.add i) = some u ∧ u = .slice A l.length c ∧ l.length ≤ c ∧ l.length ≤ 1048576 ∧ EnRd w w.heap.size A l ∧ Sm l := by
      intro i hi'
      obtain ⟨cs', hc, ht⟩ := hi i (by omega)
      rw [tree_cells, Nat.mul_one] at hc
      obtain ⟨hlen, _, hat⟩ := World.cells?_some hc
      have hb : Rows.uptoBulk (D i) ≤ 1048576 := by
        have : D i ∈ (List.range len0).map D := List.mem_map.2 ⟨i, List.mem_range.2 hi', rfl⟩
        have := bulk_part this
        omega
      match cs', hlen with
      | [u], _ =>
        obtain ⟨A, c, l, h1, h2, h3, h4, h5⟩ := open_tree_cell (x := (D i, Pl i)) hb ht
        refine ⟨u, A, c, l, ?_, h1, h2, h3, h4, h5⟩
        have := hat 0 (by omega)
        rw [show (a.add i).add 0 = a.add i from rfl] at this
        exact this
    have hlen : len0 ≤ 1048576 := by
      have := bulk_len ((List.range len0).map D)
      simp only [List.length_map, List.length_range] at this
      omega
    have build : ∀ n, n ≤ len0 → ∃ (vs : List Value) (ls : List (List En)), vs.length = n ∧ ls.length = n ∧ (∀ k (h : k < vs.length), w.cell? (a.add k) = some vs[k]) ∧ (∀ k (h : k < ls.length), ∃ Ak ck, vs[k]? = some (.slice Ak ls[k].length ck) ∧ ls[k].length ≤ ck ∧ EnRd w w.heap.size Ak ls[k]) ∧ (∀ l ∈ ls, Sm l ∧ l.length ≤ 1048576) := by
      intro n
      induction n with
      | zero => intro _; exact ⟨[], [], rfl, rfl, (fun k h => absurd h (Nat.not_lt_zero k)), (fun k h => absurd h (Nat.not_lt_zero k)), fun _ h => (nomatch h)⟩
      | succ n ih =>
        intro hn
        obtain ⟨vs, ls, e1, e2, c1, c2, c3⟩ := ih (by omega)
        obtain ⟨u, A, c, l, k1, k2, k3, k4, k5, k6⟩ := key n (by omega)
        refine ⟨vs ++ [u], ls ++ [l], by simp [e1], by simp [e2], fun k h => ?_, fun k h => ?_, fun x hx => ?_⟩
        · by_cases e : k < vs.length
          · rw [List.getElem_append_left e]; exact c1 k e
          · have : k = n := by simp at h; omega
            subst this
            rw [List.getElem_append_right (by omega)]
            simpa [e1] using k1
        · by_cases e : k < ls.length
          · obtain ⟨Ak, ck, f1, f2, f3⟩ := c2 k e
            rw [List.getElem_append_left e]
            exact ⟨Ak, ck, by rw [List.getElem?_append_left (by omega)]; exact f1, f2, f3⟩
          · have : k = n := by simp at h; omega
            subst this
            rw [List.getElem_append_right (by omega)]
            refine ⟨A, c, ?_, ?_, ?_⟩
            · rw [List.getElem?_append_right (by omega)]; simp [e1, e2, k2]
            · simpa [e2] using k3
            · simpa [e2] using k5
        · rcases List.mem_append.1 hx with h | h
          · exact c3 x h
          · rw [List.mem_singleton.1 h]; exact ⟨k6, by omega⟩
    obtain ⟨vs, ls, e1, e2, c1, c2, c3⟩ := build len0 (Nat.le_refl _)
    refine ⟨some a, cap0, ls, by rw [e2], by omega, by omega, ⟨vs, ⟨by rw [e1, e2]; simp, fun hn => ?_⟩, c2⟩, c3, fun h => by cases h⟩
    obtain ⟨b, off, spot⟩ := a
    have h00 := c1 0 (by omega)
    have hspot : spot = none := by simpa [Addr.add] using World.cell?_spot h00
    subst hspot
    have hb : b < w.heap.size := by simpa [add_plain] using World.block_lt_of_cell? w _ h00
    refine ⟨b, off, rfl, hb, fun j u hu => ?_⟩
    have hj : j < vs.length := (List.getElem?_eq_some_iff.1 hu).1
    have := c1 j hj
    rw [add_plain] at this
    rw [this]
    rw [List.getElem?_eq_getElem hj] at hu
    exact hu

set_option maxRecDepth 100000 in
/-- A union by value. -/
theorem open_union {v : Value} {d : DataW H} {p : List MemPlace} {r : Reach} {b0 : Nat} (hk : Rows.uptoBulk d ≤ 1048576) (hv : Value.okWide Tryz.prog w r b0 26 v)
    (h : DataW.Trod enc Tryz.prog w base spare held 26 v d p) :
    ∃ A A' c c', ∃ u : Un, v = .agg #[.slice A u.U.length c, .slice A' u.L.length c'] ∧ UnRd w w.heap.size A A' c c' u ∧ UnSm u ∧ u.U.length ≤ 1048576 := by
  have hl := union_fields
  rcases hu : Tryz.prog.underlying 26 with _ | T
  · rw [hu] at hl; cases hl
  · rw [hu] at hl
    simp only [Option.map_some, Option.some.injEq] at hl
    cases T with
    | struct fs =>
      simp only [fieldsOf] at hl
      obtain ⟨cs0, rfl, _⟩ := okWide_struct hu hv
      obtain ⟨fuel, hf0⟩ := h
      obtain ⟨ys, n, _, hx, hlen, hys, hf⟩ := DataW.trod_struct hu hf0
      rw [union_cells] at hlen
      have hfs : fs.toList.length = 2 := by have := congrArg List.length hl; simpa using this
      obtain ⟨fl⟩ := fs
      obtain ⟨cl⟩ := cs0
      simp only [Value.cells] at hlen hf
      match fl, hfs, ys, hys with
      | [f0, f1], _, [y0, y1], _ =>
        simp only [List.map_cons, List.map_nil, List.cons.injEq, Prod.mk.injEq, and_true] at hl
        obtain ⟨⟨a0, b0, d0⟩, ⟨a1, b1, d1⟩⟩ := hl
        have g0 := hf 0 f0 rfl
        have g1 := hf 1 f1 rfl
        rw [a0, b0, d0] at g0
        rw [a1, b1, d1] at g1
        have hk2 : Rows.uptoBulk y0.1 ≤ 1048576 ∧ Rows.uptoBulk y1.1 ≤ 1048576 := by
          have := congrArg Prod.fst hx
          dsimp only at this
          rw [this] at hk
          simp only [List.map_cons, List.map_nil, Rows.uptoBulk, Rows.uptoBulkAll] at hk
          omega
        match cl, hlen with
        | [c0, c1], _ =>
          obtain ⟨A, c, l, rfl, h2, h3, h4, h5⟩ := open_tree_cell (x := y0) hk2.1 (by simpa using g0)
          obtain ⟨A', c', ls, rfl, k2, k3, k4, k5, k6⟩ := open_trees_cell (x := y1) hk2.2 (by simpa using g1)
          refine ⟨A, A', c, c', ⟨l, ls⟩, rfl, ⟨h4, h2, k4, k6⟩, ⟨fun x hx => ?_, by show ls.length ≤ 2000000; omega, fun x hx => ?_⟩, h3⟩
          · rcases List.mem_cons.1 hx with rfl | hx
            · exact ⟨h5, by omega⟩
            · exact ⟨(k5 x hx).1, by have := (k5 x hx).2; omega⟩
          · rcases List.mem_cons.1 hx with rfl | hx
            · omega
            · have := (k5 x hx).2; omega
    | _ => simp [fieldsOf] at hl
end
end Go.Proofs.YtjppfhgkanbemacGreatDoor
