/-
  The row's arguments: a lock by value, read off as numbers.
-/
import Derived.Test.YtjppfhgkanbemacGreatDoorLkWalks
import Derived.Deep.Slices
import Derived.Deep.Fields
import Derived.ProofKit
import Derived.ChangeSame
namespace Go.Proofs.YtjppfhgkanbemacGreatDoor
open Go.RowKit Go.ChangeShapes Go.WideShapes Go.Deep

noncomputable def lockFields : TypeDesc → List (Nat × Nat × Option TypeDesc)
  | .struct fs => fs.toList.map fun f => (f.offset, Tryz.prog.cellsOf f.type, Tryz.prog.underlying f.type)
  | _ => []
theorem lock_fields : (Tryz.prog.underlying 58).map lockFields = some [(0, 1, some (.int .i64)), (1, 1, some (.int .i64)), (2, 1, some (.int .i64)), (3, 1, some .bool)] := by kernel_rfl
theorem lock_cells : Tryz.prog.cellsOf 58 = 4 := by kernel_rfl

section
variable {H : Type} {enc : TypeId × Value → H} {w : World} {base : Nat} {spare : Nat → Bool} {held : Bool}
/-- A lock's four cells. -/
theorem open_lock {fuel : Nat} {cs : List Value} {x : DataW H × List MemPlace} (h : DataW.trod enc Tryz.prog w base spare held fuel 58 cs = some x) : ∃ y : Lk, cs = y.cells := by
  have hl := lock_fields
  rcases hu : Tryz.prog.underlying 58 with _ | T
  · rw [hu] at hl; cases hl
  · rw [hu] at hl
    simp only [Option.map_some, Option.some.injEq] at hl
    cases T with
    | struct fs =>
      simp only [lockFields] at hl
      obtain ⟨ys, n, _, _, hlen, hys, hf⟩ := DataW.trod_struct hu h
      rw [lock_cells] at hlen
      have hfs : fs.toList.length = 4 := by have := congrArg List.length hl; simpa using this
      obtain ⟨fl⟩ := fs
      match fl, hfs, cs, hlen, ys, hys with
      | [f0, f1, f2, f3], _, [c0, c1, c2, c3], _, [y0, y1, y2, y3], _ =>
        simp only [List.map_cons, List.map_nil, List.cons.injEq, Prod.mk.injEq, and_true] at hl
        obtain ⟨⟨a0, b0, d0⟩, ⟨a1, b1, d1⟩, ⟨a2, b2, d2⟩, ⟨a3, b3, d3⟩⟩ := hl
        have g0 := hf 0 f0 rfl
        have g1 := hf 1 f1 rfl
        have g2 := hf 2 f2 rfl
        have g3 := hf 3 f3 rfl
        rw [a0, b0] at g0
        rw [a1, b1] at g1
        rw [a2, b2] at g2
        rw [a3, b3] at g3
        obtain ⟨n0, e0, _⟩ := DataW.trod_int d0 (x := y0) g0
        obtain ⟨n1, e1, _⟩ := DataW.trod_int d1 (x := y1) g1
        obtain ⟨n2, e2, _⟩ := DataW.trod_int d2 (x := y2) g2
        obtain ⟨n3, e3, _⟩ := DataW.trod_bool d3 (x := y3) g3
        simp at e0 e1 e2 e3
        exact ⟨⟨n0, n1, n2, n3⟩, by simp [Lk.cells, e0, e1, e2, e3]⟩
    | _ => simp [lockFields] at hl

set_option maxRecDepth 100000 in
/-- A lock by value. -/
theorem open_lockv {v : Value} {d : DataW H} {p : List MemPlace} {r : Reach} {b0 : Nat} (hv : Value.okWide Tryz.prog w r b0 58 v)
    (h : DataW.Trod enc Tryz.prog w base spare held 58 v d p) : ∃ y : Lk, v = .agg #[.int .i64 y.o, .int .i64 y.f, .int .i64 y.t, .bool y.a] := by
  have hl := lock_fields
  rcases hu : Tryz.prog.underlying 58 with _ | T
  · rw [hu] at hl; cases hl
  · rw [hu] at hl
    simp only [Option.map_some, Option.some.injEq] at hl
    cases T with
    | struct fs =>
      obtain ⟨cs, rfl, _⟩ := okWide_struct hu hv
      obtain ⟨fuel, hf⟩ := h
      obtain ⟨y, hy⟩ := open_lock hf
      obtain ⟨cl⟩ := cs
      simp [Value.cells, Lk.cells] at hy
      subst hy
      exact ⟨y, rfl⟩
    | _ => simp [lockFields] at hl
end
end Go.Proofs.YtjppfhgkanbemacGreatDoor
