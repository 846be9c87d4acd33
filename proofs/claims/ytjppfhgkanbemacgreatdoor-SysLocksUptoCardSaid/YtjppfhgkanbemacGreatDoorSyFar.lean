/-
  Blocks and cells beside a box of four cells that is written.
-/
import Derived.Test.YtjppfhgkanbemacGreatDoorSyDr
namespace Go.Proofs.YtjppfhgkanbemacGreatDoor
open Go.RowKit Go.Shelf Go.Sort

theorem wp_any {P : Program} {c : Code} {Q : Exit → Act → World → Prop} {a : Act} {W : World} (F : World → Prop) (hF : F W) (h : ∀ W', F W' → Code.wp P c Q a W') : Code.wp P c Q a W := h W hF
theorem Blk.far4 {w : World} {g G : Nat} {t : TypeId} {cs : List Value} (h : Blk w g t cs) (hne : g ≠ G) (a b c d : Value) : Blk ((((w.setCell ⟨G, 0, none⟩ a).setCell ⟨G, 1, none⟩ b).setCell ⟨G, 2, none⟩ c).setCell ⟨G, 3, none⟩ d) g t cs :=
  (((h.far (p := ⟨G, 0, none⟩) hne a).far (p := ⟨G, 1, none⟩) hne b).far (p := ⟨G, 2, none⟩) hne c).far (p := ⟨G, 3, none⟩) hne d
theorem cell_far {w : World} {p q : Addr} {u v : Value} (h : w.cell? q = some v) (hne : q.block ≠ p.block) : (w.setCell p u).cell? q = some v := (World.cell?_of_block (Below.heap_setCell w p u q.block hne)).trans h
theorem cell_far4 {w : World} {b o G : Nat} {v : Value} (h : w.cell? ⟨b, o, none⟩ = some v) (hne : b ≠ G) (x y z t : Value) : ((((w.setCell ⟨G, 0, none⟩ x).setCell ⟨G, 1, none⟩ y).setCell ⟨G, 2, none⟩ z).setCell ⟨G, 3, none⟩ t).cell? ⟨b, o, none⟩ = some v :=
  cell_far (cell_far (cell_far (cell_far h hne) hne) hne) hne
theorem cell_alloc {w : World} {b o : Nat} {v : Value} (h : w.cell? ⟨b, o, none⟩ = some v) (x : Obj) : (w.alloc x).cell? ⟨b, o, none⟩ = some v :=
  (((Below.refl w.heap.size w).alloc (Nat.le_refl _) x).cell (p := ⟨b, o, none⟩) (World.block_lt_of_cell? w _ h)).trans h
theorem _root_.Go.RowKit.Below.set4 {B : Nat} {w0 w : World} (h : Below B w0 w) {G : Nat} (hle : B ≤ G) (a b c d : Value) : Below B w0 ((((w.setCell ⟨G, 0, none⟩ a).setCell ⟨G, 1, none⟩ b).setCell ⟨G, 2, none⟩ c).setCell ⟨G, 3, none⟩ d) :=
  (((h.setCell (p := ⟨G, 0, none⟩) hle a).setCell (p := ⟨G, 1, none⟩) hle b).setCell (p := ⟨G, 2, none⟩) hle c).setCell (p := ⟨G, 3, none⟩) hle d
theorem ne_shown {w : World} {G b o : Nat} {t : TypeId} {x y : Int} (hz : Blk w G t [.slice none 0 0, .slice none 0 0, .slice none 0 0, .int .i64 0]) (h0 : w.cell? ⟨b, o, none⟩ = some (.int .i64 x)) (h1 : w.cell? ⟨b, o + 1, none⟩ = some (.int .i64 y)) : b ≠ G := by
  intro e
  subst e
  have h0 := (hz.cell o).symm.trans h0
  have h1 := (hz.cell (o + 1)).symm.trans h1
  match o, h0, h1 with
  | 0, h0, _ => cases h0
  | 1, h0, _ => cases h0
  | 2, h0, _ => cases h0
  | 3, _, h1 => cases h1
  | o + 4, h0, _ => cases h0
end Go.Proofs.YtjppfhgkanbemacGreatDoor
