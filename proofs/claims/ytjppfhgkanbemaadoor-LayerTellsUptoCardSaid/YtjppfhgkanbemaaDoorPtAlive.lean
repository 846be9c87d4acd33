/-
  The closed fact that is asked first: alive returns true.
-/
import Derived.Test.YtjppfhgkanbemaaDoorPtTells
namespace Go.Proofs.YtjppfhgkanbemaaDoor
open Go.RowKit Go.Shelf

theorem alive_parse : Pt.parse (ByteArray.mk #[47, 97, 47, 46, 47, 98, 47, 46, 46, 47, 99]).data.toList = ([[97], [98], [46, 46], [99]], 0) := by decide
theorem alive_cut : Pt.dirOf (ByteArray.mk #[97, 47, 98]).data.toList = [97] ∧ Pt.nameOf (ByteArray.mk #[97, 47, 98]).data.toList = [98] := by decide
theorem alive_under : Pt.under (ByteArray.mk #[97, 47, 98]).data.toList (ByteArray.mk #[97]).data.toList = true := by decide
theorem alive_clean : Pt.clean (ByteArray.mk #[97, 47, 98]).data.toList = true := by decide
theorem alive_cmp : Pt.cmp (ByteArray.mk #[97, 47, 98]).data.toList (ByteArray.mk #[97, 98]).data.toList = -1 := by decide
theorem alive_join : Pt.join (ByteArray.mk #[]).data.toList (ByteArray.mk #[97]).data.toList = [97] := by decide

set_option maxRecDepth 100000 in
set_option maxHeartbeats 4000000 in
theorem pathAlive_any (w : World) :
    Calls Tryd.prog 24 #[] w fun e w' => e = .returned (.bool true) ∧ Below w.heap.size w w' := by
  have c1 := fun W => parse_any ⟨#[47, 97, 47, 46, 47, 98, 47, 46, 46, 47, 99]⟩ W (by decide)
  have c2 := fun W => cut_any ⟨#[97, 47, 98]⟩ W (by decide)
  have c3 := fun W => under_any ⟨#[97, 47, 98]⟩ ⟨#[97]⟩ W (by decide)
  have c4 := fun W => clean_any ⟨#[97, 47, 98]⟩ W (by decide)
  have c5 := fun W => cmp_any ⟨#[97, 47, 98]⟩ ⟨#[97, 98]⟩ W (by decide) (by decide)
  have c6 := fun W => join_any ⟨#[]⟩ ⟨#[97]⟩ W (by decide) (by decide)
  unfold Parsed at c1
  rw [alive_parse] at c1
  rw [alive_cut.1, alive_cut.2] at c2
  rw [alive_under] at c3
  rw [alive_clean] at c4
  rw [alive_cmp] at c5
  rw [alive_join] at c6
  unfold Pt.str at c2 c6
  have hB := Below.refl w.heap.size w
  go_enter Tryd.func24, Tryd.ntmps24
  go_wp2_with (first
    | (go_at_call 21; refine (c1 _).mono ?_; rintro e w1 ⟨v1, rfl, hS1, hb⟩; replace hB := hB.trans (hb.mono hB.size); obtain ⟨A1, k1, rfl, r1⟩ := hS1.form; clear hb hS1)
    | (go_at_call 16; refine (c2 _).mono ?_; rintro e w2 ⟨rfl, hb⟩; replace hB := hB.trans hb.below; clear hb)
    | (go_at_call 14; refine (c3 _).mono ?_; rintro e w' ⟨rfl, rfl⟩)
    | (go_at_call 12; refine (c4 _).mono ?_; rintro e w4 ⟨rfl, hb⟩; replace hB := hB.trans (hb.mono hB.size); clear hb)
    | (go_at_call 19; refine (c5 _).mono ?_; rintro e w5 ⟨rfl, hb⟩; replace hB := hB.trans (hb.mono hB.size); clear hb)
    | (go_at_call 18; refine (c6 _).mono ?_; rintro e w' ⟨rfl, rfl⟩))
  go_ret
  exact ⟨rfl, hB⟩
end Go.Proofs.YtjppfhgkanbemaaDoor
