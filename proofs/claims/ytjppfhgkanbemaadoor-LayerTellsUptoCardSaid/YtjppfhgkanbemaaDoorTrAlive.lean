/-
  tracelaw3's closed fact.
-/
import Derived.Test.YtjppfhgkanbemaaDoorTrSame
import Derived.KernelRfl
namespace Go.Proofs.YtjppfhgkanbemaaDoor
open Go.RowKit Go.Shelf Go.Sort

/-- A literal of entries. -/
theorem EnRd.lit (w : World) (l : List En) {cs : Array Value} (h : cs = (En.flat l).toArray) : EnRd (w.alloc (.cells cs 43)) (w.heap.size + 1) (some ⟨w.heap.size, 0, none⟩) l := by
  subst h
  refine ⟨eflat_len l, fun _ => ⟨_, 0, rfl, Nat.lt_succ_self _, fun j u hu => ?_⟩⟩
  rw [Nat.zero_add]
  exact ((Blk.new w _ (En.flat l)).cell j).trans hu

def aA : En := ⟨⟨#[97]⟩, 2, ⟨#[]⟩, false⟩
def aB : En := ⟨⟨#[97, 47, 98]⟩, 1, ⟨#[]⟩, false⟩
def aC : En := ⟨⟨#[99]⟩, 1, ⟨#[]⟩, false⟩
def aO : En := ⟨⟨#[97]⟩, 2, ⟨#[]⟩, true⟩
def aW : En := ⟨⟨#[99]⟩, 4, ⟨#[]⟩, false⟩
theorem alive_over : Tr.over [aO, aW] [aA, aB, aC] = ([aA], 0) := by kernel_rfl
theorem alive_hides : Tr.hides [aW] [99] = true := by kernel_rfl
theorem alive_srt : Tr.Srt [aW] := List.pairwise_singleton _ _

set_option maxHeartbeats 2000000 in
theorem layAlive_any (w : World) : Calls Tryd.prog 25 #[] w fun e w' => e = .returned (.bool true) ∧ Below w.heap.size w w' := by
  have hT : EnRd (w.alloc (.cells #[.string ⟨#[97]⟩, .int .i64 2, .string ⟨#[]⟩, .bool false, .string ⟨#[97, 47, 98]⟩, .int .i64 1, .string ⟨#[]⟩, .bool false, .string ⟨#[99]⟩, .int .i64 1, .string ⟨#[]⟩, .bool false] 43)) (w.heap.size + 1) (some ⟨w.heap.size, 0, none⟩) [aA, aB, aC] := EnRd.lit w _ rfl
  have hB1 : Below w.heap.size w (w.alloc (.cells #[.string ⟨#[97]⟩, .int .i64 2, .string ⟨#[]⟩, .bool false, .string ⟨#[97, 47, 98]⟩, .int .i64 1, .string ⟨#[]⟩, .bool false, .string ⟨#[99]⟩, .int .i64 1, .string ⟨#[]⟩, .bool false] 43)) := (Below.refl _ _).alloc (Nat.le_refl _) _
  go_enter Tryd.func25, Tryd.ntmps25
  go_wp2_with fail
  have hO : EnRd ((w.alloc (.cells #[.string ⟨#[97]⟩, .int .i64 2, .string ⟨#[]⟩, .bool false, .string ⟨#[97, 47, 98]⟩, .int .i64 1, .string ⟨#[]⟩, .bool false, .string ⟨#[99]⟩, .int .i64 1, .string ⟨#[]⟩, .bool false] 43)).alloc (.cells #[.string ⟨#[97]⟩, .int .i64 2, .string ⟨#[]⟩, .bool true, .string ⟨#[99]⟩, .int .i64 4, .string ⟨#[]⟩, .bool false] 43)) (w.heap.size + 1 + 1) (some ⟨w.heap.size + 1, 0, none⟩) [aO, aW] := by
    have h := EnRd.lit (w.alloc (.cells #[.string ⟨#[97]⟩, .int .i64 2, .string ⟨#[]⟩, .bool false, .string ⟨#[97, 47, 98]⟩, .int .i64 1, .string ⟨#[]⟩, .bool false, .string ⟨#[99]⟩, .int .i64 1, .string ⟨#[]⟩, .bool false] 43)) [aO, aW] rfl
    rw [World.size_alloc] at h
    exact h
  have hT2 := (Rd.alloc hT (Nat.le_of_eq (World.size_alloc _ _).symm) (.cells #[.string ⟨#[97]⟩, .int .i64 2, .string ⟨#[]⟩, .bool true, .string ⟨#[99]⟩, .int .i64 4, .string ⟨#[]⟩, .bool false] 43)).more (Nat.le_succ (w.heap.size + 1))
  have hB2 := hB1.alloc hB1.size (.cells #[.string ⟨#[97]⟩, .int .i64 2, .string ⟨#[]⟩, .bool true, .string ⟨#[99]⟩, .int .i64 4, .string ⟨#[]⟩, .bool false] 43)
  have hz2 : ((w.alloc (.cells #[.string ⟨#[97]⟩, .int .i64 2, .string ⟨#[]⟩, .bool false, .string ⟨#[97, 47, 98]⟩, .int .i64 1, .string ⟨#[]⟩, .bool false, .string ⟨#[99]⟩, .int .i64 1, .string ⟨#[]⟩, .bool false] 43)).alloc (.cells #[.string ⟨#[97]⟩, .int .i64 2, .string ⟨#[]⟩, .bool true, .string ⟨#[99]⟩, .int .i64 4, .string ⟨#[]⟩, .bool false] 43)).heap.size = w.heap.size + 1 + 1 := by rw [World.size_alloc, World.size_alloc]
  generalize (w.alloc (.cells #[.string ⟨#[97]⟩, .int .i64 2, .string ⟨#[]⟩, .bool false, .string ⟨#[97, 47, 98]⟩, .int .i64 1, .string ⟨#[]⟩, .bool false, .string ⟨#[99]⟩, .int .i64 1, .string ⟨#[]⟩, .bool false] 43)).alloc (.cells #[.string ⟨#[97]⟩, .int .i64 2, .string ⟨#[]⟩, .bool true, .string ⟨#[99]⟩, .int .i64 4, .string ⟨#[]⟩, .bool false] 43) = w2 at *
  have cO : Calls Tryd.prog 26 #[.slice (some ⟨w.heap.size + 1, 0, none⟩) 2 2, .slice (some ⟨w.heap.size, 0, none⟩) 3 3] w2 (OverRel [aO, aW] [aA, aB, aC] w2) :=
    over_any (some ⟨w.heap.size + 1, 0, none⟩) (some ⟨w.heap.size, 0, none⟩) 2 3 [aO, aW] [aA, aB, aC] w2 (by rw [hz2]; exact hO) (by rw [hz2]; exact hT2) (by decide) (by decide)
      (fun e he => by simp only [List.mem_cons, List.mem_nil_iff, or_false] at he; rcases he with rfl | rfl <;> exact ⟨by decide, by decide⟩)
      (fun e he => by simp only [List.mem_cons, List.mem_nil_iff, or_false] at he; rcases he with rfl | rfl | rfl <;> exact ⟨by decide, by decide⟩) (by decide) (by decide)
  unfold OverRel at cO
  rw [alive_over] at cO
  clear hO hT2 hT hB1 hz2
  dsimp only at cO
  refine cO.mono ?_
  rintro e w3 ⟨v, rfl, ho, hb⟩
  have hB3 := hB2.trans (hb.mono hB2.size)
  clear cO hb hB2
  obtain ⟨A, c, rfl, hc, hr⟩ := EnOwn.rd ho
  obtain ⟨b, o, rfl, hbz, h0, h1, h2, h3⟩ := hr.at_ (k := 0) (by decide)
  simp only [Nat.zero_mul, Nat.add_zero] at h0 h1 h2 h3
  replace h0 : w3.cell? ⟨b, o, none⟩ = some (.string ⟨#[97]⟩) := h0
  replace h3 : w3.cell? ⟨b, o + 3, none⟩ = some (.bool false) := h3
  clear h1 h2 hr ho
  have hl : ([aA] : List En).length = 1 := rfl
  rw [hl]
  go_wp2_with fail
  have hW : EnRd (w3.alloc (.cells #[.string ⟨#[99]⟩, .int .i64 4, .string ⟨#[]⟩, .bool false] 43)) (w3.heap.size + 1) (some ⟨w3.heap.size, 0, none⟩) [aW] := EnRd.lit w3 _ rfl
  have hB4 := hB3.alloc hB3.size (.cells #[.string ⟨#[99]⟩, .int .i64 4, .string ⟨#[]⟩, .bool false] 43)
  have cH : Calls Tryd.prog 29 #[.slice (some ⟨w3.heap.size, 0, none⟩) 1 1, .string ⟨#[99]⟩] (w3.alloc (.cells #[.string ⟨#[99]⟩, .int .i64 4, .string ⟨#[]⟩, .bool false] 43)) _ :=
    hides_any (some ⟨w3.heap.size, 0, none⟩) 1 [aW] ⟨#[99]⟩ _ (by rw [World.size_alloc]; exact hW)
      (fun e he => by simp only [List.mem_cons, List.mem_nil_iff, or_false] at he; subst he; exact ⟨by decide, by decide⟩) alive_srt (by decide) (by decide)
  refine cH.mono ?_
  rintro e w5 ⟨rfl, hb⟩
  have hB5 := hB4.trans (hb.mono hB4.size)
  have hh : Tr.hides [aW] (⟨#[99]⟩ : ByteArray).data.toList = true := alive_hides
  rw [hh]
  go_wp2_with fail
  go_ret
  exact ⟨rfl, hB5⟩
end Go.Proofs.YtjppfhgkanbemaaDoor
