/-
  tracelaw4's small union and its closed fact.
-/
import Derived.Test.YtjppfhgkanbemabDoorUnMoveW
import Derived.KernelRfl
namespace Go.Proofs.YtjppfhgkanbemabDoor
open Go.RowKit Go.Shelf Go.Sort

def uA : En := ⟨⟨#[97]⟩, 2, ⟨#[]⟩, false⟩
def uB : En := ⟨⟨#[97, 47, 98]⟩, 1, ⟨#[120]⟩, false⟩
def uW : En := ⟨⟨#[97, 47, 98]⟩, 4, ⟨#[]⟩, false⟩
def uS : Un := ⟨[], [[uA, uB]]⟩
theorem uS_rem : Tr.removeU uS [97, 47, 98] = (⟨[uA, uW], [[uA, uB]]⟩, 0) := by kernel_rfl
theorem uS_seen : Tr.seenU ⟨[uA, uW], [[uA, uB]]⟩ = ([uA], 0) := by kernel_rfl
theorem uS_look : Tr.lookU uS [97, 47, 98] = (uB, 1, 0) := by kernel_rfl
theorem uS_sm : UnSm uS := by
  refine ⟨fun l hl => ?_, by decide, fun l hl => ?_⟩
  · have hl : l = [] ∨ l = [uA, uB] := by simpa [Un.all, uS] using hl
    rcases hl with rfl | rfl
    · exact ⟨fun _ h => (nomatch h), by decide⟩
    · exact ⟨fun e he => by simp only [List.mem_cons, List.mem_nil_iff, or_false] at he; rcases he with rfl | rfl <;> exact ⟨by decide, by decide⟩, by decide⟩
  · have hl : l = [] ∨ l = [uA, uB] := by simpa [Un.all, uS] using hl
    rcases hl with rfl | rfl <;> decide
theorem uS_sm2 : UnSm ⟨[uA, uW], [[uA, uB]]⟩ := by
  refine ⟨fun l hl => ?_, by decide, fun l hl => ?_⟩
  · have hl : l = [uA, uW] ∨ l = [uA, uB] := by simpa [Un.all] using hl
    rcases hl with rfl | rfl
    · exact ⟨fun e he => by simp only [List.mem_cons, List.mem_nil_iff, or_false] at he; rcases he with rfl | rfl <;> exact ⟨by decide, by decide⟩, by decide⟩
    · exact ⟨fun e he => by simp only [List.mem_cons, List.mem_nil_iff, or_false] at he; rcases he with rfl | rfl <;> exact ⟨by decide, by decide⟩, by decide⟩
  · have hl : l = [uA, uW] ∨ l = [uA, uB] := by simpa [Un.all] using hl
    rcases hl with rfl | rfl <;> decide
theorem blk_en {w : World} {g : Nat} {l : List En} (h : Blk w g 32 (En.flat l)) : EnRd w w.heap.size (some ⟨g, 0, none⟩) l :=
  ⟨eflat_len l, fun _ => ⟨g, 0, rfl, h.lt, fun j u hu => by rw [Nat.zero_add]; exact (h.cell j).trans hu⟩⟩
theorem blk_ts1 {w : World} {g : Nat} {A : Option Addr} {c : Nat} {l : List En} (h : Blk w g 23 [.slice A l.length c]) (hl : EnRd w w.heap.size A l) (hc : l.length ≤ c) : TsRd w w.heap.size (some ⟨g, 0, none⟩) [l] :=
  ⟨[.slice A l.length c], ⟨rfl, fun _ => ⟨g, 0, rfl, h.lt, fun j u hu => by rw [Nat.zero_add]; exact (h.cell j).trans hu⟩⟩, fun k hk => by
    obtain rfl : k = 0 := by simpa using hk
    exact ⟨A, c, rfl, hc, hl⟩⟩

theorem unSmall_any (w : World) : Calls Tryd.prog 58 #[] w fun e w' => ∃ A', e = .returned (.agg #[.slice none 0 0, .slice A' 1 1]) ∧ UnRd w' w'.heap.size none A' 0 1 uS ∧ Below w.heap.size w w' := by
  have h1 := Blk.new (w.alloc (.cells #[.slice none 0 0, .slice (some ⟨w.heap.size + 1 + 1, 0, none⟩) 1 1] 49)) 32 (En.flat [uA, uB])
  have h2 := Blk.new ((w.alloc (.cells #[.slice none 0 0, .slice (some ⟨w.heap.size + 1 + 1, 0, none⟩) 1 1] 49)).alloc (.cells (En.flat [uA, uB]).toArray 32)) 23 [.slice (some ⟨w.heap.size + 1, 0, none⟩) 2 2]
  have h1 := h1.alloc (.cells #[.slice (some ⟨w.heap.size + 1, 0, none⟩) 2 2] 23)
  simp only [World.size_alloc] at h1 h2
  have hr : UnRd (((w.alloc (.cells #[.slice none 0 0, .slice (some ⟨w.heap.size + 1 + 1, 0, none⟩) 1 1] 49)).alloc (.cells (En.flat [uA, uB]).toArray 32)).alloc (.cells #[.slice (some ⟨w.heap.size + 1, 0, none⟩) 2 2] 23)) _ none (some ⟨w.heap.size + 1 + 1, 0, none⟩) 0 1 uS :=
    ⟨Rd.nil, Nat.le_refl _, blk_ts1 (l := [uA, uB]) h2 (blk_en h1) (by decide), fun h => by cases h⟩
  have hB : Below w.heap.size w (((w.alloc (.cells #[.slice none 0 0, .slice (some ⟨w.heap.size + 1 + 1, 0, none⟩) 1 1] 49)).alloc (.cells (En.flat [uA, uB]).toArray 32)).alloc (.cells #[.slice (some ⟨w.heap.size + 1, 0, none⟩) 2 2] 23)) := by
    have hb := (Below.refl w.heap.size w).alloc (Nat.le_refl _) (.cells #[.slice none 0 0, .slice (some ⟨w.heap.size + 1 + 1, 0, none⟩) 1 1] 49)
    have hb := hb.alloc hb.size (.cells (En.flat [uA, uB]).toArray 32)
    exact hb.alloc hb.size _
  have HR := Lib.hid hr
  have HB := Lib.hid hB
  clear h1 h2 hr hB
  go_enter Tryd.func58, Tryd.ntmps58
  go_wp2_with fail
  refine bodyPost_ret (v := .agg #[.slice none 0 0, .slice (some ⟨w.heap.size + 1 + 1, 0, none⟩) 1 1]) ?_ rfl ?_
  · simp [results, Tryd.results58, go_sem]
  exact ⟨_, rfl, HR.out, HB.out⟩

set_option maxHeartbeats 2000000 in
set_option maxRecDepth 100000 in
theorem unAlive_any (w : World) : Calls Tryd.prog 27 #[] w fun e w' => e = .returned (.bool true) ∧ Below w.heap.size w w' := by
  go_enter Tryd.func27, Tryd.ntmps27
  go_wp2_with fail
  refine (unSmall_any w).mono ?_
  rintro e w1 ⟨A1, rfl, hu1, hB1⟩
  go_wp2_with fail
  have cR : Calls Tryd.prog 32 #[.agg #[.slice none 0 0, .slice A1 1 1], .string ⟨#[97, 47, 98]⟩] w1 (UnResL w1.heap.size (Tr.removeU uS [97, 47, 98]) w1) :=
    removeU_any none A1 0 1 uS ⟨#[97, 47, 98]⟩ w1 hu1 uS_sm (by decide)
  unfold UnResL at cR
  rw [uS_rem] at cR
  dsimp only at cR
  refine cR.mono ?_
  rintro e w2 ⟨A2, A2', c2, c2', rfl, hf2, hb⟩
  have hB2 := hB1.trans (hb.mono hB1.size)
  have hu2 := hf2.here
  clear cR hb hB1 hu1 hf2
  have hl2 : ([uA, uW] : List En).length = 2 := rfl
  have hl1 : ([[uA, uB]] : List (List En)).length = 1 := rfl
  rw [hl2, hl1]
  have hz3 := Blk.new w2 49 [.slice A2 2 c2, .slice A2' 1 c2']
  have hB3 := hB2.alloc hB2.size (.cells #[.slice A2 2 c2, .slice A2' 1 c2'] 49)
  have hu3 : UnRd (w2.alloc (.cells #[.slice A2 2 c2, .slice A2' 1 c2'] 49)) (w2.alloc (.cells #[.slice A2 2 c2, .slice A2' 1 c2'] 49)).heap.size A2 A2' c2 c2' ⟨[uA, uW], [[uA, uB]]⟩ := (hu2.below ((Below.refl _ w2).alloc (Nat.le_refl _) _)).more (by simp)
  clear hu2 hB2
  go_wp2_with fail
  generalize w2.alloc (.cells #[.slice A2 2 c2, .slice A2' 1 c2'] 49) = w3 at *
  have cS : Calls Tryd.prog 28 #[.agg #[.slice A2 2 c2, .slice A2' 1 c2']] w3 (SeenRel ⟨[uA, uW], [[uA, uB]]⟩ w3) :=
    seenU_any A2 A2' c2 c2' ⟨[uA, uW], [[uA, uB]]⟩ w3 hu3 uS_sm2
  unfold SeenRel at cS
  rw [uS_seen] at cS
  dsimp only at cS
  refine cS.mono ?_
  rintro e w4 ⟨v4, rfl, ho4, hb⟩
  have hB4 := hB3.trans (hb.mono hB3.size)
  have hz4 := hz3.below hb hz3.lt
  have hu4 := (hu3.below hb).more hb.size
  clear cS hb hB3 hz3 hu3
  obtain ⟨A4, c4, rfl, hc4, hr4⟩ := EnOwn.rd ho4
  clear ho4 hr4
  have hl4 : ([uA] : List En).length = 1 := rfl
  rw [hl4]
  go_wp2_with fail
  refine (unSmall_any w4).mono ?_
  rintro e w5 ⟨A5, rfl, hu5, hb⟩
  have hB5 := hB4.trans (hb.mono hB4.size)
  have hz5 := hz4.below hb hz4.lt
  have hu4 := (hu4.below hb).more hb.size
  clear hb hB4 hz4
  go_wp2_with fail
  have cL : Calls Tryd.prog 29 #[.agg #[.slice none 0 0, .slice A5 1 1], .string ⟨#[97, 47, 98]⟩] w5 (LookRel uS [97, 47, 98] w5) :=
    lookU_any none A5 0 1 uS ⟨#[97, 47, 98]⟩ w5 hu5 uS_sm (by decide)
  unfold LookRel at cL
  rw [uS_look] at cL
  dsimp only at cL
  refine cL.mono ?_
  rintro e w6 ⟨rfl, hb⟩
  have hB6 := hB5.trans (hb.mono hB5.size)
  have hz6 := hz5.below hb hz5.lt
  have hu6 := (hu4.below hb).more hb.size
  clear cL hb hB5 hz5 hu4 hu5
  obtain ⟨b, o, hA, hbz, h0, h1, h2, h3⟩ := EnRd.at_ hu6.up (k := 1) (by decide)
  subst hA
  replace h1 : w6.cell? ⟨b, o + 4 + 1, none⟩ = some (.int .i64 4) := h1
  clear h0 h2 h3 hu6
  obtain ⟨z0, z1, zf, zz⟩ := hz6.two
  simp only [En.agg, En.cells, uB]
  go_wp2_with fail
  go_ret
  exact ⟨rfl, hB6.alloc hB6.size _⟩
end Go.Proofs.YtjppfhgkanbemabDoor
