/-
  tracetop's small pieces: the union at hand, calls, and its closed fact.
-/
import Derived.Test.YtjppfhgkanbemacGreatDoorSH
import Derived.Test.YtjppfhgkanbemacGreatDoorSyTop
import Derived.KernelRfl
namespace Go.Proofs.YtjppfhgkanbemacGreatDoor
open Go.RowKit Go.Shelf Go.Sort

theorem sm_of {L : List (List En)} (h : ∀ l ∈ L, Sm l ∧ l.length ≤ 2000000) {U : List En} (hU : Sm U ∧ U.length ≤ 2000000) (hL : L.length ≤ 2000000) : UnSm ⟨U, L⟩ := by
  refine ⟨fun l hl => ?_, hL, fun l hl => ?_⟩
  · have hl : l = U ∨ l ∈ L := by simpa [Un.all] using hl
    rcases hl with rfl | hl
    · exact ⟨hU.1, by have := hU.2; omega⟩
    · exact ⟨(h l hl).1, by have := (h l hl).2; omega⟩
  · have hl : l = U ∨ l ∈ L := by simpa [Un.all] using hl
    rcases hl with rfl | hl
    · exact hU.2
    · exact (h l hl).2
theorem bU_sm : UnSm Sy.bU := unSm_fine Sy.bU_fine
theorem blk_en' {w : World} {g : Nat} {l : List En} (h : Blk w g 53 (En.flat l)) : EnRd w w.heap.size (some ⟨g, 0, none⟩) l :=
  ⟨eflat_len l, fun _ => ⟨g, 0, rfl, h.lt, fun j u hu => by rw [Nat.zero_add]; exact (h.cell j).trans hu⟩⟩
theorem blk_ts1' {w : World} {g : Nat} {A : Option Addr} {c : Nat} {l : List En} (h : Blk w g 23 [.slice A l.length c]) (hl : EnRd w w.heap.size A l) (hc : l.length ≤ c) : TsRd w w.heap.size (some ⟨g, 0, none⟩) [l] :=
  ⟨[.slice A l.length c], ⟨rfl, fun _ => ⟨g, 0, rfl, h.lt, fun j u hu => by rw [Nat.zero_add]; exact (h.cell j).trans hu⟩⟩, fun k hk => by
    obtain rfl : k = 0 := by simpa using hk
    exact ⟨A, c, rfl, hc, hl⟩⟩
theorem base_any (w : World) : Calls Tryz.prog 32 #[] w fun e w' => ∃ A', e = .returned (.agg #[.slice none 0 0, .slice A' 1 1]) ∧ UnRd w' w'.heap.size none A' 0 1 Sy.bU ∧ Below w.heap.size w w' := by
  have h1 := Blk.new (w.alloc (.cells #[.slice none 0 0, .slice (some ⟨w.heap.size + 1 + 1, 0, none⟩) 1 1] 26)) 53 (En.flat [Sy.tD, Sy.tA, Sy.tB])
  have h2 := Blk.new ((w.alloc (.cells #[.slice none 0 0, .slice (some ⟨w.heap.size + 1 + 1, 0, none⟩) 1 1] 26)).alloc (.cells (En.flat [Sy.tD, Sy.tA, Sy.tB]).toArray 53)) 23 [.slice (some ⟨w.heap.size + 1, 0, none⟩) 3 3]
  have h1 := h1.alloc (.cells #[.slice (some ⟨w.heap.size + 1, 0, none⟩) 3 3] 23)
  simp only [World.size_alloc] at h1 h2
  have hr : UnRd (((w.alloc (.cells #[.slice none 0 0, .slice (some ⟨w.heap.size + 1 + 1, 0, none⟩) 1 1] 26)).alloc (.cells (En.flat [Sy.tD, Sy.tA, Sy.tB]).toArray 53)).alloc (.cells #[.slice (some ⟨w.heap.size + 1, 0, none⟩) 3 3] 23)) _ none (some ⟨w.heap.size + 1 + 1, 0, none⟩) 0 1 Sy.bU :=
    ⟨Rd.nil, Nat.le_refl _, blk_ts1' (l := [Sy.tD, Sy.tA, Sy.tB]) h2 (blk_en' h1) (by decide), fun h => by cases h⟩
  have hB : Below w.heap.size w (((w.alloc (.cells #[.slice none 0 0, .slice (some ⟨w.heap.size + 1 + 1, 0, none⟩) 1 1] 26)).alloc (.cells (En.flat [Sy.tD, Sy.tA, Sy.tB]).toArray 53)).alloc (.cells #[.slice (some ⟨w.heap.size + 1, 0, none⟩) 3 3] 23)) := by
    have hb := (Below.refl w.heap.size w).alloc (Nat.le_refl _) (.cells #[.slice none 0 0, .slice (some ⟨w.heap.size + 1 + 1, 0, none⟩) 1 1] 26)
    have hb := hb.alloc hb.size (.cells (En.flat [Sy.tD, Sy.tA, Sy.tB]).toArray 53)
    exact hb.alloc hb.size _
  have HR := Lib.hid hr
  have HB := Lib.hid hB
  clear h1 h2 hr hB
  go_enter Tryz.func32, Tryz.ntmps32
  go_wp2_with fail
  refine bodyPost_ret (v := .agg #[.slice none 0 0, .slice (some ⟨w.heap.size + 1 + 1, 0, none⟩) 1 1]) ?_ rfl ?_
  · simp [results, Tryz.results32, go_sem]
  exact ⟨_, rfl, HR.out, HB.out⟩
theorem tOpen_any (s : ByteArray) (n : Int) (w : World) : Calls Tryz.prog 31 #[.string s, .int .i64 n] w fun e w' => e = .returned (.agg #[.int .i64 1, .int .i64 0, .int .i64 0, .int .i64 n, .int .i64 0, .string s, .string ⟨#[]⟩, .string ⟨#[]⟩, .bool false]) ∧ Below w.heap.size w w' := by
  go_enter Tryz.func31, Tryz.ntmps31
  go_wp2_with fail
  refine bodyPost_ret (v := .agg #[.int .i64 1, .int .i64 0, .int .i64 0, .int .i64 n, .int .i64 0, .string s, .string ⟨#[]⟩, .string ⟨#[]⟩, .bool false]) ?_ rfl ?_
  · simp [results, Tryz.results31, go_sem]
  exact ⟨rfl, (Below.refl _ w).alloc (Nat.le_refl _) _⟩
theorem tOn_any (k fd n : Int) (s : ByteArray) (w : World) : Calls Tryz.prog 33 #[.int .i64 k, .int .i64 fd, .int .i64 n, .string s] w fun e w' => e = .returned (.agg #[.int .i64 k, .int .i64 0, .int .i64 fd, .int .i64 n, .int .i64 0, .string ⟨#[]⟩, .string ⟨#[]⟩, .string s, .bool false]) ∧ Below w.heap.size w w' := by
  go_enter Tryz.func33, Tryz.ntmps33
  go_wp2_with fail
  refine bodyPost_ret (v := .agg #[.int .i64 k, .int .i64 0, .int .i64 fd, .int .i64 n, .int .i64 0, .string ⟨#[]⟩, .string ⟨#[]⟩, .string s, .bool false]) ?_ rfl ?_
  · simp [results, Tryz.results33, go_sem]
  exact ⟨rfl, (Below.refl _ w).alloc (Nat.le_refl _) _⟩
theorem tAt_any (k : Int) (s t : ByteArray) (w : World) : Calls Tryz.prog 30 #[.int .i64 k, .string s, .string t] w fun e w' => e = .returned (.agg #[.int .i64 k, .int .i64 0, .int .i64 0, .int .i64 0, .int .i64 0, .string s, .string t, .string ⟨#[]⟩, .bool false]) ∧ Below w.heap.size w w' := by
  go_enter Tryz.func30, Tryz.ntmps30
  go_wp2_with fail
  refine bodyPost_ret (v := .agg #[.int .i64 k, .int .i64 0, .int .i64 0, .int .i64 0, .int .i64 0, .string s, .string t, .string ⟨#[]⟩, .bool false]) ?_ rfl ?_
  · simp [results, Tryz.results30, go_sem]
  exact ⟨rfl, (Below.refl _ w).alloc (Nat.le_refl _) _⟩
theorem cells_at : ∀ (l : List Ca) (k : Nat) (hk : k < l.length) (j : Nat), j < 9 → (l.flatMap Ca.cells)[k * 9 + j]? = (l[k]'hk).cells[j]?
  | c :: r, 0, _, j, hj => by
    rw [List.flatMap_cons, Nat.zero_mul, Nat.zero_add, List.getElem?_append_left (by show j < 9; exact hj)]
    rfl
  | c :: r, k + 1, hk, j, hj => by
    have h := cells_at r k (by simpa using hk) j hj
    rw [List.flatMap_cons, List.getElem?_append_right (by show 9 ≤ _; omega)]
    have e : (k + 1) * 9 + j - c.cells.length = k * 9 + j := by show _ - 9 = _; omega
    rw [e, h]; rfl
/-- A row of calls that was just laid. -/
theorem cas_blk {w : World} {g : Nat} {t : TypeId} {l : List Ca} (h : Blk w g t (l.flatMap Ca.cells)) : CasRd w (some ⟨g, 0, none⟩) l := fun k hk => by
  have key : ∀ j, (hj : j < 9) → w.cell? ⟨g, 0 + k * 9 + j, none⟩ = l[k].cells[j]? := fun j hj => by
    rw [Nat.zero_add, h.cell, cells_at l k hk j hj]
  exact ⟨g, 0, rfl, h.lt, key 0 (by omega), key 1 (by omega), key 2 (by omega), key 3 (by omega), key 4 (by omega), key 5 (by omega), key 6 (by omega), key 7 (by omega), key 8 (by omega)⟩
/-- An answer's cells. -/
theorem AnsRd.at_ {w : World} {v : Value} {l : List An} (h : AnsRd w v l) : ∃ A c, v = .slice A l.length c ∧ ∀ k, (hk : k < l.length) → ∃ b o Ak ck, A = some ⟨b, o, none⟩ ∧ b < w.heap.size ∧ w.cell? ⟨b, o + k * 4, none⟩ = some (.int .i64 l[k].err) ∧ w.cell? ⟨b, o + (k * 4 + 1), none⟩ = some (.int .i64 l[k].n) ∧ w.cell? ⟨b, o + (k * 4 + 2), none⟩ = some (.string l[k].text) ∧ w.cell? ⟨b, o + (k * 4 + 3), none⟩ = some (.slice Ak l[k].names.length ck) ∧ StrRd w w.heap.size Ak l[k].names := by
  obtain ⟨A, c, vs, hv, h1, h2, h3⟩ := h
  refine ⟨A, c, hv, fun k hk => ?_⟩
  obtain ⟨b, o, e, hb, hc⟩ := h2.2 (by omega)
  obtain ⟨Ak, ck, e1, e2⟩ := h3 k hk
  obtain ⟨u, a1, a2, a3, a4, a5⟩ := an_at h1 hk
  rw [e1] at a1
  injection a1 with a1
  subst a1
  exact ⟨b, o, Ak, ck, e, hb, hc _ _ a2, hc _ _ a3, hc _ _ a4, hc _ _ a5, e2⟩
def bangB : ByteArray := ⟨#[33]⟩
def oneBangB : ByteArray := ⟨#[111, 110, 101, 33]⟩
def aliveL : List Ca := [Sy.openA Sy.dirAB 6, Sy.onC 4 0 0 bangB, Sy.atC 12 Sy.dirAB Sy.noE]
theorem alive_err : (Sy.play Sy.bU aliveL).2.2 = 0 := by kernel_rfl
theorem alive_len : (Sy.play Sy.bU aliveL).2.1.length = 3 := by kernel_rfl
theorem alive_text : ((Sy.play Sy.bU aliveL).2.1.getD 2 (.no 0)).text = oneBangB := by kernel_rfl
theorem alive_up : (Sy.play Sy.bU aliveL).1.1.U.length = 2 := by kernel_rfl
theorem getD_at {l : List An} {k : Nat} (hk : k < l.length) (d : An) : l.getD k d = l[k] := by rw [List.getD_eq_getElem?_getD, List.getElem?_eq_getElem hk]; rfl

set_option maxHeartbeats 2000000 in
set_option maxRecDepth 100000 in
theorem topAlive_any (w : World) : Calls Tryz.prog 28 #[] w fun e w' => e = .returned (.bool true) ∧ Below w.heap.size w w' := by
  have h1 := alive_err
  have h2 := alive_len
  have h3 := alive_text
  have h4 := alive_up
  obtain ⟨r, hr⟩ : ∃ r, r = Sy.play Sy.bU aliveL := ⟨_, rfl⟩
  rw [← hr] at h1 h2 h3 h4
  obtain ⟨⟨s, T, n⟩, an, e0⟩ := r
  dsimp only at h1 h2 h3 h4
  subst h1
  have HP := Lib.hid hr.symm
  have hk2 : 2 < an.length := by omega
  rw [getD_at hk2] at h3
  have HL := Lib.hid h2
  have HT := Lib.hid h3
  have HU := Lib.hid h4
  clear hr h2 h3 h4
  go_enter Tryz.func28, Tryz.ntmps28
  go_wp2_with fail
  refine (base_any w).mono ?_
  rintro e w1 ⟨A1, rfl, hr1, hb1⟩
  go_wp2_with fail
  refine (tOpen_any ⟨#[100, 105, 114, 47, 97]⟩ 6 w1).mono ?_
  rintro e w2 ⟨rfl, hb2⟩
  go_wp2_with fail
  refine (tOn_any 4 0 0 ⟨#[33]⟩ w2).mono ?_
  rintro e w3 ⟨rfl, hb3⟩
  go_wp2_with fail
  refine (tAt_any 12 ⟨#[100, 105, 114, 47, 97]⟩ ⟨#[]⟩ w3).mono ?_
  rintro e w4 ⟨rfl, hb4⟩
  have hr4 := (hr1.below ((hb2.trans (hb3.mono hb2.size)).trans (hb4.mono (hb2.trans (hb3.mono hb2.size)).size))).more ((hb2.trans (hb3.mono hb2.size)).trans (hb4.mono (hb2.trans (hb3.mono hb2.size)).size)).size
  have hB4 : Below w.heap.size w w4 := ((hb1.trans (hb2.mono hb1.size)).trans (hb3.mono (hb1.trans (hb2.mono hb1.size)).size)).trans (hb4.mono ((hb1.trans (hb2.mono hb1.size)).trans (hb3.mono (hb1.trans (hb2.mono hb1.size)).size)).size)
  clear hr1 hb1 hb2 hb3 hb4
  have hl5 : Blk (w4.alloc (.cells (aliveL.flatMap Ca.cells).toArray 50)) w4.heap.size 50 (aliveL.flatMap Ca.cells) := Blk.new w4 _ _
  have hb5 : Below w4.heap.size w4 (w4.alloc (.cells (aliveL.flatMap Ca.cells).toArray 50)) := (Below.refl _ w4).alloc (Nat.le_refl _) _
  have hr5 := (hr4.below hb5).more hb5.size
  have hB5 := hB4.trans (hb5.mono hB4.size)
  have cP := play_any none A1 (some ⟨w4.heap.size, 0, none⟩) 0 1 3 Sy.bU aliveL _ hr5 bU_sm (cas_blk hl5) (fun x hx => by
    simp only [aliveL, List.mem_cons, List.mem_nil_iff, or_false] at hx
    rcases hx with rfl | rfl | rfl <;> exact ⟨by decide, by decide, by decide⟩) (by decide)
  rw [HP.out] at cP
  unfold PlayRel at cP
  dsimp only at cP
  have HC := Lib.hid cP
  clear cP hl5 hb5 hr5 hr4
  go_wp2_with fail
  refine HC.out.mono ?_
  rintro e w6 ⟨A6, A6', cu6, cv6, AT, cT, v, rfl, hU6, hT6, hcT, hO6, hb6⟩
  obtain ⟨Aa, ca, rfl, hat⟩ := hO6.at_
  obtain ⟨b, o, Ak, ck, rfl, hb, q0, q1, q2, q3, _⟩ := hat 2 hk2
  rw [HT.out] at q2
  rw [HL.out]
  have hB6 := hB5.trans (hb6.mono hB5.size)
  have hb7 : b < w6.heap.size := hb
  have q2 : w6.cell? ⟨b, o + 8 + 2, none⟩ = some (.string oneBangB) := q2
  have q2' : w6.cell? ⟨b, o + 10, none⟩ = some (.string oneBangB) := q2
  have hz7 := Blk.new w6 33 [.slice A6 s.U.length cu6, .slice A6' s.L.length cv6, .slice AT T.length cT, .int .i64 n]
  have hB7 := hB6.alloc hB6.size (.cells #[.slice A6 s.U.length cu6, .slice A6' s.L.length cv6, .slice AT T.length cT, .int .i64 n] 33)
  rw [HU.out] at hz7 hB7 ⊢
  clear q0 q1 q3 hat hU6 hT6 hO6 hb6 hB5 hB6 HC HP
  have htl : oneBangB.toList = [111, 110, 101, 33] := by rw [Lib.toList_data]; rfl
  go_wp2_with fail
  go_ret
  exact ⟨rfl, hB7⟩
end Go.Proofs.YtjppfhgkanbemacGreatDoor
