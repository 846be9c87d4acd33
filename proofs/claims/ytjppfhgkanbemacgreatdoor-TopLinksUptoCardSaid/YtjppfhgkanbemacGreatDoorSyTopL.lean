/-
  TopLinks' own walk.
-/
import Derived.Test.YtjppfhgkanbemacGreatDoorSyCas
import Derived.Test.YtjppfhgkanbemacGreatDoorSyTop2
namespace Go.Proofs.YtjppfhgkanbemacGreatDoor
open Go.RowKit Go.Shelf Go.Sort Go.WideShapes

def lkM (k : Nat) : List Ca := Sy.atC 10 (Sy.linkB 0) Sy.farB :: (List.range k).map fun k => Sy.atC 10 (Sy.linkB (k + 1)) (Sy.linkTo k)
def lkT (n : Nat) : List Ca := [Sy.atC 12 (Sy.linkB (n - 1)) Sy.noE, Sy.atC 10 Sy.selfB Sy.selfB, Sy.atC 12 Sy.selfB Sy.noE]
theorem lkM_len (k : Nat) : (lkM k).length = k + 1 := by simp [lkM]
theorem lkM_snoc (k : Nat) : lkM (k + 1) = lkM k ++ [Sy.atC 10 (Sy.linkB (k + 1)) (Sy.linkTo k)] := by
  unfold lkM
  rw [List.range_succ, List.map_append, List.map_cons, List.map_nil]
  rfl
theorem lk_all (n : Nat) : lkM (n - 1) ++ lkT n = Sy.linksL n := rfl
theorem linkTo_eq (k : Nat) : (⟨#[47]⟩ : ByteArray) ++ Sy.linkB k = Sy.linkTo k := bs_ext (by rw [data_app]; rfl)
theorem lk_sm (n : Nat) : ∀ x ∈ Sy.linksL n, CaSm x := fun x hx => by
  have z : (0 : Nat) ≤ 1048576 := by omega
  have z2 : (2 : Nat) ≤ 1048576 := by omega
  have z3 : (3 : Nat) ≤ 1048576 := by omega
  have z4 : (4 : Nat) ≤ 1048576 := by omega
  have zf : (14 : Nat) ≤ 1048576 := by omega
  simp only [Sy.linksL, List.mem_append, List.mem_cons, List.mem_map, List.mem_nil_iff, or_false] at hx
  rcases hx with (rfl | ⟨k, _, rfl⟩) | rfl | rfl | rfl
  · exact ⟨z2, zf, z⟩
  · exact ⟨z2, z3, z⟩
  · exact ⟨z2, z, z⟩
  · exact ⟨z4, z4, z⟩
  · exact ⟨z4, z, z⟩
/-- The answers at the end. -/
theorem lk_play (n : Nat) (h1 : 1 ≤ n) (h2 : n ≤ 12) : ∃ x a, Sy.play Sy.bU (Sy.linksL n) = (x, a, 0) ∧ ∃ hl : a.length = n + 3, (a[n + 2]'(by omega)).err = 12 ∧ (8 < n → (a[n]'(by omega)).err = 12) ∧ (n ≤ 8 → (a[n]'(by omega)).err = 0 ∧ (a[n]'(by omega)).text = Sy.oneB) := by
  have ht := Sy.links_small n h1 h2
  have hlen : (Sy.linksL n).length = n + 3 := by
    rw [← lk_all, List.length_append, lkM_len]
    show n - 1 + 1 + 3 = _
    omega
  refine ⟨_, _, Sy.play_ok (by rw [Sy.bU_wrong]) (by rw [hlen]; omega), ?_⟩
  generalize (Sy.calls (Sy.start Sy.bU) (Sy.linksL n)).2 = a at ht
  have hl : a.length = n + 3 := by
    have := congrArg List.length ht
    simpa [Sy.tellA, Sy.linksA] using this
  refine ⟨hl, ?_⟩
  have key : ∀ i (hi : i < a.length) (y : An), (Sy.linksA n)[i]? = some y → a[i].err = y.err ∧ a[i].text.data.toList = y.text.data.toList := fun i hi y hy => by
    have := congrArg (fun l => l[i]?) ht
    simp only [Sy.tellA, List.getElem?_map, List.getElem?_eq_getElem hi, hy, Option.map_some, Option.some.injEq, Prod.mk.injEq] at this
    exact ⟨this.1, this.2.2.1⟩
  have e2 : (Sy.linksA n)[n + 2]? = some (.no 12) := by
    unfold Sy.linksA
    rw [List.getElem?_append_right (by simp)]
    simp
  have e0 : (Sy.linksA n)[n]? = some (if 8 < n then .no 12 else ⟨0, 1, Sy.oneB, []⟩) := by
    unfold Sy.linksA
    rw [List.getElem?_append_right (by simp)]
    simp
  refine ⟨(key _ _ _ e2).1, fun h8 => ?_, fun h8 => ?_⟩
  · rw [if_pos h8] at e0
    exact (key _ _ _ e0).1
  · rw [if_neg (by omega)] at e0
    exact ⟨(key _ _ _ e0).1, bs_ext (key _ _ _ e0).2⟩

theorem one_byte (w : World) (b : UInt8) : (convert 71 9 (.slice (some ⟨w.heap.size, 0, none⟩) 1 1)).run Tryz.prog (w.alloc (.cells #[.int .u8 (b.toNat : Int)] 5)) = .ok (.string ⟨#[b]⟩) (w.alloc (.cells #[.int .u8 (b.toNat : Int)] 5)) :=
  run_convert_bytes_back (w.alloc (.cells #[.int .u8 (b.toNat : Int)] 5)) 71 9 5 ⟨w.heap.size, 0, none⟩ 1 [b] Tryz.underlying71 Tryz.underlying5 Tryz.underlying9 (fun j hj => by
    obtain rfl : j = 0 := by simpa using hj
    rw [add_plain]
    exact (Blk.new w 5 [.int .u8 (b.toNat : Int)]).cell 0)
theorem lkName_any (k : Nat) (hk : k ≤ 12) (w : World) : Calls Tryz.prog 34 #[.int .i64 k] w fun e w' => e = .returned (.string (Sy.linkB k)) ∧ Below w.heap.size w w' := by
  match k, hk with
  | 0, _ =>
    have kc : (convert 71 9 (.slice (some ⟨w.heap.size, 0, none⟩) 1 1)).run Tryz.prog (w.alloc (.cells #[.int .u8 97] 5)) = .ok (.string ⟨#[97]⟩) (w.alloc (.cells #[.int .u8 97] 5)) := one_byte w 97
    go_enter Tryz.func34, Tryz.ntmps34
    go_wp2_with fail
    go_ret
    exact ⟨rfl, (Below.refl _ w).alloc (Nat.le_refl _) _⟩
  | 1, _ =>
    have kc : (convert 71 9 (.slice (some ⟨w.heap.size, 0, none⟩) 1 1)).run Tryz.prog (w.alloc (.cells #[.int .u8 98] 5)) = .ok (.string ⟨#[98]⟩) (w.alloc (.cells #[.int .u8 98] 5)) := one_byte w 98
    go_enter Tryz.func34, Tryz.ntmps34
    go_wp2_with fail
    go_ret
    exact ⟨rfl, (Below.refl _ w).alloc (Nat.le_refl _) _⟩
  | 2, _ =>
    have kc : (convert 71 9 (.slice (some ⟨w.heap.size, 0, none⟩) 1 1)).run Tryz.prog (w.alloc (.cells #[.int .u8 99] 5)) = .ok (.string ⟨#[99]⟩) (w.alloc (.cells #[.int .u8 99] 5)) := one_byte w 99
    go_enter Tryz.func34, Tryz.ntmps34
    go_wp2_with fail
    go_ret
    exact ⟨rfl, (Below.refl _ w).alloc (Nat.le_refl _) _⟩
  | 3, _ =>
    have kc : (convert 71 9 (.slice (some ⟨w.heap.size, 0, none⟩) 1 1)).run Tryz.prog (w.alloc (.cells #[.int .u8 100] 5)) = .ok (.string ⟨#[100]⟩) (w.alloc (.cells #[.int .u8 100] 5)) := one_byte w 100
    go_enter Tryz.func34, Tryz.ntmps34
    go_wp2_with fail
    go_ret
    exact ⟨rfl, (Below.refl _ w).alloc (Nat.le_refl _) _⟩
  | 4, _ =>
    have kc : (convert 71 9 (.slice (some ⟨w.heap.size, 0, none⟩) 1 1)).run Tryz.prog (w.alloc (.cells #[.int .u8 101] 5)) = .ok (.string ⟨#[101]⟩) (w.alloc (.cells #[.int .u8 101] 5)) := one_byte w 101
    go_enter Tryz.func34, Tryz.ntmps34
    go_wp2_with fail
    go_ret
    exact ⟨rfl, (Below.refl _ w).alloc (Nat.le_refl _) _⟩
  | 5, _ =>
    have kc : (convert 71 9 (.slice (some ⟨w.heap.size, 0, none⟩) 1 1)).run Tryz.prog (w.alloc (.cells #[.int .u8 102] 5)) = .ok (.string ⟨#[102]⟩) (w.alloc (.cells #[.int .u8 102] 5)) := one_byte w 102
    go_enter Tryz.func34, Tryz.ntmps34
    go_wp2_with fail
    go_ret
    exact ⟨rfl, (Below.refl _ w).alloc (Nat.le_refl _) _⟩
  | 6, _ =>
    have kc : (convert 71 9 (.slice (some ⟨w.heap.size, 0, none⟩) 1 1)).run Tryz.prog (w.alloc (.cells #[.int .u8 103] 5)) = .ok (.string ⟨#[103]⟩) (w.alloc (.cells #[.int .u8 103] 5)) := one_byte w 103
    go_enter Tryz.func34, Tryz.ntmps34
    go_wp2_with fail
    go_ret
    exact ⟨rfl, (Below.refl _ w).alloc (Nat.le_refl _) _⟩
  | 7, _ =>
    have kc : (convert 71 9 (.slice (some ⟨w.heap.size, 0, none⟩) 1 1)).run Tryz.prog (w.alloc (.cells #[.int .u8 104] 5)) = .ok (.string ⟨#[104]⟩) (w.alloc (.cells #[.int .u8 104] 5)) := one_byte w 104
    go_enter Tryz.func34, Tryz.ntmps34
    go_wp2_with fail
    go_ret
    exact ⟨rfl, (Below.refl _ w).alloc (Nat.le_refl _) _⟩
  | 8, _ =>
    have kc : (convert 71 9 (.slice (some ⟨w.heap.size, 0, none⟩) 1 1)).run Tryz.prog (w.alloc (.cells #[.int .u8 105] 5)) = .ok (.string ⟨#[105]⟩) (w.alloc (.cells #[.int .u8 105] 5)) := one_byte w 105
    go_enter Tryz.func34, Tryz.ntmps34
    go_wp2_with fail
    go_ret
    exact ⟨rfl, (Below.refl _ w).alloc (Nat.le_refl _) _⟩
  | 9, _ =>
    have kc : (convert 71 9 (.slice (some ⟨w.heap.size, 0, none⟩) 1 1)).run Tryz.prog (w.alloc (.cells #[.int .u8 106] 5)) = .ok (.string ⟨#[106]⟩) (w.alloc (.cells #[.int .u8 106] 5)) := one_byte w 106
    go_enter Tryz.func34, Tryz.ntmps34
    go_wp2_with fail
    go_ret
    exact ⟨rfl, (Below.refl _ w).alloc (Nat.le_refl _) _⟩
  | 10, _ =>
    have kc : (convert 71 9 (.slice (some ⟨w.heap.size, 0, none⟩) 1 1)).run Tryz.prog (w.alloc (.cells #[.int .u8 107] 5)) = .ok (.string ⟨#[107]⟩) (w.alloc (.cells #[.int .u8 107] 5)) := one_byte w 107
    go_enter Tryz.func34, Tryz.ntmps34
    go_wp2_with fail
    go_ret
    exact ⟨rfl, (Below.refl _ w).alloc (Nat.le_refl _) _⟩
  | 11, _ =>
    have kc : (convert 71 9 (.slice (some ⟨w.heap.size, 0, none⟩) 1 1)).run Tryz.prog (w.alloc (.cells #[.int .u8 108] 5)) = .ok (.string ⟨#[108]⟩) (w.alloc (.cells #[.int .u8 108] 5)) := one_byte w 108
    go_enter Tryz.func34, Tryz.ntmps34
    go_wp2_with fail
    go_ret
    exact ⟨rfl, (Below.refl _ w).alloc (Nat.le_refl _) _⟩
  | 12, _ =>
    have kc : (convert 71 9 (.slice (some ⟨w.heap.size, 0, none⟩) 1 1)).run Tryz.prog (w.alloc (.cells #[.int .u8 109] 5)) = .ok (.string ⟨#[109]⟩) (w.alloc (.cells #[.int .u8 109] 5)) := one_byte w 109
    go_enter Tryz.func34, Tryz.ntmps34
    go_wp2_with fail
    go_ret
    exact ⟨rfl, (Below.refl _ w).alloc (Nat.le_refl _) _⟩
  | k + 13, hk => exact absurd hk (by omega)

set_option maxHeartbeats 1000000 in
set_option maxRecDepth 100000 in
theorem topLinks_any (n : Int) (w : World) : Calls Tryz.prog 11 #[.int .i64 n] w fun e w' => e = .returned (.bool true) ∧ Below w.heap.size w w' := by
  obtain ⟨i0, hif, hi0, hi1, hi2⟩ := info_parts info_ca
  go_enter Tryz.func11, Tryz.ntmps11
  go_wp2_with fail
  refine (topAlive_any w).mono ?_
  rintro e w0 ⟨rfl, hB0⟩
  rcases tn0 : decide (n < 1) with _ | _
  rotate_left
  · go_wp2_with fail
    go_ret
    exact ⟨rfl, hB0⟩
  rcases tn1 : decide (12 < n) with _ | _
  rotate_left
  · go_wp2_with fail
    go_ret
    exact ⟨rfl, hB0⟩
  have hn0 : 1 ≤ n := by have := of_decide_eq_false tn0; omega
  have hn1 : n ≤ 12 := by have := of_decide_eq_false tn1; omega
  obtain ⟨j, rfl⟩ : ∃ j : Nat, n = (j : Int) + 1 := ⟨(n - 1).toNat, by omega⟩
  have hj : j ≤ 11 := by omega
  obtain ⟨x, an, hpl, hal, ha2, ha8, ha0⟩ := lk_play (j + 1) (by omega) (by omega)
  have HPL := Lib.hid hpl
  have HA2 := Lib.hid ha2
  have HA8 := Lib.hid ha8
  have HA0 := Lib.hid ha0
  have c0 : ∀ W, Calls Tryz.prog 34 #[.int .i64 0] W _ := fun W => lkName_any 0 (by omega) W
  have cj : ∀ W, Calls Tryz.prog 34 #[.int .i64 (j : Int)] W _ := fun W => lkName_any j (by omega) W
  clear hpl ha2 ha8 ha0
  go_wp2_with fail
  refine (c0 w0).mono ?_
  rintro e w1 ⟨rfl, hb⟩
  have hB1 := hB0.trans (hb.mono hB0.size)
  clear hb tn0 tn1 c0
  go_wp2_with fail
  refine (tAt_any 10 (Sy.linkB 0) ⟨#[100, 105, 114, 47, 46, 46, 47, 100, 105, 114, 47, 46, 47, 97]⟩ w1).mono ?_
  rintro e w2 ⟨rfl, hb⟩
  have hB2 := hB1.trans (hb.mono hB1.size)
  clear hb hB0 hB1
  have ho3 : (w2.alloc (.cells ((lkM 0).flatMap Ca.cells).toArray 50)).ownsRow w2.heap.size 50 9 (.slice (some ⟨w2.heap.size, 0, none⟩) 1 1) 1 ((lkM 0).flatMap Ca.cells) := ⟨rfl, .inr ⟨w2.heap.size, 1, ((lkM 0).flatMap Ca.cells).toArray, rfl, Nat.le_refl _, heap_alloc_new w2 _, Nat.le_refl _, by decide, rfl, rfl⟩⟩
  have hB3 : Below w2.heap.size w2 (w2.alloc (.cells ((lkM 0).flatMap Ca.cells).toArray 50)) := (Below.refl _ w2).alloc (Nat.le_refl _) _
  have HO3 := Lib.hid ho3
  clear ho3
  go_upto_region 7 with fail
  change Code.wp _ _ _ _ (w2.alloc (.cells ((lkM 0).flatMap Ca.cells).toArray 50))
  generalize w2.alloc (.cells ((lkM 0).flatMap Ca.cells).toArray 50) = w3 at *
  go_wp2_with fail
  go_loopw [4, 24] (fun u4 i wr => ∃ k : Nat, k ≤ j ∧ i = .int .i64 k ∧ Hid (wr.ownsRow w2.heap.size 50 9 u4 (k + 1) ((lkM k).flatMap Ca.cells)) ∧ Below w2.heap.size w2 wr) (fun _ i _ => j - (intOf i).toNat)
  case atStart => exact ⟨0, Nat.zero_le _, rfl, HO3, hB3⟩
  case round =>
    clear HO3 hB3
    obtain ⟨k, hk, rfl, HG, hB⟩ := hrel
    by_cases hlt : k < j
    · have ck1 : ∀ W, Calls Tryz.prog 34 #[.int .i64 ((k : Int) + 1)] W _ := fun W => lkName_any (k + 1) (by omega) W
      have ck : ∀ W, Calls Tryz.prog 34 #[.int .i64 (k : Int)] W _ := fun W => lkName_any k (by omega) W
      have hks : (lkM (k + 1)).flatMap Ca.cells = (lkM k).flatMap Ca.cells ++ [.int .i64 10, .int .i64 0, .int .i64 0, .int .i64 0, .int .i64 0, .string (Sy.linkB (k + 1)), .string (⟨#[47]⟩ ++ Sy.linkB k), .string ⟨#[]⟩, .bool false] := by
        rw [lkM_snoc, List.flatMap_append, linkTo_eq]; rfl
      have HKS := Lib.hid hks
      clear hks
      go_wp2_with fail
      refine (ck1 wr).mono ?_
      rintro e w4 ⟨rfl, hb⟩
      have hB4 := hB.trans (hb.mono hB.size)
      have ho4 := own_below HG.out hb (Nat.le_refl _)
      clear hb hB HG ck1
      go_wp2_with fail
      refine (ck w4).mono ?_
      rintro e w5 ⟨rfl, hb⟩
      have hB5 := hB4.trans (hb.mono hB4.size)
      have ho5 := own_below ho4 hb (Nat.le_refl _)
      clear hb hB4 ho4 ck
      go_wp2_with fail
      have cO := tAt_any 10 (Sy.linkB (k + 1)) ((⟨#[47]⟩ : ByteArray) ++ Sy.linkB k) w5
      refine cO.mono ?_
      rintro e w6 ⟨rfl, hb⟩
      have hB6 := hB5.trans (hb.mono hB5.size)
      have ho6 := own_below ho5 hb (Nat.le_refl _)
      clear hb hB5 ho5 cO
      generalize (⟨#[47]⟩ : ByteArray) ++ Sy.linkB k = lt at *
      generalize Sy.linkB (k + 1) = lb at *
      go_wp2_with (at_builtin; go_must (refine wpList_app1 w6 rfl _ _ _ rfl w2.heap.size 50 i0 _ 9 96 Tryz.underlying27 hif hi0 hi1 hi2 rfl (by decide) u4 _ _ rfl ho6 [.int .i64 10, .int .i64 0, .int .i64 0, .int .i64 0, .int .i64 0, .string lb, .string lt, .string ⟨#[]⟩, .bool false] rfl rfl (by simp [Value.oneCell']) (by omega) (by decide) hB6.size _ rfl ?_); intro v8 w8 own8 hg8 hat8)
      have HG8 : Hid (w8.ownsRow w2.heap.size 50 9 v8 (k + 1 + 1) ((lkM (k + 1)).flatMap Ca.cells)) := Lib.hid (by rw [HKS.out]; exact own8)
      have hB8 := below_grown hB6 hg8 hB6.size (fun q hq => (World.ownsRow.lt ho6 q hq).1)
      clear own8 hg8 hat8 ho6
      go_roundw
      case rel => exact ⟨k + 1, hlt, by go_num, HG8, hB8⟩
      case measure => simp [intOf]; omega
    · obtain rfl : k = j := by omega
      have hal2 : (lkM k).flatMap Ca.cells ++ (lkT (k + 1)).flatMap Ca.cells = (Sy.linksL (k + 1)).flatMap Ca.cells := by rw [← lk_all, List.flatMap_append]; rfl
      have hlen2 : (Sy.linksL (k + 1)).length = k + 1 + 3 := by
        rw [← lk_all, List.length_append, lkM_len]; rfl
      have HAL := Lib.hid hal2
      clear hal2
      go_wp2_with fail
      refine (cj wr).mono ?_
      rintro e w4 ⟨rfl, hb⟩
      have hB4 := hB.trans (hb.mono hB.size)
      have ho4 := own_below HG.out hb (Nat.le_refl _)
      clear hb hB HG cj
      go_wp2_with fail
      refine (tAt_any 12 (Sy.linkB k) ⟨#[]⟩ w4).mono ?_
      rintro e w5 ⟨rfl, hb⟩
      have hB5 := hB4.trans (hb.mono hB4.size)
      have ho5 := own_below ho4 hb (Nat.le_refl _)
      clear hb hB4 ho4
      go_wp2_with fail
      refine (tAt_any 10 ⟨#[115, 101, 108, 102]⟩ ⟨#[115, 101, 108, 102]⟩ w5).mono ?_
      rintro e w6 ⟨rfl, hb⟩
      have hB6 := hB5.trans (hb.mono hB5.size)
      have ho6 := own_below ho5 hb (Nat.le_refl _)
      clear hb hB5 ho5
      go_wp2_with fail
      refine (tAt_any 12 ⟨#[115, 101, 108, 102]⟩ ⟨#[]⟩ w6).mono ?_
      rintro e w7 ⟨rfl, hb⟩
      have hB7 := hB6.trans (hb.mono hB6.size)
      have ho7 := own_below ho6 hb (Nat.le_refl _)
      clear hb hB6 ho6
      have hb8 : Below w7.heap.size w7 (w7.alloc (.cells ((lkT (k + 1)).flatMap Ca.cells).toArray 50)) := (Below.refl _ w7).alloc (Nat.le_refl _) _
      have hB8 := hB7.trans (hb8.mono hB7.size)
      have ho8 := own_below ho7 hb8 (Nat.le_refl _)
      have hl8 : Blk (w7.alloc (.cells ((lkT (k + 1)).flatMap Ca.cells).toArray 50)) w7.heap.size 50 ((lkT (k + 1)).flatMap Ca.cells) := Blk.new w7 _ _
      have hcl : ∀ i v, ((lkT (k + 1)).flatMap Ca.cells)[i]? = some v → (w7.alloc (.cells ((lkT (k + 1)).flatMap Ca.cells).toArray 50)).cell? ((⟨w7.heap.size, 0, none⟩ : Addr).add i) = some v := fun i v h => by
        rw [add_plain, Nat.zero_add]
        exact (hl8.cell i).trans h
      have hoc : ∀ v ∈ (lkT (k + 1)).flatMap Ca.cells, v.oneCell' = true := fun v hv => by
        simp only [lkT, List.flatMap_cons, List.flatMap_nil, Ca.cells, Sy.atC, List.mem_append, List.mem_cons, List.mem_nil_iff, or_false] at hv
        rcases hv with hv | hv | hv <;> rcases hv with rfl | rfl | rfl | rfl | rfl | rfl | rfl | rfl | rfl <;> rfl
      have HCL := Lib.hid hcl
      have HOC := Lib.hid hoc
      clear hcl hoc hl8 hb8 hB7 ho7
      go_wp2_with (at_builtin; go_must (refine wpList_append_own (w7.alloc (.cells ((lkT (k + 1)).flatMap Ca.cells).toArray 50)) rfl _ _ _ rfl w2.heap.size 50 i0 _ 9 96 Tryz.underlying27 hif hi0 hi1 hi2 rfl (by decide) u4 _ _ rfl ho8 ⟨w7.heap.size, 0, none⟩ 3 3 ((lkT (k + 1)).flatMap Ca.cells) rfl rfl HCL.out HOC.out (by unfold maxLen; omega) (by omega) hB8.size ?_); intro v9 w9 own9 hg9 hat9)
      have hB9 := below_grown hB8 hg9 hB8.size (fun q hq => (World.ownsRow.lt ho8 q hq).1)
      have ho9 : w9.ownsRow w2.heap.size 50 9 v9 (Sy.linksL (k + 1)).length ((Sy.linksL (k + 1)).flatMap Ca.cells) := by
        rw [hlen2, ← HAL.out]; exact own9
      obtain ⟨A9, c9, rfl⟩ := own_slice ho9
      clear own9 hg9 hat9 ho8 hB8 HCL HOC HAL
      go_wp2_with fail
      refine (base_any w9).mono ?_
      rintro e w10 ⟨Ab, rfl, hr10, hb⟩
      have hB10 := hB9.trans (hb.mono hB9.size)
      have ho10 := own_below ho9 hb (Nat.le_refl _)
      have cP := play_any none Ab A9 0 1 c9 Sy.bU (Sy.linksL (k + 1)) w10 hr10 bU_sm (cas_own ho10) (lk_sm (k + 1)) (by omega)
      rw [HPL.out] at cP
      unfold PlayRel at cP
      dsimp only at cP
      have HC := Lib.hid cP
      clear cP hr10 hb ho9 ho10 hB9 HPL
      rw [hlen2] at HC ⊢
      go_wp2_with fail
      refine HC.out.mono ?_
      rintro e w11 ⟨Aq, Aq', cq, cq', AT, cT, v, rfl, -, -, -, hO, hb⟩
      have hB11 := hB2.trans ((hB10.trans (hb.mono hB10.size)).mono hB2.size)
      obtain ⟨Aa, ca, rfl, hat⟩ := hO.at_
      obtain ⟨b, o, -, -, rfl, hbz, p0, -, p2, -, -⟩ := hat (k + 1) (by omega)
      obtain ⟨b', o', -, -, hbe, -, q0, -, -, -, -⟩ := hat (k + 1 + 2) (by omega)
      cases hbe
      clear hat hO hb HC hB10
      rw [HA2.out] at q0
      have hbS := (Below.refl w11.heap.size w11).alloc (Nat.le_refl _) (.cells #[.slice Aq x.1.U.length cq, .slice Aq' x.1.L.length cq', .slice AT x.2.1.length cT, .int .i64 x.2.2] 33)
      have hBS := hB11.trans (hbS.mono hB11.size)
      have p0 := (hbS.cell (p := ⟨b, o + (k + 1) * 4, none⟩) hbz).trans p0
      have p2 := (hbS.cell (p := ⟨b, o + (k + 1) * 4 + 2, none⟩) hbz).trans p2
      have q0 := (hbS.cell (p := ⟨b, o + (k + 1 + 2) * 4, none⟩) hbz).trans q0
      have ha8 := HA8.out
      have ha0 := HA0.out
      generalize an[k + 1].err = er at p0 ha8 ha0
      generalize an[k + 1].text = tx at p2 ha0
      rw [hal]
      clear hbS hB11 HA2 HA8 HA0
      go_upto_region 14 with fail
      change Code.wp _ _ _ _ (w11.alloc (.cells #[.slice Aq x.1.U.length cq, .slice Aq' x.1.L.length cq', .slice AT x.2.1.length cT, .int .i64 x.2.2] 33))
      generalize w11.alloc (.cells #[.slice Aq x.1.U.length cq, .slice Aq' x.1.L.length cq', .slice AT x.2.1.length cT, .int .i64 x.2.2] 33) = w12 at *
      rcases t8 : decide ((8 : Int) < (k : Int) + 1) with _ | _
      · have h8 : k + 1 ≤ 8 := by have := of_decide_eq_false t8; omega
        obtain ⟨he, htx⟩ := ha0 h8
        subst he htx
        have f4 : (Sy.oneB.toList == [111, 110, 101]) = true := by rw [Lib.toList_data]; rfl
        clear ha8 ha0
        go_wp2_with fail
        go_ret
        exact ⟨rfl, hBS⟩
      · have h8 : 8 < k + 1 := by have := of_decide_eq_true t8; omega
        have he := ha8 h8
        subst he
        clear ha8 ha0
        go_wp2_with fail
        go_ret
        exact ⟨rfl, hBS⟩
end Go.Proofs.YtjppfhgkanbemacGreatDoor
