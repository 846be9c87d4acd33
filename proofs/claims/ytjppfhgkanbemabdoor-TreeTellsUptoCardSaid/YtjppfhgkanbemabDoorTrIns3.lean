/-
  slices.Insert at entries, in a new row; and the three roads in one.
-/
import Derived.Test.YtjppfhgkanbemabDoorTrIns2
namespace Go.Proofs.YtjppfhgkanbemabDoor
open Go.RowKit Go.Shelf

/-- The new row's cells. -/
theorem new_cells {row xs x : List Value} {n k : Nat} (hx : x.length = 4) (hxl : xs.length = n * 4) (ht : row.take (k * 4) = xs.take (k * 4)) (hr : (n + 1) * 4 ≤ row.length) (hk : k ≤ n) :
    ((row.take (k * 4) ++ x ++ row.drop (k * 4 + x.length)).take ((k + 1) * 4) ++ xs.drop (k * 4) ++ (row.take (k * 4) ++ x ++ row.drop (k * 4 + x.length)).drop ((k + 1) * 4 + (xs.drop (k * 4)).length)).take ((n + 1) * 4) = xs.take (k * 4) ++ x ++ xs.drop (k * 4) := by
  have e1 : (row.take (k * 4) ++ x ++ row.drop (k * 4 + x.length)).take ((k + 1) * 4) = xs.take (k * 4) ++ x := by
    rw [List.take_append_of_le_length (by rw [List.length_append, List.length_take, hx]; omega), List.take_of_length_le (by rw [List.length_append, List.length_take, hx]; omega), ht]
  rw [e1, List.take_append_of_le_length, List.take_of_length_le]
  · simp only [List.length_append, List.length_take, List.length_drop, hx, hxl]; omega
  · simp only [List.length_append, List.length_take, List.length_drop, hx, hxl]; omega

set_option maxHeartbeats 4000000 in
set_option maxRecDepth 100000 in
theorem einsert_new (base g cap vb k : Nat) (l : List En) (x : En) (w : World) (ho : EnOwn w base (.slice (some ⟨g, 0, none⟩) l.length cap) l) (hx : Blk w vb 32 x.cells) (hk : k < l.length) (hbig : l.length ≤ 1000000) (hroom : cap < l.length + 1) (hbase : base ≤ w.heap.size) :
    Calls Tryd.prog 52 #[.slice (some ⟨g, 0, none⟩) l.length cap, .int .i64 k, .slice (some ⟨vb, 0, none⟩) 1 1] w fun e w' => ∃ v, e = .returned v ∧ EnOwn w' base v (insAt l k x) ∧ w.grownBy w' (some g) := by
  have hgz : g < w.heap.size := (World.ownsRow.lt ho g rfl).2
  have hcc := fun j u hu => (World.ownsRow.cells ho (g := g) rfl j u hu)
  have hcell : ∀ j u, (En.flat l)[j]? = some u → w.cell? ⟨g, j, none⟩ = some u := fun j u hu => by
    have := hcc j u hu
    rw [add4, Nat.zero_add] at this
    exact this
  clear hcc
  have hxs0 := ho.1
  have hcapn : l.length ≤ cap := by
    rcases own_shape ho with ⟨h, _⟩ | ⟨_, _, h, _, _, hc⟩
    · cases h
    · injection h with _ _ h; rw [h]; exact hc
  clear ho
  obtain ⟨i0, hi0, hz0, hzs, hzb⟩ := info_parts info_en
  obtain ⟨n, hn⟩ : ∃ n, n = l.length := ⟨_, rfl⟩
  rw [← hn] at hk hbig hroom hxs0 hcapn ⊢
  have hxs : (En.flat l).length = n * 4 := hxs0
  have hvw : vb < w.heap.size := hx.lt
  have hkk : (n : Int) + 1 - (k : Int) = ((n + 1 - k : Nat) : Int) := by omega
  have hik : k + (n + 1 - k) = n + 1 := by omega
  have hold : (Builtin.firstCells i0.size k (.slice (some ⟨g, 0, none⟩) k cap)).run Tryd.prog w.drew = .ok ((En.flat l).take (k * 4)).toArray w.drew := by
    rw [hzs]
    exact run_firstCells_some w.drew 4 k ⟨g, 0, none⟩ k cap ((En.flat l).take (k * 4)) (by rw [List.length_take, hxs]; omega) (fun j v hj => by
      rw [add4, Nat.zero_add]
      rw [List.getElem?_take] at hj
      split at hj
      · exact hcell j v hj
      · cases hj)
  have hrz : ∀ ty, (Builtin.append_ #[23, 3] ty #[.slice (some ⟨g, 0, none⟩) k cap, .int .i64 ((n : Int) + 1 - (k : Int))]).run Tryd.prog w =
      .ok (.slice (some ⟨w.heap.size, 0, none⟩) (n + 1) (grownCap w (n + 1) cap 32)) (w.drew.alloc (.cells (((En.flat l).take (k * 4)).toArray ++ Builtin.zeroCells (Value.agg #[.string ⟨#[]⟩, .int .i64 0, .string ⟨#[]⟩, .bool false]).cells (n + 1 - k) ++ Builtin.zeroCells (Value.agg #[.string ⟨#[]⟩, .int .i64 0, .string ⟨#[]⟩, .bool false]).cells (grownCap w (n + 1) cap 32 - (n + 1))) 32)) := fun ty => by
    have h := Lib.run_append_grow_zeros (P := Tryd.prog) w 23 3 ty 32 i0 _ .i64 .i64 Tryd.underlying23 Tryd.underlying3 hi0 hz0 (some ⟨g, 0, none⟩) k cap ((En.flat l).take (k * 4)) hold (n + 1 - k) (by omega) (by omega) (by omega) (by omega) (by rw [hzb]; omega) (by rw [hzb, hik]; exact growslice_fits (by omega) (by omega))
    rw [hik] at h
    rw [hkk]
    exact h
  obtain ⟨G, hG⟩ : ∃ G, G = grownCap w (n + 1) cap 32 := ⟨_, rfl⟩
  obtain ⟨ROW, hROW⟩ : ∃ ROW : Array Value, ROW = ((En.flat l).take (k * 4)).toArray ++ Builtin.zeroCells (Value.agg #[.string ⟨#[]⟩, .int .i64 0, .string ⟨#[]⟩, .bool false]).cells (n + 1 - k) ++ Builtin.zeroCells (Value.agg #[.string ⟨#[]⟩, .int .i64 0, .string ⟨#[]⟩, .bool false]).cells (G - (n + 1)) := ⟨_, rfl⟩
  have hGn : n + 1 ≤ G := by rw [hG]; exact grownCap_ge w _ _ _
  have hGm : G ≤ maxLen := by rw [hG]; exact grownCap_le_maxLen w (n + 1) cap _ (by unfold maxLen; omega)
  rw [← hG] at hrz
  rw [← hROW] at hrz
  have hRl : ROW.toList.length = G * 4 := by
    rw [hROW]
    simp [Builtin.zeroCells, Value.cells, hxs]
    omega
  have hRt : ROW.toList.take (k * 4) = (En.flat l).take (k * 4) := by
    rw [hROW]
    simp only [Array.toList_append, List.append_assoc]
    rw [List.take_append_of_le_length (by simp [hxs]; omega), List.take_of_length_le (by simp [hxs]; omega)]
  obtain ⟨W1, hW1⟩ : ∃ W1, W1 = w.drew.alloc (.cells ROW 32) := ⟨_, rfl⟩
  rw [← hW1] at hrz
  have hblk : W1.heap[w.heap.size]? = some (.cells ROW 32 (0, 0)) := by rw [hW1]; exact heap_alloc_new w.drew _
  have hold1 : ∀ q, q < w.heap.size → W1.heap[q]? = w.heap[q]? := fun q hq => by rw [hW1]; exact Below.heap_alloc w.drew _ q hq
  obtain ⟨r1, hr1⟩ : ∃ r1 : List Value, r1 = ROW.toList.take (k * 4) ++ x.cells ++ ROW.toList.drop (k * 4 + x.cells.length) := ⟨_, rfl⟩
  have hr1l : r1.length = G * 4 := by rw [hr1]; simp only [List.length_append, List.length_take, List.length_drop, hRl, cells_len]; omega
  obtain ⟨r2, hr2⟩ : ∃ r2 : List Value, r2 = r1.take ((k + 1) * 4) ++ (En.flat l).drop (k * 4) ++ r1.drop ((k + 1) * 4 + ((En.flat l).drop (k * 4)).length) := ⟨_, rfl⟩
  have hdl : ((En.flat l).drop (k * 4)).length = (n - k) * 4 := by rw [List.length_drop, hxs]; omega
  have hr2l : r2.length = G * 4 := by rw [hr2]; simp only [List.length_append, List.length_take, List.length_drop, hr1l, hxs]; omega
  have hfin := new_cells (x := x.cells) (cells_len x) hxs hRt (by rw [hRl]; omega) (Nat.le_of_lt hk)
  rw [← hr1, ← hr2] at hfin
  have hcpA : ∀ (W : World), W.heap = W1.heap → ∀ ty dc, (Builtin.copy_ #[23, 22] ty #[.slice (some ⟨w.heap.size, k * 4, none⟩) (n + 1 - k) dc, .slice (some ⟨vb, 0, none⟩) 1 1]).run Tryd.prog W = .ok (goInt (1 : Nat)) (W.setRow w.heap.size r1.toArray) := fun W hW ty dc => by
    have h := run_copy4 (P := Tryd.prog) W 23 22 ty 32 w.heap.size (k * 4) (n + 1 - k) dc ⟨vb, 0, none⟩ 1 1 ROW _ x.cells 1 Tryd.underlying23 info4 (by rw [hW]; exact hblk) (by simp only [Nat.min_def]; split <;> omega) rfl
      (fun j v hj => by
        rw [add4, Nat.zero_add]
        exact (World.cell?_of_block (w := w) (w' := W) (a := ⟨vb, j, none⟩) (by rw [hW]; exact hold1 vb hvw)).trans ((hx.cell j).trans hj)) (by rw [cells_len, ← Array.length_toList, hRl]; omega) (cells_one x)
    rw [h, hr1]
  have hcpB : ∀ (W : World), W.heap = (W1.setRow w.heap.size r1.toArray).heap → ∀ ty dc sc, (Builtin.copy_ #[23, 23] ty #[.slice (some ⟨w.heap.size, (k + 1) * 4, none⟩) (n - k) dc, .slice (some ⟨g, k * 4, none⟩) (n - k) sc]).run Tryd.prog W = .ok (goInt (n - k : Nat)) (W.setRow w.heap.size r2.toArray) := fun W hW ty dc sc => by
    have hgg : W.heap[w.heap.size]? = some (.cells r1.toArray 32 (0, 0)) := by rw [hW]; exact setRow_heap W1 _ _ _ _ _ hblk
    have hg2 : W.heap[g]? = w.heap[g]? := by
      rw [hW]
      have hb := (grown_setRow (w := W1) (g := w.heap.size) (cs := r1.toArray)).block g (by rw [hW1, World.size_alloc]; show g < w.heap.size + 1; omega) (fun e => by injection e; omega)
      rw [hb]; exact hold1 g hgz
    have h := run_copy4 (P := Tryd.prog) W 23 23 ty 32 w.heap.size ((k + 1) * 4) (n - k) dc ⟨g, k * 4, none⟩ (n - k) sc r1.toArray _ ((En.flat l).drop (k * 4)) (n - k) Tryd.underlying23 info4 hgg (by simp only [Nat.min_def]; split <;> omega) hdl
      (fun j v hj => by
        rw [add4]
        rw [List.getElem?_drop] at hj
        exact (World.cell?_of_block (w := w) (w' := W) (a := ⟨g, k * 4 + j, none⟩) hg2).trans (hcell _ v hj)) (by rw [hdl]; simp [hr1l]; omega) (fun v hv => eflat_one (List.mem_of_mem_drop hv))
    rw [h, hr2]
  have HF : ∀ W : World, W.heap = ((W1.setRow w.heap.size r1.toArray).setRow w.heap.size r2.toArray).heap → EnOwn W base (.slice (some ⟨w.heap.size, 0, none⟩) (n + 1) G) (insAt l k x) := fun W hW => by
    unfold EnOwn
    rw [insAt_len l k x (by omega), insAt_flat, ← hn]
    refine ⟨by rw [List.length_append, List.length_append, List.length_take, hdl, hxs, cells_len]; omega, .inr ⟨w.heap.size, G, r2.toArray, rfl, hbase, ?_, hGn, hGm, by simpa using hr2l, by simpa using hfin⟩⟩
    rw [hW]
    exact setRow_heap _ _ _ _ _ _ (setRow_heap W1 _ _ _ _ _ hblk)
  have HG : ∀ q, q < w.heap.size → ((W1.setRow w.heap.size r1.toArray).setRow w.heap.size r2.toArray).heap[q]? = w.heap[q]? := fun q hq => by
    have hs : q < W1.heap.size := by rw [hW1, World.size_alloc]; show q < w.heap.size + 1; omega
    have h1 := (grown_setRow (w := W1) (g := w.heap.size) (cs := r1.toArray)).block q hs (fun e => by injection e; omega)
    have h2 := (grown_setRow (w := W1.setRow w.heap.size r1.toArray) (g := w.heap.size) (cs := r2.toArray)).block q (Nat.lt_of_lt_of_le hs (grown_setRow (w := W1) (g := w.heap.size) (cs := r1.toArray)).size) (fun e => by injection e; omega)
    exact (h2.trans h1).trans (hold1 q hq)
  have HS : ((W1.setRow w.heap.size r1.toArray).setRow w.heap.size r2.toArray).heap.size = w.heap.size + 1 := by
    simp [World.setRow, hW1, World.size_alloc]
  have HEND : Hid (∀ W : World, W.heap = ((W1.setRow w.heap.size r1.toArray).setRow w.heap.size r2.toArray).heap → W.os = w.os → W.tape = w.tape → W.output = w.output → EnOwn W base (.slice (some ⟨w.heap.size, 0, none⟩) (n + 1) G) (insAt l k x) ∧ w.grownBy W (some g)) :=
    Lib.hid (fun W hW h1 h2 h3 => ⟨HF W hW, ⟨h1, h2, h3, by rw [hW, HS]; omega, fun q hq _ => by rw [hW]; exact HG q hq⟩⟩)
  have hG63 : G ≤ 9223372036854775807 := by unfold maxLen at hGm; exact hGm
  have hmix : Tryd.prog.follows .mixedOrders = true := by kernel_rfl
  have hz2 : ¬ ((k : Int) = (n : Int)) := by omega
  have hz3 : (cap : Int) < (n : Int) + 1 := by omega
  have hw1 : IntKind.i64.wrap ((k : Int) + 1) = (k : Int) + 1 := IntWalk.i64_in _ (by omega)
  have hb1 : (0 : Int) ≤ (k : Int) + 1 := by omega
  have hin : k ≤ n := by omega
  have htn : ((k : Int) + 1).toNat = k + 1 := by omega
  have hb3 : (k : Int) ≤ (n : Int) := by omega
  have hGi : ¬ (G = k) := by omega
  have hGim : ¬ (G = k + 1) := by omega
  have hci : ¬ (cap = k) := by omega
  have hb5 : (k : Int) ≤ (n : Int) + 1 := by omega
  have hh1 : (w.alloc (.cells ROW 32)).drew.heap = W1.heap := by rw [hW1]; rfl
  have hh2 : W1.heap = W1.heap := rfl
  clear hkk hik hold hROW hG hRl hRt hblk hold1 hr1 hr2 hr1l hr2l hdl hfin HF HG HS hxs hxs0 hn hcell hx hi0 hz0 hzs hzb
  subst hW1
  have hE : (((w.alloc (.cells ROW 32)).drew.setRow w.heap.size r1.toArray).drew).heap = ((w.drew.alloc (.cells ROW 32)).setRow w.heap.size r1.toArray).heap := rfl
  go_enter Tryd.func52, Tryd.ntmps52
  go_wp2_with (first
    | (at_builtin; refine Lib.wpList_append_run _ rfl _ _ _ _ rfl _ _ rfl rfl _ _ (hrz _) ?_)
    | (at_builtin; refine wpList_copy_runI _ rfl _ _ 23 22 rfl _ _ rfl rfl (hcpA _ rfl _ _) ?_))
  go_region_law_o (refine step_copy_runI rfl _ _ 23 23 rfl (.slice (some ⟨w.heap.size, (k + 1) * 4, none⟩) (n - k) (G - (k + 1))) (.slice (some ⟨g, k * 4, none⟩) (n - k) (cap - k)) (by simp [Act.eval, Act.put]) (by simp [Act.eval, Act.put]) (hcpB _ hE 3 (G - (k + 1)) (cap - k)) ?_)
  go_wp2
  go_ret
  exact ⟨_, rfl, HEND.out (((w.alloc (.cells ROW 32)).drew.setRow w.heap.size r1.toArray).drew.setRow w.heap.size r2.toArray) rfl rfl rfl rfl⟩

theorem einsert_any (base g cap vb k : Nat) (l : List En) (x : En) (w : World) (ho : EnOwn w base (.slice (some ⟨g, 0, none⟩) l.length cap) l) (hx : Blk w vb 32 x.cells) (hne : vb ≠ g) (hk : k ≤ l.length) (hbig : l.length ≤ 1000000) (hbase : base ≤ w.heap.size) :
    Calls Tryd.prog 52 #[.slice (some ⟨g, 0, none⟩) l.length cap, .int .i64 k, .slice (some ⟨vb, 0, none⟩) 1 1] w fun e w' => ∃ v, e = .returned v ∧ EnOwn w' base v (insAt l k x) ∧ w.grownBy w' (some g) := by
  rcases Nat.eq_or_lt_of_le hk with e | h
  · subst e; exact einsert_end base g cap vb l x w ho hx hbig hbase
  · rcases Nat.lt_or_ge cap (l.length + 1) with h1 | h1
    · exact einsert_new base g cap vb k l x w ho hx h hbig h1 hbase
    · exact einsert_place base g cap vb k l x w ho hx hne h hbig h1
set_option maxHeartbeats 1000000 in
theorem einsert_nil (vb : Nat) (x : En) (w : World) (hx : Blk w vb 32 x.cells) :
    Calls Tryd.prog 52 #[.slice none 0 0, .int .i64 0, .slice (some ⟨vb, 0, none⟩) 1 1] w fun e w' => ∃ v, e = .returned v ∧ EnOwn w' w.heap.size v [x] ∧ w.grownBy w' none := by
  obtain ⟨i0, hi, hz0, hz1, hz2⟩ := info_parts info_en
  obtain ⟨v', w', hrun, own', hg', _, _⟩ := run_append_own_at (P := Tryd.prog) w w.heap.size 23 23 32 i0 _ 4 48 Tryd.underlying23 hi hz0 hz1 hz2 rfl (by decide) _ _ _ (EnOwn.nil w w.heap.size) ⟨vb, 0, none⟩ 1 1 x.cells rfl (fun j u hu => by rw [add4, Nat.zero_add]; exact (hx.cell j).trans hu) (cells_one x) (by decide) (by decide) (Nat.le_refl _)
  rw [← app2_same w 23 22 32 32 _ Tryd.underlying23 Tryd.underlying22] at hrun
  go_enter Tryd.func52, Tryd.ntmps52
  go_wp2_with (at_builtin; refine Lib.wpList_append_run _ rfl _ _ _ _ rfl _ _ rfl rfl _ _ hrun ?_)
  all_goals (go_ret; exact ⟨_, rfl, own', hg'⟩)
end Go.Proofs.YtjppfhgkanbemabDoor
