/-
  slices.Insert at entries, one put in: at the end; in place; in a new row.
-/
import Derived.Test.YtjppfhgkanbemabDoorTrIns
namespace Go.Proofs.YtjppfhgkanbemabDoor
open Go.RowKit Go.Shelf

theorem add4 (b o k : Nat) : (⟨b, o, none⟩ : Addr).add k = ⟨b, o + k, none⟩ := by
  unfold Addr.add
  split
  · rename_i h; subst h; rfl
  · rfl
theorem info4 : (Tryd.prog.info? 32).map (·.size) = some 4 := by
  obtain ⟨i0, hi, _, hz1, _⟩ := info_parts info_en
  rw [hi]; simp [hz1]
theorem cells_one (x : En) : ∀ v ∈ x.cells, v.oneCell' = true := by
  intro v hv
  simp [En.cells] at hv
  rcases hv with rfl | rfl | rfl | rfl <;> rfl
theorem cells_len (x : En) : x.cells.length = 4 := rfl

set_option maxHeartbeats 2000000 in
set_option maxRecDepth 100000 in
theorem einsert_end (base g cap vb : Nat) (l : List En) (x : En) (w : World) (ho : EnOwn w base (.slice (some ⟨g, 0, none⟩) l.length cap) l) (hx : Blk w vb 32 x.cells) (hbig : l.length ≤ 1000000) (hbase : base ≤ w.heap.size) :
    Calls Tryd.prog 52 #[.slice (some ⟨g, 0, none⟩) l.length cap, .int .i64 l.length, .slice (some ⟨vb, 0, none⟩) 1 1] w fun e w' => ∃ v, e = .returned v ∧ EnOwn w' base v (insAt l l.length x) ∧ w.grownBy w' (some g) := by
  obtain ⟨i0, hi, hz0, hz1, hz2⟩ := info_parts info_en
  obtain ⟨v', w', hrun, own', hg', _, _⟩ := run_append_own_at (P := Tryd.prog) w base 23 23 32 i0 _ 4 48 Tryd.underlying23 hi hz0 hz1 hz2 rfl (by decide) _ _ _ ho ⟨vb, 0, none⟩ 1 1 x.cells rfl (fun j u hu => by rw [add4, Nat.zero_add]; exact (hx.cell j).trans hu) (cells_one x) (by unfold maxLen; omega) (by omega) hbase
  rw [← app2_same w 23 22 32 32 _ Tryd.underlying23 Tryd.underlying22] at hrun
  have hcap : l.length ≤ cap := by
    rcases own_shape ho with ⟨h, _⟩ | ⟨_, _, h, _, _, hc⟩
    · cases h
    · injection h with _ _ h; rw [h]; exact hc
  have HF : Hid (EnOwn w' base v' (insAt l l.length x)) := Lib.hid (by
    unfold EnOwn
    rw [insAt_len l _ x (Nat.le_refl _), insAt_flat]
    have e1 : (En.flat l).take (l.length * 4) = En.flat l := by rw [List.take_of_length_le]; rw [eflat_len]; exact Nat.le_refl _
    have e2 : (En.flat l).drop (l.length * 4) = [] := by rw [List.drop_eq_nil_of_le]; rw [eflat_len]; exact Nat.le_refl _
    rw [e1, e2, List.append_nil]
    exact own')
  clear own' ho
  go_enter Tryd.func52, Tryd.ntmps52
  go_wp2_with (at_builtin; refine Lib.wpList_append_run _ rfl _ _ _ _ rfl _ _ rfl rfl _ _ hrun ?_)
  all_goals (go_ret; exact ⟨_, rfl, HF.out, hg'⟩)

/-- A row's cells, an entry put in. -/
theorem put_cells {cur xs x : List Value} {n k cap : Nat} (hx : x.length = 4) (hs : cur.length = cap * 4) (ht : cur.take (n * 4) = xs) (hk : k ≤ n) (hn : n + 1 ≤ cap) :
    ((cur.take ((k + 1) * 4) ++ xs.drop (k * 4) ++ cur.drop ((k + 1) * 4 + (xs.drop (k * 4)).length)).take (k * 4) ++ x ++ (cur.take ((k + 1) * 4) ++ xs.drop (k * 4) ++ cur.drop ((k + 1) * 4 + (xs.drop (k * 4)).length)).drop (k * 4 + x.length)).take ((n + 1) * 4) = xs.take (k * 4) ++ x ++ xs.drop (k * 4) := by
  have hxl : xs.length = n * 4 := by rw [← ht, List.length_take, hs]; omega
  have e1 : (cur.take ((k + 1) * 4) ++ xs.drop (k * 4) ++ cur.drop ((k + 1) * 4 + (xs.drop (k * 4)).length)).take (k * 4) = xs.take (k * 4) := by
    rw [List.append_assoc, List.take_append_of_le_length (by rw [List.length_take, hs]; omega), List.take_take, Nat.min_eq_left (by omega), ← ht, List.take_take, Nat.min_eq_left (by omega)]
  have e2 : (cur.take ((k + 1) * 4) ++ xs.drop (k * 4) ++ cur.drop ((k + 1) * 4 + (xs.drop (k * 4)).length)).drop (k * 4 + x.length) = xs.drop (k * 4) ++ cur.drop ((k + 1) * 4 + (xs.drop (k * 4)).length) := by
    rw [hx, List.append_assoc, List.drop_append, List.drop_eq_nil_of_le (by rw [List.length_take]; omega), List.nil_append, List.length_take, hs, Nat.min_eq_left (by omega), show k * 4 + 4 - (k + 1) * 4 = 0 by omega, List.drop_zero]
  rw [e1, e2, ← List.append_assoc, List.take_append_of_le_length, List.take_of_length_le]
  · rw [List.length_append, List.length_append, List.length_take, List.length_drop, hx, hxl]; omega
  · rw [List.length_append, List.length_append, List.length_take, List.length_drop, hx, hxl]; omega
theorem grown_setRow {w : World} {g : Nat} {cs : Array Value} : w.grownBy (w.setRow g cs) (some g) :=
  ⟨rfl, rfl, rfl, by simp [World.setRow], fun i _ hne => by
    simp only [World.setRow, Array.getElem?_modify]
    rw [if_neg (fun he => hne (by rw [he]))]⟩
theorem grown_drew {w w' : World} {row : Option Nat} (h : w.drew.grownBy w' row) : w.grownBy w' row := ⟨h.os, h.tape, h.output, h.size, h.block⟩

set_option maxHeartbeats 4000000 in
set_option maxRecDepth 100000 in
theorem einsert_place (base g cap vb k : Nat) (l : List En) (x : En) (w : World) (ho : EnOwn w base (.slice (some ⟨g, 0, none⟩) l.length cap) l) (hx : Blk w vb 32 x.cells) (hne : vb ≠ g) (hk : k < l.length) (hbig : l.length ≤ 1000000) (hroom : l.length + 1 ≤ cap) :
    Calls Tryd.prog 52 #[.slice (some ⟨g, 0, none⟩) l.length cap, .int .i64 k, .slice (some ⟨vb, 0, none⟩) 1 1] w fun e w' => ∃ v, e = .returned v ∧ EnOwn w' base v (insAt l k x) ∧ w.grownBy w' (some g) := by
  obtain ⟨hxl, h1 | ⟨g', c', cur, hv, hbg, hh, hnc, hcm, hsz, htk⟩⟩ := ho
  · cases h1.1
  injection hv with hv1 hv2 hv3
  injection hv1 with hv1
  injection hv1 with hv1
  subst hv1 hv3
  obtain ⟨n, hn⟩ : ∃ n, n = l.length := ⟨_, rfl⟩
  rw [← hn] at hk hbig hroom hnc hxl htk ⊢
  have hxs : (En.flat l).length = n * 4 := hxl
  have hc63 : cap ≤ 9223372036854775807 := by unfold maxLen at hcm; exact hcm
  have hcurl : cur.toList.length = cap * 4 := by simpa using hsz
  obtain ⟨c1, hc1⟩ : ∃ c1 : List Value, c1 = cur.toList.take ((k + 1) * 4) ++ (En.flat l).drop (k * 4) ++ cur.toList.drop ((k + 1) * 4 + ((En.flat l).drop (k * 4)).length) := ⟨_, rfl⟩
  obtain ⟨c2, hc2⟩ : ∃ c2 : List Value, c2 = c1.take (k * 4) ++ x.cells ++ c1.drop (k * 4 + x.cells.length) := ⟨_, rfl⟩
  have hdl : ((En.flat l).drop (k * 4)).length = (n - k) * 4 := by rw [List.length_drop, hxs]; omega
  have hc1l : c1.length = cap * 4 := by rw [hc1]; simp only [List.length_append, List.length_take, List.length_drop, hxs, hcurl]; omega
  have hfin := put_cells (x := x.cells) (cells_len x) hcurl htk (Nat.le_of_lt hk) hroom
  rw [← hc1, ← hc2] at hfin
  have hc2l : c2.length = cap * 4 := by rw [hc2, List.length_append, List.length_append, List.length_take, List.length_drop, hc1l, cells_len]; omega
  have hcell : ∀ j u, (En.flat l)[j]? = some u → w.cell? ⟨g, j, none⟩ = some u := fun j u hu => by
    rw [cell_of_row w g j cur _ _ hh]
    rw [← htk, List.getElem?_take] at hu
    split at hu
    · simpa using hu
    · cases hu
  have hcp1 : ∀ ty dc sc, (Builtin.copy_ #[23, 23] ty #[.slice (some ⟨g, (k + 1) * 4, none⟩) (n - k) dc, .slice (some ⟨g, k * 4, none⟩) (n + 1 - k) sc]).run Tryd.prog w.drew = .ok (goInt (n - k : Nat)) (w.drew.setRow g c1.toArray) := fun ty dc sc => by
    rw [hc1]
    exact run_copy4 w.drew _ _ ty 32 g ((k + 1) * 4) (n - k) dc ⟨g, k * 4, none⟩ (n + 1 - k) sc cur _ ((En.flat l).drop (k * 4)) (n - k) Tryd.underlying23 info4 hh (by simp only [Nat.min_def]; split <;> omega) hdl
      (fun j v hj => by rw [add4]; rw [List.getElem?_drop] at hj; exact hcell _ v hj) (by rw [hdl, hsz]; omega) (fun v hv => eflat_one (List.mem_of_mem_drop hv))
  have hcp2 : ∀ ty dc, (Builtin.copy_ #[23, 22] ty #[.slice (some ⟨g, k * 4, none⟩) (n + 1 - k) dc, .slice (some ⟨vb, 0, none⟩) 1 1]).run Tryd.prog (w.drew.setRow g c1.toArray) = .ok (goInt (1 : Nat)) ((w.drew.setRow g c1.toArray).setRow g c2.toArray) := fun ty dc => by
    have h := run_copy4 (P := Tryd.prog) (w.drew.setRow g c1.toArray) 23 22 ty 32 g (k * 4) (n + 1 - k) dc ⟨vb, 0, none⟩ 1 1 c1.toArray _ x.cells 1 Tryd.underlying23 info4 (setRow_heap w.drew g cur _ _ _ hh) (by simp only [Nat.min_def]; split <;> omega) rfl
      (fun j v hj => by
        rw [add4, Nat.zero_add]
        have hb := (grown_setRow (w := w.drew) (g := g) (cs := c1.toArray)).block vb hx.lt (fun e => hne (by injection e))
        exact (World.cell?_of_block hb).trans ((hx.cell j).trans hj)) (by rw [cells_len]; simp [hc1l]; omega) (cells_one x)
    rw [h, hc2]
  have hsa : w.shape? vb = some (32, 4) := by unfold World.shape?; unfold Blk at hx; rw [hx]; rfl
  have hsb : w.shape? g = some (32, cap * 4) := by unfold World.shape?; rw [hh]; simp [hsz]
  have hov : ∀ lb cb, (callFunc 78 #[.slice (some ⟨vb, 0, none⟩) 1 1, .slice (some ⟨g, (k + 1) * 4, none⟩) lb cb]).run Tryd.prog w = .ok (.value (.bool false)) w := fun lb cb => by
    rw [run_callFunc_extern Tryd.func78 (by kernel_rfl) (by kernel_rfl) (by kernel_rfl) (e := Extern.SlicesOverlaps.overlaps #[22, 22] #[4]) (by kernel_rfl),
      Lib.run_overlaps_apart w 22 4 32 Tryd.underlying22 4 (fun w => by kernel_rfl) ⟨vb, 0, none⟩ ⟨g, (k + 1) * 4, none⟩ 1 1 lb cb hne _ _ 4 (cap * 4) hsa hsb (by omega) (hx.frozen _) (hx.frozen _)]
    rfl
  have hmix : Tryd.prog.follows .mixedOrders = true := by kernel_rfl
  have HF : Hid (EnOwn ((w.drew.setRow g c1.toArray).setRow g c2.toArray) base (.slice (some ⟨g, 0, none⟩) (n + 1) cap) (insAt l k x)) := Lib.hid (by
    unfold EnOwn
    rw [insAt_len l k x (by omega), insAt_flat, ← hn]
    refine ⟨by rw [List.length_append, List.length_append, List.length_take, hdl, hxs, cells_len]; omega, .inr ⟨g, cap, c2.toArray, rfl, hbg, ?_, hroom, hcm, by simpa using hc2l, by simpa using hfin⟩⟩
    exact setRow_heap _ g _ _ _ _ (setRow_heap w.drew g cur _ _ _ hh))
  have HG : Hid (w.grownBy ((w.drew.setRow g c1.toArray).setRow g c2.toArray) (some g)) := Lib.hid (grown_drew (grown_trans_row grown_setRow grown_setRow))
  have hz2 : ¬ ((k : Int) = (n : Int)) := by omega
  have hw1 : IntKind.i64.wrap ((k : Int) + 1) = (k : Int) + 1 := IntWalk.i64_in _ (by omega)
  have hb1 : (0 : Int) ≤ (k : Int) + 1 := by omega
  have hin : k ≤ n := by omega
  have htn : ((k : Int) + 1).toNat = k + 1 := by omega
  have hb2 : ¬ (cap = k + 1) := by omega
  have hb3 : (k : Int) ≤ (n : Int) + 1 := by omega
  have hb4 : ¬ (cap = k) := by omega
  clear hh htk hsz hc1 hc2 hcurl hdl hc1l hc2l hfin hcell hx hsa hsb hxl hxs hn
  go_enter Tryd.func52, Tryd.ntmps52
  go_wp2_with (simp only [hov])
  go_region_law_o (refine step_copy_runI rfl _ _ 23 23 rfl _ _ (by simp [Act.eval, Act.put]) (by simp [Act.eval, Act.put]) (hcp1 _ _ _) ?_)
  go_wp2_with (at_builtin; refine wpList_copy_runI _ rfl _ _ 23 22 rfl _ _ rfl rfl (hcp2 _ _) ?_)
  go_ret
  exact ⟨_, rfl, HF.out, HG.out⟩
end Go.Proofs.YtjppfhgkanbemabDoor
