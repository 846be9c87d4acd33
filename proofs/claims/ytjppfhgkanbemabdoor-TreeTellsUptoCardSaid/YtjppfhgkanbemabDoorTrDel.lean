/-
  slices.Delete at entries, one taken out.
-/
import Derived.Test.YtjppfhgkanbemabDoorTrIns3
import Derived.Test.YtjppfhgkanbemabDoorTrOps
namespace Go.Proofs.YtjppfhgkanbemabDoor
open Go.RowKit Go.Shelf

def delAt (l : List En) (k : Nat) : List En := l.take k ++ l.drop (k + 1)
theorem delAt_len (l : List En) (k : Nat) (hk : k < l.length) : (delAt l k).length = l.length - 1 := by
  unfold delAt; rw [List.length_append, List.length_take, List.length_drop]; omega
theorem flat_drop (l : List En) (k : Nat) (hk : k ≤ l.length) : (En.flat l).drop (k * 4) = En.flat (l.drop k) := by
  have h := eflat_append (l.take k) (l.drop k)
  rw [List.take_append_drop] at h
  rw [h, ← eflat_take, List.drop_append, List.drop_eq_nil_of_le (by rw [List.length_take]; omega), List.nil_append, List.length_take, eflat_len, Nat.min_eq_left (by omega), Nat.sub_self, List.drop_zero]
theorem delAt_flat (l : List En) (k : Nat) (hk : k < l.length) : En.flat (delAt l k) = (En.flat l).take (k * 4) ++ (En.flat l).drop ((k + 1) * 4) := by
  unfold delAt
  rw [eflat_append, eflat_take, flat_drop l (k + 1) hk]
theorem without_at {l : List En} {k : Nat} {p : Pt.Bs} (hs : Tr.Srt l) (hk : k < l.length) (hp : l[k].P = p) : Tr.without l p = delAt l k := by
  unfold Tr.without delAt
  have e : l = l.take k ++ ([l[k]] ++ l.drop (k + 1)) := by
    rw [List.singleton_append, ← List.drop_eq_getElem_cons hk, List.take_append_drop]
  have hne : ∀ j (hj : j < l.length), j ≠ k → l[j].P ≠ p := by
    intro j hj hjk he
    rcases Nat.lt_or_gt_of_ne hjk with h | h
    · have := srt_lt hs hk h; rw [hp] at this; rw [he, Pt.cmp_self] at this; omega
    · have := srt_lt hs hj h; rw [hp] at this; rw [he, Pt.cmp_self] at this; omega
  have e1 : (l.take k).filter (fun e => e.P != p) = l.take k := by
    rw [List.filter_eq_self]
    intro y hy
    obtain ⟨j, hj, rfl⟩ := List.getElem_of_mem hy
    rw [List.length_take] at hj
    rw [List.getElem_take]
    simpa using hne j (by omega) (by omega)
  have e2 : (l.drop (k + 1)).filter (fun e => e.P != p) = l.drop (k + 1) := by
    rw [List.filter_eq_self]
    intro y hy
    obtain ⟨j, hj, rfl⟩ := List.getElem_of_mem hy
    rw [List.length_drop] at hj
    rw [List.getElem_drop]
    simpa using hne (k + 1 + j) (by omega) (by omega)
  have e3 : l.filter (fun e => e.P != p) = (l.take k ++ ([l[k]] ++ l.drop (k + 1))).filter (fun e => e.P != p) := congrArg _ e
  rw [e3, List.filter_append, List.filter_append, e1, e2]
  simp [hp]

section
variable {P : Program}
theorem step_app_runE {ops : Array Oper} {o : Oper} {a : Act} {w : World} {K : Act → World → Prop} {Q : Exit → Act → World → Prop} {E : Prop} (hgd : o.guard = none) (s x : Operand) (t tn : TypeId)
    (ho : o.op = .call { callee := .builtin .append, args := #[s, x], argTypes := #[t, tn] }) (vs vx : Value) (hs : a.eval s = vs) (hx : a.eval x = vx)
    {v' : Value} {w' : World} (hr : (Builtin.append_ #[t, tn] o.type #[vs, vx]).run P w = .ok v' w') (h : K (a.put o.dst v') w') : if Region.wanted o (yielded ops a.tmps) = true then Oper.wp P o a w K Q else E := by
  have hw : Region.wanted o (yielded ops a.tmps) = true := by simp [Region.wanted, hgd]
  rw [if_pos hw]
  exact Lib.wp_append_run w s x t tn ho vs vx hs hx v' w' hr h
/-- 'append(s[:k], ..)' where there is room, over a row. -/
theorem run_app_room4 (w : World) (t ty e : TypeId) (ht : P.underlying t = some (.slice e)) (hs : (P.info? e).map (·.size) = some 4) (g k cap m c : Nat) (ad : Addr) (cur : Array Value) (T : TypeId) (cs : List Value)
    (hg : w.heap[g]? = some (.cells cur T (0, 0))) (hn : cs.length = m * 4) (hsrc : ∀ j v, cs[j]? = some v → w.cell? (ad.add j) = some v) (hroom : k + m ≤ cap) (hfit : k * 4 + cs.length ≤ cur.size) (h1 : ∀ v ∈ cs, v.oneCell' = true) :
    (Builtin.append_ #[t, t] ty #[.slice (some ⟨g, 0, none⟩) k cap, .slice (some ad) m c]).run P w = .ok (.slice (some ⟨g, 0, none⟩) (k + m) cap) (w.setRow g (cur.toList.take (k * 4) ++ cs ++ cur.toList.drop (k * 4 + cs.length)).toArray) := by
  have hl := run_loadCells_list (P := P) w ad cs hsrc
  have hst := run_storeCells_at P g (k * 4) T cs 0 cur w hg (by simpa using hfit) h1
  simp only [Nat.add_zero] at hst
  have ha : (⟨g, 0, none⟩ : Addr).add (k * 4) = ⟨g, k * 4, none⟩ := by rw [add4, Nat.zero_add]
  cases hq : P.info? e with
  | none => simp [hq] at hs
  | some i =>
    have hi : i.size = 4 := by simpa [hq] using hs
    simp [Builtin.append_, run_underlying ht, Builtin.lenOf, Builtin.firstCells, sizeOf, typeInfo, hq, hi, ← hn, hl, hroom, ha, hst]
end

theorem zero_en : ∀ w, (zeroValue 32).run Tryd.prog w = .ok (.agg #[.string ⟨#[]⟩, .int .i64 0, .string ⟨#[]⟩, .bool false]) w := fun w => by kernel_rfl

set_option maxHeartbeats 4000000 in
set_option maxRecDepth 100000 in
theorem edelete_any (base g cap k : Nat) (l : List En) (w : World) (ho : EnOwn w base (.slice (some ⟨g, 0, none⟩) l.length cap) l) (hk : k < l.length) (hbig : l.length ≤ 1000000) :
    Calls Tryd.prog 54 #[.slice (some ⟨g, 0, none⟩) l.length cap, .int .i64 k, .int .i64 ((k : Int) + 1)] w fun e w' => ∃ v, e = .returned v ∧ EnOwn w' base v (delAt l k) ∧ w.grownBy w' (some g) := by
  have hmix : Tryd.prog.follows .mixedOrders = true := by kernel_rfl
  obtain ⟨hxl, h1 | ⟨g', c', cur, hv, hbg, hh, hnc, hcm, hsz, htk⟩⟩ := ho
  · cases h1.1
  injection hv with hv1 hv2 hv3
  injection hv1 with hv1
  injection hv1 with hv1
  subst hv1 hv3
  obtain ⟨n, hn⟩ : ∃ n, n = l.length := ⟨_, rfl⟩
  rw [← hn] at hk hbig hnc hxl htk ⊢
  have hxs : (En.flat l).length = n * 4 := hxl
  have hcurl : cur.toList.length = cap * 4 := by simpa using hsz
  have hc63 : cap ≤ 9223372036854775807 := by unfold maxLen at hcm; exact hcm
  have hcell : ∀ j u, (En.flat l)[j]? = some u → w.cell? ⟨g, j, none⟩ = some u := fun j u hu => by
    rw [cell_of_row w g j cur _ _ hh]
    rw [← htk, List.getElem?_take] at hu
    split at hu
    · simpa using hu
    · cases hu
  obtain ⟨news, hnews⟩ : ∃ news, news = (En.flat l).drop ((k + 1) * 4) := ⟨_, rfl⟩
  have hnl : news.length = (n - (k + 1)) * 4 := by rw [hnews, List.length_drop, hxs]; omega
  obtain ⟨A, hA, hsrc⟩ : ∃ A : Addr, (if cap = k + 1 then some (⟨g, 0, none⟩ : Addr) else some ⟨g, (k + 1) * 4, none⟩) = some A ∧ Hid (∀ t u, news[t]? = some u → w.drew.cell? (A.add t) = some u) := by
    by_cases h : cap = k + 1
    · refine ⟨⟨g, 0, none⟩, by simp [h], fun t u hu => ?_⟩
      have h0 : news.length = 0 := by rw [hnl]; omega
      rw [List.length_eq_zero_iff.1 h0] at hu
      simp at hu
    · refine ⟨⟨g, (k + 1) * 4, none⟩, by simp [h], fun t u hu => ?_⟩
      rw [add4]
      rw [hnews, List.getElem?_drop] at hu
      exact hcell _ u hu
  obtain ⟨c1, hc1⟩ : ∃ c1 : List Value, c1 = cur.toList.take (k * 4) ++ news ++ cur.toList.drop (k * 4 + news.length) := ⟨_, rfl⟩
  have hc1l : c1.length = cap * 4 := by rw [hc1]; simp only [List.length_append, List.length_take, List.length_drop, hnl, hcurl]; omega
  have hrun : ∀ ty, (Builtin.append_ #[23, 23] ty #[.slice (some ⟨g, 0, none⟩) k cap, .slice (some A) (n - (k + 1)) (cap - (k + 1))]).run Tryd.prog w.drew = .ok (.slice (some ⟨g, 0, none⟩) (k + (n - (k + 1))) cap) (w.drew.setRow g c1.toArray) := fun ty => by
    rw [hc1]
    exact run_app_room4 w.drew 23 ty 32 Tryd.underlying23 info4 g k cap (n - (k + 1)) (cap - (k + 1)) A cur _ news hh hnl hsrc.out (by omega) (by rw [hnl, hsz]; omega) (fun v hv => by rw [hnews] at hv; exact eflat_one (List.mem_of_mem_drop hv))
  have hown1 : (w.drew.setRow g c1.toArray).ownsRow base 32 4 (.slice (some ⟨g, 0, none⟩) n cap) n (c1.take (n * 4)) :=
    ⟨by rw [List.length_take, hc1l]; omega, .inr ⟨g, cap, c1.toArray, rfl, hbg, setRow_heap w.drew g cur _ _ _ hh, hnc, hcm, by simpa using hc1l, by simp⟩⟩
  have hk1 : k + (n - (k + 1)) = n - 1 := by omega
  rw [hk1] at hrun
  obtain ⟨w9, hcl, ho9, hg9⟩ := run_clear_own (P := Tryd.prog) (size := 4) 23 0 (.agg #[.string ⟨#[]⟩, .int .i64 0, .string ⟨#[]⟩, .bool false]) Tryd.underlying23 zero_en rfl (by simp [Value.cells, Value.oneCell']) hown1 (n - 1) (cap - (n - 1)) (some ⟨g, (n - 1) * 4, none⟩) (by omega) (fun _ => rfl)
  have HF : Hid (EnOwn w9 base (.slice (some ⟨g, 0, none⟩) (n - 1) cap) (delAt l k) ∧ w.grownBy w9 (some g)) := Lib.hid (by
    refine ⟨?_, grown_drew (grown_trans_row grown_setRow hg9)⟩
    unfold EnOwn
    rw [delAt_len l k (by omega), delAt_flat l k (by omega), ← hn]
    have e : (c1.take (n * 4)).take ((n - 1) * 4) = (En.flat l).take (k * 4) ++ (En.flat l).drop ((k + 1) * 4) := by
      rw [List.take_take, Nat.min_eq_left (by omega), hc1, ← hnews, List.take_append_of_le_length (by rw [List.length_append, List.length_take, hcurl, hnl]; omega), List.take_of_length_le (by rw [List.length_append, List.length_take, hcurl, hnl]; omega), ← htk, List.take_take, Nat.min_eq_left (by omega)]
    rw [← e]
    exact ho9)
  have hne1 : ¬ ((k : Int) = (k : Int) + 1) := by omega
  have hw1 : IntKind.i64.wrap ((k : Int) + 1) = (k : Int) + 1 := IntWalk.i64_in _ (by omega)
  have hb1 : (0 : Int) ≤ (k : Int) + 1 := by omega
  have hb2 : (k : Int) + 1 ≤ (n : Int) := by omega
  have hb3 : (k : Int) ≤ (k : Int) + 1 := by omega
  have htn : ((k : Int) + 1).toNat = k + 1 := by omega
  have hin : k ≤ cap := by omega
  have hb4 : k + 1 ≤ n := by omega
  have hb5 : (n : Int) ≤ (cap : Int) := by omega
  have hb6 : n - 1 ≤ n := by omega
  have hb7 : n ≤ cap := hnc
  have hb8 : ¬ (cap = n - 1) := by omega
  clear hh htk hsz hc1 hcurl hc1l hcell hnews hnl hown1 ho9 hg9 hxl hxs hk1 hn hsrc
  go_enter Tryd.func54, Tryd.ntmps54
  go_wp2_with fail
  go_region_law_o (refine step_app_runE rfl _ _ 23 23 rfl _ _ (by simp [Act.eval, Act.put]) (by simp [Act.eval, Act.put]) (hrun _) ?_)
  go_wp2_with (rw [hcl])
  go_ret
  exact ⟨_, rfl, HF.out.1, HF.out.2⟩
end Go.Proofs.YtjppfhgkanbemabDoor
