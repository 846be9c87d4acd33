/-
  slices.Clone and slices.Insert at entries.
-/
import Derived.Test.YtjppfhgkanbemabDoorTrSame
import Derived.Test.YtjppfhgkanbemabDoorMem3
import Derived.Shelf.Spec.SlicesInsertGrow
namespace Go.Proofs.YtjppfhgkanbemabDoor
open Go.RowKit Go.Shelf

theorem eclone_any (A : Option Addr) (c : Nat) (l : List En) (w : World) (hl : EnRd w w.heap.size A l) (hn : l.length ≤ 2000000) :
    Calls Tryd.prog 51 #[.slice A l.length c] w fun e w' => ∃ v, e = .returned v ∧ EnOwn w' w.heap.size v l ∧ Below w.heap.size w w' := by
  obtain ⟨i0, hi, hz0, hz1, hz2⟩ := info_parts info_en
  have hnil := fun W n k => Lib.run_eql_slice_nil (P := Tryd.prog) W 23 32 A n k 0 0 Tryd.underlying23
  rcases A with _ | ad
  · have h0 : l.length = 0 := by
      rcases Nat.eq_zero_or_pos l.length with h | h
      · exact h
      · obtain ⟨b, o, e, _⟩ := hl.2 h; cases e
    have hl0 : l = [] := List.eq_nil_of_length_eq_zero h0
    subst hl0
    simp only [Option.isNone_none] at hnil
    go_enter Tryd.func51, Tryd.ntmps51
    go_wp2_with fail
    go_ret
    exact ⟨_, rfl, EnOwn.nil _ _, Below.refl _ _⟩
  · simp only [Option.isNone_some] at hnil
    have hcell : ∀ (j : Nat) (u : Value), (En.flat l)[j]? = some u → (w.alloc (.cells #[] 32)).cell? (ad.add j) = some u := by
      intro j u hu
      have hj : j < (En.flat l).length := (List.getElem?_eq_some_iff.1 hu).1
      have hn : 0 < l.length := by rw [eflat_len] at hj; omega
      obtain ⟨b, o, e, hb, hc⟩ := hl.2 hn
      cases e
      have ha : (⟨b, o, none⟩ : Addr).add j = ⟨b, o + j, none⟩ := by
        unfold Addr.add
        split
        · rename_i h0; subst h0; rfl
        · rfl
      rw [ha, World.cell?_alloc_lt _ _ _ (by show b < w.heap.size; omega)]
      exact hc j u hu
    go_enter Tryd.func51, Tryd.ntmps51
    go_wp2_with (first
      | (at_builtin; go_must (refine wpList_append_own _ rfl _ _ _ rfl w.heap.size 32 i0 _ 4 48 Tryd.underlying23 hi hz0 hz1 hz2 rfl (by decide) (.slice (some ⟨w.heap.size, 0, none⟩) 0 0) 0 [] rfl (World.ownsRow_lit (e := 32) (size := 4) w #[] 0 (Nat.le_refl _) (by decide) rfl) ad l.length c (En.flat l) rfl (by exact hl.1) (by intro j u hu; exact hcell j u hu) (by intro u hu; exact eflat_one hu) (by unfold maxLen; omega) (by omega) (by simp) ?_); intro v1 w1 ho1 hg1 _))
    go_ret
    refine ⟨_, rfl, by simpa [EnOwn] using ho1, below_grown ((Below.refl _ _).alloc (Nat.le_refl _) _) hg1 (by simp) (fun k hk => by simp [Value.ownBlock] at hk; omega)⟩

theorem app2_same {P : Program} (w : World) (t t2 e e2 ty : TypeId) (ht : P.underlying t = some (.slice e)) (ht2 : P.underlying t2 = some (.slice e2)) (A : Option Addr) (n c : Nat) (x : Value) :
    (Builtin.append_ #[t, t2] ty #[.slice A n c, x]).run P w = (Builtin.append_ #[t, t] ty #[.slice A n c, x]).run P w := by
  simp [Builtin.append_, run_underlying ht, run_underlying ht2]
theorem run_copy4 {P : Program} (w : World) (dT sT ty elem : TypeId) (g o dLen dCap : Nat) (a : Addr) (sLen sCap : Nat) (cur : Array Value) (t : TypeId) (cs : List Value) (m : Nat)
    (hu : P.underlying dT = some (.slice elem)) (hs : (P.info? elem).map (·.size) = some 4)
    (hg : w.heap[g]? = some (.cells cur t (0, 0))) (hm : m = Nat.min sLen dLen) (hn : cs.length = m * 4)
    (hsrc : ∀ j v, cs[j]? = some v → w.cell? (a.add j) = some v) (hfit : o + cs.length ≤ cur.size) (h1 : ∀ v ∈ cs, v.oneCell' = true) :
    (Builtin.copy_ #[dT, sT] ty #[.slice (some ⟨g, o, none⟩) dLen dCap, .slice (some a) sLen sCap]).run P w =
      .ok (goInt m) (w.setRow g (cur.toList.take o ++ cs ++ cur.toList.drop (o + cs.length)).toArray) := by
  have hl := run_loadCells_list (P := P) w a cs hsrc
  have hst := run_storeCells_at P g o t cs 0 cur w hg (by simpa using hfit) h1
  cases hq : P.info? elem with
  | none => simp [hq] at hs
  | some i =>
    have hi : i.size = 4 := by simpa [hq] using hs
    simp only [Nat.add_zero] at hst
    simp [Builtin.copy_, run_underlying hu, Builtin.lenOf, Builtin.firstCells, sizeOf, typeInfo, hq, hi, ← hm, ← hn, hl, hst]

/-- An entry put in at a place. -/
def insAt (l : List En) (k : Nat) (x : En) : List En := l.take k ++ x :: l.drop k
theorem insAt_len (l : List En) (k : Nat) (x : En) (hk : k ≤ l.length) : (insAt l k x).length = l.length + 1 := by
  unfold insAt; rw [List.length_append, List.length_cons, List.length_take, List.length_drop]; omega
theorem insAt_flat (l : List En) (k : Nat) (x : En) : En.flat (insAt l k x) = (En.flat l).take (k * 4) ++ x.cells ++ (En.flat l).drop (k * 4) := by
  unfold insAt
  rw [show l.take k ++ x :: l.drop k = l.take k ++ ([x] ++ l.drop k) from rfl, eflat_append, eflat_append, eflat_take]
  have hd : (En.flat l).drop (k * 4) = En.flat (l.drop k) := by
    have h := eflat_append (l.take k) (l.drop k)
    rw [List.take_append_drop] at h
    rw [h, ← eflat_take, List.drop_append, List.drop_eq_nil_of_le (by rw [List.length_take]; omega), List.nil_append]
    rcases Nat.lt_or_ge l.length k with h1 | h1
    · rw [List.drop_eq_nil_of_le (Nat.le_of_lt h1)]; simp [En.flat]
    · rw [List.length_take, eflat_len, Nat.min_eq_left (by omega), Nat.sub_self, List.drop_zero]
  rw [hd, List.append_assoc]
  rfl
/-- The numbers of tree.Find are those of the insertion. -/
theorem ins_at {l : List En} {x : En} {k : Nat} (hk : k ≤ l.length) (h1 : ∀ t (h : t < l.length), t < k → Pt.cmp l[t].P x.P < 0) (h2 : ∀ t (h : t < l.length), k ≤ t → 0 ≤ Pt.cmp l[t].P x.P) (hno : ∀ y ∈ l, y.P ≠ x.P) : Tr.ins x l = insAt l k x := by
  induction l generalizing k with
  | nil => unfold insAt; simp [Tr.ins]
  | cons y r ih =>
    cases k with
    | zero =>
      have := h2 0 (by simp) (Nat.le_refl _)
      rw [Tr.ins, if_neg (by simpa using this), if_neg (hno y (by simp))]
      rfl
    | succ k =>
      have := h1 0 (by simp) (by omega)
      rw [Tr.ins, if_pos (by simpa using this), ih (k := k) (by simpa using hk) (fun t h ht => h1 (t + 1) (by simpa using h) (by omega)) (fun t h ht => h2 (t + 1) (by simpa using h) (by omega)) (fun z hz => hno z (by simp [hz]))]
      rfl
end Go.Proofs.YtjppfhgkanbemabDoor
