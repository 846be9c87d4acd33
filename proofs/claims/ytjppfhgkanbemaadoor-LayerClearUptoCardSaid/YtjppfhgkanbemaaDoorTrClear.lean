/-
  The walk of LayerClear: it returns true. (Printed by wip/genclear.py.)
-/
import Derived.Test.YtjppfhgkanbemaaDoorTrTs
import Derived.Deep.CutBlock
import Derived.Deep.DeepCutAuto
namespace Go.Proofs.YtjppfhgkanbemaaDoor
open Go.RowKit Go.Shelf Go.Sort

theorem own_empty {w : World} {g base : Nat} (h : w.heap[g]? = some (.cells #[] 36)) (hb : base ≤ g) : TsOwn w base (.slice (some ⟨g, 0, none⟩) 0 0) [] :=
  ⟨[], ⟨rfl, .inr ⟨g, 0, #[], rfl, hb, h, Nat.le_refl _, by decide, rfl, rfl⟩⟩, fun k h => absurd h (Nat.not_lt_zero k)⟩
theorem blk_rd {w : World} {g : Nat} {t : TypeId} {u : Value} (h : Blk w g t [u]) : Rd w (g + 1) 1 (some ⟨g, 0, none⟩) 1 [u] :=
  ⟨rfl, fun _ => ⟨g, 0, rfl, Nat.lt_succ_self _, fun j x hx => by rw [Nat.zero_add]; exact (h.cell j).trans hx⟩⟩
theorem one_nil (w : World) (base : Nat) {A : Option Addr} : ∀ j (h : j < ([[]] : List (List En)).length), ∃ Ak ck, ([.slice A 0 0] : List Value)[j]? = some (.slice Ak ([[]] : List (List En))[j].length ck) ∧ ([[]] : List (List En))[j].length ≤ ck ∧ EnRd w base Ak ([[]] : List (List En))[j] := by
  intro j h
  obtain rfl : j = 0 := by simpa using h
  exact ⟨A, 0, rfl, Nat.le_refl _, Rd.nil⟩
theorem drop_if {w w2 w5 : World} {ad : Addr} {ls : List (List En)} {c k : Nat} (hl : TsRd w w.heap.size (some ad) ls) (hB2 : Below w.heap.size w w2) (h : Below w2.heap.size w2 w5) (hk : k ≤ ls.length) (hc : ls.length ≤ c) : TsRd w5 w2.heap.size (if c = k then some ad else some (ad.add k)) (ls.drop k) := by
  split
  · rw [List.drop_eq_nil_of_le (by omega)]; exact TsRd.nil _ _ _
  · exact (((hl.below hB2).more hB2.size).drop k).below h
theorem clear_law {ls : List (List En)} {n : Nat} (h : (Tr.merge ls).2 = 0) (h4 : ls.length ≤ 4) (hn : n ≤ ls.length) : Tr.merge (ls.take n ++ [[]] ++ ls.drop n) = Tr.merge ls := by
  have e1 : Tr.merge ls = Tr.mergeL ls := by unfold Tr.merge; rw [if_neg (by omega)]
  rw [e1] at h ⊢
  rw [Tr.merge, if_neg, List.append_assoc]
  · exact Tr.merge_clear h
  · rw [List.length_append, List.length_append, List.length_take, List.length_drop]; simp; omega

set_option maxHeartbeats 3000000 in
set_option maxRecDepth 100000 in
theorem layerClear_any (A B : Option Addr) (c d : Nat) (ls : List (List En)) (n : Int) (t : List En) (w : World) (hl : TsRd w w.heap.size A ls) (hc : ls.length ≤ c) (hs : Sms ls) (hA : A = none → c = 0) (hbig : ls.length ≤ 1048576) (hn : -9223372036854775808 ≤ n ∧ n ≤ 9223372036854775807)
    (ht : EnRd w w.heap.size B t) (hd : t.length ≤ d) (hst : Sm t) (hnt : t.length ≤ 2305843009213693952) :
    Calls Tryd.prog 8 #[.slice A ls.length c, .int .i64 n, .slice B t.length d] w fun e w' => e = .returned (.bool true) ∧ Below w.heap.size w w' := by
  have hfd := field_faultC
  have HS := Lib.hid hs
  have HSt := Lib.hid hst
  clear hs hst
  have hB := Below.refl w.heap.size w
  go_enter Tryd.func8, Tryd.ntmps8
  go_wp2_with fail
  refine (layAlive_any w).mono ?_
  rintro e w1 ⟨rfl, hb⟩
  replace hB := hb
  clear hb
  have cM := merge_any A c ls w1 ((hl.below hB).more hB.size) HS.out
  unfold MergeRel at cM
  obtain ⟨mv, hmv⟩ : ∃ mv, mv = Tr.merge ls := ⟨_, rfl⟩
  rw [← hmv] at cM
  have HM := Lib.hid hmv.symm
  clear hmv
  obtain ⟨res, err⟩ := mv
  dsimp only at cM
  go_wp2_with fail
  refine cM.mono ?_
  rintro e w2 ⟨v, rfl, ho2, hb⟩
  have hB2 := hB.trans (hb.mono hB.size)
  clear hb cM hB
  obtain ⟨A2, c2, rfl, hc2, rd2⟩ := EnOwn.rd ho2
  clear ho2
  rcases te : (err != 0) with _ | _
  rotate_left
  · have hr : res = [] := by
      have h1 := HM.out
      unfold Tr.merge at h1
      by_cases h5 : 5 < ls.length
      · rw [if_pos h5] at h1; exact (congrArg Prod.fst h1).symm
      · rw [if_neg h5] at h1
        have := Tr.mergeL_none (ls := ls) (by rw [h1]; simpa using te)
        rw [h1] at this; exact this
    subst hr
    have he0 : (err == 0) = false := by rw [beq_eq_false_iff_ne]; simpa using te
    rw [show ([] : List En).length = 0 from rfl]
    go_wp2_with fail
    go_ret
    exact ⟨rfl, hB2⟩
  have he0 : err = 0 := by simpa using te
  subst he0
  rcases t0 : decide (n < 0) with _ | _
  rotate_left
  · go_wp2_with fail
    go_ret
    exact ⟨rfl, hB2⟩
  rcases t1 : decide ((ls.length : Int) < n) with _ | _
  rotate_left
  · go_wp2_with fail
    go_ret
    exact ⟨rfl, hB2⟩
  rcases t4 : decide ((4 : Int) < (ls.length : Int)) with _ | _
  rotate_left
  · go_wp2_with fail
    go_ret
    exact ⟨rfl, hB2⟩
  obtain ⟨k, rfl⟩ : ∃ k : Nat, n = k := ⟨n.toNat, by have := of_decide_eq_false t0; omega⟩
  have hk : k ≤ ls.length := by have := of_decide_eq_false t1; omega
  have h4 : ls.length ≤ 4 := by have := of_decide_eq_false t4; omega
  have LAW := Lib.hid ((clear_law (by rw [HM.out]) h4 hk).trans HM.out)
  have HM2 := HM
  clear hn te HM
  rcases A with _ | ad
  · have h0 : ls = [] := by
      obtain ⟨vs, h1, _⟩ := hl
      rcases Nat.eq_zero_or_pos ls.length with h | h
      · exact List.length_eq_zero_iff.1 h
      · obtain ⟨_, _, e, _⟩ := h1.2 h; cases e
    subst h0
    obtain rfl : k = 0 := by simpa using hk
    obtain rfl := hA rfl
    have e0 : ([] : List (List En)).length = 0 := rfl
    have hlt1 : ((([] : List (List En))).take (0)).length = 0 := by rw [List.length_take]; omega
    have hld : ((([] : List (List En))).drop (0)).length = 0 := by rfl
    obtain ⟨ws1, hrd1, hws1⟩ := TsRd.take ((hl.below hB2).more hB2.size) (0)
    have hdrop : ∀ w5, Below w2.heap.size w2 w5 → TsRd w5 w2.heap.size (none) ((([] : List (List En))).drop (0)) := fun w5 h => TsRd.nil _ _ _
    have hb_1 : Below w2.heap.size w2 (w2.drew.alloc (.cells #[] 36)) := by
      have h0 : Below w2.heap.size w2 w2.drew := (Below.refl _ _).drew
      have h1 := h0.alloc h0.size (.cells #[] 36)
      exact h1
    have rd_1 : ∀ {n : Nat} {ws : List Value}, Rd w2 w2.heap.size 1 (none) n ws → Rd (w2.drew.alloc (.cells #[] 36)) w2.heap.size 1 (none) n ws := fun h => h.below hb_1
    have own_1 : TsOwn (w2.drew.alloc (.cells #[] 36)) w2.heap.size (.slice (some ⟨w2.heap.size, 0, none⟩) 0 0) [] := own_empty (by have h := heap_alloc_new w2.drew (.cells #[] 36); first | exact h | (simp only [World.size_alloc] at h; exact h)) (by omega)
    have hb_2 : Below w2.heap.size w2 ((w2.drew.alloc (.cells #[] 36)).alloc (.cells #[] 43)) := by
      have h0 : Below w2.heap.size w2 w2.drew := (Below.refl _ _).drew
      have h1 := h0.alloc h0.size (.cells #[] 36)
      have h2 := h1.alloc h1.size (.cells #[] 43)
      exact h2
    have rd_2 : ∀ {n : Nat} {ws : List Value}, Rd w2 w2.heap.size 1 (none) n ws → Rd ((w2.drew.alloc (.cells #[] 36)).alloc (.cells #[] 43)) w2.heap.size 1 (none) n ws := fun h => h.below hb_2
    have own_2 : TsOwn ((w2.drew.alloc (.cells #[] 36)).alloc (.cells #[] 43)) w2.heap.size (.slice (some ⟨w2.heap.size, 0, none⟩) 0 0) [] := own_empty (by have h := heap_alloc_new w2.drew (.cells #[] 36); have h := (Below.heap_alloc (w2.drew.alloc (.cells #[] 36)) (.cells #[] 43) _ (by simp only [World.size_alloc]; omega)).trans h; first | exact h | (simp only [World.size_alloc] at h; exact h)) (by omega)
    have hb_3 : Below w2.heap.size w2 (((w2.drew.alloc (.cells #[] 36)).alloc (.cells #[] 43)).alloc (.cells #[.slice (some ⟨(w2.heap.size + 1), 0, none⟩) 0 0] 36)) := by
      have h0 : Below w2.heap.size w2 w2.drew := (Below.refl _ _).drew
      have h1 := h0.alloc h0.size (.cells #[] 36)
      have h2 := h1.alloc h1.size (.cells #[] 43)
      have h3 := h2.alloc h2.size (.cells #[.slice (some ⟨(w2.heap.size + 1), 0, none⟩) 0 0] 36)
      exact h3
    have rd_3 : ∀ {n : Nat} {ws : List Value}, Rd w2 w2.heap.size 1 (none) n ws → Rd (((w2.drew.alloc (.cells #[] 36)).alloc (.cells #[] 43)).alloc (.cells #[.slice (some ⟨(w2.heap.size + 1), 0, none⟩) 0 0] 36)) w2.heap.size 1 (none) n ws := fun h => h.below hb_3
    have own_3 : TsOwn (((w2.drew.alloc (.cells #[] 36)).alloc (.cells #[] 43)).alloc (.cells #[.slice (some ⟨(w2.heap.size + 1), 0, none⟩) 0 0] 36)) w2.heap.size (.slice (some ⟨w2.heap.size, 0, none⟩) 0 0) [] := own_empty (by have h := heap_alloc_new w2.drew (.cells #[] 36); have h := (Below.heap_alloc (w2.drew.alloc (.cells #[] 36)) (.cells #[] 43) _ (by simp only [World.size_alloc]; omega)).trans h; have h := (Below.heap_alloc ((w2.drew.alloc (.cells #[] 36)).alloc (.cells #[] 43)) (.cells #[.slice (some ⟨(w2.heap.size + 1), 0, none⟩) 0 0] 36) _ (by simp only [World.size_alloc]; omega)).trans h; first | exact h | (simp only [World.size_alloc] at h; exact h)) (by omega)
    have hE_3 : Blk (((w2.drew.alloc (.cells #[] 36)).alloc (.cells #[] 43)).alloc (.cells #[.slice (some ⟨(w2.heap.size + 1), 0, none⟩) 0 0] 36)) (w2.heap.size + 1 + 1) 36 [.slice (some ⟨(w2.heap.size + 1), 0, none⟩) 0 0] := by have h := heap_alloc_new ((w2.drew.alloc (.cells #[] 36)).alloc (.cells #[] 43)) (.cells #[.slice (some ⟨(w2.heap.size + 1), 0, none⟩) 0 0] 36); first | exact h | (simp only [World.size_alloc] at h; exact h)
    have hb_4 : Below w2.heap.size w2 ((w2.drew.alloc (.cells #[] 43)).alloc (.cells #[] 36)) := by
      have h0 : Below w2.heap.size w2 w2.drew := (Below.refl _ _).drew
      have h1 := h0.alloc h0.size (.cells #[] 43)
      have h2 := h1.alloc h1.size (.cells #[] 36)
      exact h2
    have rd_4 : ∀ {n : Nat} {ws : List Value}, Rd w2 w2.heap.size 1 (none) n ws → Rd ((w2.drew.alloc (.cells #[] 43)).alloc (.cells #[] 36)) w2.heap.size 1 (none) n ws := fun h => h.below hb_4
    have own_4 : TsOwn ((w2.drew.alloc (.cells #[] 43)).alloc (.cells #[] 36)) w2.heap.size (.slice (some ⟨(w2.heap.size + 1), 0, none⟩) 0 0) [] := own_empty (by have h := heap_alloc_new (w2.drew.alloc (.cells #[] 43)) (.cells #[] 36); first | exact h | (simp only [World.size_alloc] at h; exact h)) (by omega)
    have hb_5 : Below w2.heap.size w2 (((w2.drew.alloc (.cells #[] 43)).alloc (.cells #[] 36)).alloc (.cells #[.slice (some ⟨w2.heap.size, 0, none⟩) 0 0] 36)) := by
      have h0 : Below w2.heap.size w2 w2.drew := (Below.refl _ _).drew
      have h1 := h0.alloc h0.size (.cells #[] 43)
      have h2 := h1.alloc h1.size (.cells #[] 36)
      have h3 := h2.alloc h2.size (.cells #[.slice (some ⟨w2.heap.size, 0, none⟩) 0 0] 36)
      exact h3
    have rd_5 : ∀ {n : Nat} {ws : List Value}, Rd w2 w2.heap.size 1 (none) n ws → Rd (((w2.drew.alloc (.cells #[] 43)).alloc (.cells #[] 36)).alloc (.cells #[.slice (some ⟨w2.heap.size, 0, none⟩) 0 0] 36)) w2.heap.size 1 (none) n ws := fun h => h.below hb_5
    have own_5 : TsOwn (((w2.drew.alloc (.cells #[] 43)).alloc (.cells #[] 36)).alloc (.cells #[.slice (some ⟨w2.heap.size, 0, none⟩) 0 0] 36)) w2.heap.size (.slice (some ⟨(w2.heap.size + 1), 0, none⟩) 0 0) [] := own_empty (by have h := heap_alloc_new (w2.drew.alloc (.cells #[] 43)) (.cells #[] 36); have h := (Below.heap_alloc ((w2.drew.alloc (.cells #[] 43)).alloc (.cells #[] 36)) (.cells #[.slice (some ⟨w2.heap.size, 0, none⟩) 0 0] 36) _ (by simp only [World.size_alloc]; omega)).trans h; first | exact h | (simp only [World.size_alloc] at h; exact h)) (by omega)
    have hE_5 : Blk (((w2.drew.alloc (.cells #[] 43)).alloc (.cells #[] 36)).alloc (.cells #[.slice (some ⟨w2.heap.size, 0, none⟩) 0 0] 36)) (w2.heap.size + 1 + 1) 36 [.slice (some ⟨w2.heap.size, 0, none⟩) 0 0] := by have h := heap_alloc_new ((w2.drew.alloc (.cells #[] 43)).alloc (.cells #[] 36)) (.cells #[.slice (some ⟨w2.heap.size, 0, none⟩) 0 0] 36); first | exact h | (simp only [World.size_alloc] at h; exact h)
    have hb_6 : Below w2.heap.size w2 (((w2.drew.alloc (.cells #[] 43)).alloc (.cells #[.slice (some ⟨w2.heap.size, 0, none⟩) 0 0] 36)).alloc (.cells #[] 36)) := by
      have h0 : Below w2.heap.size w2 w2.drew := (Below.refl _ _).drew
      have h1 := h0.alloc h0.size (.cells #[] 43)
      have h2 := h1.alloc h1.size (.cells #[.slice (some ⟨w2.heap.size, 0, none⟩) 0 0] 36)
      have h3 := h2.alloc h2.size (.cells #[] 36)
      exact h3
    have rd_6 : ∀ {n : Nat} {ws : List Value}, Rd w2 w2.heap.size 1 (none) n ws → Rd (((w2.drew.alloc (.cells #[] 43)).alloc (.cells #[.slice (some ⟨w2.heap.size, 0, none⟩) 0 0] 36)).alloc (.cells #[] 36)) w2.heap.size 1 (none) n ws := fun h => h.below hb_6
    have own_6 : TsOwn (((w2.drew.alloc (.cells #[] 43)).alloc (.cells #[.slice (some ⟨w2.heap.size, 0, none⟩) 0 0] 36)).alloc (.cells #[] 36)) w2.heap.size (.slice (some ⟨(w2.heap.size + 1 + 1), 0, none⟩) 0 0) [] := own_empty (by have h := heap_alloc_new ((w2.drew.alloc (.cells #[] 43)).alloc (.cells #[.slice (some ⟨w2.heap.size, 0, none⟩) 0 0] 36)) (.cells #[] 36); first | exact h | (simp only [World.size_alloc] at h; exact h)) (by omega)
    have hE_6 : Blk (((w2.drew.alloc (.cells #[] 43)).alloc (.cells #[.slice (some ⟨w2.heap.size, 0, none⟩) 0 0] 36)).alloc (.cells #[] 36)) (w2.heap.size + 1) 36 [.slice (some ⟨w2.heap.size, 0, none⟩) 0 0] := by have h := heap_alloc_new (w2.drew.alloc (.cells #[] 43)) (.cells #[.slice (some ⟨w2.heap.size, 0, none⟩) 0 0] 36); have h := (Below.heap_alloc ((w2.drew.alloc (.cells #[] 43)).alloc (.cells #[.slice (some ⟨w2.heap.size, 0, none⟩) 0 0] 36)) (.cells #[] 36) _ (by simp only [World.size_alloc]; omega)).trans h; first | exact h | (simp only [World.size_alloc] at h; exact h)
    go_upto_region 6 with fail
    go_cut [9] (fun v wx => TsOwn wx w2.heap.size v ((([] : List (List En))).take (0) ++ [[]] ++ (([] : List (List En))).drop (0)) ∧ Below w2.heap.size w2 wx)
    case first =>
      go_region_held3 (fun _ => True) (exact trivial)
        (first
          | (refine step_appTs (w := w5) (v := v5) (base := w2.heap.size) (ls := (([] : List (List En))).take (0) ++ [[]]) (ms := (([] : List (List En))).drop (0)) (A := none) (c := 0) (ws := ws2) _ rfl _ _ rfl rfl own6 (0) rfl hld.symm hrd2 hws2 (fun _ => rfl) (by rw [List.length_append, hlt1, hld]; simp only [List.length_cons, List.length_nil]; omega) hb6.size rfl ?_
             intro v6 w6 own7 hg7
             have hb7 : Below w2.heap.size w2 w6 := hb6.grown hg7 hb6.size (fun q e' => by obtain ⟨vs, h1, _⟩ := own6; exact (h1.lt q e').1))
          | (refine step_appTs (w := (w4.alloc (.cells #[] 43)).alloc (.cells #[.slice (some ⟨w4.heap.size, 0, none⟩) 0 0] 36)) (v := v4) (base := w2.heap.size) (ls := (([] : List (List En))).take (0)) (ms := [[]]) (A := some ⟨w4.heap.size + 1, 0, none⟩) (c := 1) (ws := [.slice (some ⟨w4.heap.size, 0, none⟩) 0 0]) _ rfl _ _ rfl rfl ((own5.below ((Below.refl _ w4).alloc (Nat.le_refl _) (.cells #[] 43)) hb5.size).below ((Below.refl _ (w4.alloc (.cells #[] 43))).alloc (Nat.le_refl _) (.cells #[.slice (some ⟨w4.heap.size, 0, none⟩) 0 0] 36)) (by rw [World.size_alloc]; exact Nat.le_succ_of_le hb5.size)) 1 rfl rfl (by have h := one_rd (w4.alloc (.cells #[] 43)) (A := some ⟨w4.heap.size, 0, none⟩) (n := 0) (c := 0); rw [World.size_alloc] at h; exact h) (one_nil _ _) (fun h => by cases h) (by rw [hlt1]; simp only [List.length_cons, List.length_nil]; omega) ((hb5.alloc hb5.size (.cells #[] 43)).alloc (hb5.alloc hb5.size (.cells #[] 43)).size (.cells #[.slice (some ⟨w4.heap.size, 0, none⟩) 0 0] 36)).size rfl ?_
             intro v5 w5 own6 hg6
             have hb6 : Below w2.heap.size w2 w5 := ((hb5.alloc hb5.size (.cells #[] 43)).alloc (hb5.alloc hb5.size (.cells #[] 43)).size (.cells #[.slice (some ⟨w4.heap.size, 0, none⟩) 0 0] 36)).grown hg6 ((hb5.alloc hb5.size (.cells #[] 43)).alloc (hb5.alloc hb5.size (.cells #[] 43)).size (.cells #[.slice (some ⟨w4.heap.size, 0, none⟩) 0 0] 36)).size (fun q e' => by obtain ⟨vs, h1, _⟩ := own5; exact (h1.lt q e').1)
             obtain ⟨ws2, hrd2, hws2⟩ := hdrop w5 hb6)
          | (refine step_appTs (w := (w4.alloc (.cells #[.slice (some ⟨(w2.heap.size + 1), 0, none⟩) 0 0] 36))) (v := v4) (base := w2.heap.size) (ls := (([] : List (List En))).take (0)) (ms := [[]]) (A := some ⟨w4.heap.size, 0, none⟩) (c := 1) (ws := [.slice (some ⟨(w2.heap.size + 1), 0, none⟩) 0 0]) _ rfl _ _ rfl rfl (own5.below ((Below.refl _ w4).alloc (Nat.le_refl _) (.cells #[.slice (some ⟨(w2.heap.size + 1), 0, none⟩) 0 0] 36)) hb5.size) 1 rfl rfl (one_rd w4) (one_nil _ _) (fun h => by cases h) (by rw [hlt1]; simp only [List.length_cons, List.length_nil]; omega) (hb5.alloc hb5.size (.cells #[.slice (some ⟨(w2.heap.size + 1), 0, none⟩) 0 0] 36)).size rfl ?_
             intro v5 w5 own6 hg6
             have hb6 : Below w2.heap.size w2 w5 := (hb5.alloc hb5.size (.cells #[.slice (some ⟨(w2.heap.size + 1), 0, none⟩) 0 0] 36)).grown hg6 (hb5.alloc hb5.size (.cells #[.slice (some ⟨(w2.heap.size + 1), 0, none⟩) 0 0] 36)).size (fun q e' => by obtain ⟨vs, h1, _⟩ := own5; exact (h1.lt q e').1)
             obtain ⟨ws2, hrd2, hws2⟩ := hdrop w5 hb6)
          | (refine step_appTs (w := (w4.alloc (.cells #[.slice (some ⟨w2.heap.size, 0, none⟩) 0 0] 36))) (v := v4) (base := w2.heap.size) (ls := (([] : List (List En))).take (0)) (ms := [[]]) (A := some ⟨w4.heap.size, 0, none⟩) (c := 1) (ws := [.slice (some ⟨w2.heap.size, 0, none⟩) 0 0]) _ rfl _ _ rfl rfl (own5.below ((Below.refl _ w4).alloc (Nat.le_refl _) (.cells #[.slice (some ⟨w2.heap.size, 0, none⟩) 0 0] 36)) hb5.size) 1 rfl rfl (one_rd w4) (one_nil _ _) (fun h => by cases h) (by rw [hlt1]; simp only [List.length_cons, List.length_nil]; omega) (hb5.alloc hb5.size (.cells #[.slice (some ⟨w2.heap.size, 0, none⟩) 0 0] 36)).size rfl ?_
             intro v5 w5 own6 hg6
             have hb6 : Below w2.heap.size w2 w5 := (hb5.alloc hb5.size (.cells #[.slice (some ⟨w2.heap.size, 0, none⟩) 0 0] 36)).grown hg6 (hb5.alloc hb5.size (.cells #[.slice (some ⟨w2.heap.size, 0, none⟩) 0 0] 36)).size (fun q e' => by obtain ⟨vs, h1, _⟩ := own5; exact (h1.lt q e').1)
             obtain ⟨ws2, hrd2, hws2⟩ := hdrop w5 hb6)
          | (refine step_appTs (w := w4) (v := v4) (base := w2.heap.size) (ls := (([] : List (List En))).take (0)) (ms := [[]]) (A := some ⟨(w2.heap.size + 1 + 1), 0, none⟩) (c := 1) (ws := [.slice (some ⟨(w2.heap.size + 1), 0, none⟩) 0 0]) _ rfl _ _ rfl rfl own5 1 rfl rfl (blk_rd hE5) (one_nil _ _) (fun h => by cases h) (by rw [hlt1]; simp only [List.length_cons, List.length_nil]; omega) hb5.size rfl ?_
             intro v5 w5 own6 hg6
             have hb6 : Below w2.heap.size w2 w5 := hb5.grown hg6 hb5.size (fun q e' => by obtain ⟨vs, h1, _⟩ := own5; exact (h1.lt q e').1)
             obtain ⟨ws2, hrd2, hws2⟩ := hdrop w5 hb6)
          | (refine step_appTs (w := w4) (v := v4) (base := w2.heap.size) (ls := (([] : List (List En))).take (0)) (ms := [[]]) (A := some ⟨(w2.heap.size + 1 + 1), 0, none⟩) (c := 1) (ws := [.slice (some ⟨w2.heap.size, 0, none⟩) 0 0]) _ rfl _ _ rfl rfl own5 1 rfl rfl (blk_rd hE5) (one_nil _ _) (fun h => by cases h) (by rw [hlt1]; simp only [List.length_cons, List.length_nil]; omega) hb5.size rfl ?_
             intro v5 w5 own6 hg6
             have hb6 : Below w2.heap.size w2 w5 := hb5.grown hg6 hb5.size (fun q e' => by obtain ⟨vs, h1, _⟩ := own5; exact (h1.lt q e').1)
             obtain ⟨ws2, hrd2, hws2⟩ := hdrop w5 hb6)
          | (refine step_appTs (w := w4) (v := v4) (base := w2.heap.size) (ls := (([] : List (List En))).take (0)) (ms := [[]]) (A := some ⟨(w2.heap.size + 1), 0, none⟩) (c := 1) (ws := [.slice (some ⟨w2.heap.size, 0, none⟩) 0 0]) _ rfl _ _ rfl rfl own5 1 rfl rfl (blk_rd hE5) (one_nil _ _) (fun h => by cases h) (by rw [hlt1]; simp only [List.length_cons, List.length_nil]; omega) hb5.size rfl ?_
             intro v5 w5 own6 hg6
             have hb6 : Below w2.heap.size w2 w5 := hb5.grown hg6 hb5.size (fun q e' => by obtain ⟨vs, h1, _⟩ := own5; exact (h1.lt q e').1)
             obtain ⟨ws2, hrd2, hws2⟩ := hdrop w5 hb6)
          | (refine step_appTs (w := (w2.drew.alloc (.cells #[] 36))) (v := .slice (some ⟨w2.heap.size, 0, none⟩) 0 0) (base := w2.heap.size) (ls := []) (ms := (([] : List (List En))).take (0)) (A := none) (c := 0) (ws := ws1) _ rfl _ _ rfl rfl own_1 (0) rfl hlt1.symm (rd_1 hrd1) (fun j h => by obtain ⟨Ak, ck, f1, f2, f3⟩ := hws1 j h; exact ⟨Ak, ck, f1, f2, Rd.below f3 hb_1⟩) (fun _ => rfl) (by rw [hlt1]; simp only [List.length_nil]; omega) hb_1.size rfl ?_
             intro v4 w4 own5 hg5
             rw [List.nil_append] at own5
             have hb5 : Below w2.heap.size w2 w4 := hb_1.grown hg5 hb_1.size (fun q e' => by simp [Value.ownBlock] at e'; omega))
          | (refine step_appTs (w := ((w2.drew.alloc (.cells #[] 36)).alloc (.cells #[] 43))) (v := .slice (some ⟨w2.heap.size, 0, none⟩) 0 0) (base := w2.heap.size) (ls := []) (ms := (([] : List (List En))).take (0)) (A := none) (c := 0) (ws := ws1) _ rfl _ _ rfl rfl own_2 (0) rfl hlt1.symm (rd_2 hrd1) (fun j h => by obtain ⟨Ak, ck, f1, f2, f3⟩ := hws1 j h; exact ⟨Ak, ck, f1, f2, Rd.below f3 hb_2⟩) (fun _ => rfl) (by rw [hlt1]; simp only [List.length_nil]; omega) hb_2.size rfl ?_
             intro v4 w4 own5 hg5
             rw [List.nil_append] at own5
             have hb5 : Below w2.heap.size w2 w4 := hb_2.grown hg5 hb_2.size (fun q e' => by simp [Value.ownBlock] at e'; omega))
          | (refine step_appTs (w := (((w2.drew.alloc (.cells #[] 36)).alloc (.cells #[] 43)).alloc (.cells #[.slice (some ⟨(w2.heap.size + 1), 0, none⟩) 0 0] 36))) (v := .slice (some ⟨w2.heap.size, 0, none⟩) 0 0) (base := w2.heap.size) (ls := []) (ms := (([] : List (List En))).take (0)) (A := none) (c := 0) (ws := ws1) _ rfl _ _ rfl rfl own_3 (0) rfl hlt1.symm (rd_3 hrd1) (fun j h => by obtain ⟨Ak, ck, f1, f2, f3⟩ := hws1 j h; exact ⟨Ak, ck, f1, f2, Rd.below f3 hb_3⟩) (fun _ => rfl) (by rw [hlt1]; simp only [List.length_nil]; omega) hb_3.size rfl ?_
             intro v4 w4 own5 hg5
             rw [List.nil_append] at own5
             have hb5 : Below w2.heap.size w2 w4 := hb_3.grown hg5 hb_3.size (fun q e' => by simp [Value.ownBlock] at e'; omega)
             have hE5 := (hE_3).grown hg5 (by simp only [Value.ownBlock]; intro e'; injection e' with e'; omega))
          | (refine step_appTs (w := ((w2.drew.alloc (.cells #[] 43)).alloc (.cells #[] 36))) (v := .slice (some ⟨(w2.heap.size + 1), 0, none⟩) 0 0) (base := w2.heap.size) (ls := []) (ms := (([] : List (List En))).take (0)) (A := none) (c := 0) (ws := ws1) _ rfl _ _ rfl rfl own_4 (0) rfl hlt1.symm (rd_4 hrd1) (fun j h => by obtain ⟨Ak, ck, f1, f2, f3⟩ := hws1 j h; exact ⟨Ak, ck, f1, f2, Rd.below f3 hb_4⟩) (fun _ => rfl) (by rw [hlt1]; simp only [List.length_nil]; omega) hb_4.size rfl ?_
             intro v4 w4 own5 hg5
             rw [List.nil_append] at own5
             have hb5 : Below w2.heap.size w2 w4 := hb_4.grown hg5 hb_4.size (fun q e' => by simp [Value.ownBlock] at e'; omega))
          | (refine step_appTs (w := (((w2.drew.alloc (.cells #[] 43)).alloc (.cells #[] 36)).alloc (.cells #[.slice (some ⟨w2.heap.size, 0, none⟩) 0 0] 36))) (v := .slice (some ⟨(w2.heap.size + 1), 0, none⟩) 0 0) (base := w2.heap.size) (ls := []) (ms := (([] : List (List En))).take (0)) (A := none) (c := 0) (ws := ws1) _ rfl _ _ rfl rfl own_5 (0) rfl hlt1.symm (rd_5 hrd1) (fun j h => by obtain ⟨Ak, ck, f1, f2, f3⟩ := hws1 j h; exact ⟨Ak, ck, f1, f2, Rd.below f3 hb_5⟩) (fun _ => rfl) (by rw [hlt1]; simp only [List.length_nil]; omega) hb_5.size rfl ?_
             intro v4 w4 own5 hg5
             rw [List.nil_append] at own5
             have hb5 : Below w2.heap.size w2 w4 := hb_5.grown hg5 hb_5.size (fun q e' => by simp [Value.ownBlock] at e'; omega)
             have hE5 := (hE_5).grown hg5 (by simp only [Value.ownBlock]; intro e'; injection e' with e'; omega))
          | (refine step_appTs (w := (((w2.drew.alloc (.cells #[] 43)).alloc (.cells #[.slice (some ⟨w2.heap.size, 0, none⟩) 0 0] 36)).alloc (.cells #[] 36))) (v := .slice (some ⟨(w2.heap.size + 1 + 1), 0, none⟩) 0 0) (base := w2.heap.size) (ls := []) (ms := (([] : List (List En))).take (0)) (A := none) (c := 0) (ws := ws1) _ rfl _ _ rfl rfl own_6 (0) rfl hlt1.symm (rd_6 hrd1) (fun j h => by obtain ⟨Ak, ck, f1, f2, f3⟩ := hws1 j h; exact ⟨Ak, ck, f1, f2, Rd.below f3 hb_6⟩) (fun _ => rfl) (by rw [hlt1]; simp only [List.length_nil]; omega) hb_6.size rfl ?_
             intro v4 w4 own5 hg5
             rw [List.nil_append] at own5
             have hb5 : Below w2.heap.size w2 w4 := hb_6.grown hg5 hb_6.size (fun q e' => by simp [Value.ownBlock] at e'; omega)
             have hE5 := (hE_6).grown hg5 (by simp only [Value.ownBlock]; intro e'; injection e' with e'; omega)))
      all_goals (try generalize (if c = k then some ad else some (ad.add k)) = AD)
      all_goals go_wp2_with fail
      all_goals go_meet
      all_goals exact ⟨own7, hb7⟩
    case rest =>
      obtain ⟨own7, hb7⟩ := hcut
      clear hb_1 rd_1 own_1 hb_2 rd_2 own_2 hb_3 rd_3 own_3 hb_4 rd_4 own_4 hb_5 rd_5 own_5 hb_6 rd_6 own_6 hE_3 hE_5 hE_6 hrd1 hws1 hdrop hlt1 hld
      have hB3 := hB2.trans (hb7.mono hB2.size)
      have rd3 := (Rd.below rd2 hb7).more hb7.size
      generalize hwc : wc = w3 at *
      clear hwc
      obtain ⟨mm, hmm⟩ : ∃ mm : List (List En), mm = (([] : List (List En))).take (0) ++ [[]] ++ (([] : List (List En))).drop (0) := ⟨_, rfl⟩
      rw [← hmm] at own7
      have HMM := Lib.hid hmm
      clear hmm
      obtain ⟨A3, c3, rfl, hc3, rdT⟩ := own7.rd hb7.size
      clear own7 hb7 rd2 hB2
      have cT := merge_any A3 c3 mm w3 rdT (fun x hx => by
        rw [HMM.out] at hx
        rcases List.mem_append.1 hx with h | h
        · rcases List.mem_append.1 h with h | h
          · exact HS.out x (List.mem_of_mem_take h)
          · rw [List.mem_singleton.1 h]; exact ⟨fun _ h => (nomatch h), by decide⟩
        · exact HS.out x (List.mem_of_mem_drop h))
      unfold MergeRel at cT
      rw [HMM.out, LAW.out, ← HMM.out] at cT
      dsimp only at cT
      have HRES := Lib.hid (show res.length ≤ 80 from by
        have h1 := HM2.out
        unfold Tr.merge at h1
        rw [if_neg (by omega)] at h1
        have := (Tr.mergeL_right (ls := ([] : List (List En))) (by rw [h1])).1
        rw [h1] at this; exact this)
      go_wp2_with fail
      refine cT.mono ?_
      rintro e w4 ⟨v4, rfl, ho4, hb4⟩
      have hB4 := hB3.trans (hb4.mono hB3.size)
      have rd4 := (Rd.below rd3 hb4).more hb4.size
      obtain ⟨A4, c4, rfl, hc4, rd4'⟩ := EnOwn.rd ho4
      clear ho4 hb4 hB3 rd3 cT rdT
      go_wp2_with fail
      refine (same_any A2 A4 c2 c4 res res w4 rd4 rd4' (by have := HRES.out; omega) rfl).mono ?_
      rintro e w5 ⟨rfl, hb5⟩
      have hB5 := hB4.trans (hb5.mono hB4.size)
      clear hb5 hB4 rd4 rd4'
      have cO := over_any B none d 0 t [] w5 ((ht.below hB5).more hB5.size) Rd.nil hd (Nat.le_refl _) HSt.out (fun _ h => (nomatch h)) hnt (by decide)
      unfold OverRel at cO
      obtain ⟨ov, hov⟩ : ∃ ov, ov = Tr.over t [] := ⟨_, rfl⟩
      rw [← hov] at cO
      have HO := Lib.hid hov.symm
      clear hov
      obtain ⟨res2, err2⟩ := ov
      dsimp only at cO
      have cO : Calls Tryd.prog 26 #[.slice B t.length d, .slice none 0 0] w5 _ := cO
      go_wp2_with fail
      refine cO.mono ?_
      rintro e w6 ⟨v6, rfl, ho6, hb6⟩
      have hB6 := hB5.trans (hb6.mono hB5.size)
      clear hb6 hB5 cO
      obtain ⟨A6, c6, rfl, hc6, rd6⟩ := EnOwn.rd ho6
      clear ho6
      have cW := wrongT_any B d t w6 ((ht.below hB6).more hB6.size) hd HSt.out hnt
      obtain ⟨pw, hpw⟩ : ∃ pw, pw = Tr.wrong t false := ⟨_, rfl⟩
      rw [← hpw] at cW
      have HW := Lib.hid hpw.symm
      clear hpw
      obtain ⟨z1, z2⟩ := pw
      dsimp only at cW
      go_wp2_with fail
      refine cW.mono ?_
      rintro e w7 ⟨rfl, hb7⟩
      have hB7 := hB6.trans (hb7.mono hB6.size)
      have rd7 := (Rd.below rd6 hb7).more hb7.size
      clear hb7 hB6 cW rd6
      rcases tz : (z1 != 0) with _ | _
      rotate_left
      · go_wp2_with fail
        go_ret
        exact ⟨rfl, hB7⟩
      have hz0 : z1 = 0 := by simpa using tz
      have hR := (Tr.wrong_zero t false).1 (by rw [HW.out]; exact hz0)
      have hov := (Tr.over_is hR.1 (Tr.right_layer hR.2) (t := []) (by decide) (Tr.right_nil _) (by rw [Tr.overL_nil hR.2]; exact hR.1)).symm.trans HO.out
      rw [Tr.overL_nil hR.2] at hov
      injection hov with hov1 hov2
      subst hov1 hov2
      have ht7 := (ht.below hB7).more hB7.size
      go_wp2_with fail
      refine (same_any A6 B c6 d t t w7 rd7 ht7 (by omega) rfl).mono ?_
      rintro e w8 ⟨rfl, hb8⟩
      have hB8 := hB7.trans (hb8.mono hB7.size)
      go_wp2_with fail
      go_ret
      exact ⟨rfl, hB8⟩
  · have hi0 : (0 : Int) ≤ (k : Int) := by omega
    have hi1 : (k : Int) ≤ (ls.length : Int) := by omega
    have hi2 : (ls.length : Int) ≤ (c : Int) := by omega
    have hi3 : (k : Int) ≤ (c : Int) := by omega
    have hlt1 : ((ls).take (k)).length = k := by rw [List.length_take]; omega
    have hld : ((ls).drop (k)).length = ls.length - k := by rw [List.length_drop]
    obtain ⟨ws1, hrd1, hws1⟩ := TsRd.take ((hl.below hB2).more hB2.size) (k)
    have hdrop : ∀ w5, Below w2.heap.size w2 w5 → TsRd w5 w2.heap.size (if c = k then some ad else some (ad.add k)) ((ls).drop (k)) := fun w5 h => drop_if hl hB2 h hk hc
    have hb_1 : Below w2.heap.size w2 (w2.drew.alloc (.cells #[] 36)) := by
      have h0 : Below w2.heap.size w2 w2.drew := (Below.refl _ _).drew
      have h1 := h0.alloc h0.size (.cells #[] 36)
      exact h1
    have rd_1 : ∀ {n : Nat} {ws : List Value}, Rd w2 w2.heap.size 1 (some ad) n ws → Rd (w2.drew.alloc (.cells #[] 36)) w2.heap.size 1 (some ad) n ws := fun h => h.below hb_1
    have own_1 : TsOwn (w2.drew.alloc (.cells #[] 36)) w2.heap.size (.slice (some ⟨w2.heap.size, 0, none⟩) 0 0) [] := own_empty (by have h := heap_alloc_new w2.drew (.cells #[] 36); first | exact h | (simp only [World.size_alloc] at h; exact h)) (by omega)
    have hb_2 : Below w2.heap.size w2 ((w2.drew.alloc (.cells #[] 36)).alloc (.cells #[] 43)) := by
      have h0 : Below w2.heap.size w2 w2.drew := (Below.refl _ _).drew
      have h1 := h0.alloc h0.size (.cells #[] 36)
      have h2 := h1.alloc h1.size (.cells #[] 43)
      exact h2
    have rd_2 : ∀ {n : Nat} {ws : List Value}, Rd w2 w2.heap.size 1 (some ad) n ws → Rd ((w2.drew.alloc (.cells #[] 36)).alloc (.cells #[] 43)) w2.heap.size 1 (some ad) n ws := fun h => h.below hb_2
    have own_2 : TsOwn ((w2.drew.alloc (.cells #[] 36)).alloc (.cells #[] 43)) w2.heap.size (.slice (some ⟨w2.heap.size, 0, none⟩) 0 0) [] := own_empty (by have h := heap_alloc_new w2.drew (.cells #[] 36); have h := (Below.heap_alloc (w2.drew.alloc (.cells #[] 36)) (.cells #[] 43) _ (by simp only [World.size_alloc]; omega)).trans h; first | exact h | (simp only [World.size_alloc] at h; exact h)) (by omega)
    have hb_3 : Below w2.heap.size w2 (((w2.drew.alloc (.cells #[] 36)).alloc (.cells #[] 43)).alloc (.cells #[.slice (some ⟨(w2.heap.size + 1), 0, none⟩) 0 0] 36)) := by
      have h0 : Below w2.heap.size w2 w2.drew := (Below.refl _ _).drew
      have h1 := h0.alloc h0.size (.cells #[] 36)
      have h2 := h1.alloc h1.size (.cells #[] 43)
      have h3 := h2.alloc h2.size (.cells #[.slice (some ⟨(w2.heap.size + 1), 0, none⟩) 0 0] 36)
      exact h3
    have rd_3 : ∀ {n : Nat} {ws : List Value}, Rd w2 w2.heap.size 1 (some ad) n ws → Rd (((w2.drew.alloc (.cells #[] 36)).alloc (.cells #[] 43)).alloc (.cells #[.slice (some ⟨(w2.heap.size + 1), 0, none⟩) 0 0] 36)) w2.heap.size 1 (some ad) n ws := fun h => h.below hb_3
    have own_3 : TsOwn (((w2.drew.alloc (.cells #[] 36)).alloc (.cells #[] 43)).alloc (.cells #[.slice (some ⟨(w2.heap.size + 1), 0, none⟩) 0 0] 36)) w2.heap.size (.slice (some ⟨w2.heap.size, 0, none⟩) 0 0) [] := own_empty (by have h := heap_alloc_new w2.drew (.cells #[] 36); have h := (Below.heap_alloc (w2.drew.alloc (.cells #[] 36)) (.cells #[] 43) _ (by simp only [World.size_alloc]; omega)).trans h; have h := (Below.heap_alloc ((w2.drew.alloc (.cells #[] 36)).alloc (.cells #[] 43)) (.cells #[.slice (some ⟨(w2.heap.size + 1), 0, none⟩) 0 0] 36) _ (by simp only [World.size_alloc]; omega)).trans h; first | exact h | (simp only [World.size_alloc] at h; exact h)) (by omega)
    have hE_3 : Blk (((w2.drew.alloc (.cells #[] 36)).alloc (.cells #[] 43)).alloc (.cells #[.slice (some ⟨(w2.heap.size + 1), 0, none⟩) 0 0] 36)) (w2.heap.size + 1 + 1) 36 [.slice (some ⟨(w2.heap.size + 1), 0, none⟩) 0 0] := by have h := heap_alloc_new ((w2.drew.alloc (.cells #[] 36)).alloc (.cells #[] 43)) (.cells #[.slice (some ⟨(w2.heap.size + 1), 0, none⟩) 0 0] 36); first | exact h | (simp only [World.size_alloc] at h; exact h)
    have hb_4 : Below w2.heap.size w2 ((w2.drew.alloc (.cells #[] 43)).alloc (.cells #[] 36)) := by
      have h0 : Below w2.heap.size w2 w2.drew := (Below.refl _ _).drew
      have h1 := h0.alloc h0.size (.cells #[] 43)
      have h2 := h1.alloc h1.size (.cells #[] 36)
      exact h2
    have rd_4 : ∀ {n : Nat} {ws : List Value}, Rd w2 w2.heap.size 1 (some ad) n ws → Rd ((w2.drew.alloc (.cells #[] 43)).alloc (.cells #[] 36)) w2.heap.size 1 (some ad) n ws := fun h => h.below hb_4
    have own_4 : TsOwn ((w2.drew.alloc (.cells #[] 43)).alloc (.cells #[] 36)) w2.heap.size (.slice (some ⟨(w2.heap.size + 1), 0, none⟩) 0 0) [] := own_empty (by have h := heap_alloc_new (w2.drew.alloc (.cells #[] 43)) (.cells #[] 36); first | exact h | (simp only [World.size_alloc] at h; exact h)) (by omega)
    have hb_5 : Below w2.heap.size w2 (((w2.drew.alloc (.cells #[] 43)).alloc (.cells #[] 36)).alloc (.cells #[.slice (some ⟨w2.heap.size, 0, none⟩) 0 0] 36)) := by
      have h0 : Below w2.heap.size w2 w2.drew := (Below.refl _ _).drew
      have h1 := h0.alloc h0.size (.cells #[] 43)
      have h2 := h1.alloc h1.size (.cells #[] 36)
      have h3 := h2.alloc h2.size (.cells #[.slice (some ⟨w2.heap.size, 0, none⟩) 0 0] 36)
      exact h3
    have rd_5 : ∀ {n : Nat} {ws : List Value}, Rd w2 w2.heap.size 1 (some ad) n ws → Rd (((w2.drew.alloc (.cells #[] 43)).alloc (.cells #[] 36)).alloc (.cells #[.slice (some ⟨w2.heap.size, 0, none⟩) 0 0] 36)) w2.heap.size 1 (some ad) n ws := fun h => h.below hb_5
    have own_5 : TsOwn (((w2.drew.alloc (.cells #[] 43)).alloc (.cells #[] 36)).alloc (.cells #[.slice (some ⟨w2.heap.size, 0, none⟩) 0 0] 36)) w2.heap.size (.slice (some ⟨(w2.heap.size + 1), 0, none⟩) 0 0) [] := own_empty (by have h := heap_alloc_new (w2.drew.alloc (.cells #[] 43)) (.cells #[] 36); have h := (Below.heap_alloc ((w2.drew.alloc (.cells #[] 43)).alloc (.cells #[] 36)) (.cells #[.slice (some ⟨w2.heap.size, 0, none⟩) 0 0] 36) _ (by simp only [World.size_alloc]; omega)).trans h; first | exact h | (simp only [World.size_alloc] at h; exact h)) (by omega)
    have hE_5 : Blk (((w2.drew.alloc (.cells #[] 43)).alloc (.cells #[] 36)).alloc (.cells #[.slice (some ⟨w2.heap.size, 0, none⟩) 0 0] 36)) (w2.heap.size + 1 + 1) 36 [.slice (some ⟨w2.heap.size, 0, none⟩) 0 0] := by have h := heap_alloc_new ((w2.drew.alloc (.cells #[] 43)).alloc (.cells #[] 36)) (.cells #[.slice (some ⟨w2.heap.size, 0, none⟩) 0 0] 36); first | exact h | (simp only [World.size_alloc] at h; exact h)
    have hb_6 : Below w2.heap.size w2 (((w2.drew.alloc (.cells #[] 43)).alloc (.cells #[.slice (some ⟨w2.heap.size, 0, none⟩) 0 0] 36)).alloc (.cells #[] 36)) := by
      have h0 : Below w2.heap.size w2 w2.drew := (Below.refl _ _).drew
      have h1 := h0.alloc h0.size (.cells #[] 43)
      have h2 := h1.alloc h1.size (.cells #[.slice (some ⟨w2.heap.size, 0, none⟩) 0 0] 36)
      have h3 := h2.alloc h2.size (.cells #[] 36)
      exact h3
    have rd_6 : ∀ {n : Nat} {ws : List Value}, Rd w2 w2.heap.size 1 (some ad) n ws → Rd (((w2.drew.alloc (.cells #[] 43)).alloc (.cells #[.slice (some ⟨w2.heap.size, 0, none⟩) 0 0] 36)).alloc (.cells #[] 36)) w2.heap.size 1 (some ad) n ws := fun h => h.below hb_6
    have own_6 : TsOwn (((w2.drew.alloc (.cells #[] 43)).alloc (.cells #[.slice (some ⟨w2.heap.size, 0, none⟩) 0 0] 36)).alloc (.cells #[] 36)) w2.heap.size (.slice (some ⟨(w2.heap.size + 1 + 1), 0, none⟩) 0 0) [] := own_empty (by have h := heap_alloc_new ((w2.drew.alloc (.cells #[] 43)).alloc (.cells #[.slice (some ⟨w2.heap.size, 0, none⟩) 0 0] 36)) (.cells #[] 36); first | exact h | (simp only [World.size_alloc] at h; exact h)) (by omega)
    have hE_6 : Blk (((w2.drew.alloc (.cells #[] 43)).alloc (.cells #[.slice (some ⟨w2.heap.size, 0, none⟩) 0 0] 36)).alloc (.cells #[] 36)) (w2.heap.size + 1) 36 [.slice (some ⟨w2.heap.size, 0, none⟩) 0 0] := by have h := heap_alloc_new (w2.drew.alloc (.cells #[] 43)) (.cells #[.slice (some ⟨w2.heap.size, 0, none⟩) 0 0] 36); have h := (Below.heap_alloc ((w2.drew.alloc (.cells #[] 43)).alloc (.cells #[.slice (some ⟨w2.heap.size, 0, none⟩) 0 0] 36)) (.cells #[] 36) _ (by simp only [World.size_alloc]; omega)).trans h; first | exact h | (simp only [World.size_alloc] at h; exact h)
    go_upto_region 6 with fail
    go_cut [9] (fun v wx => TsOwn wx w2.heap.size v ((ls).take (k) ++ [[]] ++ (ls).drop (k)) ∧ Below w2.heap.size w2 wx)
    case first =>
      go_region_held3 (fun _ => True) (exact trivial)
        (first
          | (refine step_appTs (w := w5) (v := v5) (base := w2.heap.size) (ls := (ls).take (k) ++ [[]]) (ms := (ls).drop (k)) (A := if c = k then some ad else some (ad.add k)) (c := c - k) (ws := ws2) _ rfl _ _ rfl rfl own6 (ls.length - k) rfl hld.symm hrd2 hws2 (fun h => by split at h <;> cases h) (by rw [List.length_append, hlt1, hld]; simp only [List.length_cons, List.length_nil]; omega) hb6.size rfl ?_
             intro v6 w6 own7 hg7
             have hb7 : Below w2.heap.size w2 w6 := hb6.grown hg7 hb6.size (fun q e' => by obtain ⟨vs, h1, _⟩ := own6; exact (h1.lt q e').1))
          | (refine step_appTs (w := (w4.alloc (.cells #[] 43)).alloc (.cells #[.slice (some ⟨w4.heap.size, 0, none⟩) 0 0] 36)) (v := v4) (base := w2.heap.size) (ls := (ls).take (k)) (ms := [[]]) (A := some ⟨w4.heap.size + 1, 0, none⟩) (c := 1) (ws := [.slice (some ⟨w4.heap.size, 0, none⟩) 0 0]) _ rfl _ _ rfl rfl ((own5.below ((Below.refl _ w4).alloc (Nat.le_refl _) (.cells #[] 43)) hb5.size).below ((Below.refl _ (w4.alloc (.cells #[] 43))).alloc (Nat.le_refl _) (.cells #[.slice (some ⟨w4.heap.size, 0, none⟩) 0 0] 36)) (by rw [World.size_alloc]; exact Nat.le_succ_of_le hb5.size)) 1 rfl rfl (by have h := one_rd (w4.alloc (.cells #[] 43)) (A := some ⟨w4.heap.size, 0, none⟩) (n := 0) (c := 0); rw [World.size_alloc] at h; exact h) (one_nil _ _) (fun h => by cases h) (by rw [hlt1]; simp only [List.length_cons, List.length_nil]; omega) ((hb5.alloc hb5.size (.cells #[] 43)).alloc (hb5.alloc hb5.size (.cells #[] 43)).size (.cells #[.slice (some ⟨w4.heap.size, 0, none⟩) 0 0] 36)).size rfl ?_
             intro v5 w5 own6 hg6
             have hb6 : Below w2.heap.size w2 w5 := ((hb5.alloc hb5.size (.cells #[] 43)).alloc (hb5.alloc hb5.size (.cells #[] 43)).size (.cells #[.slice (some ⟨w4.heap.size, 0, none⟩) 0 0] 36)).grown hg6 ((hb5.alloc hb5.size (.cells #[] 43)).alloc (hb5.alloc hb5.size (.cells #[] 43)).size (.cells #[.slice (some ⟨w4.heap.size, 0, none⟩) 0 0] 36)).size (fun q e' => by obtain ⟨vs, h1, _⟩ := own5; exact (h1.lt q e').1)
             obtain ⟨ws2, hrd2, hws2⟩ := hdrop w5 hb6)
          | (refine step_appTs (w := (w4.alloc (.cells #[.slice (some ⟨(w2.heap.size + 1), 0, none⟩) 0 0] 36))) (v := v4) (base := w2.heap.size) (ls := (ls).take (k)) (ms := [[]]) (A := some ⟨w4.heap.size, 0, none⟩) (c := 1) (ws := [.slice (some ⟨(w2.heap.size + 1), 0, none⟩) 0 0]) _ rfl _ _ rfl rfl (own5.below ((Below.refl _ w4).alloc (Nat.le_refl _) (.cells #[.slice (some ⟨(w2.heap.size + 1), 0, none⟩) 0 0] 36)) hb5.size) 1 rfl rfl (one_rd w4) (one_nil _ _) (fun h => by cases h) (by rw [hlt1]; simp only [List.length_cons, List.length_nil]; omega) (hb5.alloc hb5.size (.cells #[.slice (some ⟨(w2.heap.size + 1), 0, none⟩) 0 0] 36)).size rfl ?_
             intro v5 w5 own6 hg6
             have hb6 : Below w2.heap.size w2 w5 := (hb5.alloc hb5.size (.cells #[.slice (some ⟨(w2.heap.size + 1), 0, none⟩) 0 0] 36)).grown hg6 (hb5.alloc hb5.size (.cells #[.slice (some ⟨(w2.heap.size + 1), 0, none⟩) 0 0] 36)).size (fun q e' => by obtain ⟨vs, h1, _⟩ := own5; exact (h1.lt q e').1)
             obtain ⟨ws2, hrd2, hws2⟩ := hdrop w5 hb6)
          | (refine step_appTs (w := (w4.alloc (.cells #[.slice (some ⟨w2.heap.size, 0, none⟩) 0 0] 36))) (v := v4) (base := w2.heap.size) (ls := (ls).take (k)) (ms := [[]]) (A := some ⟨w4.heap.size, 0, none⟩) (c := 1) (ws := [.slice (some ⟨w2.heap.size, 0, none⟩) 0 0]) _ rfl _ _ rfl rfl (own5.below ((Below.refl _ w4).alloc (Nat.le_refl _) (.cells #[.slice (some ⟨w2.heap.size, 0, none⟩) 0 0] 36)) hb5.size) 1 rfl rfl (one_rd w4) (one_nil _ _) (fun h => by cases h) (by rw [hlt1]; simp only [List.length_cons, List.length_nil]; omega) (hb5.alloc hb5.size (.cells #[.slice (some ⟨w2.heap.size, 0, none⟩) 0 0] 36)).size rfl ?_
             intro v5 w5 own6 hg6
             have hb6 : Below w2.heap.size w2 w5 := (hb5.alloc hb5.size (.cells #[.slice (some ⟨w2.heap.size, 0, none⟩) 0 0] 36)).grown hg6 (hb5.alloc hb5.size (.cells #[.slice (some ⟨w2.heap.size, 0, none⟩) 0 0] 36)).size (fun q e' => by obtain ⟨vs, h1, _⟩ := own5; exact (h1.lt q e').1)
             obtain ⟨ws2, hrd2, hws2⟩ := hdrop w5 hb6)
          | (refine step_appTs (w := w4) (v := v4) (base := w2.heap.size) (ls := (ls).take (k)) (ms := [[]]) (A := some ⟨(w2.heap.size + 1 + 1), 0, none⟩) (c := 1) (ws := [.slice (some ⟨(w2.heap.size + 1), 0, none⟩) 0 0]) _ rfl _ _ rfl rfl own5 1 rfl rfl (blk_rd hE5) (one_nil _ _) (fun h => by cases h) (by rw [hlt1]; simp only [List.length_cons, List.length_nil]; omega) hb5.size rfl ?_
             intro v5 w5 own6 hg6
             have hb6 : Below w2.heap.size w2 w5 := hb5.grown hg6 hb5.size (fun q e' => by obtain ⟨vs, h1, _⟩ := own5; exact (h1.lt q e').1)
             obtain ⟨ws2, hrd2, hws2⟩ := hdrop w5 hb6)
          | (refine step_appTs (w := w4) (v := v4) (base := w2.heap.size) (ls := (ls).take (k)) (ms := [[]]) (A := some ⟨(w2.heap.size + 1 + 1), 0, none⟩) (c := 1) (ws := [.slice (some ⟨w2.heap.size, 0, none⟩) 0 0]) _ rfl _ _ rfl rfl own5 1 rfl rfl (blk_rd hE5) (one_nil _ _) (fun h => by cases h) (by rw [hlt1]; simp only [List.length_cons, List.length_nil]; omega) hb5.size rfl ?_
             intro v5 w5 own6 hg6
             have hb6 : Below w2.heap.size w2 w5 := hb5.grown hg6 hb5.size (fun q e' => by obtain ⟨vs, h1, _⟩ := own5; exact (h1.lt q e').1)
             obtain ⟨ws2, hrd2, hws2⟩ := hdrop w5 hb6)
          | (refine step_appTs (w := w4) (v := v4) (base := w2.heap.size) (ls := (ls).take (k)) (ms := [[]]) (A := some ⟨(w2.heap.size + 1), 0, none⟩) (c := 1) (ws := [.slice (some ⟨w2.heap.size, 0, none⟩) 0 0]) _ rfl _ _ rfl rfl own5 1 rfl rfl (blk_rd hE5) (one_nil _ _) (fun h => by cases h) (by rw [hlt1]; simp only [List.length_cons, List.length_nil]; omega) hb5.size rfl ?_
             intro v5 w5 own6 hg6
             have hb6 : Below w2.heap.size w2 w5 := hb5.grown hg6 hb5.size (fun q e' => by obtain ⟨vs, h1, _⟩ := own5; exact (h1.lt q e').1)
             obtain ⟨ws2, hrd2, hws2⟩ := hdrop w5 hb6)
          | (refine step_appTs (w := (w2.drew.alloc (.cells #[] 36))) (v := .slice (some ⟨w2.heap.size, 0, none⟩) 0 0) (base := w2.heap.size) (ls := []) (ms := (ls).take (k)) (A := some ad) (c := c) (ws := ws1) _ rfl _ _ rfl rfl own_1 (k) rfl hlt1.symm (rd_1 hrd1) (fun j h => by obtain ⟨Ak, ck, f1, f2, f3⟩ := hws1 j h; exact ⟨Ak, ck, f1, f2, Rd.below f3 hb_1⟩) (fun h => by cases h) (by rw [hlt1]; simp only [List.length_nil]; omega) hb_1.size rfl ?_
             intro v4 w4 own5 hg5
             rw [List.nil_append] at own5
             have hb5 : Below w2.heap.size w2 w4 := hb_1.grown hg5 hb_1.size (fun q e' => by simp [Value.ownBlock] at e'; omega))
          | (refine step_appTs (w := ((w2.drew.alloc (.cells #[] 36)).alloc (.cells #[] 43))) (v := .slice (some ⟨w2.heap.size, 0, none⟩) 0 0) (base := w2.heap.size) (ls := []) (ms := (ls).take (k)) (A := some ad) (c := c) (ws := ws1) _ rfl _ _ rfl rfl own_2 (k) rfl hlt1.symm (rd_2 hrd1) (fun j h => by obtain ⟨Ak, ck, f1, f2, f3⟩ := hws1 j h; exact ⟨Ak, ck, f1, f2, Rd.below f3 hb_2⟩) (fun h => by cases h) (by rw [hlt1]; simp only [List.length_nil]; omega) hb_2.size rfl ?_
             intro v4 w4 own5 hg5
             rw [List.nil_append] at own5
             have hb5 : Below w2.heap.size w2 w4 := hb_2.grown hg5 hb_2.size (fun q e' => by simp [Value.ownBlock] at e'; omega))
          | (refine step_appTs (w := (((w2.drew.alloc (.cells #[] 36)).alloc (.cells #[] 43)).alloc (.cells #[.slice (some ⟨(w2.heap.size + 1), 0, none⟩) 0 0] 36))) (v := .slice (some ⟨w2.heap.size, 0, none⟩) 0 0) (base := w2.heap.size) (ls := []) (ms := (ls).take (k)) (A := some ad) (c := c) (ws := ws1) _ rfl _ _ rfl rfl own_3 (k) rfl hlt1.symm (rd_3 hrd1) (fun j h => by obtain ⟨Ak, ck, f1, f2, f3⟩ := hws1 j h; exact ⟨Ak, ck, f1, f2, Rd.below f3 hb_3⟩) (fun h => by cases h) (by rw [hlt1]; simp only [List.length_nil]; omega) hb_3.size rfl ?_
             intro v4 w4 own5 hg5
             rw [List.nil_append] at own5
             have hb5 : Below w2.heap.size w2 w4 := hb_3.grown hg5 hb_3.size (fun q e' => by simp [Value.ownBlock] at e'; omega)
             have hE5 := (hE_3).grown hg5 (by simp only [Value.ownBlock]; intro e'; injection e' with e'; omega))
          | (refine step_appTs (w := ((w2.drew.alloc (.cells #[] 43)).alloc (.cells #[] 36))) (v := .slice (some ⟨(w2.heap.size + 1), 0, none⟩) 0 0) (base := w2.heap.size) (ls := []) (ms := (ls).take (k)) (A := some ad) (c := c) (ws := ws1) _ rfl _ _ rfl rfl own_4 (k) rfl hlt1.symm (rd_4 hrd1) (fun j h => by obtain ⟨Ak, ck, f1, f2, f3⟩ := hws1 j h; exact ⟨Ak, ck, f1, f2, Rd.below f3 hb_4⟩) (fun h => by cases h) (by rw [hlt1]; simp only [List.length_nil]; omega) hb_4.size rfl ?_
             intro v4 w4 own5 hg5
             rw [List.nil_append] at own5
             have hb5 : Below w2.heap.size w2 w4 := hb_4.grown hg5 hb_4.size (fun q e' => by simp [Value.ownBlock] at e'; omega))
          | (refine step_appTs (w := (((w2.drew.alloc (.cells #[] 43)).alloc (.cells #[] 36)).alloc (.cells #[.slice (some ⟨w2.heap.size, 0, none⟩) 0 0] 36))) (v := .slice (some ⟨(w2.heap.size + 1), 0, none⟩) 0 0) (base := w2.heap.size) (ls := []) (ms := (ls).take (k)) (A := some ad) (c := c) (ws := ws1) _ rfl _ _ rfl rfl own_5 (k) rfl hlt1.symm (rd_5 hrd1) (fun j h => by obtain ⟨Ak, ck, f1, f2, f3⟩ := hws1 j h; exact ⟨Ak, ck, f1, f2, Rd.below f3 hb_5⟩) (fun h => by cases h) (by rw [hlt1]; simp only [List.length_nil]; omega) hb_5.size rfl ?_
             intro v4 w4 own5 hg5
             rw [List.nil_append] at own5
             have hb5 : Below w2.heap.size w2 w4 := hb_5.grown hg5 hb_5.size (fun q e' => by simp [Value.ownBlock] at e'; omega)
             have hE5 := (hE_5).grown hg5 (by simp only [Value.ownBlock]; intro e'; injection e' with e'; omega))
          | (refine step_appTs (w := (((w2.drew.alloc (.cells #[] 43)).alloc (.cells #[.slice (some ⟨w2.heap.size, 0, none⟩) 0 0] 36)).alloc (.cells #[] 36))) (v := .slice (some ⟨(w2.heap.size + 1 + 1), 0, none⟩) 0 0) (base := w2.heap.size) (ls := []) (ms := (ls).take (k)) (A := some ad) (c := c) (ws := ws1) _ rfl _ _ rfl rfl own_6 (k) rfl hlt1.symm (rd_6 hrd1) (fun j h => by obtain ⟨Ak, ck, f1, f2, f3⟩ := hws1 j h; exact ⟨Ak, ck, f1, f2, Rd.below f3 hb_6⟩) (fun h => by cases h) (by rw [hlt1]; simp only [List.length_nil]; omega) hb_6.size rfl ?_
             intro v4 w4 own5 hg5
             rw [List.nil_append] at own5
             have hb5 : Below w2.heap.size w2 w4 := hb_6.grown hg5 hb_6.size (fun q e' => by simp [Value.ownBlock] at e'; omega)
             have hE5 := (hE_6).grown hg5 (by simp only [Value.ownBlock]; intro e'; injection e' with e'; omega)))
      all_goals (try generalize (if c = k then some ad else some (ad.add k)) = AD)
      all_goals go_wp2_with fail
      all_goals go_meet
      all_goals exact ⟨own7, hb7⟩
    case rest =>
      obtain ⟨own7, hb7⟩ := hcut
      clear hb_1 rd_1 own_1 hb_2 rd_2 own_2 hb_3 rd_3 own_3 hb_4 rd_4 own_4 hb_5 rd_5 own_5 hb_6 rd_6 own_6 hE_3 hE_5 hE_6 hrd1 hws1 hdrop hlt1 hld
      have hB3 := hB2.trans (hb7.mono hB2.size)
      have rd3 := (Rd.below rd2 hb7).more hb7.size
      generalize hwc : wc = w3 at *
      clear hwc
      obtain ⟨mm, hmm⟩ : ∃ mm : List (List En), mm = (ls).take (k) ++ [[]] ++ (ls).drop (k) := ⟨_, rfl⟩
      rw [← hmm] at own7
      have HMM := Lib.hid hmm
      clear hmm
      obtain ⟨A3, c3, rfl, hc3, rdT⟩ := own7.rd hb7.size
      clear own7 hb7 rd2 hB2
      have cT := merge_any A3 c3 mm w3 rdT (fun x hx => by
        rw [HMM.out] at hx
        rcases List.mem_append.1 hx with h | h
        · rcases List.mem_append.1 h with h | h
          · exact HS.out x (List.mem_of_mem_take h)
          · rw [List.mem_singleton.1 h]; exact ⟨fun _ h => (nomatch h), by decide⟩
        · exact HS.out x (List.mem_of_mem_drop h))
      unfold MergeRel at cT
      rw [HMM.out, LAW.out, ← HMM.out] at cT
      dsimp only at cT
      have HRES := Lib.hid (show res.length ≤ 80 from by
        have h1 := HM2.out
        unfold Tr.merge at h1
        rw [if_neg (by omega)] at h1
        have := (Tr.mergeL_right (ls := ls) (by rw [h1])).1
        rw [h1] at this; exact this)
      go_wp2_with fail
      refine cT.mono ?_
      rintro e w4 ⟨v4, rfl, ho4, hb4⟩
      have hB4 := hB3.trans (hb4.mono hB3.size)
      have rd4 := (Rd.below rd3 hb4).more hb4.size
      obtain ⟨A4, c4, rfl, hc4, rd4'⟩ := EnOwn.rd ho4
      clear ho4 hb4 hB3 rd3 cT rdT
      go_wp2_with fail
      refine (same_any A2 A4 c2 c4 res res w4 rd4 rd4' (by have := HRES.out; omega) rfl).mono ?_
      rintro e w5 ⟨rfl, hb5⟩
      have hB5 := hB4.trans (hb5.mono hB4.size)
      clear hb5 hB4 rd4 rd4'
      have cO := over_any B none d 0 t [] w5 ((ht.below hB5).more hB5.size) Rd.nil hd (Nat.le_refl _) HSt.out (fun _ h => (nomatch h)) hnt (by decide)
      unfold OverRel at cO
      obtain ⟨ov, hov⟩ : ∃ ov, ov = Tr.over t [] := ⟨_, rfl⟩
      rw [← hov] at cO
      have HO := Lib.hid hov.symm
      clear hov
      obtain ⟨res2, err2⟩ := ov
      dsimp only at cO
      have cO : Calls Tryd.prog 26 #[.slice B t.length d, .slice none 0 0] w5 _ := cO
      go_wp2_with fail
      refine cO.mono ?_
      rintro e w6 ⟨v6, rfl, ho6, hb6⟩
      have hB6 := hB5.trans (hb6.mono hB5.size)
      clear hb6 hB5 cO
      obtain ⟨A6, c6, rfl, hc6, rd6⟩ := EnOwn.rd ho6
      clear ho6
      have cW := wrongT_any B d t w6 ((ht.below hB6).more hB6.size) hd HSt.out hnt
      obtain ⟨pw, hpw⟩ : ∃ pw, pw = Tr.wrong t false := ⟨_, rfl⟩
      rw [← hpw] at cW
      have HW := Lib.hid hpw.symm
      clear hpw
      obtain ⟨z1, z2⟩ := pw
      dsimp only at cW
      go_wp2_with fail
      refine cW.mono ?_
      rintro e w7 ⟨rfl, hb7⟩
      have hB7 := hB6.trans (hb7.mono hB6.size)
      have rd7 := (Rd.below rd6 hb7).more hb7.size
      clear hb7 hB6 cW rd6
      rcases tz : (z1 != 0) with _ | _
      rotate_left
      · go_wp2_with fail
        go_ret
        exact ⟨rfl, hB7⟩
      have hz0 : z1 = 0 := by simpa using tz
      have hR := (Tr.wrong_zero t false).1 (by rw [HW.out]; exact hz0)
      have hov := (Tr.over_is hR.1 (Tr.right_layer hR.2) (t := []) (by decide) (Tr.right_nil _) (by rw [Tr.overL_nil hR.2]; exact hR.1)).symm.trans HO.out
      rw [Tr.overL_nil hR.2] at hov
      injection hov with hov1 hov2
      subst hov1 hov2
      have ht7 := (ht.below hB7).more hB7.size
      go_wp2_with fail
      refine (same_any A6 B c6 d t t w7 rd7 ht7 (by omega) rfl).mono ?_
      rintro e w8 ⟨rfl, hb8⟩
      have hB8 := hB7.trans (hb8.mono hB7.size)
      go_wp2_with fail
      go_ret
      exact ⟨rfl, hB8⟩
end Go.Proofs.YtjppfhgkanbemaaDoor
