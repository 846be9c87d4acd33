/-
  The walk of LayerParts: it returns true.
-/
import Derived.Test.YtjppfhgkanbemaaDoorTrTs
import Derived.Deep.CutBlock
import Derived.Deep.DeepCutAuto
namespace Go.Proofs.YtjppfhgkanbemaaDoor
open Go.RowKit Go.Shelf Go.Sort

theorem parts_law {ls : List (List En)} {n : Nat} (h : (Tr.merge ls).2 = 0) (hn : n ≤ ls.length) :
    Tr.merge (ls.drop n) = Tr.mergeL (ls.drop n) ∧ (Tr.merge (ls.drop n)).2 = 0 ∧ (n = 5 → Tr.merge (ls.take n ++ [(Tr.merge (ls.drop n)).1]) = ([], 5)) ∧ (n ≠ 5 → Tr.merge (ls.take n ++ [(Tr.merge (ls.drop n)).1]) = Tr.merge ls) := by
  have h5 : ls.length ≤ 5 := by
    unfold Tr.merge at h
    by_cases h5 : 5 < ls.length
    · rw [if_pos h5] at h; cases h
    · omega
  have e1 : Tr.merge ls = Tr.mergeL ls := by unfold Tr.merge; rw [if_neg (by omega)]
  have e2 : Tr.merge (ls.drop n) = Tr.mergeL (ls.drop n) := by unfold Tr.merge; rw [if_neg (by rw [List.length_drop]; omega)]
  rw [e1] at h
  have h2 := Tr.merge_drop (n := n) h
  refine ⟨e2, by rw [e2]; exact h2, fun e => ?_, fun e => ?_⟩
  · unfold Tr.merge
    rw [if_pos]
    rw [List.length_append, List.length_take]; simp; omega
  · have e3 : Tr.merge (ls.take n ++ [(Tr.merge (ls.drop n)).1]) = Tr.mergeL (ls.take n ++ [(Tr.merge (ls.drop n)).1]) := by
      rw [Tr.merge, if_neg]
      rw [List.length_append, List.length_take]; simp; omega
    rw [e3, e1, e2, Tr.merge_parts h]
set_option maxHeartbeats 4000000 in
theorem layerParts_any (A : Option Addr) (c : Nat) (ls : List (List En)) (n : Int) (w : World) (hl : TsRd w w.heap.size A ls) (hc : ls.length ≤ c) (hs : Sms ls) (hA : A = none → c = 0) (hbig : ls.length ≤ 1048576) (hn : -9223372036854775808 ≤ n ∧ n ≤ 9223372036854775807) :
    Calls Tryd.prog 9 #[.slice A ls.length c, .int .i64 n] w fun e w' => e = .returned (.bool true) ∧ Below w.heap.size w w' := by
  have HS := Lib.hid hs
  clear hs
  have hB := Below.refl w.heap.size w
  go_enter Tryd.func9, Tryd.ntmps9
  go_wp2_with fail
  refine (layAlive_any w).mono ?_
  rintro e w1 ⟨rfl, hb⟩
  replace hB := hb
  clear hb
  have cM := merge_any A c ls w1 ((hl.below hB).more hB.size) HS.out
  unfold MergeRel at cM
  obtain ⟨mv, hmv⟩ : ∃ mv, mv = Tr.merge ls := ⟨_, rfl⟩
  rw [← hmv] at cM
  have HM := Lib.hid hmv.symm
  clear hmv
  obtain ⟨res, err⟩ := mv
  dsimp only at cM
  go_wp2_with fail
  refine cM.mono ?_
  rintro e w2 ⟨v, rfl, ho2, hb⟩
  replace hB := hB.trans (hb.mono hB.size)
  clear hb cM
  obtain ⟨A2, c2, rfl, hc2, rd2⟩ := EnOwn.rd ho2
  clear ho2
  rcases te : (err != 0) with _ | _
  rotate_left
  · go_wp2_with fail
    go_ret
    exact ⟨rfl, hB⟩
  rcases t0 : decide (n < 0) with _ | _
  rotate_left
  · go_wp2_with fail
    go_ret
    exact ⟨rfl, hB⟩
  rcases t1 : decide ((ls.length : Int) < n) with _ | _
  rotate_left
  · go_wp2_with fail
    go_ret
    exact ⟨rfl, hB⟩
  obtain ⟨k, rfl⟩ : ∃ k : Nat, n = k := ⟨n.toNat, by have := of_decide_eq_false t0; omega⟩
  have hk : k ≤ ls.length := by have := of_decide_eq_false t1; omega
  clear hn
  have LAW := Lib.hid (parts_law (by rw [HM.out]; simpa using te : (Tr.merge ls).2 = 0) hk)
  have hz5 := Lib.hid (show ls.length ≤ 5 from by
    have h : (Tr.merge ls).2 = 0 := by rw [HM.out]; simpa using te
    unfold Tr.merge at h
    by_cases h5 : 5 < ls.length
    · rw [if_pos h5] at h; cases h
    · omega)
  obtain ⟨low, hlow⟩ : ∃ low, low = (Tr.merge (ls.drop k)).1 := ⟨_, rfl⟩
  have HLOW := Lib.hid hlow
  clear hlow
  have cG : ∀ A' c' n', n' = (ls.drop k).length → TsRd w2 w2.heap.size A' (ls.drop k) → Calls Tryd.prog 35 #[.slice A' n' c'] w2 fun e w' => ∃ v, e = .returned (.tuple #[v, .int .i64 0]) ∧ EnOwn w' w2.heap.size v low ∧ Below w2.heap.size w2 w' := by
    intro A' c' n' hn' hr
    subst hn'
    refine (merge_any A' c' (ls.drop k) w2 hr (HS.out.drop k)).mono ?_
    rintro e w' ⟨v, he, ho, hb⟩
    exact ⟨v, by rw [he, LAW.out.2.1], by rw [HLOW.out]; exact ho, hb⟩
  rcases A with _ | ad
  · have h0 : ls = [] := by
      obtain ⟨vs, h1, _⟩ := hl
      rcases Nat.eq_zero_or_pos ls.length with h | h
      · exact List.length_eq_zero_iff.1 h
      · obtain ⟨_, _, e, _⟩ := h1.2 h; cases e
    subst h0
    obtain rfl : k = 0 := by simpa using hk
    obtain rfl := hA rfl
    have e0 : ([] : List (List En)).length = 0 := rfl
    go_wp2_with fail
    refine (cG _ _ _ rfl (TsRd.nil _ _ _)).mono ?_
    rintro e w3 ⟨v3, rfl, ho3, hb3⟩
    clear cG
    have hB3 := hB.trans (hb3.mono hB.size)
    have rd2' := (Rd.below rd2 hb3).more hb3.size
    clear hb3 rd2 hB
    obtain ⟨A1, c1, rfl, hc1, rd1⟩ := EnOwn.rd ho3
    clear ho3
    have hB4 := hB3.alloc hB3.size (.cells #[] 36)
    have own4 := TsOwn.start w3
    obtain ⟨ws1, hrd1, hws1⟩ := TsRd.take (((hl.below hB3).more hB3.size).below ((Below.refl _ w3).alloc (Nat.le_refl _) (.cells #[] 36))) (0)
    have hlt1 : ((([] : List (List En))).take (0)).length = 0 := by rw [List.length_take]; omega
    go_wp2_with (first
      | (at_builtin; refine wpList_appTs (w := w3.alloc (.cells #[] 36)) (v := .slice (some ⟨w3.heap.size, 0, none⟩) 0 0) (base := w3.heap.size) (ls := []) (ms := (([] : List (List En))).take (0)) (A := none) (c := 0) (ws := ws1) _ rfl _ _ rfl rfl own4 (0) rfl hlt1.symm hrd1 hws1 (fun _ => rfl) (by rw [hlt1]; simp only [List.length_nil]; omega) (by simp) rfl ?_
         intro v4 w4 own5 hg5
         have hB5 := hB4.grown hg5 hB4.size (fun q e' => by simp [Value.ownBlock] at e'; subst e'; exact hB3.size)
         have hb35 : Below w3.heap.size w3 w4 := ((Below.refl _ w3).alloc (Nat.le_refl _) (.cells #[] 36)).grown hg5 (by simp) (fun q e' => by simp [Value.ownBlock] at e'; omega)
         rw [List.nil_append] at own5
         have hB6 := hB5.alloc hB5.size (.cells #[.slice A1 low.length c1] 36)
         have own6 := own5.below ((Below.refl _ w4).alloc (Nat.le_refl _) (.cells #[.slice A1 low.length c1] 36)) hb35.size
         have hb36 : Below w3.heap.size w3 (w4.alloc (.cells #[.slice A1 low.length c1] 36)) := hb35.alloc hb35.size _
         have hws6 : ∀ j (h : j < [low].length), ∃ Ak ck, ([.slice A1 low.length c1] : List Value)[j]? = some (.slice Ak [low][j].length ck) ∧ [low][j].length ≤ ck ∧ EnRd (w4.alloc (.cells #[.slice A1 low.length c1] 36)) w3.heap.size Ak [low][j] := by
           intro j h
           obtain rfl : j = 0 := by simpa using h
           exact ⟨A1, c1, rfl, hc1, Rd.below rd1 hb36⟩)
      | (at_builtin; refine wpList_appTs (w := w4.alloc (.cells #[.slice A1 low.length c1] 36)) (v := v4) (base := w3.heap.size) (ls := (([] : List (List En))).take (0)) (ms := [low]) (A := some ⟨w4.heap.size, 0, none⟩) (c := 1) (ws := [.slice A1 low.length c1]) _ rfl _ _ rfl rfl own6 1 rfl rfl (one_rd w4) hws6 (fun h => by cases h) (by rw [hlt1]; simp only [List.length_cons, List.length_nil]; omega) hb36.size rfl ?_
         intro v7 w7 own7 hg7))
    have hb37 := hb36.grown hg7 hb36.size (fun q e' => by obtain ⟨vs, h1, _⟩ := own6; exact (h1.lt q e').1)
    have hB7 := hB6.grown hg7 hB6.size (fun q e' => by obtain ⟨vs, h1, _⟩ := own6; exact Nat.le_trans hB3.size (h1.lt q e').1)
    have rd7 := (Rd.below rd2' hb37).more hb37.size
    clear own4 own5 own6 hB4 hB5 hB6 hb35 hb36 hws6 hg5 hg7 hlt1 rd1 hB3 hrd1 hws1
    obtain ⟨A7, c7, rfl, hc7, rdT⟩ := own7.rd hb37.size
    have cT := merge_any A7 c7 ((([] : List (List En))).take (0) ++ [low]) w7 rdT (fun x hx => by
      rcases List.mem_append.1 hx with h | h
      · exact HS.out x (List.mem_of_mem_take h)
      · rw [List.mem_singleton.1 h]
        have hR := Tr.mergeL_right (ls := (([] : List (List En))).drop (0)) (by rw [← LAW.out.1]; exact LAW.out.2.1)
        rw [← LAW.out.1, ← HLOW.out] at hR
        exact ⟨Tr.right_sm hR.2, by have := hR.1; omega⟩)
    unfold MergeRel at cT
    rw [HLOW.out] at cT
    have hk5 : ¬ (0 : Nat) = 5 := by decide
    rw [LAW.out.2.2.2 hk5, HM.out, ← HLOW.out] at cT
    have hk5b : (((0 : Nat) : Int) == 5) = false := by rw [beq_eq_false_iff_ne]; omega
    dsimp only at cT
    have he0 : err = 0 := by simpa using te
    subst he0
    go_wp2_with fail
    refine cT.mono ?_
    rintro e w8 ⟨v8, rfl, ho8, hb8⟩
    have hB8 := hB7.trans (hb8.mono hB7.size)
    have rd8 := (Rd.below rd7 hb8).more hb8.size
    obtain ⟨A8, c8, rfl, hc8, rd8'⟩ := EnOwn.rd ho8
    have hresl : res.length ≤ 9223372036854775807 := by
      have hR := Tr.mergeL_right (ls := ([] : List (List En))) (by have h := congrArg Prod.snd HM.out; unfold Tr.merge at h; rw [if_neg (by have := hz5.out; omega)] at h; exact h)
      have h2 := congrArg Prod.fst HM.out
      unfold Tr.merge at h2
      rw [if_neg (by have := hz5.out; omega)] at h2
      rw [h2] at hR
      have := hR.1
      dsimp only at this
      omega
    go_wp2_with fail
    refine (same_any A2 A8 c2 c8 res res w8 rd8 rd8' hresl rfl).mono ?_
    rintro e w9 ⟨rfl, hb9⟩
    have hB9 := hB8.trans (hb9.mono hB8.size)
    go_wp2_with fail
    go_ret
    exact ⟨rfl, hB9⟩
  · have hr2 := ((hl.below hB).more hB.size).drop k
    by_cases hkc : k = c
    · obtain rfl : c = k := hkc.symm
      clear hkc
      go_wp2_with fail
      refine (cG _ _ _ (by rw [List.length_drop]; omega) (by rw [List.drop_eq_nil_of_le hc]; exact TsRd.nil _ _ _)).mono ?_
      rintro e w3 ⟨v3, rfl, ho3, hb3⟩
      clear cG hr2
      have hB3 := hB.trans (hb3.mono hB.size)
      have rd2' := (Rd.below rd2 hb3).more hb3.size
      clear hb3 rd2 hB
      obtain ⟨A1, c1, rfl, hc1, rd1⟩ := EnOwn.rd ho3
      clear ho3
      have hB4 := hB3.alloc hB3.size (.cells #[] 36)
      have own4 := TsOwn.start w3
      obtain ⟨ws1, hrd1, hws1⟩ := TsRd.take (((hl.below hB3).more hB3.size).below ((Below.refl _ w3).alloc (Nat.le_refl _) (.cells #[] 36))) (c)
      have hlt1 : ((ls).take (c)).length = c := by rw [List.length_take]; omega
      go_wp2_with (first
        | (at_builtin; refine wpList_appTs (w := w3.alloc (.cells #[] 36)) (v := .slice (some ⟨w3.heap.size, 0, none⟩) 0 0) (base := w3.heap.size) (ls := []) (ms := (ls).take (c)) (A := some ad) (c := c) (ws := ws1) _ rfl _ _ rfl rfl own4 (c) rfl hlt1.symm hrd1 hws1 (fun h => by cases h) (by rw [hlt1]; simp only [List.length_nil]; omega) (by simp) rfl ?_
           intro v4 w4 own5 hg5
           have hB5 := hB4.grown hg5 hB4.size (fun q e' => by simp [Value.ownBlock] at e'; subst e'; exact hB3.size)
           have hb35 : Below w3.heap.size w3 w4 := ((Below.refl _ w3).alloc (Nat.le_refl _) (.cells #[] 36)).grown hg5 (by simp) (fun q e' => by simp [Value.ownBlock] at e'; omega)
           rw [List.nil_append] at own5
           have hB6 := hB5.alloc hB5.size (.cells #[.slice A1 low.length c1] 36)
           have own6 := own5.below ((Below.refl _ w4).alloc (Nat.le_refl _) (.cells #[.slice A1 low.length c1] 36)) hb35.size
           have hb36 : Below w3.heap.size w3 (w4.alloc (.cells #[.slice A1 low.length c1] 36)) := hb35.alloc hb35.size _
           have hws6 : ∀ j (h : j < [low].length), ∃ Ak ck, ([.slice A1 low.length c1] : List Value)[j]? = some (.slice Ak [low][j].length ck) ∧ [low][j].length ≤ ck ∧ EnRd (w4.alloc (.cells #[.slice A1 low.length c1] 36)) w3.heap.size Ak [low][j] := by
             intro j h
             obtain rfl : j = 0 := by simpa using h
             exact ⟨A1, c1, rfl, hc1, Rd.below rd1 hb36⟩)
        | (at_builtin; refine wpList_appTs (w := w4.alloc (.cells #[.slice A1 low.length c1] 36)) (v := v4) (base := w3.heap.size) (ls := (ls).take (c)) (ms := [low]) (A := some ⟨w4.heap.size, 0, none⟩) (c := 1) (ws := [.slice A1 low.length c1]) _ rfl _ _ rfl rfl own6 1 rfl rfl (one_rd w4) hws6 (fun h => by cases h) (by rw [hlt1]; simp only [List.length_cons, List.length_nil]; omega) hb36.size rfl ?_
           intro v7 w7 own7 hg7))
      have hb37 := hb36.grown hg7 hb36.size (fun q e' => by obtain ⟨vs, h1, _⟩ := own6; exact (h1.lt q e').1)
      have hB7 := hB6.grown hg7 hB6.size (fun q e' => by obtain ⟨vs, h1, _⟩ := own6; exact Nat.le_trans hB3.size (h1.lt q e').1)
      have rd7 := (Rd.below rd2' hb37).more hb37.size
      clear own4 own5 own6 hB4 hB5 hB6 hb35 hb36 hws6 hg5 hg7 hlt1 rd1 hB3 hrd1 hws1
      obtain ⟨A7, c7, rfl, hc7, rdT⟩ := own7.rd hb37.size
      have cT := merge_any A7 c7 ((ls).take (c) ++ [low]) w7 rdT (fun x hx => by
        rcases List.mem_append.1 hx with h | h
        · exact HS.out x (List.mem_of_mem_take h)
        · rw [List.mem_singleton.1 h]
          have hR := Tr.mergeL_right (ls := (ls).drop (c)) (by rw [← LAW.out.1]; exact LAW.out.2.1)
          rw [← LAW.out.1, ← HLOW.out] at hR
          exact ⟨Tr.right_sm hR.2, by have := hR.1; omega⟩)
      unfold MergeRel at cT
      rw [HLOW.out] at cT
      by_cases hk5 : c = 5
      · rw [LAW.out.2.2.1 hk5, ← HLOW.out] at cT
        have hk5b : (((c : Nat) : Int) == 5) = true := by rw [hk5]; rfl
        dsimp only at cT
        have hk5' := Lib.hid hk5
        clear hk5
        go_wp2_with fail
        refine cT.mono ?_
        rintro e w8 ⟨v8, rfl, ho8, hb8⟩
        have hB8 := hB7.trans (hb8.mono hB7.size)
        go_wp2_with fail
        go_ret
        exact ⟨rfl, hB8⟩
      · rw [LAW.out.2.2.2 hk5, HM.out, ← HLOW.out] at cT
        have hk5b : (((c : Nat) : Int) == 5) = false := by rw [beq_eq_false_iff_ne]; omega
        dsimp only at cT
        have he0 : err = 0 := by simpa using te
        subst he0
        go_wp2_with fail
        refine cT.mono ?_
        rintro e w8 ⟨v8, rfl, ho8, hb8⟩
        have hB8 := hB7.trans (hb8.mono hB7.size)
        have rd8 := (Rd.below rd7 hb8).more hb8.size
        obtain ⟨A8, c8, rfl, hc8, rd8'⟩ := EnOwn.rd ho8
        have hresl : res.length ≤ 9223372036854775807 := by
          have hR := Tr.mergeL_right (ls := ls) (by have h := congrArg Prod.snd HM.out; unfold Tr.merge at h; rw [if_neg (by have := hz5.out; omega)] at h; exact h)
          have h2 := congrArg Prod.fst HM.out
          unfold Tr.merge at h2
          rw [if_neg (by have := hz5.out; omega)] at h2
          rw [h2] at hR
          have := hR.1
          dsimp only at this
          omega
        go_wp2_with fail
        refine (same_any A2 A8 c2 c8 res res w8 rd8 rd8' hresl rfl).mono ?_
        rintro e w9 ⟨rfl, hb9⟩
        have hB9 := hB8.trans (hb9.mono hB8.size)
        go_wp2_with fail
        go_ret
        exact ⟨rfl, hB9⟩
    · go_wp2_with fail
      refine (cG _ _ _ (by rw [List.length_drop]) hr2).mono ?_
      rintro e w3 ⟨v3, rfl, ho3, hb3⟩
      clear cG hr2
      have hB3 := hB.trans (hb3.mono hB.size)
      have rd2' := (Rd.below rd2 hb3).more hb3.size
      clear hb3 rd2 hB
      obtain ⟨A1, c1, rfl, hc1, rd1⟩ := EnOwn.rd ho3
      clear ho3
      have hB4 := hB3.alloc hB3.size (.cells #[] 36)
      have own4 := TsOwn.start w3
      obtain ⟨ws1, hrd1, hws1⟩ := TsRd.take (((hl.below hB3).more hB3.size).below ((Below.refl _ w3).alloc (Nat.le_refl _) (.cells #[] 36))) (k)
      have hlt1 : ((ls).take (k)).length = k := by rw [List.length_take]; omega
      go_wp2_with (first
        | (at_builtin; refine wpList_appTs (w := w3.alloc (.cells #[] 36)) (v := .slice (some ⟨w3.heap.size, 0, none⟩) 0 0) (base := w3.heap.size) (ls := []) (ms := (ls).take (k)) (A := some ad) (c := c) (ws := ws1) _ rfl _ _ rfl rfl own4 (k) rfl hlt1.symm hrd1 hws1 (fun h => by cases h) (by rw [hlt1]; simp only [List.length_nil]; omega) (by simp) rfl ?_
           intro v4 w4 own5 hg5
           have hB5 := hB4.grown hg5 hB4.size (fun q e' => by simp [Value.ownBlock] at e'; subst e'; exact hB3.size)
           have hb35 : Below w3.heap.size w3 w4 := ((Below.refl _ w3).alloc (Nat.le_refl _) (.cells #[] 36)).grown hg5 (by simp) (fun q e' => by simp [Value.ownBlock] at e'; omega)
           rw [List.nil_append] at own5
           have hB6 := hB5.alloc hB5.size (.cells #[.slice A1 low.length c1] 36)
           have own6 := own5.below ((Below.refl _ w4).alloc (Nat.le_refl _) (.cells #[.slice A1 low.length c1] 36)) hb35.size
           have hb36 : Below w3.heap.size w3 (w4.alloc (.cells #[.slice A1 low.length c1] 36)) := hb35.alloc hb35.size _
           have hws6 : ∀ j (h : j < [low].length), ∃ Ak ck, ([.slice A1 low.length c1] : List Value)[j]? = some (.slice Ak [low][j].length ck) ∧ [low][j].length ≤ ck ∧ EnRd (w4.alloc (.cells #[.slice A1 low.length c1] 36)) w3.heap.size Ak [low][j] := by
             intro j h
             obtain rfl : j = 0 := by simpa using h
             exact ⟨A1, c1, rfl, hc1, Rd.below rd1 hb36⟩)
        | (at_builtin; refine wpList_appTs (w := w4.alloc (.cells #[.slice A1 low.length c1] 36)) (v := v4) (base := w3.heap.size) (ls := (ls).take (k)) (ms := [low]) (A := some ⟨w4.heap.size, 0, none⟩) (c := 1) (ws := [.slice A1 low.length c1]) _ rfl _ _ rfl rfl own6 1 rfl rfl (one_rd w4) hws6 (fun h => by cases h) (by rw [hlt1]; simp only [List.length_cons, List.length_nil]; omega) hb36.size rfl ?_
           intro v7 w7 own7 hg7))
      have hb37 := hb36.grown hg7 hb36.size (fun q e' => by obtain ⟨vs, h1, _⟩ := own6; exact (h1.lt q e').1)
      have hB7 := hB6.grown hg7 hB6.size (fun q e' => by obtain ⟨vs, h1, _⟩ := own6; exact Nat.le_trans hB3.size (h1.lt q e').1)
      have rd7 := (Rd.below rd2' hb37).more hb37.size
      clear own4 own5 own6 hB4 hB5 hB6 hb35 hb36 hws6 hg5 hg7 hlt1 rd1 hB3 hrd1 hws1
      obtain ⟨A7, c7, rfl, hc7, rdT⟩ := own7.rd hb37.size
      have cT := merge_any A7 c7 ((ls).take (k) ++ [low]) w7 rdT (fun x hx => by
        rcases List.mem_append.1 hx with h | h
        · exact HS.out x (List.mem_of_mem_take h)
        · rw [List.mem_singleton.1 h]
          have hR := Tr.mergeL_right (ls := (ls).drop (k)) (by rw [← LAW.out.1]; exact LAW.out.2.1)
          rw [← LAW.out.1, ← HLOW.out] at hR
          exact ⟨Tr.right_sm hR.2, by have := hR.1; omega⟩)
      unfold MergeRel at cT
      rw [HLOW.out] at cT
      by_cases hk5 : k = 5
      · rw [LAW.out.2.2.1 hk5, ← HLOW.out] at cT
        have hk5b : (((k : Nat) : Int) == 5) = true := by rw [hk5]; rfl
        dsimp only at cT
        have hk5' := Lib.hid hk5
        clear hk5
        go_wp2_with fail
        refine cT.mono ?_
        rintro e w8 ⟨v8, rfl, ho8, hb8⟩
        have hB8 := hB7.trans (hb8.mono hB7.size)
        go_wp2_with fail
        go_ret
        exact ⟨rfl, hB8⟩
      · rw [LAW.out.2.2.2 hk5, HM.out, ← HLOW.out] at cT
        have hk5b : (((k : Nat) : Int) == 5) = false := by rw [beq_eq_false_iff_ne]; omega
        dsimp only at cT
        have he0 : err = 0 := by simpa using te
        subst he0
        go_wp2_with fail
        refine cT.mono ?_
        rintro e w8 ⟨v8, rfl, ho8, hb8⟩
        have hB8 := hB7.trans (hb8.mono hB7.size)
        have rd8 := (Rd.below rd7 hb8).more hb8.size
        obtain ⟨A8, c8, rfl, hc8, rd8'⟩ := EnOwn.rd ho8
        have hresl : res.length ≤ 9223372036854775807 := by
          have hR := Tr.mergeL_right (ls := ls) (by have h := congrArg Prod.snd HM.out; unfold Tr.merge at h; rw [if_neg (by have := hz5.out; omega)] at h; exact h)
          have h2 := congrArg Prod.fst HM.out
          unfold Tr.merge at h2
          rw [if_neg (by have := hz5.out; omega)] at h2
          rw [h2] at hR
          have := hR.1
          dsimp only at this
          omega
        go_wp2_with fail
        refine (same_any A2 A8 c2 c8 res res w8 rd8 rd8' hresl rfl).mono ?_
        rintro e w9 ⟨rfl, hb9⟩
        have hB9 := hB8.trans (hb9.mono hB8.size)
        go_wp2_with fail
        go_ret
        exact ⟨rfl, hB9⟩
end Go.Proofs.YtjppfhgkanbemaaDoor
