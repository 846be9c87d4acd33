/-
  What is moved is the same, in plain words. No program in sight.
-/
import Derived.Test.YtjppfhgkanbemacGreatDoorSyTop2
namespace Go.Proofs.YtjppfhgkanbemacGreatDoor
namespace Sy
open Pt Tr

theorem setAll_le : ∀ (xs U : List En) (n : Nat), (∀ x ∈ xs, x.P.length ≤ n) → (setAll U xs).length ≤ U.length + xs.length * (n + 1)
  | [], U, n, _ => by show U.length ≤ _; omega
  | x :: xs, U, n, h => by
    have h1 := setP_le U x
    have h2 := h x (by simp)
    have h3 := setAll_le xs (setP U x) n (fun y hy => h y (by simp [hy]))
    show (setAll (setP U x) xs).length ≤ _
    rw [List.length_cons, Nat.add_mul]
    omega
def stM : St := ⟨bU, [tD, tA, tB], [⟨dirBB, noE, []⟩], [0], [⟨0, 7, 0, 1⟩], fds1 (some 0)⟩
theorem open_B7 : call (start bU) (openA dirBB 7) = (stM, .num 0) := by kernel_rfl
theorem stM_ok : Ok stM := ⟨bU_fine, bU_seen⟩
def mD (to : Bs) : En := ⟨bytesOf to, 2, noE, false⟩
def mA (to : Bs) : En := ⟨bytesOf (to ++ [47, 97]), 1, oneB, false⟩
def mB (to : Bs) (t : ByteArray) : En := ⟨bytesOf (to ++ [47, 98]), 1, t, false⟩
def mT (to : Bs) (t : ByteArray) : List En := [mD to, mA to, mB to t]
section
variable {to : Bs} (hn : named to = true) (hne : to ≠ dirB.data.toList)
include hn
theorem mv_under (r : Bs) : cmp to (to ++ 47 :: r) < 0 :=
  (order (c := []) (named_ne' hn) ((under_iff (named_ne' hn)).2 ⟨r, rfl⟩)).1
theorem mv_two : cmp (to ++ [47, 97]) (to ++ [47, 98]) < 0 := by
  have h1 : split (to ++ [47, 97]) = split to ++ [[97]] := split_in (n := [97]) (by decide)
  have h2 : split (to ++ [47, 98]) = split to ++ [[98]] := split_in (n := [98]) (by decide)
  have h3 := split_one (named_slash hn)
  unfold cmp
  rw [h1, h2, h3]
  show cmpP (to :: [[97]]) (to :: [[98]]) < 0
  rw [cmpP_cons, cb_self, if_pos rfl]
  decide
include hne
theorem mv_not (y : En) (hy : y ∈ [tD, tA, tB]) : y.P ≠ to := by
  have hs := named_slash hn
  simp only [List.mem_cons, List.mem_nil_iff, or_false] at hy
  rcases hy with rfl | rfl | rfl
  · exact fun e => hne e.symm
  · intro e; exact hs 47 (by rw [← e]; decide) rfl
  · intro e; exact hs 47 (by rw [← e]; decide) rfl
theorem mv_list : movedL [tD, tA, tB] dirB.data.toList to = mT to twoB := by
  have hst : [tD, tA, tB].filter (stays dirB.data.toList to) = [tD, tA, tB] := List.filter_eq_self.2 fun y hy => stays_iff.2 (.inr (mv_not hn hne y hy))
  unfold movedL
  rw [hst]
  rfl
omit hne in
theorem mv_sort : sortL (mT to twoB) = mT to twoB := by
  have h1 := mv_under hn [97]
  have h2 := mv_under hn [98]
  have h3 := mv_two hn
  show ins (mB to twoB) (ins (mA to) (ins (mD to) [])) = _
  have e1 : ins (mA to) [mD to] = [mD to, mA to] := by
    unfold ins; rw [if_pos (show cmp (mD to).P (mA to).P < 0 from h1)]; rfl
  have e2 : ins (mB to twoB) [mD to, mA to] = [mD to, mA to, mB to twoB] := by
    unfold ins; rw [if_pos (show cmp (mD to).P (mB to twoB).P < 0 from h2)]
    unfold ins; rw [if_pos (show cmp (mA to).P (mB to twoB).P < 0 from h3)]; rfl
  show ins (mB to twoB) (ins (mA to) [mD to]) = _
  rw [e1, e2]; rfl
theorem mv_err : moveErr [tD, tA, tB] dirB.data.toList to = 0 := by
  have hl := named_len hn
  have hg : Tr.get [tD, tA, tB] to = none := (get_none (named_ne' hn)).2 (mv_not hn hne)
  have h1 : movesErr [tD, tA, tB] dirB.data.toList to = 0 := by
    unfold movesErr
    have hgd : Tr.get [tD, tA, tB] dirB.data.toList = some tD := by kernel_rfl
    rw [hgd, if_neg (by simp only [reduceCtorEq, false_or]; decide), if_neg (by rw [(named_clean hn).1]; decide), if_neg (fun e => hne e.symm), if_neg, if_neg]
    · unfold destErr; rw [hg]
    · rw [(named_clean hn).2]
      have : dirErr [tD, tA, tB] [] = 0 := by kernel_rfl
      rw [this]; decide
    · intro h
      obtain ⟨r, e⟩ := (under_iff (by decide)).1 h
      exact named_slash hn 47 (by rw [e]; simp) rfl
  unfold moveErr
  rw [if_neg (by rw [show (wrong [tD, tA, tB] false).1 = 0 by kernel_rfl]; decide), h1, if_neg (by decide), mv_list hn hne, if_neg]
  intro h
  obtain ⟨e, he, h2⟩ := List.any_eq_true.1 h
  have hc := (named_clean hn).1
  have ca : clean (to ++ 47 :: [97]) = true := clean_in hc (by decide) (by show to.length + 1 + 1 ≤ 80; omega)
  have cb : clean (to ++ 47 :: [98]) = true := clean_in hc (by decide) (by show to.length + 1 + 1 ≤ 80; omega)
  have : clean e.P = true := by
    have he : e ∈ [mD to, mA to, mB to twoB] := he
    simp only [List.mem_cons, List.mem_nil_iff, or_false] at he
    rcases he with rfl | rfl | rfl
    · exact hc
    · exact ca
    · exact cb
  rw [this] at h2; cases h2
theorem mv_union : ∃ r, moveU bU dirB.data.toList to = r ∧ r.2 = 0 := by
  have he := mv_err hn hne
  have hl := named_len hn
  refine ⟨_, rfl, ?_⟩
  unfold moveU
  rw [bU_seen]
  dsimp only
  have hmove : Tr.move [tD, tA, tB] dirB.data.toList to = (sortL (movedL [tD, tA, tB] dirB.data.toList to), 0) := by unfold Tr.move; rw [if_neg (by simp [he])]
  rw [if_neg (by decide), hmove, if_neg (by simp), if_neg (fun e => hne e.symm)]
  unfold fin
  rw [if_neg]
  have hg : Tr.get [tD, tA, tB] to = none := (get_none (named_ne' hn)).2 (mv_not hn hne)
  unfold moveV
  rw [bU_seen]
  dsimp only
  rw [hg, if_neg (by decide)]
  have h1 : dropE (belowU bU) bU.U dirB.data.toList = [whiteEn dirB.data.toList] := by kernel_rfl
  rw [h1]
  have hmo : movedO [tD, tA, tB] dirB.data.toList to = mT to twoB := by
    have h2 : ([tD, tA, tB].filter fun e => decide (mv dirB.data.toList e.P)) = [tD, tA, tB] := List.filter_eq_self.2 fun y hy => by
      simp only [List.mem_cons, List.mem_nil_iff, or_false] at hy
      rw [decide_eq_true_eq]
      rcases hy with rfl | rfl | rfl
      · exact .inl rfl
      · exact .inr (by kernel_rfl)
      · exact .inr (by kernel_rfl)
    unfold movedO
    rw [h2]; rfl
  rw [hmo]
  have := setAll_le (mT to twoB) [whiteEn dirB.data.toList] (to.length + 2) (fun x hx => by
    have hx : x ∈ [mD to, mA to, mB to twoB] := hx
    simp only [List.mem_cons, List.mem_nil_iff, or_false] at hx
    rcases hx with rfl | rfl | rfl
    · show to.length ≤ _; omega
    · show (to ++ [47, 97]).length ≤ _; rw [List.length_append]; exact Nat.le_refl _
    · show (to ++ [47, 98]).length ≤ _; rw [List.length_append]; exact Nat.le_refl _)
  have h3 : (mT to twoB).length = 3 := rfl
  have h4 : [whiteEn dirB.data.toList].length = 1 := rfl
  rw [h3, h4] at this
  omega
end
def stR (v : Un) (to : Bs) (T : List En) (k : Int) : St := ⟨v, T, [⟨bytesOf (to ++ [47, 98]), noE, []⟩], [0], [⟨0, 7, k, 1⟩], fds1 (some 0)⟩
theorem mv_rename {to : ByteArray} (hn : named to.data.toList = true) (hne : to.data.toList ≠ dirB.data.toList) : ∃ v, call stM (atC 9 dirB to) = (stR v to.data.toList (mT to.data.toList twoB) 0, .ok) ∧ Ok (stR v to.data.toList (mT to.data.toList twoB) 0) ∧ v.U.length ≤ 53 := by
  obtain ⟨r, hr, hr0⟩ := mv_union hn hne
  have hgood := (call_good stM_ok (atC 9 dirB to)).1
  have hT := ok_right stM_ok
  have hf1 : Sy.find stM.T dirB.data.toList false = (dirB.data.toList, 0) := by kernel_rfl
  have hf2 : Sy.find stM.T to.data.toList false = (to.data.toList, 0) := find_clean hT (named_clean hn).1 (fun e he => by
    have : Tr.get [tD, tA, tB] to.data.toList = none := (get_none (named_ne' hn)).2 (mv_not hn hne)
    have he : Tr.get [tD, tA, tB] to.data.toList = some e := he
    rw [this] at he; cases he) (.inl (named_clean hn).2)
  have hto : to.data.toList ≠ [] := named_ne' hn
  have hmv : Tr.move [tD, tA, tB] dirB.data.toList to.data.toList = (mT to.data.toList twoB, 0) := by
    unfold Tr.move
    rw [if_neg (by simp [mv_err hn hne]), mv_list hn hne, mv_sort hn]
  have hlose : lose stM to.data.toList = stM := by
    show ({ stM with obs := [if 0 ∈ stM.files ∧ (⟨dirBB, noE, []⟩ : Ob).P = to.data.toList ∧ to.data.toList ≠ [] then _ else (⟨dirBB, noE, []⟩ : Ob)] } : St) = stM
    rw [if_neg]
    · rfl
    · rintro ⟨_, h, _⟩
      exact mv_not hn hne tB (by simp) h
  have hfol : follow stM dirB.data.toList to.data.toList = { stM with obs := [⟨bytesOf (to.data.toList ++ [47, 98]), noE, []⟩] } := by
    show ({ stM with obs := [if 0 ∈ stM.files ∧ ((⟨dirBB, noE, []⟩ : Ob).P = dirB.data.toList ∨ (under (⟨dirBB, noE, []⟩ : Ob).P dirB.data.toList = true ∧ (⟨dirBB, noE, []⟩ : Ob).P ≠ [])) then _ else (⟨dirBB, noE, []⟩ : Ob)] } : St) = _
    rw [if_pos]
    · rfl
    · exact ⟨by decide, .inr ⟨by kernel_rfl, by decide⟩⟩
  have ok1 : Ok (follow stM dirB.data.toList to.data.toList) := ok_of stM_ok rfl rfl
  have a := moveU_tree bU_fine dirB.data.toList to.data.toList
  rw [bU_seen] at a
  dsimp only at a
  rw [hmv, hr] at a
  have hset := ((set_good ok1 (r := r) (t := (mT to.data.toList twoB, 0)) a).2.2 hr0).1
  have hlen : r.1.U.length ≤ 53 := by
    rw [← hr] at hr0 ⊢
    unfold moveU at hr0 ⊢
    rw [bU_seen] at hr0 ⊢
    dsimp only at hr0 ⊢
    rw [if_neg (by decide), hmv, if_neg (by simp), if_neg (fun e => hne e.symm)] at hr0 ⊢
    unfold fin at hr0 ⊢
    by_cases h80 : 80 < (moveV bU dirB.data.toList to.data.toList).length
    · rw [if_pos h80] at hr0; cases hr0
    · rw [if_neg h80]
      show (moveV bU dirB.data.toList to.data.toList).length ≤ 53
      have hg : Tr.get [tD, tA, tB] to.data.toList = none := (get_none hto).2 (mv_not hn hne)
      unfold moveV
      rw [bU_seen]
      dsimp only
      rw [hg, if_neg (by decide)]
      have h1 : dropE (belowU bU) bU.U dirB.data.toList = [whiteEn dirB.data.toList] := by kernel_rfl
      rw [h1]
      have hl := named_len hn
      have hmo : ∀ x ∈ movedO [tD, tA, tB] dirB.data.toList to.data.toList, x.P.length ≤ to.data.toList.length + 2 := by
        intro x hx
        obtain ⟨y, hy, _, rfl⟩ := mem_movedO.1 hx
        rw [renE_P]
        unfold ren
        simp only [List.mem_cons, List.mem_nil_iff, or_false] at hy
        rcases hy with rfl | rfl | rfl
        · rw [if_pos (show tD.P = dirB.data.toList from rfl)]; omega
        · rw [if_neg (by decide), if_pos (by kernel_rfl), List.length_append]; exact Nat.le_refl _
        · rw [if_neg (by decide), if_pos (by kernel_rfl), List.length_append]; exact Nat.le_refl _
      have h2 := setAll_le _ [whiteEn dirB.data.toList] _ hmo
      have h3 := movedO_le [tD, tA, tB] dirB.data.toList to.data.toList
      have h4 : [whiteEn dirB.data.toList].length = 1 := rfl
      have h5 : [tD, tA, tB].length = 3 := rfl
      have h6 : (movedO [tD, tA, tB] dirB.data.toList to.data.toList).length * (to.data.toList.length + 2 + 1) ≤ 3 * 15 := Nat.mul_le_mul (by omega) (by omega)
      omega
  have hcall : call stM (atC 9 dirB to) = (stR r.1 to.data.toList (mT to.data.toList twoB) 0, .ok) := by
    rw [call_rename rfl (by show (0 : Int) ≤ 0; decide) (by show (0 : Int) < 4; decide)]
    unfold rename
    have hf1' : Sy.find stM.T (atC 9 dirB to).path.data.toList false = (dirB.data.toList, 0) := hf1
    have hf2' : Sy.find stM.T (atC 9 dirB to).to.data.toList false = (to.data.toList, 0) := hf2
    have hr' : moveU stM.u dirB.data.toList to.data.toList = r := hr
    rw [hf1', hf2']
    dsimp only
    rw [if_neg (by simp), if_neg (by simp), if_neg (by rintro (h | h); exact absurd h (by decide); exact hto h), hr', if_neg (by simp [hr0]), if_pos (fun e => hne e.symm), hlose, hset, hfol]
    rfl
  refine ⟨r.1, hcall, ?_, hlen⟩
  rw [hcall] at hgood; exact hgood
def movedC (p pb text : ByteArray) : List Ca := [openA dirBB 7, atC 9 dirB p, onC 4 0 0 text, atC 12 pb noE, atC 11 p noE, atC 12 dirB noE]
theorem moved {to text pb : ByteArray} (hn : named to.data.toList = true) (hne : to.data.toList ≠ dirB.data.toList) (ht : text.size ≤ 90) (hpb : pb.data.toList = to.data.toList ++ [47, 98]) :
    ∃ a0 a1 a2 a3 a4 a5, (calls (start bU) (movedC to pb text)).2 = [a0, a1, a2, a3, a4, a5] ∧ a1.err = 0 ∧ a3.text.data.toList = twoB.data.toList ++ text.data.toList ∧ a4.names = [[97], [98]] ∧ a5.err = 6 := by
  have hlen : text.data.toList.length = text.size := by simp
  have hl := named_len hn
  have hto := named_ne' hn
  obtain ⟨v, hc, hok, hvl⟩ := mv_rename hn hne
  have dA : dirOf (to.data.toList ++ [47, 97]) = to.data.toList ∧ nameOf (to.data.toList ++ [47, 97]) = [97] := dir_in (n := [97]) (by decide)
  have dB : dirOf (to.data.toList ++ [47, 98]) = to.data.toList ∧ nameOf (to.data.toList ++ [47, 98]) = [98] := dir_in (n := [98]) (by decide)
  have cB : clean (to.data.toList ++ [47, 98]) = true := clean_in (named_clean hn).1 (by decide) (by show _ + 1 + 1 ≤ 80; omega)
  -- what is asked behind
  have ask : ∀ (s : St) (t : ByteArray), Ok s → s.T = mT to.data.toList t → (calls s [atC 12 pb noE, atC 11 to noE, atC 12 dirB noE]).2 = [⟨0, 1, t, []⟩, ⟨0, 0, noE, [[97], [98]]⟩, .no 6] := by
    intro s t hs hT
    have hR := ok_right hs
    have mem : ∀ y ∈ mT to.data.toList t, y ∈ s.T := fun y hy => by rw [hT]; exact hy
    have gB : Tr.get s.T pb.data.toList = some (mB to.data.toList t) := by
      rw [hpb]
      exact (get_iff hR.2.1 (by simp)).2 ⟨mem _ (by simp [mT]), rfl⟩
    have gD : Tr.get s.T to.data.toList = some (mD to.data.toList) := (get_iff hR.2.1 hto).2 ⟨mem _ (by simp [mT]), rfl⟩
    have gN : Tr.get s.T dirB.data.toList = none := (get_none (by decide)).2 fun y hy e => by
      rw [hT] at hy
      have hy : y ∈ [mD to.data.toList, mA to.data.toList, mB to.data.toList t] := hy
      simp only [List.mem_cons, List.mem_nil_iff, or_false] at hy
      rcases hy with rfl | rfl | rfl
      · exact hne e
      · have h1 := dA.1
        have e : to.data.toList ++ [47, 97] = dirB.data.toList := e
        rw [e] at h1
        exact hto (h1.symm.trans (by kernel_rfl))
      · have h1 := dB.1
        have e : to.data.toList ++ [47, 98] = dirB.data.toList := e
        rw [e] at h1
        exact hto (h1.symm.trans (by kernel_rfl))
    have f1 := find_there (b := true) hR (by rw [hpb]; simp) gB (.inl (by show (1 : Int) ≠ 3; decide))
    have f2 := find_there (b := true) hR hto gD (.inl (by show (2 : Int) ≠ 3; decide))
    have f3 : Sy.find s.T dirB.data.toList true = (dirB.data.toList, 0) := find_clean hR (by kernel_rfl) (fun e he => by rw [gN] at he; cases he) (.inl (by kernel_rfl))
    have ls : Tr.list s.T to.data.toList = ([[97], [98]], 0) := by
      unfold Tr.list
      rw [if_neg]
      · have : names s.T to.data.toList = [[97], [98]] := by
          rw [hT]
          unfold names mT
          rw [List.filter_cons, if_neg, List.filter_cons, if_pos, List.filter_cons, if_pos]
          · show [nameOf (mA to.data.toList).P, nameOf (mB to.data.toList t).P] = _
            show [nameOf (to.data.toList ++ [47, 97]), nameOf (to.data.toList ++ [47, 98])] = _
            rw [dA.2, dB.2]
          · show (dirOf (to.data.toList ++ [47, 98]) == to.data.toList) = true
            rw [dB.1]; exact beq_self_eq_true _
          · show (dirOf (to.data.toList ++ [47, 97]) == to.data.toList) = true
            rw [dA.1]; exact beq_self_eq_true _
          · show ¬ (dirOf to.data.toList == to.data.toList) = true
            rw [(named_clean hn).2, beq_iff_eq]
            exact fun e => hto e.symm
        rw [this]
      · have := dirErr_of hR.2.1 (d := to.data.toList) (.inr ⟨_, mem (mD to.data.toList) (by simp [mT]), rfl, rfl⟩)
        simp [this]
    show [(call s (atC 12 pb noE)).2, (call (call s (atC 12 pb noE)).1 (atC 11 to noE)).2, (call (call (call s (atC 12 pb noE)).1 (atC 11 to noE)).1 (atC 12 dirB noE)).2] = _
    rw [tell_stat f1 gB]
    dsimp only
    rw [tell_list f2 ls]
    dsimp only
    rw [tell_none f3 gN]
    rfl
  have lead : ∀ q, call (stR v to.data.toList (mT to.data.toList twoB) 0) (onC 4 0 0 text) = q → (calls (start bU) (movedC to pb text)).2 = .num 0 :: .ok :: q.2 :: (calls q.1 [atC 12 pb noE, atC 11 to noE, atC 12 dirB noE]).2 := by
    intro q hq
    show (call (start bU) (openA dirBB 7)).2 :: (call (call (start bU) (openA dirBB 7)).1 (atC 9 dirB to)).2 :: (call (call (call (start bU) (openA dirBB 7)).1 (atC 9 dirB to)).1 (onC 4 0 0 text)).2 :: (calls (call (call (call (start bU) (openA dirBB 7)).1 (atC 9 dirB to)).1 (onC 4 0 0 text)).1 [atC 12 pb noE, atC 11 to noE, atC 12 dirB noE]).2 = _
    rw [open_B7]
    dsimp only
    rw [hc]
    dsimp only
    rw [hq]
  have hcall : call (stR v to.data.toList (mT to.data.toList twoB) 0) (onC 4 0 0 text) = callWrite (stR v to.data.toList (mT to.data.toList twoB) 0) (onC 4 0 0 text) 0 := by
    rw [call_use (.inl ⟨by show (2 : Int) ≤ 4; decide, by show (4 : Int) ≤ 5; decide⟩) (by show (0 : Int) ≤ 0; decide) (by show (0 : Int) < 4; decide), use_write (d := 0) (by show (0 : Int) ≤ 0; decide) (by show (0 : Int) < 8; decide) rfl (.inl rfl)]
  have hR := ok_right hok
  have gB : Tr.get (mT to.data.toList twoB) (to.data.toList ++ [47, 98]) = some (mB to.data.toList twoB) := (get_iff hR.2.1 (by simp)).2 ⟨by show _ ∈ mT to.data.toList twoB; simp [mT], rfl⟩
  have htx : textOf (stR v to.data.toList (mT to.data.toList twoB) 0) 0 = twoB := by
    show (if to.data.toList ++ [47, 98] = [] then _ else match Tr.get (mT to.data.toList twoB) (to.data.toList ++ [47, 98]) with | some e => e.t | none => noE) = _
    rw [if_neg (by simp), gB]; rfl
  by_cases hx : text.data.toList = []
  · obtain ⟨k, hk⟩ := callWrite_none (s := stR v to.data.toList (mT to.data.toList twoB) 0) (c := onC 4 0 0 text) (d := 0) rfl (show bit 7 1 = true by decide) hx
    refine ⟨_, _, _, _, _, _, (lead _ (hcall.trans hk)).trans (by dsimp only; rw [ask (setDe (stR v to.data.toList (mT to.data.toList twoB) 0) 0 fun y => { y with at_ := k }) twoB (ok_of hok rfl rfl) rfl]), rfl, ?_, rfl, rfl⟩
    rw [hx, List.append_nil]
  · have ho : over twoB.data.toList twoB.data.toList.length text.data.toList = twoB.data.toList ++ text.data.toList := over_end _ _
    have h2 : twoB.data.toList.length = 3 := rfl
    have e := write_put (s := stR v to.data.toList (mT to.data.toList twoB) 0) (i := 0) (t := bytesOf (twoB.data.toList ++ text.data.toList)) hok (by rw [bytes_size, List.length_append]; omega) (by show to.data.toList ++ [47, 98] ≠ []; simp) (by
        rw [htx]
        show twoB.data.toList ++ text.data.toList ≠ twoB.data.toList
        intro e
        exact hx (List.append_cancel_left (e.trans (List.append_nil _).symm)))
        (by
          show putErr (mT to.data.toList twoB) (fileEn (to.data.toList ++ [47, 98]) _) = 0
          refine putErr_file ?_ cB (by rw [bytes_size, List.length_append]; omega) ?_ ?_
          · exact (wrong_zero _ _).2 ⟨by show 3 ≤ 80; decide, hR⟩
          · rw [dB.1]; exact dirErr_of hR.2.1 (.inr ⟨mD to.data.toList, by show _ ∈ mT to.data.toList twoB; simp [mT], rfl, rfl⟩)
          · unfold kindErr
            rw [fileEn_P, gB]; rfl) (by
        have h3 := setP_le v.U (fileEn (to.data.toList ++ [47, 98]) (bytesOf (twoB.data.toList ++ text.data.toList)))
        rw [fileEn_P, List.length_append] at h3
        have h4 : ([47, 98] : Bs).length = 2 := rfl
        show (setP v.U (fileEn (to.data.toList ++ [47, 98]) (bytesOf (twoB.data.toList ++ text.data.toList)))).length ≤ 80
        omega)
    have e' := (show write (stR v to.data.toList (mT to.data.toList twoB) 0) (deAt (stR v to.data.toList (mT to.data.toList twoB) 0) 0).o (bytesOf (over twoB.data.toList twoB.data.toList.length text.data.toList)) = write (stR v to.data.toList (mT to.data.toList twoB) 0) 0 (bytesOf (twoB.data.toList ++ text.data.toList)) by rw [ho]; rfl).trans e
    have hk := callWrite_at (s := stR v to.data.toList (mT to.data.toList twoB) 0) (c := onC 4 0 0 text) (d := 0) (a := twoB.data.toList.length) (t := twoB.data.toList) (x := text.data.toList) rfl (show bit 7 1 = true by decide) (by show (textOf (stR v to.data.toList (mT to.data.toList twoB) 0) 0).data.toList = _; rw [htx]) rfl hx (if_pos (show bit 7 2 = true by decide)) (by omega) (by rw [e'])
    rw [e'] at hk
    have hokw := write_good hok 0 (bytesOf (twoB.data.toList ++ text.data.toList))
    rw [e] at hokw
    have hins : ins (fileEn (to.data.toList ++ [47, 98]) (bytesOf (twoB.data.toList ++ text.data.toList))) (mT to.data.toList twoB) = mT to.data.toList (bytesOf (twoB.data.toList ++ text.data.toList)) := by
      show ins _ [mD to.data.toList, mA to.data.toList, mB to.data.toList twoB] = _
      unfold ins
      rw [if_pos (show cmp (mD to.data.toList).P (fileEn (to.data.toList ++ [47, 98]) (bytesOf (twoB.data.toList ++ text.data.toList))).P < 0 from mv_under hn [98])]
      unfold ins
      rw [if_pos (show cmp (mA to.data.toList).P (fileEn (to.data.toList ++ [47, 98]) (bytesOf (twoB.data.toList ++ text.data.toList))).P < 0 from mv_two hn)]
      unfold ins
      rw [if_neg (show ¬ cmp (mB to.data.toList twoB).P (fileEn (to.data.toList ++ [47, 98]) (bytesOf (twoB.data.toList ++ text.data.toList))).P < 0 from lt_irrefl _), if_pos (show (mB to.data.toList twoB).P = (fileEn (to.data.toList ++ [47, 98]) (bytesOf (twoB.data.toList ++ text.data.toList))).P from rfl)]
      rfl
    have ht' : twoB.data.toList ++ text.data.toList = (bytesOf (twoB.data.toList ++ text.data.toList)).data.toList := rfl
    refine ⟨_, _, _, _, _, _, (lead _ (hcall.trans hk)).trans (congrArg (fun z => An.num 0 :: An.ok :: An.num text.data.toList.length :: z) (ask (setDe { stR v to.data.toList (mT to.data.toList twoB) 0 with u := ⟨setP v.U (fileEn (to.data.toList ++ [47, 98]) (bytesOf (twoB.data.toList ++ text.data.toList))), v.L⟩, T := ins (fileEn (to.data.toList ++ [47, 98]) (bytesOf (twoB.data.toList ++ text.data.toList))) (mT to.data.toList twoB) } 0 fun y => { y with at_ := ((twoB.data.toList.length + text.data.toList.length : Nat) : Int) }) (bytesOf (twoB.data.toList ++ text.data.toList)) (ok_of hokw.1 rfl rfl) hins)), rfl, ?_, rfl, rfl⟩
    exact ht'.symm
end Sy
end Go.Proofs.YtjppfhgkanbemacGreatDoor
