/-
  What becomes of the whole's examples, in plain words: a directory made anew; two numbers; links. No program in sight.
-/
import Derived.Test.YtjppfhgkanbemacGreatDoorSyTop
namespace Go.Proofs.YtjppfhgkanbemacGreatDoor
namespace Sy
open Pt Tr

/-! ### Made anew -/
def anewL : List Ca := [atC 8 dirAB noE, atC 8 dirBB noE, atC 7 dirB noE, atC 6 dirB noE]
def aD : En := dirEn dirB.data.toList
def aU : Un := ⟨[⟨dirB, 2, noE, true⟩], [[tD, tA, tB]]⟩
def stN : St := ⟨aU, [aD], [], [], [], List.replicate 4 (List.replicate 8 none)⟩
theorem anew_first : calls (start bU) anewL = (stN, [.ok, .ok, .ok, .ok]) := by kernel_rfl
theorem stN_ok : Ok stN := by
  have := (calls_ok (l := anewL) (start_ok (u := bU) (by rw [bU_wrong]))).1
  rw [anew_first] at this; exact this
theorem split_in {d n : Bs} (hn : ∀ c ∈ n, c ≠ 47) : split (d ++ 47 :: n) = split d ++ [n] := by rw [split_app, split_one hn]
theorem named_slash {n : Bs} (h : named n = true) : ∀ c ∈ n, c ≠ 47 := fun c hc e => by
  have := (named_letters h).2 c hc
  rw [e] at this; cases this
theorem dir_in {d n : Bs} (hn : ∀ c ∈ n, c ≠ 47) : dirOf (d ++ 47 :: n) = d ∧ nameOf (d ++ 47 :: n) = n := by
  unfold dirOf nameOf
  rw [split_in hn]
  exact ⟨by rw [List.dropLast_concat, glue_split], by rw [List.getLastD_eq_getLast?, List.getLast?_concat]; rfl⟩
theorem clean_in {d n : Bs} (hd : clean d = true) (hn : named n = true) (hl : d.length + n.length + 1 ≤ 80) : clean (d ++ 47 :: n) = true := by
  unfold clean
  rw [split_in (named_slash hn), Bool.and_eq_true, decide_eq_true_eq, List.all_eq_true]
  refine ⟨by rw [List.length_append, List.length_cons]; omega, fun q hq => ?_⟩
  rcases List.mem_append.1 hq with h | h
  · exact clean_names hd q h
  · rw [List.mem_singleton.1 h]; exact hn
theorem named_len {n : Bs} (h : named n = true) : n.length ≤ 12 := by
  unfold named at h
  rw [Bool.and_eq_true, Bool.and_eq_true, decide_eq_true_eq, decide_eq_true_eq] at h
  exact h.1.2
theorem named_clean {n : Bs} (h : named n = true) : clean n = true ∧ dirOf n = [] := by
  have hs := split_one (named_slash h)
  have := named_len h
  unfold clean dirOf
  rw [hs]
  refine ⟨?_, rfl⟩
  rw [Bool.and_eq_true, decide_eq_true_eq]
  exact ⟨by omega, by simp [h]⟩
theorem opened_new {s : St} {p : Bs} (h : s.files = []) : opened s p = ({ s with obs := s.obs ++ [⟨bytesOf p, noE, []⟩], files := [s.obs.length] }, s.obs.length) := by
  unfold opened; rw [h]; rfl
theorem tell_list {s : St} {p : ByteArray} {names : List Bs} (hf : Sy.find s.T p.data.toList true = (p.data.toList, 0)) (hl : Tr.list s.T p.data.toList = (names, 0)) : call s (atC 11 p noE) = (s, ⟨0, 0, noE, names⟩) := by
  rw [call_tell (.inl rfl) (by show (0 : Int) ≤ 0; decide) (by show (0 : Int) < 4; decide)]
  have : tell s (atC 11 p noE) = ⟨0, 0, noE, names⟩ := by
    unfold tell
    have hf' : Sy.find s.T (atC 11 p noE).path.data.toList true = (p.data.toList, 0) := hf
    rw [hf']
    dsimp only
    rw [if_neg (by simp), if_pos (show (atC 11 p noE).kind = 11 from rfl), hl]
  rw [this]
theorem tell_stat {s : St} {p : ByteArray} {e : En} (hf : Sy.find s.T p.data.toList true = (p.data.toList, 0)) (hg : Tr.get s.T p.data.toList = some e) : call s (atC 12 p noE) = (s, ⟨0, e.k, e.t, []⟩) := by
  rw [call_tell (.inr rfl) (by show (0 : Int) ≤ 0; decide) (by show (0 : Int) < 4; decide)]
  have : tell s (atC 12 p noE) = ⟨0, e.k, e.t, []⟩ := by
    unfold tell
    have hf' : Sy.find s.T (atC 12 p noE).path.data.toList true = (p.data.toList, 0) := hf
    rw [hf']
    dsimp only
    rw [if_neg (by simp), if_neg (show ¬ (atC 12 p noE).kind = 11 from show ¬ (12 : Int) = 11 by decide), hg]
  rw [this]
theorem tell_none {s : St} {p : ByteArray} (hf : Sy.find s.T p.data.toList true = (p.data.toList, 0)) (hg : Tr.get s.T p.data.toList = none) : call s (atC 12 p noE) = (s, .no 6) := by
  rw [call_tell (.inr rfl) (by show (0 : Int) ≤ 0; decide) (by show (0 : Int) < 4; decide)]
  have : tell s (atC 12 p noE) = .no 6 := by
    unfold tell
    have hf' : Sy.find s.T (atC 12 p noE).path.data.toList true = (p.data.toList, 0) := hf
    rw [hf']
    dsimp only
    rw [if_neg (by simp), if_neg (show ¬ (atC 12 p noE).kind = 11 from show ¬ (12 : Int) = 11 by decide), hg]
  rw [this]
theorem ok_right {s : St} (h : Ok s) : Right false s.T := by
  have a := (fine_parts h.1).2.2.2.2.1
  have b := (fine_parts h.1).2.2.2.2.2.2.2
  rw [h.2] at a
  have a2 : s.T = overL s.u.U (belowU s.u) := congrArg Prod.fst a
  rw [a2]; exact b
theorem anew {name p : ByteArray} (hn : named name.data.toList = true) (hp : p.data.toList = dirB.data.toList ++ 47 :: name.data.toList) :
    ∃ s a4, calls (start bU) (anewL ++ [openA p 26, atC 11 dirB noE]) = (s, [.ok, .ok, .ok, .ok, a4, ⟨0, 0, noE, [name.data.toList]⟩]) ∧ a4.err = 0 ∧ s.T.length = 2 := by
  have hl := named_len hn
  have hsl := named_slash hn
  have hc : clean p.data.toList = true := by
    rw [hp]; exact clean_in (by kernel_rfl) hn (by show 3 + _ + 1 ≤ 80; omega)
  obtain ⟨hd, hnm⟩ := dir_in (d := dirB.data.toList) hsl
  rw [← hp] at hd hnm
  have hT := ok_right stN_ok
  have hp0 := clean_ne hc
  have hdl := dir_lt (l := p.data.toList) (by rw [hd]; decide)
  rw [hd] at hdl
  have hno : ∀ y ∈ stN.T, y.P ≠ p.data.toList := by
    intro y hy
    rw [List.mem_singleton.1 (show y ∈ [aD] from hy)]
    intro e
    have h1 : dirB.data.toList = p.data.toList := e
    rw [← h1] at hdl
    exact lt_irrefl _ hdl
  have hg : Tr.get stN.T p.data.toList = none := (get_none hp0).2 hno
  have hf : Sy.find stN.T p.data.toList false = (p.data.toList, 0) := find_clean hT hc (fun e he => by rw [hg] at he; cases he) (.inr ⟨aD, List.mem_singleton.2 rfl, hd.symm, rfl⟩)
  have hpe : putErr stN.T (fileEn p.data.toList noE) = 0 := putErr_file (by kernel_rfl) hc (by decide) (by rw [hd]; kernel_rfl) (by
    unfold kindErr
    rw [fileEn_P, hg]
    dsimp only
    exact if_neg (show ¬ 1 = 80 by decide))
  have hroom : (setP stN.u.U (fileEn p.data.toList noE)).length ≤ 80 := by
    have h1 := setP_le stN.u.U (fileEn p.data.toList noE)
    rw [fileEn_P] at h1
    have h2 : stN.u.U.length = 1 := rfl
    have h3 : p.data.toList.length = 3 + (name.data.toList.length + 1) := by rw [hp, List.length_append]; rfl
    omega
  have hset := set_put stN_ok hpe hroom
  have hT2 : ins (fileEn p.data.toList noE) stN.T = [aD, fileEn p.data.toList noE] := by
    show ins (fileEn p.data.toList noE) [aD] = _
    unfold ins
    rw [if_pos (show cmp aD.P (fileEn p.data.toList noE).P < 0 from hdl)]; rfl
  rw [hT2] at hset
  have hos : openSet stN 26 p.data.toList = ({ stN with u := ⟨setP stN.u.U (fileEn p.data.toList noE), stN.u.L⟩, T := [aD, fileEn p.data.toList noE] }, 0) := by
    unfold openSet
    rw [hg]
    dsimp only
    rw [if_neg (show ¬ bit 26 3 = false by decide)]
    exact hset
  have e5 : ∃ s, call stN (openA p 26) = (s, .num 0) ∧ Ok s ∧ s.T = [aD, fileEn p.data.toList noE] := by
    have hok := (call_good stN_ok (openA p 26)).1
    have e : call stN (openA p 26) = ((call stN (openA p 26)).1, .num 0) ∧ (call stN (openA p 26)).1.T = [aD, fileEn p.data.toList noE] := by
      rw [call_open rfl (by show (0 : Int) ≤ 0; decide) (by show (0 : Int) < 4; decide)]
      unfold callOpen
      rw [if_neg (show ¬ badFlags (openA p 26).n = true from show ¬ badFlags 26 = true by decide)]
      have hfree : free stN (openA p 26).owner.toNat = some 0 := rfl
      rw [hfree]
      dsimp only
      have hb : (!bit (openA p 26).n 4) = false := show (!bit 26 4) = false by decide
      have hf' : Sy.find stN.T (openA p 26).path.data.toList false = (p.data.toList, 0) := hf
      have hos' : openSet stN (openA p 26).n p.data.toList = _ := hos
      rw [hb, hf', if_neg (by simp)]
      dsimp only
      rw [hos', if_neg (by simp), opened_new rfl]
      exact ⟨rfl, rfl⟩
    exact ⟨_, e.1, hok, e.2⟩
  obtain ⟨s, c1, c2, c3⟩ := e5
  have hT3 := ok_right c2
  have hgd : Tr.get s.T dirB.data.toList = some aD := by rw [c3]; rfl
  have hfd := find_there (b := true) hT3 (by decide) hgd (.inl (by decide))
  have hls : Tr.list s.T dirB.data.toList = ([name.data.toList], 0) := by
    unfold Tr.list
    rw [if_neg, c3]
    · have : Tr.names [aD, fileEn p.data.toList noE] dirB.data.toList = [name.data.toList] := by
        unfold Tr.names
        rw [List.filter_cons, if_neg (show ¬ (dirOf aD.P == dirB.data.toList) = true by rw [show (dirOf aD.P == dirB.data.toList) = false by kernel_rfl]; decide), List.filter_cons, if_pos (show (dirOf (fileEn p.data.toList noE).P == dirB.data.toList) = true by rw [fileEn_P, hd]; exact beq_self_eq_true _)]
        show [nameOf (fileEn p.data.toList noE).P] = _
        rw [fileEn_P, hnm]
      rw [this]
    · have := dirErr_of hT3.2.1 (d := dirB.data.toList) (.inr ⟨aD, by rw [c3]; simp, rfl, rfl⟩)
      simp [this]
  refine ⟨s, .num 0, ?_, rfl, by rw [c3]; rfl⟩
  rw [calls_app, anew_first]
  show ((call (call stN (openA p 26)).1 (atC 11 dirB noE)).1, [.ok, .ok, .ok, .ok] ++ [(call stN (openA p 26)).2, (call (call stN (openA p 26)).1 (atC 11 dirB noE)).2]) = _
  rw [c1]
  dsimp only
  rw [tell_list hfd hls]
  rfl

/-! ### Two numbers -/
def dupL (n m : Int) : List Ca := [openA dirAB 1, onC 13 0 0 noE, openA dirAB 1, onC 3 0 n noE, onC 3 1 m noE, onC 3 2 m noE]
def stD (a b : Int) : St := ⟨bU, [tD, tA, tB], [⟨dirAB, noE, []⟩], [0], [⟨0, 1, a, 2⟩, ⟨0, 1, b, 1⟩], [some 0 :: some 0 :: some 1 :: List.replicate 5 none, List.replicate 8 none, List.replicate 8 none, List.replicate 8 none]⟩
theorem dup_first : calls (start bU) [openA dirAB 1, onC 13 0 0 noE, openA dirAB 1] = (stD 0 0, [.num 0, .num 1, .num 2]) := by kernel_rfl
theorem dup_read (a b : Int) (fd : Int) (d : Nat) (k n : Int) (hf : fd = 0 ∨ fd = 1 ∨ fd = 2) (hd : fdAt (stD a b) 0 fd.toNat = some d) (hk : (deAt (stD a b) d).at_ = k) (hfl : (deAt (stD a b) d).fl = 1) (ho : (deAt (stD a b) d).o = 0) (h0 : 0 ≤ n) (h1 : n ≤ 10) :
    call (stD a b) (onC 3 fd n noE) = (setDe (stD a b) d fun x => { x with at_ := x.at_ + ((([111, 110, 101] : Bs).drop k.toNat).take n.toNat).length }, ⟨0, ((([111, 110, 101] : Bs).drop k.toNat).take n.toNat).length, bytesOf ((([111, 110, 101] : Bs).drop k.toNat).take n.toNat), []⟩) := by
  rw [call_use (.inl ⟨by show (2 : Int) ≤ 3; decide, by show (3 : Int) ≤ 5; decide⟩) (by show (0 : Int) ≤ 0; decide) (by show (0 : Int) < 4; decide), use_read (d := d) (by show (0 : Int) ≤ fd; omega) (by show fd < 8; omega) hd rfl,
    callRead_ok (t := [111, 110, 101]) (by rw [hfl]; decide) h0 (by show n ≤ 1000; omega) (by rw [ho]; kernel_rfl), hk]
  rfl
def oneL : Bs := [111, 110, 101]
theorem dup_texts : ∀ n m : Nat, n ≤ 10 → m ≤ 10 → (oneL.drop 0).take n ++ ((oneL.drop ((oneL.drop 0).take n).length).take m) = oneL.take (min (min n 3 + m) 3) := by
  intro n m hn hm
  have key : ∀ a : Fin 11, ∀ b : Fin 11, (oneL.drop 0).take a.val ++ ((oneL.drop ((oneL.drop 0).take a.val).length).take b.val) = oneL.take (min (min a.val 3 + b.val) 3) := by decide
  exact key ⟨n, by omega⟩ ⟨m, by omega⟩
theorem dup (n m : Nat) (hn : n ≤ 10) (hm : m ≤ 10) : ∃ a0 a1 a2 a3 a4 a5, (calls (start bU) (dupL n m)).2 = [a0, a1, a2, a3, a4, a5] ∧ a1.n = 1 ∧ a2.n = 2 ∧ a3.text.data.toList ++ a4.text.data.toList = oneL.take (min (min n 3 + m) 3) ∧ a5.text.data.toList = oneL.take (min m 3) := by
  have e1 := dup_read 0 0 0 0 0 n (.inl rfl) rfl rfl rfl rfl (by omega) (by omega)
  have f1 : setDe (stD 0 0) 0 (fun x => { x with at_ := x.at_ + ((oneL.drop (0 : Int).toNat).take (n : Int).toNat).length }) = stD (((oneL.drop 0).take n).length : Nat) 0 := by
    show stD (0 + (((oneL.drop 0).take n).length : Nat)) 0 = _
    rw [Int.zero_add]
  have e2 := dup_read (((oneL.drop 0).take n).length : Nat) 0 1 0 _ m (.inr (.inl rfl)) rfl rfl rfl rfl (by omega) (by omega)
  have f2 : ∃ k, setDe (stD (((oneL.drop 0).take n).length : Nat) 0) 0 (fun x => { x with at_ := x.at_ + ((oneL.drop (deAt (stD (((oneL.drop 0).take n).length : Nat) 0) 0).at_.toNat).take (m : Int).toNat).length }) = stD k 0 := ⟨_, rfl⟩
  obtain ⟨k, f2⟩ := f2
  have e3 := dup_read k 0 2 1 0 m (.inr (.inr rfl)) rfl rfl rfl rfl (by omega) (by omega)
  have hc : (calls (start bU) (dupL n m)).2 = [.num 0, .num 1, .num 2, (call (stD 0 0) (onC 3 0 n noE)).2, (call (call (stD 0 0) (onC 3 0 n noE)).1 (onC 3 1 m noE)).2, (call (call (call (stD 0 0) (onC 3 0 n noE)).1 (onC 3 1 m noE)).1 (onC 3 2 m noE)).2] := by
    show (calls (start bU) ([openA dirAB 1, onC 13 0 0 noE, openA dirAB 1] ++ [onC 3 0 n noE, onC 3 1 m noE, onC 3 2 m noE])).2 = _
    rw [calls_app, dup_first]; rfl
  refine ⟨_, _, _, _, _, _, hc, rfl, rfl, ?_, ?_⟩
  · rw [e1]
    dsimp only
    have f1' := f1
    unfold oneL at f1'
    rw [f1']
    have e2' := e2
    unfold oneL at e2'
    rw [e2']
    exact dup_texts n m hn hm
  · rw [e1]
    dsimp only
    have f1' := f1
    unfold oneL at f1'
    rw [f1']
    have e2' := e2
    unfold oneL at e2'
    rw [e2']
    dsimp only
    have f2' := f2
    unfold oneL at f2'
    rw [f2', e3]
    show ([111, 110, 101] : Bs).take m = oneL.take (min m 3)
    by_cases h : m ≤ 3
    · rw [Nat.min_eq_left h]; rfl
    · rw [Nat.min_eq_right (by omega), List.take_of_length_le (by show 3 ≤ m; omega)]; rfl

/-! ### Links -/
def linkB (k : Nat) : ByteArray := ⟨#[108, UInt8.ofNat (97 + k)]⟩
def linkTo (k : Nat) : ByteArray := ⟨#[47, 108, UInt8.ofNat (97 + k)]⟩
def farB : ByteArray := ⟨#[100, 105, 114, 47, 46, 46, 47, 100, 105, 114, 47, 46, 47, 97]⟩
def selfB : ByteArray := ⟨#[115, 101, 108, 102]⟩
def linksL (n : Nat) : List Ca := atC 10 (linkB 0) farB :: ((List.range (n - 1)).map fun k => atC 10 (linkB (k + 1)) (linkTo k)) ++ [atC 12 (linkB (n - 1)) noE, atC 10 selfB selfB, atC 12 selfB noE]
def linksA (n : Nat) : List An := List.replicate n .ok ++ [if 8 < n then .no 12 else ⟨0, 1, oneB, []⟩, .ok, .no 12]
def tellA (l : List An) : List (Int × Int × Bs × List Bs) := l.map fun a => (a.err, a.n, a.text.data.toList, a.names)
theorem links_1 : tellA (calls (start bU) (linksL 1)).2 = tellA (linksA 1) := by kernel_rfl
theorem links_2 : tellA (calls (start bU) (linksL 2)).2 = tellA (linksA 2) := by kernel_rfl
theorem links_3 : tellA (calls (start bU) (linksL 3)).2 = tellA (linksA 3) := by kernel_rfl
theorem links_4 : tellA (calls (start bU) (linksL 4)).2 = tellA (linksA 4) := by kernel_rfl
theorem links_5 : tellA (calls (start bU) (linksL 5)).2 = tellA (linksA 5) := by kernel_rfl
theorem links_6 : tellA (calls (start bU) (linksL 6)).2 = tellA (linksA 6) := by kernel_rfl
theorem links_7 : tellA (calls (start bU) (linksL 7)).2 = tellA (linksA 7) := by kernel_rfl
theorem links_8 : tellA (calls (start bU) (linksL 8)).2 = tellA (linksA 8) := by kernel_rfl
theorem links_9 : tellA (calls (start bU) (linksL 9)).2 = tellA (linksA 9) := by kernel_rfl
theorem links_10 : tellA (calls (start bU) (linksL 10)).2 = tellA (linksA 10) := by kernel_rfl
theorem links_11 : tellA (calls (start bU) (linksL 11)).2 = tellA (linksA 11) := by kernel_rfl
theorem links_12 : tellA (calls (start bU) (linksL 12)).2 = tellA (linksA 12) := by kernel_rfl
theorem links_small (n : Nat) (h1 : 1 ≤ n) (h2 : n ≤ 12) : tellA (calls (start bU) (linksL n)).2 = tellA (linksA n) := by
  match n, h1, h2 with
  | 1, _, _ => exact links_1
  | 2, _, _ => exact links_2
  | 3, _, _ => exact links_3
  | 4, _, _ => exact links_4
  | 5, _, _ => exact links_5
  | 6, _, _ => exact links_6
  | 7, _, _ => exact links_7
  | 8, _, _ => exact links_8
  | 9, _, _ => exact links_9
  | 10, _, _ => exact links_10
  | 11, _, _ => exact links_11
  | 12, _, _ => exact links_12
end Sy
end Go.Proofs.YtjppfhgkanbemacGreatDoor
