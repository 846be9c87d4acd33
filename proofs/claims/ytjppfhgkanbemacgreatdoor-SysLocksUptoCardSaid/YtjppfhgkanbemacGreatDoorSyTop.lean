/-
  What becomes of the whole's examples, in plain words. No program in sight.
-/
import Derived.Test.YtjppfhgkanbemacGreatDoorSA
import Derived.KernelRfl
namespace Go.Proofs.YtjppfhgkanbemacGreatDoor
namespace Sy
open Pt Tr

def dirB : ByteArray := ⟨#[100, 105, 114]⟩
def dirAB : ByteArray := ⟨#[100, 105, 114, 47, 97]⟩
def dirBB : ByteArray := ⟨#[100, 105, 114, 47, 98]⟩
def oneB : ByteArray := ⟨#[111, 110, 101]⟩
def twoB : ByteArray := ⟨#[116, 119, 111]⟩
def tD : En := ⟨dirB, 2, noE, false⟩
def tA : En := ⟨dirAB, 1, oneB, false⟩
def tB : En := ⟨dirBB, 1, twoB, false⟩
def bU : Un := ⟨[], [[tD, tA, tB]]⟩
def openA (p : ByteArray) (n : Int) : Ca := ⟨1, 0, 0, n, 0, p, noE, noE, false⟩
def onC (kind fd n : Int) (text : ByteArray) : Ca := ⟨kind, 0, fd, n, 0, noE, noE, text, false⟩
def atC (kind : Int) (p to : ByteArray) : Ca := ⟨kind, 0, 0, 0, 0, p, to, noE, false⟩
theorem bU_wrong : wrongU bU = (0, 0) := by kernel_rfl
theorem bU_seen : seenU bU = ([tD, tA, tB], 0) := by kernel_rfl
theorem bU_fine : Fine bU := (fine_iff bU).1 (by rw [bU_wrong])
def fds1 (x : Option Nat) : List (List (Option Nat)) := [x :: List.replicate 7 none, List.replicate 8 none, List.replicate 8 none, List.replicate 8 none]
def stA (fl at_ : Int) : St := ⟨bU, [tD, tA, tB], [⟨dirAB, noE, []⟩], [0], [⟨0, fl, at_, 1⟩], fds1 (some 0)⟩
theorem open_A3 : call (start bU) (openA dirAB 3) = (stA 3 0, .num 0) := by kernel_rfl
theorem read_A (n : Int) (h0 : 0 ≤ n) (h1 : n ≤ 100) : call (stA 3 0) (onC 3 0 n noE) = (stA 3 ((List.take n.toNat [111, 110, 101] : Bs).length : Int), ⟨0, ((List.take n.toNat [111, 110, 101] : Bs).length : Int), bytesOf ((List.take n.toNat [111, 110, 101] : Bs)), []⟩) := by
  rw [call_use (.inl ⟨by show (2 : Int) ≤ 3; decide, by show (3 : Int) ≤ 5; decide⟩) (by show (0 : Int) ≤ 0; decide) (by show (0 : Int) < 4; decide), use_read (d := 0) (by show (0 : Int) ≤ 0; decide) (by show (0 : Int) < 8; decide) rfl rfl]
  have ht : (textOf (stA 3 0) (deAt (stA 3 0) 0).o).data.toList = [111, 110, 101] := by kernel_rfl
  rw [callRead_ok (t := [111, 110, 101]) (by kernel_rfl) h0 (by show n ≤ 1000; omega) ht]
  show (stA 3 (0 + ((List.take n.toNat [111, 110, 101] : Bs).length : Int)), _) = _
  rw [Int.zero_add]
  rfl
theorem list_A (k : Int) : call (stA 3 k) (atC 11 dirB noE) = (stA 3 k, ⟨0, 0, noE, [[97], [98]]⟩) := by kernel_rfl
theorem stat_B (k : Int) : call (stA 3 k) (atC 12 dirBB noE) = (stA 3 k, ⟨0, 1, twoB, []⟩) := by kernel_rfl
theorem seek_A (k : Int) : call (stA 3 k) (onC 5 0 0 noE) = (stA 3 0, .ok) := by kernel_rfl
theorem fileEn_P (p : Bs) (t : ByteArray) : (fileEn p t).P = p := rfl
theorem file_entry {p : Bs} {t : ByteArray} (hc : clean p = true) (ht : t.size ≤ 100) : entry (fileEn p t) false = 0 :=
  (entry_zero _ _).2 ⟨rfl, hc, ht, by show ((t.size != 0 && (1 : Int) != 1 && (1 : Int) != 3) || ((1 : Int) == 3 && t.size == 0) || (false && _)) = false; simp⟩
theorem putErr_file {T : List En} {p : Bs} {t : ByteArray} (hw : (wrong T false).1 = 0) (hc : clean p = true) (ht : t.size ≤ 100) (hd : dirErr T (dirOf p) = 0) (hk : kindErr T (fileEn p t) = 0) : putErr T (fileEn p t) = 0 := by
  unfold putErr
  rw [fileEn_P, if_neg (by simp [hw]), if_neg (by simp [file_entry hc ht]), if_neg (by simp [hd])]
  exact hk
theorem bytes_size {l : Bs} : (bytesOf l).size = l.length := rfl
/-- A put for which there is room. -/
theorem set_put {s : St} (h : Ok s) {e : En} (hp : putErr s.T e = 0) (hr : (setP s.u.U e).length ≤ 80) : set s (putU s.u e) = ({ s with u := ⟨setP s.u.U e, s.u.L⟩, T := ins e s.T }, 0) := by
  have hput : put s.T e = (ins e s.T, 0) := by unfold put; rw [if_neg (by simp [hp])]
  have hu : putU s.u e = (⟨setP s.u.U e, s.u.L⟩, 0) := by
    unfold putU
    rw [h.2]
    dsimp only
    rw [if_neg (by simp), hput, if_neg (by simp)]
    unfold fin
    rw [if_neg (by omega)]
  have a := putU_tree h.1 e
  rw [h.T] at a
  have := ((set_good h a).2.2 (by rw [hu])).1
  rw [this, hu, hput]
theorem write_put {s : St} {i : Nat} {t : ByteArray} (h : Ok s) (ht : t.size ≤ 100) (hP : (obAt s i).P ≠ []) (hne : t.data.toList ≠ (textOf s i).data.toList) (hp : putErr s.T (fileEn (obAt s i).P t) = 0) (hr : (setP s.u.U (fileEn (obAt s i).P t)).length ≤ 80) :
    write s i t = ({ s with u := ⟨setP s.u.U (fileEn (obAt s i).P t), s.u.L⟩, T := ins (fileEn (obAt s i).P t) s.T }, 0) := by
  unfold write
  rw [if_neg (by omega), if_neg hP, if_neg hne]
  exact set_put h hp hr
theorem stA_ok (fl k : Int) : Ok (stA fl k) := ⟨bU_fine, bU_seen⟩
def copyL (n : Int) : List Ca := [openA dirAB 3, onC 3 0 n noE, atC 11 dirB noE, atC 12 dirBB noE, onC 5 0 0 noE]
theorem copy_first (n : Int) (h0 : 0 ≤ n) (h1 : n ≤ 100) : ∃ as, as.length = 5 ∧ calls (start bU) (copyL n) = (stA 3 0, as) := by
  refine ⟨_, calls_len (copyL n) (start bU), ?_⟩
  have h : (calls (start bU) (copyL n)).1 = stA 3 0 := by
    show (call (call (call (call (call (start bU) (openA dirAB 3)).1 (onC 3 0 n noE)).1 (atC 11 dirB noE)).1 (atC 12 dirBB noE)).1 (onC 5 0 0 noE)).1 = _
    rw [open_A3]
    dsimp only
    rw [read_A n h0 h1]
    dsimp only
    rw [list_A]
    dsimp only
    rw [stat_B]
    dsimp only
    rw [seek_A]
  rw [← h]
def wantB (x : Bs) : Bs := x ++ ([111, 110, 101] : Bs).drop x.length
theorem copy_write (text : ByteArray) (ht : text.size ≤ 90) : ∃ s a, call (stA 3 0) (onC 4 0 0 text) = (s, a) ∧ a.err = 0 ∧ a.n = text.size ∧ (wantB text.data.toList = [111, 110, 101] → s.u.U = []) ∧ (wantB text.data.toList ≠ [111, 110, 101] → s.u.U = [dirEn dirB.data.toList, fileEn dirAB.data.toList (bytesOf (wantB text.data.toList))]) := by
  have hlen : text.data.toList.length = text.size := by simp
  rw [call_use (.inl ⟨by show (2 : Int) ≤ 4; decide, by show (4 : Int) ≤ 5; decide⟩) (by show (0 : Int) ≤ 0; decide) (by show (0 : Int) < 4; decide), use_write (d := 0) (by show (0 : Int) ≤ 0; decide) (by show (0 : Int) < 8; decide) rfl (.inl rfl)]
  by_cases hx : text.data.toList = []
  · obtain ⟨k, hk⟩ := callWrite_none (s := stA 3 0) (c := onC 4 0 0 text) (d := 0) rfl (by kernel_rfl) hx
    rw [hk]
    refine ⟨_, _, rfl, rfl, ?_, fun _ => rfl, fun h => absurd (by rw [hx]; rfl) h⟩
    rw [← hlen, hx]; rfl
  · have htx : (textOf (stA 3 0) (deAt (stA 3 0) 0).o).data.toList = [111, 110, 101] := by kernel_rfl
    have ho : over [111, 110, 101] 0 text.data.toList = wantB text.data.toList := over_zero _ _
    have hwl : (wantB text.data.toList).length ≤ 100 := by
      unfold wantB
      rw [List.length_append, List.length_drop]
      have : ([111, 110, 101] : Bs).length = 3 := rfl
      omega
    by_cases hw : wantB text.data.toList = [111, 110, 101]
    · have e : write (stA 3 0) (deAt (stA 3 0) 0).o (bytesOf (over [111, 110, 101] 0 text.data.toList)) = (stA 3 0, 0) := by
        rw [ho, hw]; kernel_rfl
      rw [callWrite_at (a := 0) (x := text.data.toList) rfl (by kernel_rfl) htx rfl hx rfl (by omega) (by rw [e]), e]
      exact ⟨_, _, rfl, rfl, by rw [← hlen]; rfl, fun _ => rfl, fun h => absurd hw h⟩
    · have e := write_put (s := stA 3 0) (i := 0) (t := bytesOf (wantB text.data.toList)) (stA_ok 3 0) (by rw [bytes_size]; exact hwl) (by decide) (by
        show wantB text.data.toList ≠ _
        rw [show textOf (stA 3 0) 0 = oneB by kernel_rfl]; exact hw)
        (putErr_file (by kernel_rfl) (by kernel_rfl) (by rw [bytes_size]; exact hwl) (by kernel_rfl) (by kernel_rfl)) (by
        have : (setP (stA 3 0).u.U (fileEn (obAt (stA 3 0) 0).P (bytesOf (wantB text.data.toList)))).length = 2 := by kernel_rfl
        omega)
      have e' := (show write (stA 3 0) (deAt (stA 3 0) 0).o (bytesOf (over [111, 110, 101] 0 text.data.toList)) = write (stA 3 0) 0 (bytesOf (wantB text.data.toList)) by rw [ho]; rfl).trans e
      rw [callWrite_at (a := 0) (x := text.data.toList) rfl (by kernel_rfl) htx rfl hx rfl (by omega) (by rw [e']), e']
      refine ⟨_, _, rfl, rfl, by rw [← hlen]; rfl, fun h => absurd h hw, fun _ => ?_⟩
      show setP [] (fileEn dirAB.data.toList (bytesOf (wantB text.data.toList))) = _
      kernel_rfl
/-! ### Who read before -/
def stF (u : Un) (T : List En) (d0 d1 : Int) : St := ⟨u, T, [⟨dirAB, noE, []⟩], [0], [⟨0, 1, d0, 1⟩, ⟨0, 34, d1, 1⟩], [some 0 :: some 1 :: List.replicate 6 none, List.replicate 8 none, List.replicate 8 none, List.replicate 8 none]⟩
def fU : Un := ⟨[dirEn dirB.data.toList, fileEn dirAB.data.toList noE], [[tD, tA, tB]]⟩
def fT (t : ByteArray) : List En := [tD, fileEn dirAB.data.toList t, tB]
theorem open_A1 : call (start bU) (openA dirAB 1) = (stA 1 0, .num 0) := by kernel_rfl
theorem open_A34 : call (stA 1 0) (openA dirAB 34) = (stF fU (fT noE) 0 0, .num 1) := by kernel_rfl
theorem fU_seen : seenU fU = (fT noE, 0) := by kernel_rfl
theorem stF_ok (a b : Int) : Ok (stF fU (fT noE) a b) := ⟨(seenU_zero (u := fU)).1 (by rw [fU_seen]), fU_seen⟩
theorem follows (text : ByteArray) (ht : text.size ≤ 90) : ∃ a0 a1 a2 a3, (calls (start bU) [openA dirAB 1, openA dirAB 34, onC 4 1 0 text, onC 3 0 100 noE]).2 = [a0, a1, a2, a3] ∧ a3.err = 0 ∧ a3.text = text := by
  have hlen : text.data.toList.length = text.size := by simp
  have lead : ∀ q, call (stF fU (fT noE) 0 0) (onC 4 1 0 text) = q → (calls (start bU) [openA dirAB 1, openA dirAB 34, onC 4 1 0 text, onC 3 0 100 noE]).2 = [.num 0, .num 1, q.2, (call q.1 (onC 3 0 100 noE)).2] := by
    intro q hq
    show (call (start bU) (openA dirAB 1)).2 :: (call (call (start bU) (openA dirAB 1)).1 (openA dirAB 34)).2 :: (call (call (call (start bU) (openA dirAB 1)).1 (openA dirAB 34)).1 (onC 4 1 0 text)).2 :: (call (call (call (call (start bU) (openA dirAB 1)).1 (openA dirAB 34)).1 (onC 4 1 0 text)).1 (onC 3 0 100 noE)).2 :: [] = _
    rw [open_A1]
    dsimp only
    rw [open_A34]
    dsimp only
    rw [hq]
  have rd : ∀ (s : St) (t : Bs), fdAt s 0 0 = some 0 → deAt s 0 = ⟨0, 1, 0, 1⟩ → (textOf s 0).data.toList = t → t.length ≤ 100 → (call s (onC 3 0 100 noE)).2 = ⟨0, t.length, bytesOf t, []⟩ := by
    intro s t h1 h2 h3 h4
    rw [call_use (.inl ⟨by show (2 : Int) ≤ 3; decide, by show (3 : Int) ≤ 5; decide⟩) (by show (0 : Int) ≤ 0; decide) (by show (0 : Int) < 4; decide), use_read (d := 0) (by show (0 : Int) ≤ 0; decide) (by show (0 : Int) < 8; decide) h1 rfl, callRead_ok (t := t) (by rw [h2]; decide) (by show (0 : Int) ≤ 100; decide) (by show (100 : Int) ≤ 1000; decide) (by rw [h2]; exact h3), h2]
    show An.mk 0 (((t.drop 0).take 100).length : Nat) (bytesOf ((t.drop 0).take 100)) [] = _
    rw [List.drop_zero, List.take_of_length_le h4]
  have hcall : call (stF fU (fT noE) 0 0) (onC 4 1 0 text) = callWrite (stF fU (fT noE) 0 0) (onC 4 1 0 text) 1 := by
    rw [call_use (.inl ⟨by show (2 : Int) ≤ 4; decide, by show (4 : Int) ≤ 5; decide⟩) (by show (0 : Int) ≤ 0; decide) (by show (0 : Int) < 4; decide), use_write (d := 1) (by show (0 : Int) ≤ 1; decide) (by show (1 : Int) < 8; decide) rfl (.inl rfl)]
  by_cases hx : text.data.toList = []
  · obtain ⟨k, hk⟩ := callWrite_none (s := stF fU (fT noE) 0 0) (c := onC 4 1 0 text) (d := 1) rfl (by kernel_rfl) hx
    refine ⟨_, _, _, _, lead _ (hcall.trans hk), ?_⟩
    rw [rd (setDe (stF fU (fT noE) 0 0) 1 fun y => { y with at_ := k }) [] rfl rfl (by
      show (textOf (stF fU (fT noE) 0 0) 0).data.toList = []
      kernel_rfl) (by decide)]
    refine ⟨rfl, ?_⟩
    show bytesOf [] = text
    exact bytes_ext hx.symm
  · have htx : (textOf (stF fU (fT noE) 0 0) (deAt (stF fU (fT noE) 0 0) 1).o).data.toList = [] := by kernel_rfl
    have ho : over [] 0 text.data.toList = text.data.toList := by rw [over_zero, List.drop_nil, List.append_nil]
    have e := write_put (s := stF fU (fT noE) 0 0) (i := 0) (t := bytesOf text.data.toList) (stF_ok 0 0) (by rw [bytes_size]; omega) (by decide) (by
        show text.data.toList ≠ _
        rw [show textOf (stF fU (fT noE) 0 0) 0 = noE by kernel_rfl]; exact hx)
        (putErr_file (by kernel_rfl) (by kernel_rfl) (by rw [bytes_size]; omega) (by kernel_rfl) (by kernel_rfl)) (by
        have : (setP (stF fU (fT noE) 0 0).u.U (fileEn (obAt (stF fU (fT noE) 0 0) 0).P (bytesOf text.data.toList))).length = 2 := by kernel_rfl
        omega)
    have e' := (show write (stF fU (fT noE) 0 0) (deAt (stF fU (fT noE) 0 0) 1).o (bytesOf (over [] 0 text.data.toList)) = write (stF fU (fT noE) 0 0) 0 (bytesOf text.data.toList) by rw [ho]; rfl).trans e
    have hk := callWrite_at (s := stF fU (fT noE) 0 0) (c := onC 4 1 0 text) (d := 1) (a := 0) (x := text.data.toList) rfl (by kernel_rfl) htx rfl hx rfl (by omega) (by rw [e'])
    rw [e'] at hk
    refine ⟨_, _, _, _, lead _ (hcall.trans hk), ?_⟩
    dsimp only
    rw [rd _ text.data.toList rfl rfl (by kernel_rfl) (by omega)]
    exact ⟨rfl, bytesOf_data text⟩
end Sy
end Go.Proofs.YtjppfhgkanbemacGreatDoor
