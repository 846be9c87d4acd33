/-
  A lock is a lock, in plain words. No program in sight.
-/
import Derived.Test.YtjppfhgkanbemacGreatDoorSA
namespace Go.Proofs.YtjppfhgkanbemacGreatDoor
namespace Sy
open Pt Tr

def takeC (x : Lk) : Ca := ⟨14, x.o, 0, x.f, x.t, noE, noE, noE, x.a⟩
def closeC (o : Int) : Ca := ⟨2, o, 0, 0, 0, noE, noE, noE, false⟩
theorem wrong_one {x : Lk} (h : (Lk.wrong [x]).1 = 0) : Lk.range x = false := by
  unfold Lk.wrong Lk.wrongFrom Lk.wrongFrom Lk.badAt at h
  rcases hr : Lk.range x with _ | _
  · rfl
  · rw [hr] at h; simp at h
theorem take_nil {x : Lk} (h : (Lk.wrong [x]).1 = 0) : Lk.take [] x = ([x], 0) := by
  unfold Lk.take
  rw [if_neg (show ¬ (Lk.wrong []).1 ≠ 0 by decide), if_neg (by simp [h]), if_neg (show ¬ (Lk.meets [] x).isSome = true by simp [Lk.meets]), if_neg]
  · rfl
  · show ¬ 40 < 1; decide
theorem meets_one (x y : Lk) : Lk.meets [x] y = if Lk.clash x y = true then some x else none := by
  unfold Lk.meets
  rw [List.find?_cons]
  rcases Lk.clash x y with _ | _ <;> rfl
/-- A lock of another owner's beside one. -/
theorem take_other {x y : Lk} (hx : (Lk.wrong [x]).1 = 0) (hy : (Lk.wrong [y]).1 = 0) (ho : x.o < y.o) : Lk.take [x] y = if (Lk.meets [x] y).isSome = true then ([], 13) else ([x, y], 0) := by
  unfold Lk.take
  rw [if_neg (by simp [hx]), if_neg (by simp [hy])]
  split
  · rfl
  · have hc : Lk.cut [x] y = [x] := by
      unfold Lk.cut Lk.cut1
      rw [List.flatMap_cons, if_pos (.inl (by omega))]; rfl
    have hl : Lk.less x y = true := by unfold Lk.less; simp [ho]
    have hs : Lk.sort [x, y] = [x, y] := by
      show Lk.insert x [y] = _
      have h2 : Lk.less y x = false := by
        unfold Lk.less
        rw [decide_eq_false (by omega), Bool.false_or, beq_false_of_ne (by omega)]; rfl
      unfold Lk.insert
      rw [h2]; rfl
    have ht : Lk.tidy [x, y] = [x, y] := by
      show Lk.push (Lk.push [] x) y = _
      show Lk.push [x] y = _
      unfold Lk.push
      show (if Lk.touch x y = true then _ else _) = _
      rw [if_neg]
      · rfl
      · unfold Lk.touch
        rw [beq_false_of_ne (by omega)]; simp
    rw [hc]
    show (if 40 < (Lk.tidy (Lk.sort [x, y])).length then _ else _) = _
    rw [hs, ht, if_neg (show ¬ 40 < [x, y].length from show ¬ 40 < 2 by decide)]
    show (Lk.tidy (Lk.sort [x, y]), (0 : Int)) = _
    rw [hs, ht]
theorem take_again {y : Lk} (hy : (Lk.wrong [y]).1 = 0) : (Lk.take [y] y).2 = 0 := by
  have hr := wrong_one hy
  unfold Lk.range at hr
  simp only [Bool.or_eq_false_iff, decide_eq_false_iff_not] at hr
  unfold Lk.take
  rw [if_neg (by simp [hy]), if_neg (by simp [hy]), if_neg, if_neg]
  · have hc : Lk.cut [y] y = [] := by
      unfold Lk.cut Lk.cut1
      rw [List.flatMap_cons, if_neg (by omega), if_neg (by omega), if_neg (by omega)]; rfl
    rw [hc]
    show ¬ 40 < 1; decide
  · rw [meets_one]
    unfold Lk.clash
    simp
theorem leave_both {x y : Lk} (hx : x.o = 0) (hy : y.o = 1) : Lk.leave [x] 0 = [] ∧ Lk.leave [x, y] 0 = [y] := by
  unfold Lk.leave
  constructor
  · rw [List.filter_cons, hx]; rfl
  · rw [List.filter_cons, hx, List.filter_cons, hy]; rfl
def lockSt (u : Un) (T : List En) (p : ByteArray) (l : List Lk) : St := ⟨u, T, [⟨p, noE, l⟩], [0], [⟨0, 1, 0, 1⟩, ⟨0, 1, 0, 1⟩], [some 0 :: List.replicate 7 none, some 1 :: List.replicate 7 none, List.replicate 8 none, List.replicate 8 none]⟩
theorem take_call (u : Un) (T : List En) (p : ByteArray) (l : List Lk) (x : Lk) (hx : x.o = 0 ∨ x.o = 1) : call (lockSt u T p l) (takeC x) = (if (Lk.take l x).2 = 0 then lockSt u T p (Lk.take l x).1 else lockSt u T p l, .no (Lk.take l x).2) := by
  have ho : (takeC x).owner = x.o := rfl
  rw [call_use (.inr ⟨by show (13 : Int) ≤ 14; decide, by show (14 : Int) ≤ 16; decide⟩) (by rw [ho]; omega) (by rw [ho]; omega)]
  have key : ∀ d, (deAt (lockSt u T p l) d).o = 0 → fdAt (lockSt u T p l) (takeC x).owner.toNat (takeC x).fd.toNat = some d → use (lockSt u T p l) (takeC x) = (if (Lk.take l x).2 = 0 then lockSt u T p (Lk.take l x).1 else lockSt u T p l, .no (Lk.take l x).2) := by
    intro d hd hf
    rw [use_lock (d := d) (by show (0 : Int) ≤ 0; decide) (by show (0 : Int) < 8; decide) hf (.inl rfl), hd]
    unfold callLock
    dsimp only
    rw [if_neg (show ¬ (takeC x).kind = 15 from show ¬ (14 : Int) = 15 by decide)]
    rfl
  rcases hx with hx | hx
  · exact key 0 rfl (by rw [ho, hx]; rfl)
  · exact key 1 rfl (by rw [ho, hx]; rfl)
theorem close_call (u : Un) (T : List En) (p : ByteArray) (l : List Lk) : ∃ s, call (lockSt u T p l) (closeC 0) = (s, .ok) ∧ s.obs = [⟨p, noE, Lk.leave l 0⟩] ∧ fdAt s 1 0 = some 1 ∧ (deAt s 1).o = 0 := ⟨_, rfl, rfl, rfl, rfl⟩
theorem take_last {s : St} {p : ByteArray} {l : List Lk} {y : Lk} (hy : y.o = 1) (h1 : s.obs = [⟨p, noE, l⟩]) (h2 : fdAt s 1 0 = some 1) (h3 : (deAt s 1).o = 0) : (call s (takeC y)).2.err = (Lk.take l y).2 := by
  have ho : (takeC y).owner = y.o := rfl
  rw [call_use (.inr ⟨by show (13 : Int) ≤ 14; decide, by show (14 : Int) ≤ 16; decide⟩) (by rw [ho]; omega) (by rw [ho]; omega)]
  rw [use_lock (d := 1) (by show (0 : Int) ≤ 0; decide) (by show (0 : Int) < 8; decide) (by rw [ho, hy]; exact h2) (.inl rfl), h3]
  unfold callLock
  dsimp only
  rw [if_neg (show ¬ (takeC y).kind = 15 from show ¬ (14 : Int) = 15 by decide)]
  show (Lk.take (obAt s 0).l y).2 = _
  unfold obAt
  rw [h1]; rfl
/-- What becomes of two owners' locks of one file. -/
theorem locks {u : Un} (hf : Fine u) {p : ByteArray} {f : En} (hp : p.data.toList ≠ []) (hg : get (seenU u).1 p.data.toList = some f) (hk : f.k = 1) {x y : Lk} (hx : x.o = 0) (hy : y.o = 1) (wx : (Lk.wrong [x]).1 = 0) (wy : (Lk.wrong [y]).1 = 0) :
    ∃ a0 a1 a2 a3 a4 a5, (calls (start u) [openC 0 p, openC 1 p, takeC x, takeC y, closeC 0, takeC y]).2 = [a0, a1, a2, a3, a4, a5] ∧ a2.err = 0 ∧ a3.err = (if (Lk.meets [x] y).isSome = true then 13 else 0) ∧ a5.err = 0 := by
  have ok0 := start_ok ((fine_iff u).2 hf)
  have e1 := open_first (s := start u) (o := 0) (by decide) ok0 rfl rfl hp hg hk
  have e1 : call (start u) (openC 0 p) = (⟨u, (seenU u).1, [⟨p, noE, []⟩], [0], [⟨0, 1, 0, 1⟩], [some 0 :: List.replicate 7 none, List.replicate 8 none, List.replicate 8 none, List.replicate 8 none]⟩, .num 0) := e1
  generalize hs1 : (⟨u, (seenU u).1, [⟨p, noE, []⟩], [0], [⟨0, 1, 0, 1⟩], [some 0 :: List.replicate 7 none, List.replicate 8 none, List.replicate 8 none, List.replicate 8 none]⟩ : St) = s1 at e1
  have q1 : s1.T = (seenU u).1 := by rw [← hs1]
  have e2 : call s1 (openC 1 p) = (lockSt u (seenU u).1 p [], .num 0) := by
    have ok1 : Ok s1 := ok_of ok0 (by rw [← hs1]; rfl) q1
    have hT : Right false s1.T := by
      have a := (fine_parts hf).2.2.2.2.1
      have b := (fine_parts hf).2.2.2.2.2.2.2
      rw [q1, a]; exact b
    have hfd := find_there (b := true) hT hp (by rw [q1]; exact hg) (.inl (by rw [hk]; decide))
    rw [call_open rfl (by show (0 : Int) ≤ 1; decide) (by show (1 : Int) < 4; decide)]
    unfold callOpen
    rw [if_neg (show ¬ badFlags (openC 1 p).n = true from show ¬ badFlags 1 = true by decide)]
    have hfree : free s1 (openC 1 p).owner.toNat = some 0 := by rw [← hs1]; rfl
    rw [hfree]
    dsimp only
    have hb : (!bit (openC 1 p).n 4) = true := show (!bit 1 4) = true by decide
    have e3 : find s1.T (openC 1 p).path.data.toList true = (p.data.toList, 0) := hfd
    rw [hb, e3, if_neg (by simp)]
    dsimp only
    have e4 : openSet s1 (openC 1 p).n p.data.toList = (s1, 0) := by
      unfold openSet
      rw [q1, hg]
      dsimp only
      rw [if_neg (show ¬ bit (openC 1 p).n 4 = true from show ¬ bit 1 4 = true by decide), if_neg (by rw [hk]; decide), if_neg (by rintro ⟨h, _⟩; exact absurd h (show ¬ bit 1 5 = true by decide))]
    rw [e4, if_neg (by simp)]
    dsimp only
    have e5 : opened s1 p.data.toList = (s1, 0) := by
      unfold opened
      rw [← hs1]
      show (match List.find? (fun i => _) [0] with | some i => _ | none => _) = _
      rw [List.find?_cons]
      have : ((obAt (⟨u, (seenU u).1, [⟨p, noE, []⟩], [0], [⟨0, 1, 0, 1⟩], [some 0 :: List.replicate 7 none, List.replicate 8 none, List.replicate 8 none, List.replicate 8 none]⟩ : St) 0).P == p.data.toList) = true := by
        show (p.data.toList == p.data.toList) = true
        exact beq_self_eq_true _
      rw [this]
    rw [e5, ← hs1]
    rfl
  have e3 := take_call u (seenU u).1 p [] x (.inl hx)
  rw [take_nil wx, if_pos rfl] at e3
  have e4 := take_call u (seenU u).1 p [x] y (.inr hy)
  rw [take_other wx wy (by omega)] at e4
  have step : ∀ l, ∃ a4 a5, (calls (lockSt u (seenU u).1 p l) [closeC 0, takeC y]).2 = [a4, a5] ∧ a5.err = (Lk.take (Lk.leave l 0) y).2 := by
    intro l
    obtain ⟨s, f1, f2, f3, f4⟩ := close_call u (seenU u).1 p l
    refine ⟨_, _, rfl, ?_⟩
    show (call (call (lockSt u (seenU u).1 p l) (closeC 0)).1 (takeC y)).2.err = _
    rw [f1]
    exact take_last hy f2 f3 f4
  have lead : ∀ q : St × An, call (lockSt u (seenU u).1 p [x]) (takeC y) = q → (calls (start u) [openC 0 p, openC 1 p, takeC x, takeC y, closeC 0, takeC y]).2 = .num 0 :: .num 0 :: .no 0 :: q.2 :: (calls q.1 [closeC 0, takeC y]).2 := by
    intro q hq
    show (call (start u) (openC 0 p)).2 :: (call (call (start u) (openC 0 p)).1 (openC 1 p)).2 :: (call (call (call (start u) (openC 0 p)).1 (openC 1 p)).1 (takeC x)).2 :: (call (call (call (call (start u) (openC 0 p)).1 (openC 1 p)).1 (takeC x)).1 (takeC y)).2 :: (calls (call (call (call (call (start u) (openC 0 p)).1 (openC 1 p)).1 (takeC x)).1 (takeC y)).1 [closeC 0, takeC y]).2 = _
    rw [e1]
    dsimp only
    rw [e2]
    dsimp only
    rw [e3]
    dsimp only
    rw [hq]
  obtain ⟨lv1, lv2⟩ := leave_both hx hy
  by_cases hm : (Lk.meets [x] y).isSome = true
  · rw [if_pos hm, if_neg (by decide)] at e4
    obtain ⟨a4, a5, g1, g2⟩ := step [x]
    refine ⟨_, _, _, _, a4, a5, (lead _ e4).trans (by rw [g1]), rfl, by rw [if_pos hm]; rfl, ?_⟩
    rw [g2, lv1, take_nil wy]
  · rw [if_neg hm, if_pos rfl] at e4
    obtain ⟨a4, a5, g1, g2⟩ := step [x, y]
    refine ⟨_, _, _, _, a4, a5, (lead _ e4).trans (by rw [g1]), rfl, by rw [if_neg hm]; rfl, ?_⟩
    rw [g2, lv2]; exact take_again wy
end Sy
end Go.Proofs.YtjppfhgkanbemacGreatDoor
