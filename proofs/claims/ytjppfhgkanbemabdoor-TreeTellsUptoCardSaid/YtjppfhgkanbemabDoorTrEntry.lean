/-
  tree.entry.
-/
import Derived.Test.YtjppfhgkanbemabDoorTrFind
namespace Go.Proofs.YtjppfhgkanbemabDoor
open Go.RowKit Go.Shelf

theorem entry_eq (x : En) (b : Bool) : Tr.entry x b = bif decide (x.k < 1) || decide ((bif b then 4 else 3) < x.k) then 1 else bif !Pt.clean x.P then 7 else bif decide ((100 : Int) < x.t.size) then 4 else
    bif (!x.t.toList.isEmpty && x.k != 1 && x.k != 3) || (x.k == 3 && x.t.toList.isEmpty) || (x.o && (!b || x.k != 2)) then 8 else 0 := by
  have h0 : (x.t.size != 0) = !x.t.toList.isEmpty := by
    rcases empty_cases x.t with ⟨h1, _, h3⟩ | ⟨h1, _, h3⟩
    · have := congrArg List.length h1; rw [size_length] at this; rw [h3, this]; rfl
    · have : x.t.size ≠ 0 := fun e => h1 (List.length_eq_zero_iff.1 (by rw [size_length]; exact e))
      rw [h3]; simpa using this
  have h1 : (x.t.size == 0) = x.t.toList.isEmpty := by
    have h2 : (x.t.size == 0) = !(x.t.size != 0) := by cases x.t.size <;> rfl
    rw [h2, h0, Bool.not_not]
  have h2 : decide ((100 : Int) < x.t.size) = decide (100 < x.t.size) := decide_eq_decide.2 (by omega)
  unfold Tr.entry Tr.badKind Tr.badFit
  rw [h0, h1, h2]
  generalize (decide (x.k < 1) || decide ((bif b then 4 else 3) < x.k)) = a1
  generalize Pt.clean x.P = a2
  generalize (!x.t.toList.isEmpty && x.k != 1 && x.k != 3 || x.k == 3 && x.t.toList.isEmpty || x.o && (!b || x.k != 2)) = a3
  by_cases h : 100 < x.t.size
  · rw [decide_eq_true h, if_pos h]; cases a1 <;> cases a2 <;> rfl
  · rw [decide_eq_false h, if_neg h]; cases a1 <;> cases a2 <;> cases a3 <;> rfl

set_option maxHeartbeats 4000000 in
theorem entry_any (b i : Nat) (x : En) (layer : Bool) (w : World) (hx : EnAt w b i x) (hb : b < w.heap.size) (hs : x.p.size < 4294967281) (ht : x.t.size < 4294967281) :
    Calls Tryd.prog 50 #[.pointer (some ⟨b, i, none⟩), .bool layer] w fun e w' => e = .returned (.int .i64 (Tr.entry x layer)) ∧ Below w.heap.size w w' := by
  have HE := Lib.hid (entry_eq x layer)
  have hc := fun W => clean_any x.p W (by omega)
  obtain ⟨xp, xk, xt, xo⟩ := x
  obtain ⟨h0, h1, h2, h3⟩ := hx
  have hP : (En.mk xp xk xt xo).P = xp.data.toList := rfl
  rw [hP] at HE
  dsimp only at h0 h1 h2 h3 HE hs ht hc
  generalize Pt.clean xp.data.toList = cl at HE hc
  generalize Tr.entry ⟨xp, xk, xt, xo⟩ layer = res at HE
  clear hP
  have hcell : ∀ {w' : World} {j : Nat} {v : Value}, Below w.heap.size w w' → w.cell? ⟨b, j, none⟩ = some v → w'.cell? ⟨b, j, none⟩ = some v := fun h e => (h.cell (p := ⟨b, _, none⟩) hb).trans e
  cases layer
  · have HB := Below.refl w.heap.size w
    go_enter Tryd.func50, Tryd.ntmps50
    rcases t1 : decide (xk < 1) with _ | _
    rotate_left
    · go_wp2_with fail
      go_ret
      exact ⟨ret_num (by rw [HE.out]; simp [t1]), HB⟩
    rcases t2 : decide (3 < xk) with _ | _
    rotate_left
    · go_wp2_with fail
      go_ret
      exact ⟨ret_num (by rw [HE.out]; simp [t1, t2]), HB⟩
    go_wp2_with fail
    refine (hc _).mono ?_
    rintro e w1 ⟨rfl, hb1⟩
    replace HB := HB.trans (hb1.mono HB.size)
    have h0' := hcell HB h0
    have h1' := hcell HB h1
    have h2' := hcell HB h2
    have h3' := hcell HB h3
    have hbz : b < w1.heap.size := Nat.lt_of_lt_of_le hb HB.size
    clear h0 h1 h2 h3 hb1 hc
    cases cl
    · go_wp2_with fail
      go_ret
      exact ⟨ret_num (by rw [HE.out]; simp [t1, t2]), HB⟩
    rcases t3 : decide ((100 : Int) < xt.size) with _ | _
    rotate_left
    · go_wp2_with fail
      go_ret
      exact ⟨ret_num (by rw [HE.out]; simp [t1, t2, t3]), HB⟩
    rcases empty_cases xt with ⟨_, g1, g2⟩ | ⟨_, g1, g2⟩
    · rcases t4 : (xk == 3) with _ | _
      · cases xo
        · go_wp2_with fail
          go_ret
          exact ⟨ret_num (by rw [HE.out]; simp [t1, t2, t3, g2, t4]), HB⟩
        · go_wp2_with fail
          go_ret
          exact ⟨ret_num (by rw [HE.out]; simp [t1, t2, t3, g2, t4]), HB⟩
      · go_wp2_with fail
        go_ret
        exact ⟨ret_num (by rw [HE.out]; simp [t1, t2, t3, g2, t4]), HB⟩
    · rcases t5 : (xk != 1) with _ | _
      · rcases t4 : (xk == 3) with _ | _
        · cases xo
          · go_wp2_with fail
            go_ret
            exact ⟨ret_num (by rw [HE.out]; simp [t1, t2, t3, g2, t4, t5]), HB⟩
          · go_wp2_with fail
            go_ret
            exact ⟨ret_num (by rw [HE.out]; simp [t1, t2, t3, g2, t4, t5]), HB⟩
        · exfalso; simp at t5 t4; omega
      · rcases t6 : (xk != 3) with _ | _
        · have t4 : (xk == 3) = true := by simpa using t6
          cases xo
          · go_wp2_with fail
            go_ret
            exact ⟨ret_num (by rw [HE.out]; simp [t1, t2, t3, g2, t4, t5, t6]), HB⟩
          · go_wp2_with fail
            go_ret
            exact ⟨ret_num (by rw [HE.out]; simp [t1, t2, t3, g2, t4, t5, t6]), HB⟩
        · go_wp2_with fail
          go_ret
          exact ⟨ret_num (by rw [HE.out]; simp [t1, t2, t3, g2, t5, t6]), HB⟩
  · have HB := Below.refl w.heap.size w
    go_enter Tryd.func50, Tryd.ntmps50
    rcases t1 : decide (xk < 1) with _ | _
    rotate_left
    · go_wp2_with fail
      go_ret
      exact ⟨ret_num (by rw [HE.out]; simp [t1]), HB⟩
    rcases t2 : decide (4 < xk) with _ | _
    rotate_left
    · go_wp2_with fail
      go_ret
      exact ⟨ret_num (by rw [HE.out]; simp [t1, t2]), HB⟩
    go_wp2_with fail
    refine (hc _).mono ?_
    rintro e w1 ⟨rfl, hb1⟩
    replace HB := HB.trans (hb1.mono HB.size)
    have h0' := hcell HB h0
    have h1' := hcell HB h1
    have h2' := hcell HB h2
    have h3' := hcell HB h3
    have hbz : b < w1.heap.size := Nat.lt_of_lt_of_le hb HB.size
    clear h0 h1 h2 h3 hb1 hc
    cases cl
    · go_wp2_with fail
      go_ret
      exact ⟨ret_num (by rw [HE.out]; simp [t1, t2]), HB⟩
    rcases t3 : decide ((100 : Int) < xt.size) with _ | _
    rotate_left
    · go_wp2_with fail
      go_ret
      exact ⟨ret_num (by rw [HE.out]; simp [t1, t2, t3]), HB⟩
    rcases empty_cases xt with ⟨_, g1, g2⟩ | ⟨_, g1, g2⟩
    · rcases t4 : (xk == 3) with _ | _
      · cases xo
        · go_wp2_with fail
          go_ret
          exact ⟨ret_num (by rw [HE.out]; simp [t1, t2, t3, g2, t4]), HB⟩
        · rcases t7 : (xk != 2) with _ | _
          · go_wp2_with fail
            go_ret
            exact ⟨ret_num (by rw [HE.out]; simp [t1, t2, t3, g2, t4, t7]), HB⟩
          · go_wp2_with fail
            go_ret
            exact ⟨ret_num (by rw [HE.out]; simp [t1, t2, t3, g2, t4, t7]), HB⟩
      · go_wp2_with fail
        go_ret
        exact ⟨ret_num (by rw [HE.out]; simp [t1, t2, t3, g2, t4]), HB⟩
    · rcases t5 : (xk != 1) with _ | _
      · rcases t4 : (xk == 3) with _ | _
        · cases xo
          · go_wp2_with fail
            go_ret
            exact ⟨ret_num (by rw [HE.out]; simp [t1, t2, t3, g2, t4, t5]), HB⟩
          · rcases t7 : (xk != 2) with _ | _
            · go_wp2_with fail
              go_ret
              exact ⟨ret_num (by rw [HE.out]; simp [t1, t2, t3, g2, t4, t5, t7]), HB⟩
            · go_wp2_with fail
              go_ret
              exact ⟨ret_num (by rw [HE.out]; simp [t1, t2, t3, g2, t4, t5, t7]), HB⟩
        · exfalso; simp at t5 t4; omega
      · rcases t6 : (xk != 3) with _ | _
        · have t4 : (xk == 3) = true := by simpa using t6
          cases xo
          · go_wp2_with fail
            go_ret
            exact ⟨ret_num (by rw [HE.out]; simp [t1, t2, t3, g2, t4, t5, t6]), HB⟩
          · rcases t7 : (xk != 2) with _ | _
            · go_wp2_with fail
              go_ret
              exact ⟨ret_num (by rw [HE.out]; simp [t1, t2, t3, g2, t4, t5, t6, t7]), HB⟩
            · go_wp2_with fail
              go_ret
              exact ⟨ret_num (by rw [HE.out]; simp [t1, t2, t3, g2, t4, t5, t6, t7]), HB⟩
        · go_wp2_with fail
          go_ret
          exact ⟨ret_num (by rw [HE.out]; simp [t1, t2, t3, g2, t5, t6]), HB⟩
end Go.Proofs.YtjppfhgkanbemabDoor
