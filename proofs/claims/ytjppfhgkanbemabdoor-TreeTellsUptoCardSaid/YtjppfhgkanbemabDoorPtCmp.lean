/-
  Compare, and the document's Less.
-/
import Derived.Test.YtjppfhgkanbemabDoorPtCut
import Derived.WalkLawsBesides
namespace Go.Proofs.YtjppfhgkanbemabDoor
open Go.RowKit Go.Shelf

/-- A block's cells are these texts. -/
def StrAt (w : World) (g : Nat) (l : List Pt.Bs) : Prop := ∀ k, (h : k < l.length) → w.cell? ⟨g, k, none⟩ = some (Pt.str l[k])
theorem StrAt.new (w : World) (l : List Pt.Bs) : StrAt (w.alloc (.cells (l.map Pt.str).toArray 9)) w.heap.size l := by
  intro k h
  rw [(Blk.new w _ (l.map Pt.str)).cell k]
  simp [h]
theorem StrAt.below {w w' : World} {g B : Nat} {l : List Pt.Bs} (h : StrAt w g l) (hb : Below B w w') (hg : g < B) : StrAt w' g l := fun k hk => (hb.cell (p := ⟨g, k, none⟩) hg).trans (h k hk)
theorem StrAt.drewN {w : World} {g : Nat} {l : List Pt.Bs} (h : StrAt w g l) (n : Nat) : StrAt (w.drewN n) g l := h

theorem Drawn.cell {w w' : World} (h : Drawn w w') (p : Addr) : w'.cell? p = w.cell? p := by
  obtain ⟨n, rfl⟩ := h
  rfl
theorem Drawn.more {w w' : World} (h : Drawn w w') (m : Nat) : Drawn w (w'.drewN m) := by
  obtain ⟨n, rfl⟩ := h
  exact ⟨n + m, by rw [World.drewN_drewN]⟩
theorem Drawn.trans {a b c : World} (h : Drawn a b) (k : Drawn b c) : Drawn a c := by
  obtain ⟨m, rfl⟩ := k
  exact h.more m
theorem cmpP_at {xs ys : List Pt.Bs} {k : Nat} (hx : k < xs.length) (hy : k < ys.length) :
    Pt.cmpP (xs.drop k) (ys.drop k) = if Lib.compareBytes xs[k] ys[k] = 0 then Pt.cmpP (xs.drop (k + 1)) (ys.drop (k + 1)) else Lib.compareBytes xs[k] ys[k] := by
  rw [List.drop_eq_getElem_cons hx, List.drop_eq_getElem_cons hy, Pt.cmpP_cons]
theorem cmpP_end {xs ys : List Pt.Bs} {k : Nat} (h : k = min xs.length ys.length) : Pt.cmpP (xs.drop k) (ys.drop k) = (xs.length : Int) - (ys.length : Int) := by
  rcases Nat.le_total xs.length ys.length with hl | hl
  · rw [Nat.min_eq_left hl] at h
    subst h
    rw [List.drop_length, Pt.cmpP_nil_l, List.length_drop]; omega
  · rw [Nat.min_eq_right hl] at h
    subst h
    rw [List.drop_length, Pt.cmpP_nil_r, List.length_drop]; omega
theorem ret_num {a b : Int} (h : a = b) : Ending.returned (.int .i64 a) = .returned (.int .i64 b) := by rw [h]

set_option maxHeartbeats 1000000 in
theorem cmp_core (s t : ByteArray) (xs ys : List Pt.Bs) (g1 g2 : Nat) (w W1 W2 : World)
    (c1 : Calls Tryd.prog 71 #[.string s, .string ⟨#[47]⟩] w fun e w' => e = .returned (.slice (some ⟨g1, 0, none⟩) xs.length xs.length) ∧ w' = W1)
    (c2 : Calls Tryd.prog 71 #[.string t, .string ⟨#[47]⟩] W1 fun e w' => e = .returned (.slice (some ⟨g2, 0, none⟩) ys.length ys.length) ∧ w' = W2)
    (hx : StrAt W2 g1 xs) (hy : StrAt W2 g2 ys) (hlx : xs.length ≤ 4294967296) (hly : ys.length ≤ 4294967296) :
    Calls Tryd.prog 41 #[.string s, .string t] w fun e w' => e = .returned (.int .i64 (Pt.cmpP xs ys)) ∧ Drawn W2 w' := by
  have HX := Lib.hid hx
  have HY := Lib.hid hy
  clear hx hy
  go_enter Tryd.func41, Tryd.ntmps41
  go_wp2_with fail
  refine c1.mono ?_
  rintro e w' ⟨rfl, rfl⟩
  go_wp2_with fail
  refine c2.mono ?_
  rintro e w' ⟨rfl, rfl⟩
  clear c1 c2
  go_wp2_with fail
  go_loopw [18] (fun i wr => ∃ k : Nat, k ≤ min xs.length ys.length ∧ i = .int .i64 k ∧ Drawn w' wr ∧ Hid (Pt.cmpP xs ys = Pt.cmpP (xs.drop k) (ys.drop k))) (fun i _ => min xs.length ys.length - (intOf i).toNat)
  case atStart => exact ⟨0, Nat.zero_le _, rfl, Drawn.refl _, Lib.hid rfl⟩
  case round =>
    obtain ⟨k, hk, rfl, hD, HS⟩ := hrel
    by_cases hlt : k < min xs.length ys.length
    · have hkx : k < xs.length := by omega
      have hky : k < ys.length := by omega
      have a1 := (hD.cell _).trans (HX.out k hkx)
      have a2 := (hD.cell _).trans (HY.out k hky)
      have HC := Lib.hid (HS.out.trans (cmpP_at hkx hky))
      clear HS
      generalize xs[k] = p at a1 HC
      generalize ys[k] = q at a2 HC
      rcases hc : (Lib.compareBytes p q != 0) with _ | _
      · have hz : Lib.compareBytes p q = 0 := by simpa using hc
        have HZ := Lib.hid hz
        clear hz
        go_wp2_with fail
        go_quiet ((go_at_call 72; exact Calls.quiet_of_same (compare_any _ _ _)))
        go_wp2_with fail
        go_roundw
        case rel => exact ⟨k + 1, by omega, by go_num, hD.more _, Lib.hid (by rw [HC.out, if_pos HZ.out])⟩
        case measure => simp [intOf]; omega
      · have hz : ¬ Lib.compareBytes p q = 0 := by simpa using hc
        have HZ := Lib.hid hz
        clear hz
        go_wp2_with fail
        go_quiet ((go_at_call 72; exact Calls.quiet_of_same (compare_any _ _ _)))
        go_wp2_with fail
        go_ret
        exact ⟨ret_num (by rw [HC.out, if_neg HZ.out]), hD.more _⟩
    · obtain rfl : k = min xs.length ys.length := by omega
      have HE := Lib.hid (HS.out.trans (cmpP_end rfl))
      clear HS
      have h0 : IntKind.i64.wrap (↑xs.length - ↑ys.length) = ↑xs.length - ↑ys.length := IntWalk.i64_in _ (by omega)
      go_wp2_with fail
      go_ret
      exact ⟨ret_num HE.out.symm, hD⟩

theorem cmp_any (s t : ByteArray) (w : World) (hs : s.size < 4294967281) (ht : t.size < 4294967281) :
    Calls Tryd.prog 41 #[.string s, .string t] w fun e w' => e = .returned (.int .i64 (Pt.cmp s.data.toList t.data.toList)) ∧ Below w.heap.size w w' := by
  have l1 := split_len_le s.data.toList
  have l2 := split_len_le t.data.toList
  rw [size_length] at l1 l2
  have c1 : Calls Tryd.prog 71 #[.string s, .string ⟨#[47]⟩] w fun e w' => e = .returned (.slice (some ⟨w.heap.size, 0, none⟩) (Pt.split s.data.toList).length (Pt.split s.data.toList).length) ∧ w' = w.alloc (.cells ((Pt.split s.data.toList).map Pt.str).toArray 9) :=
    (split_any s w hs).mono fun e w' ⟨n, he, hn, hw⟩ => ⟨by rw [he, hn], hw⟩
  have c2 : Calls Tryd.prog 71 #[.string t, .string ⟨#[47]⟩] (w.alloc (.cells ((Pt.split s.data.toList).map Pt.str).toArray 9)) fun e w' => e = .returned (.slice (some ⟨w.heap.size + 1, 0, none⟩) (Pt.split t.data.toList).length (Pt.split t.data.toList).length) ∧ w' = (w.alloc (.cells ((Pt.split s.data.toList).map Pt.str).toArray 9)).alloc (.cells ((Pt.split t.data.toList).map Pt.str).toArray 9) :=
    (split_any t _ ht).mono fun e w' ⟨n, he, hn, hw⟩ => ⟨by rw [he, hn, World.size_alloc], hw⟩
  have s1 := StrAt.new w (Pt.split s.data.toList)
  have s2 := StrAt.new (w.alloc (.cells ((Pt.split s.data.toList).map Pt.str).toArray 9)) (Pt.split t.data.toList)
  rw [World.size_alloc] at s2
  have b1 : Below w.heap.size w (w.alloc (.cells ((Pt.split s.data.toList).map Pt.str).toArray 9)) := (Below.refl _ _).alloc (Nat.le_refl _) _
  have b2 := b1.alloc b1.size (.cells ((Pt.split t.data.toList).map Pt.str).toArray 9)
  refine (cmp_core s t _ _ _ _ w _ _ c1 c2 (s1.below ((Below.refl (w.heap.size + 1) _).alloc (by simp) _) (Nat.lt_succ_self _)) s2 (by omega) (by omega)).mono fun e w' ⟨he, hd⟩ => ⟨he, ?_⟩
  exact b2.trans hd.below

theorem less_iff : ∀ p q : Pt.Bs, Op.bytesLess p q = true ↔ Lib.compareBytes p q < 0
  | [], [] => by simp [Op.bytesLess, Lib.compareBytes]
  | [], _ :: _ => by simp [Op.bytesLess, Lib.compareBytes]
  | _ :: _, [] => by simp [Op.bytesLess, Lib.compareBytes]
  | a :: x, b :: y => by
    unfold Op.bytesLess Lib.compareBytes
    have ih := less_iff x y
    by_cases h1 : a < b
    · simp [h1]
    · by_cases h2 : b < a
      · have h3 : ¬ a = b := fun e => by subst e; exact UInt8.lt_irrefl _ h2
        simp [h1, h2, h3]
      · have h3 : a = b := UInt8.le_antisymm (UInt8.not_lt.1 h2) (UInt8.not_lt.1 h1)
        subst h3
        simp [UInt8.lt_irrefl, ih]
theorem cb_cases (p q : Pt.Bs) : (Lib.compareBytes p q < 0 ∧ Op.bytesLess p q = true ∧ (p == q) = false) ∨ (Lib.compareBytes p q = 0 ∧ Op.bytesLess p q = false ∧ (p == q) = true) ∨ (0 < Lib.compareBytes p q ∧ Op.bytesLess p q = false ∧ (p == q) = false) := by
  have hl := less_iff p q
  rcases Int.lt_trichotomy (Lib.compareBytes p q) 0 with h | h | h
  · exact .inl ⟨h, hl.2 h, by rw [beq_eq_false_iff_ne]; intro e; rw [e, Pt.cb_self] at h; omega⟩
  · exact .inr (.inl ⟨h, by rw [Bool.eq_false_iff]; intro e; have := hl.1 e; omega, by rw [beq_iff_eq]; exact Pt.cb_zero h⟩)
  · exact .inr (.inr ⟨h, by rw [Bool.eq_false_iff]; intro e; have := hl.1 e; omega, by rw [beq_eq_false_iff_ne]; intro e; rw [e, Pt.cb_self] at h; omega⟩)
theorem refSplit_form (s : ByteArray) (w : World) (hs : s.size < 4294967281) :
    Calls Tryd.prog 76 #[.string s] w fun e w' => ∃ g c, e = .returned (.slice (some ⟨g, 0, none⟩) (Pt.split s.data.toList).length c) ∧ StrAt w' g (Pt.split s.data.toList) ∧ w.heap.size ≤ g ∧ g < w'.heap.size ∧ Below w.heap.size w w' := by
  refine (refSplit_any s w (by omega)).mono fun e w' ⟨v, he, ho, hb⟩ => ?_
  rcases own_shape ho with ⟨_, h0⟩ | ⟨g, c, hv, h1, h2, _⟩
  · exact absurd (List.length_eq_zero_iff.1 h0) (Pt.split_ne _)
  · subst hv
    refine ⟨g, c, he, fun k hk => ?_, h1, h2, hb⟩
    have := ho.cells (g := g) rfl k (Pt.str (Pt.split s.data.toList)[k]) (by simp [hk])
    rw [← this]
    unfold Addr.add
    split
    · rename_i h0; simp [h0]
    · simp
theorem less_any (s t : ByteArray) (w : World) (hs : s.size < 4294967281) (ht : t.size < 4294967281) :
    Calls Tryd.prog 46 #[.string s, .string t] w fun e w' => e = .returned (.bool (decide (Pt.cmp s.data.toList t.data.toList < 0))) ∧ Below w.heap.size w w' := by
  have l1 := split_len_le s.data.toList
  have l2 := split_len_le t.data.toList
  rw [size_length] at l1 l2
  have c1 := refSplit_form s w hs
  have c2 := fun W => refSplit_form t W ht
  unfold Pt.cmp
  generalize Pt.split s.data.toList = xs at c1 l1 ⊢
  generalize Pt.split t.data.toList = ys at c2 l2 ⊢
  go_enter Tryd.func46, Tryd.ntmps46
  go_wp2_with fail
  refine c1.mono ?_
  rintro e w1 ⟨g1, k1, rfl, hx1, hg1, hl1, hb1⟩
  clear c1
  go_wp2_with fail
  refine (c2 _).mono ?_
  rintro e w' ⟨g2, k2, rfl, hy, hg2, hl2, hb2⟩
  clear c2
  have HX := Lib.hid (hx1.below hb2 hl1)
  have HY := Lib.hid hy
  have hB := hb1.trans (hb2.mono hb1.size)
  clear hx1 hy hb1 hb2 hg1 hg2 hl1 hl2
  go_wp2_with fail
  go_loopw [14] (fun i wr => ∃ k : Nat, k ≤ xs.length ∧ k ≤ ys.length ∧ i = .int .i64 k ∧ Drawn w' wr ∧ Hid (Pt.cmpP xs ys = Pt.cmpP (xs.drop k) (ys.drop k))) (fun i _ => xs.length - (intOf i).toNat)
  case atStart => exact ⟨0, Nat.zero_le _, Nat.zero_le _, rfl, Drawn.refl _, Lib.hid rfl⟩
  case round =>
    obtain ⟨k, hkx0, hky0, rfl, hD, HS⟩ := hrel
    by_cases hkx : k < xs.length
    · by_cases hky : k < ys.length
      · have a1 := (hD.cell _).trans (HX.out k hkx)
        have a2 := (hD.cell _).trans (HY.out k hky)
        have HC := Lib.hid (HS.out.trans (cmpP_at hkx hky))
        clear HS
        generalize xs[k] = p at a1 HC
        generalize ys[k] = q at a2 HC
        have a1' : wr.cell? ⟨g1, k, none⟩ = some (.string ⟨p.toArray⟩) := a1
        have a2' : wr.cell? ⟨g2, k, none⟩ = some (.string ⟨q.toArray⟩) := a2
        clear a1 a2
        obtain ⟨sp, hsp⟩ : ∃ sp : ByteArray, sp = ⟨p.toArray⟩ := ⟨_, rfl⟩
        obtain ⟨sq, hsq⟩ : ∃ sq : ByteArray, sq = ⟨q.toArray⟩ := ⟨_, rfl⟩
        rw [← hsp] at a1'
        rw [← hsq] at a2'
        have hp : sp.toList = p := by rw [hsp, Lib.toList_data]
        have hq : sq.toList = q := by rw [hsq, Lib.toList_data]
        have HP := Lib.hid hp
        have HQ := Lib.hid hq
        clear hsp hsq hp hq
        have hd : decide ((ys.length : Int) ≤ k) = false := by simp; omega
        rcases cb_cases p q with ⟨h0, h1, h2⟩ | ⟨h0, h1, h2⟩ | ⟨h0, h1, h2⟩
        · rw [← HP.out, ← HQ.out] at h1
          rw [← HP.out, ← HQ.out] at h2
          have HZ := Lib.hid h0
          clear h0
          go_wp2_with fail
          go_quiet (fail)
          go_wp2_with fail
          go_quiet (fail)
          go_wp2_with fail
          go_ret
          exact ⟨ret_bool (by rw [HC.out, if_neg (by have := HZ.out; omega), decide_eq_true HZ.out]), hB.trans ((hD.more _).more _).below⟩
        · rw [← HP.out, ← HQ.out] at h1
          rw [← HP.out, ← HQ.out] at h2
          have HZ := Lib.hid h0
          clear h0
          go_wp2_with fail
          go_quiet (fail)
          go_wp2_with fail
          go_quiet (fail)
          go_wp2_with fail
          go_roundw
          case rel => exact ⟨k + 1, by omega, by omega, by go_num, hD.more _, Lib.hid (by rw [HC.out, if_pos HZ.out])⟩
          case measure => simp [intOf]; omega
        · rw [← HP.out, ← HQ.out] at h1
          rw [← HP.out, ← HQ.out] at h2
          have HZ := Lib.hid h0
          clear h0
          go_wp2_with fail
          go_quiet (fail)
          go_wp2_with fail
          go_ret
          exact ⟨ret_bool (by rw [HC.out, if_neg (by have := HZ.out; omega), decide_eq_false (by have := HZ.out; omega)]), hB.trans (hD.more _).below⟩
      · obtain rfl : k = ys.length := by omega
        have HE := Lib.hid (HS.out.trans (by rw [List.drop_length, Pt.cmpP_nil_r] : _ = ((xs.drop ys.length).length : Int)))
        clear HS
        have hd : decide ((ys.length : Int) ≤ (ys.length : Int)) = true := by simp
        go_wp2_with fail
        go_quiet (fail)
        go_wp2_with fail
        go_ret
        exact ⟨ret_bool (by rw [HE.out, decide_eq_false (by omega)]), hB.trans (hD.more _).below⟩
    · obtain rfl : k = xs.length := by omega
      have HE := Lib.hid (HS.out.trans (by rw [List.drop_length, Pt.cmpP_nil_l, List.length_drop] : _ = -((ys.length - xs.length : Nat) : Int)))
      clear HS
      go_wp2_with fail
      go_ret
      exact ⟨ret_bool (by rw [HE.out]; exact decide_eq_decide.2 (by omega)), hB.trans hD.below⟩

end Go.Proofs.YtjppfhgkanbemabDoor
