/-
  tree.Check, tree.Wrong and layer.Wrong. (Printed by wip/gencheck.py.)
-/
import Derived.Test.YtjppfhgkanbemabDoorTrGr
namespace Go.Proofs.YtjppfhgkanbemabDoor
open Go.RowKit Go.Shelf Go.Sort

theorem ret_fault {l : List En} {b : Bool} {p : Int × Int} {e a : Int} (h0 : Tr.wrong l b = p) (h : p = (e, a)) : Ending.returned (.agg #[.int .i64 e, .int .i64 a]) = .returned (.agg #[.int .i64 (Tr.wrong l b).1, .int .i64 (Tr.wrong l b).2]) := by rw [h0, h]
theorem dirBad_of {p : List En} {d : Pt.Bs} {r : Option En} (h : r = Tr.get p d) : Tr.dirBad p d = (!r.isSome || (r.getD En.zero).k != 2) := by
  unfold Tr.dirBad; rw [← h]; cases r <;> rfl
theorem badAt_entry {p : List En} {y : En} {b : Bool} {n : Int} (h : Tr.entry y b = n) (hn : n ≠ 0) : Tr.badAt p y b = n := by unfold Tr.badAt; rw [h, if_pos hn]
theorem badAt_order {p : List En} {y : En} {b : Bool} (h : Tr.entry y b = 0) (ho : (p.getLast?.any fun z => !Tr.ahead z y) = true) : Tr.badAt p y b = 2 := by unfold Tr.badAt; rw [h, ho]; rfl
theorem badAt_dir {p : List En} {y : En} {b : Bool} (h : Tr.entry y b = 0) (ho : (p.getLast?.any fun z => !Tr.ahead z y) = false) (hd : Tr.dirBad p (Pt.dirOf y.P) = true) : Tr.badAt p y b = 10 := by unfold Tr.badAt; rw [h, ho, hd]; rfl
theorem badAt_fine {p : List En} {y : En} {b : Bool} (h : Tr.entry y b = 0) (ho : (p.getLast?.any fun z => !Tr.ahead z y) = false) (hd : Tr.dirBad p (Pt.dirOf y.P) = false) : Tr.badAt p y b = 0 := by unfold Tr.badAt; rw [h, ho, hd]; rfl
theorem order_at {l : List En} {m : Nat} {y z : En} {n : Int} (hm : m < l.length) (hz : l[m] = z) (hn : Pt.cmp z.P y.P = n) : ((l.take (m + 1)).getLast?.any fun z => !Tr.ahead z y) = decide (0 ≤ n) := by
  rw [List.take_succ_eq_append_getElem hm, hz, List.getLast?_append]
  show (!Tr.ahead z y) = _
  unfold Tr.ahead
  rw [hn, Bool.eq_iff_iff]
  simp

set_option maxHeartbeats 4000000 in
set_option maxRecDepth 100000 in
theorem check_any (A : Option Addr) (c : Nat) (l : List En) (layer : Bool) (w : World) (hl : EnRd w w.heap.size A l) (hc : l.length ≤ c) (hs : Sm l) (hn : l.length ≤ 2305843009213693952) :
    Calls Tryd.prog 42 #[.slice A l.length c, .bool layer] w fun e w' => e = .returned (.agg #[.int .i64 (Tr.wrong l layer).1, .int .i64 (Tr.wrong l layer).2]) ∧ Below w.heap.size w w' := by
  have hmix : Tryd.prog.follows .mixedOrders = true := by kernel_rfl
  have HS := Lib.hid hs
  clear hs
  have hB0 : Below w.heap.size w (w.alloc (.cells #[.int .i64 0, .int .i64 0] 29)) := (Below.refl _ _).alloc (Nat.le_refl _) _
  have hq0 := Blk.new w 29 [.int .i64 0, .int .i64 0]
  go_enter Tryd.func42, Tryd.ntmps42
  by_cases h80 : 80 < l.length
  · have HW : Hid (Tr.wrong l layer = (5, 0)) := Lib.hid (by unfold Tr.wrong; rw [if_pos h80])
    go_wp2_with fail
    refine bodyPost_ret (v := .agg #[.int .i64 5, .int .i64 0]) ?_ rfl ⟨ret_fault HW.out rfl, ?_⟩
    · simp [results, Tryd.results42, go_sem]
    · first | exact (Below.refl _ _).alloc (Nat.le_refl _) _ | exact (hB0.setCell (by simp) _).setCell (by simp) _
  have HW : Hid (Tr.wrong l layer = Tr.wrongFrom layer (l.take 0) (l.drop 0)) := Lib.hid (by unfold Tr.wrong; rw [if_neg h80]; rfl)
  go_wp2_with fail
  generalize w.alloc (.cells #[.int .i64 0, .int .i64 0] 29) = w0 at *
  go_loopw [17] (fun i wr => ∃ k : Nat, k ≤ l.length ∧ i = .int .i64 k ∧ Hid (Tr.wrong l layer = Tr.wrongFrom layer (l.take k) (l.drop k)) ∧ Hid (Tr.Right layer (l.take k)) ∧ Blk wr w.heap.size 29 [.int .i64 0, .int .i64 0] ∧ Below w.heap.size w wr) (fun i _ => l.length - (intOf i).toNat)
  case atStart => exact ⟨0, Nat.zero_le _, rfl, HW, Lib.hid (Tr.right_nil _), hq0, hB0⟩
  case round =>
    clear hq0 hB0 HW
    obtain ⟨k, hk, rfl, HW, HR, hq, hB⟩ := hrel
    by_cases hlt : k < l.length
    · obtain ⟨b, o, rfl, hb, h0, h1, h2, h3⟩ := (EnRd.at_ (hl.below hB) hlt)
      have HB := Lib.hid (fun (e : Int) (h : Tr.badAt (l.take k) l[k] layer = e) (he : e ≠ 0) => HW.out.trans (Tr.wrongFrom_bad hlt rfl h he))
      have HG := Lib.hid (fun (h : Tr.badAt (l.take k) l[k] layer = 0) => (⟨HW.out.trans (Tr.wrongFrom_ok hlt rfl h), by rw [List.take_succ_eq_append_getElem hlt]; exact Tr.right_snoc.2 ⟨HR.out, h⟩⟩ : Tr.wrong l layer = Tr.wrongFrom layer (l.take (k + 1)) (l.drop (k + 1)) ∧ Tr.Right layer (l.take (k + 1))))
      have hsz := HS.out.at_ hlt
      have hbz : b < wr.heap.size := Nat.lt_of_lt_of_le hb hB.size
      have hbne : w.heap.size ≠ b := by omega
      clear HW
      generalize l[k] = y at h0 h1 h2 h3 HB HG hsz
      have cE := entry_any b (o + k * 4) y layer wr ⟨h0, h1, h2, h3⟩ hbz hsz.1 hsz.2
      clear h1 h2 h3
      obtain ⟨en, hen⟩ : ∃ en, en = Tr.entry y layer := ⟨_, rfl⟩
      rw [← hen] at cE
      have HE := Lib.hid hen.symm
      clear hen
      obtain ⟨q0, q1, qf, qz⟩ := hq.two
      go_wp2_with fail
      refine cE.mono ?_
      rintro e w1 ⟨rfl, hb1⟩
      clear cE q0 q1 qf qz
      have hB1 := hB.trans (hb1.mono hB.size)
      have hq1 := hq.below hb1 hq.lt
      have hy1 := (hb1.cell (p := ⟨b, o + k * 4, none⟩) hbz).trans h0
      have hb1z : b < w1.heap.size := Nat.lt_of_lt_of_le hbz hb1.size
      clear hb1 hB hq h0
      obtain ⟨yp, yk, yt, yo⟩ := y
      dsimp only at hy1 hsz
      rcases te : (en != 0) with _ | _
      rotate_left
      · have hen : en ≠ 0 := by simpa using te
        have HBB := Lib.hid (HB.out en (badAt_entry HE.out hen) hen)
        clear hen
        obtain ⟨q0, q1, qf, qz⟩ := hq1.two
        go_wp2_with fail
        refine bodyPost_ret (v := .agg #[.int .i64 en, .int .i64 k]) ?_ rfl ⟨ret_fault HBB.out rfl, ?_⟩
        · simp [results, Tryd.results42, go_sem, q0, q1]
        · exact (hB1.setCell (by simp) _).setCell (by simp) _
      have HE0 : Hid (Tr.entry ⟨yp, yk, yt, yo⟩ layer = 0) := Lib.hid (by rw [HE.out]; simpa using te)
      obtain ⟨q0, q1, qf, qz⟩ := hq1.two
      rcases k with _ | m
      · have HO2 : Hid ((l.take 0).getLast?.any (fun z => !Tr.ahead z ⟨yp, yk, yt, yo⟩) = false) := Lib.hid rfl
        go_wp2_with fail
        go_quiet (fail)
        have hB2 := below_drewN hB1 nq
        have hq2 := hq1.drewN nq
        have hy2 : (w1.drewN nq).cell? ⟨b, o, none⟩ = some (.string yp) := by simpa using hy1
        have hb2z : b < (w1.drewN nq).heap.size := hb1z
        clear hB1 hq1 hy1 hb1z q0 q1 qf qz
        generalize w1.drewN nq = w2 at *
        obtain ⟨q0, q1, qf, qz⟩ := hq2.two
        go_wp2_with fail
        refine (cut_any yp w2 (by omega)).mono ?_
        rintro e w3 ⟨rfl, hD⟩
        have hB3 := hB2.trans (hD.below (B := w.heap.size))
        have hq3 := hq2.below (hD.below (B := w2.heap.size)) hq2.lt
        have hl3 := hl.below hB3
        clear q0 q1 qf qz
        obtain ⟨sd, hsd⟩ : ∃ sd : ByteArray, sd = ⟨(Pt.dirOf yp.data.toList).toArray⟩ := ⟨_, rfl⟩
        have hsl : sd.data.toList = Pt.dirOf yp.data.toList := by rw [hsd]
        have hst : Pt.str (Pt.dirOf yp.data.toList) = .string sd := by rw [hsd]; rfl
        obtain ⟨sn, hsn⟩ : ∃ sn, Pt.str (Pt.nameOf yp.data.toList) = .string sn := ⟨_, rfl⟩
        rw [hst, hsn]
        have hsz2 : sd.size < 4294967281 := by have := (cut_len yp).1; rw [← hsl, size_length] at this; omega
        have cG := get_any (some ⟨b, o, none⟩) c (l.take (0)) sd w3 ((EnRd.take hl3 _).more hB3.size) (HS.out.take _) hsz2 (by rw [List.length_take]; omega)
        rw [show (l.take (0)).length = 0 by rw [List.length_take]; omega, hsl] at cG
        clear hsd hsl hst hsn hl3 hD
        go_wp2_with fail
        refine cG.mono ?_
        rintro e w4 ⟨r, rfl, hr, hb4⟩
        clear cG
        have hB4 := hB3.trans (hb4.mono hB3.size)
        have hq4 := hq3.below hb4 hq3.lt
        have HD := Lib.hid (dirBad_of (hr.2 (.inl HR.out.2.1)))
        clear hr hb4 hB3 hq3
        generalize r.getD En.zero = d at HD
        generalize r.isSome = ok at HD
        obtain ⟨dp, dk, dt, dop⟩ := d
        simp only [En.agg, En.cells]
        dsimp only at HD
        obtain ⟨q0, q1, qf, qz⟩ := hq4.two
        rcases ok with _ | _
        · go_wp2_with fail
          refine bodyPost_ret (v := .agg #[.int .i64 10, .int .i64 0]) ?_ rfl ⟨ret_fault (HB.out 10 (badAt_dir HE0.out HO2.out (HD.out.trans rfl)) (by decide)) rfl, ?_⟩
          · simp [results, Tryd.results42, go_sem, q0, q1, World.cell?_alloc_lt, qz]
          · have hZ := (hB4.setCell (p := ⟨w.heap.size, 0, none⟩) (Nat.le_refl _) (.int .i64 10)).setCell (p := ⟨w.heap.size, 1, none⟩) (Nat.le_refl _) (.int .i64 0)
            exact hZ.alloc hZ.size _
        rcases tk : (dk != 2) with _ | _
        · have HN := Lib.hid (HG.out (badAt_fine HE0.out HO2.out (HD.out.trans (by rw [tk]; rfl))))
          have hB5 := hB4.alloc hB4.size (.cells #[.string dp, .int .i64 dk, .string dt, .bool dop] 32)
          have hq5 := hq4.alloc (.cells #[.string dp, .int .i64 dk, .string dt, .bool dop] 32)
          go_wp2_with fail
          go_roundw
          case rel => exact ⟨0 + 1, by omega, by go_num, Lib.hid HN.out.1, Lib.hid HN.out.2, hq5, hB5⟩
          case measure => simp [intOf]; omega
        · go_wp2_with fail
          refine bodyPost_ret (v := .agg #[.int .i64 10, .int .i64 0]) ?_ rfl ⟨ret_fault (HB.out 10 (badAt_dir HE0.out HO2.out (HD.out.trans (by rw [tk]; rfl))) (by decide)) rfl, ?_⟩
          · simp [results, Tryd.results42, go_sem, q0, q1, World.cell?_alloc_lt, qz]
          · have hZ := (hB4.setCell (p := ⟨w.heap.size, 0, none⟩) (Nat.le_refl _) (.int .i64 10)).setCell (p := ⟨w.heap.size, 1, none⟩) (Nat.le_refl _) (.int .i64 0)
            exact hZ.alloc hZ.size _
      · have hml : m < l.length := by omega
        obtain ⟨b', o', hbo, _, z0, _, _, _⟩ := (EnRd.at_ (hl.below hB1) hml)
        injection hbo with hbo
        injection hbo with hbo1 hbo2
        subst hbo1 hbo2
        obtain ⟨n, hn⟩ : ∃ n, n = Pt.cmp l[m].P yp.data.toList := ⟨_, rfl⟩
        have HO := Lib.hid (order_at (y := ⟨yp, yk, yt, yo⟩) hml rfl hn.symm)
        have hszm := (HS.out.at_ hml).1
        have cC := fun W => cmp_gr l[m].p yp W hszm hsz.1
        rw [show Pt.cmp l[m].p.data.toList yp.data.toList = n from hn.symm] at cC
        clear hn
        generalize l[m].p = zp at z0 cC hszm
        have z0' := cell_grown hb1z z0
        have y0' := cell_grown hb1z hy1
        have tm : decide ((0 : Int) < ((m + 1 : Nat) : Int)) = true := decide_eq_true (by omega)
        have hwm : IntKind.i64.wrap ((m : Nat) : Int) = (m : Int) := IntWalk.i64_in _ (by omega)
        have hi1 : (m : Int) + 1 < (l.length : Int) := by omega
        have hi0 : (0 : Int) ≤ (m : Int) + 1 := by omega
        have hi2 : ((m : Int) + 1).toNat = m + 1 := by omega
        go_wp2_with fail
        go_quiet_grown ((go_at_call 41; exact Calls.grown_of (cC _)))
        have hB2 := hB1.trans (grow_below (w := w1) hB1.size nq osq)
        have hq2 := hq1.below (grow_below (w := w1) (Nat.le_refl _) nq osq) hq1.lt
        have hy2 := y0' nq osq
        have hb2z : b < (grow (w1.drewN nq) osq).heap.size := Nat.lt_of_lt_of_le hb1z (grow_below (w := w1) (Nat.le_refl _) nq osq).size
        clear hB1 hq1 hy1 hb1z q0 q1 qf qz z0 z0' y0' cC tm hwm hi1 hi0 hi2
        generalize grow (w1.drewN nq) osq = w2 at *
        rcases tn : decide (0 ≤ n) with _ | _
        rotate_left
        · obtain ⟨q0, q1, qf, qz⟩ := hq2.two
          have HBB := Lib.hid (HB.out 2 (badAt_order HE0.out (by rw [HO.out, tn])) (by decide))
          go_wp2_with fail
          refine bodyPost_ret (v := .agg #[.int .i64 2, .int .i64 (m + 1)]) ?_ rfl ⟨ret_fault HBB.out rfl, ?_⟩
          · simp [results, Tryd.results42, go_sem, q0, q1]
          · exact (hB2.setCell (by simp) _).setCell (by simp) _
        have HO2 := Lib.hid (HO.out.trans tn)
        clear HO
        obtain ⟨q0, q1, qf, qz⟩ := hq2.two
        go_wp2_with fail
        refine (cut_any yp w2 (by omega)).mono ?_
        rintro e w3 ⟨rfl, hD⟩
        have hB3 := hB2.trans (hD.below (B := w.heap.size))
        have hq3 := hq2.below (hD.below (B := w2.heap.size)) hq2.lt
        have hl3 := hl.below hB3
        clear q0 q1 qf qz
        obtain ⟨sd, hsd⟩ : ∃ sd : ByteArray, sd = ⟨(Pt.dirOf yp.data.toList).toArray⟩ := ⟨_, rfl⟩
        have hsl : sd.data.toList = Pt.dirOf yp.data.toList := by rw [hsd]
        have hst : Pt.str (Pt.dirOf yp.data.toList) = .string sd := by rw [hsd]; rfl
        obtain ⟨sn, hsn⟩ : ∃ sn, Pt.str (Pt.nameOf yp.data.toList) = .string sn := ⟨_, rfl⟩
        rw [hst, hsn]
        have hsz2 : sd.size < 4294967281 := by have := (cut_len yp).1; rw [← hsl, size_length] at this; omega
        have cG := get_any (some ⟨b, o, none⟩) c (l.take ((m + 1))) sd w3 ((EnRd.take hl3 _).more hB3.size) (HS.out.take _) hsz2 (by rw [List.length_take]; omega)
        rw [show (l.take ((m + 1))).length = (m + 1) by rw [List.length_take]; omega, hsl] at cG
        clear hsd hsl hst hsn hl3 hD
        go_wp2_with fail
        refine cG.mono ?_
        rintro e w4 ⟨r, rfl, hr, hb4⟩
        clear cG
        have hB4 := hB3.trans (hb4.mono hB3.size)
        have hq4 := hq3.below hb4 hq3.lt
        have HD := Lib.hid (dirBad_of (hr.2 (.inl HR.out.2.1)))
        clear hr hb4 hB3 hq3
        generalize r.getD En.zero = d at HD
        generalize r.isSome = ok at HD
        obtain ⟨dp, dk, dt, dop⟩ := d
        simp only [En.agg, En.cells]
        dsimp only at HD
        obtain ⟨q0, q1, qf, qz⟩ := hq4.two
        rcases ok with _ | _
        · go_wp2_with fail
          refine bodyPost_ret (v := .agg #[.int .i64 10, .int .i64 (m + 1)]) ?_ rfl ⟨ret_fault (HB.out 10 (badAt_dir HE0.out HO2.out (HD.out.trans rfl)) (by decide)) rfl, ?_⟩
          · simp [results, Tryd.results42, go_sem, q0, q1, World.cell?_alloc_lt, qz]
          · have hZ := (hB4.setCell (p := ⟨w.heap.size, 0, none⟩) (Nat.le_refl _) (.int .i64 10)).setCell (p := ⟨w.heap.size, 1, none⟩) (Nat.le_refl _) (.int .i64 (m + 1))
            exact hZ.alloc hZ.size _
        rcases tk : (dk != 2) with _ | _
        · have HN := Lib.hid (HG.out (badAt_fine HE0.out HO2.out (HD.out.trans (by rw [tk]; rfl))))
          have hB5 := hB4.alloc hB4.size (.cells #[.string dp, .int .i64 dk, .string dt, .bool dop] 32)
          have hq5 := hq4.alloc (.cells #[.string dp, .int .i64 dk, .string dt, .bool dop] 32)
          go_wp2_with fail
          go_roundw
          case rel => exact ⟨(m + 1) + 1, by omega, by go_num, Lib.hid HN.out.1, Lib.hid HN.out.2, hq5, hB5⟩
          case measure => simp [intOf]; omega
        · go_wp2_with fail
          refine bodyPost_ret (v := .agg #[.int .i64 10, .int .i64 (m + 1)]) ?_ rfl ⟨ret_fault (HB.out 10 (badAt_dir HE0.out HO2.out (HD.out.trans (by rw [tk]; rfl))) (by decide)) rfl, ?_⟩
          · simp [results, Tryd.results42, go_sem, q0, q1, World.cell?_alloc_lt, qz]
          · have hZ := (hB4.setCell (p := ⟨w.heap.size, 0, none⟩) (Nat.le_refl _) (.int .i64 10)).setCell (p := ⟨w.heap.size, 1, none⟩) (Nat.le_refl _) (.int .i64 (m + 1))
            exact hZ.alloc hZ.size _
    · obtain rfl : k = l.length := by omega
      have HZ : Hid (Tr.wrong l layer = (0, 0)) := Lib.hid (by rw [HW.out, List.drop_length]; rfl)
      obtain ⟨q0, q1, qf, qz⟩ := hq.two
      go_wp2_with fail
      refine bodyPost_ret (v := .agg #[.int .i64 0, .int .i64 0]) ?_ rfl ⟨ret_fault HZ.out rfl, ?_⟩
      · simp [results, Tryd.results42, go_sem, q0, q1]
      · exact (hB.setCell (by simp) _).setCell (by simp) _
end Go.Proofs.YtjppfhgkanbemabDoor
