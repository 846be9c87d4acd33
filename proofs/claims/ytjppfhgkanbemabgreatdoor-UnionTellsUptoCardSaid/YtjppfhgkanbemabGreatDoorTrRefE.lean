/-
  The document's Get and WrongEntry. (Printed by wip/genrefe.py.)
-/
import Derived.Test.YtjppfhgkanbemabGreatDoorMG
import Derived.Deep.CutBlock
import Derived.Deep.DeepCutAuto
namespace Go.Proofs.YtjppfhgkanbemabGreatDoor
open Go.RowKit Go.Shelf Go.Sort

theorem get_found {l : List En} {p : Pt.Bs} {k : Nat} (hk : k < l.length) (hp : p ≠ []) (hno : ∀ y ∈ l.take k, y.P ≠ p) (he : l[k].P = p) : Tr.get l p = some l[k] := by
  unfold Tr.get
  rw [if_neg hp]
  have e : l.find? (fun e => e.P == p) = (l.take k ++ l[k] :: l.drop (k + 1)).find? (fun e => e.P == p) := by
    rw [← List.drop_eq_getElem_cons hk, List.take_append_drop]
  rw [e, List.find?_append, List.find?_eq_none.2 (fun y hy => by simp [hno y hy]), Option.none_or, List.find?_cons]
  simp [he]
theorem path_ne {y : En} {p : ByteArray} (h : (y.p.toList == p.toList) = false) : y.P ≠ p.data.toList := by
  rw [beq_eq_false_iff_ne, Lib.toList_data, Lib.toList_data] at h; exact h
theorem path_eq {y : En} {p : ByteArray} (h : (y.p.toList == p.toList) = true) : y.P = p.data.toList := by
  rw [beq_iff_eq, Lib.toList_data, Lib.toList_data] at h; exact h

set_option maxHeartbeats 1600000 in
theorem refGet_any (A : Option Addr) (c : Nat) (l : List En) (p : ByteArray) (w : World) (hl : EnRd w w.heap.size A l) (hn : l.length ≤ 2305843009213693952) :
    Calls Tryz.prog 43 #[.slice A l.length c, .string p] w fun e w' => ∃ r : Option En, e = .returned (.tuple #[(r.getD En.zero).agg, .bool r.isSome]) ∧ r = Tr.get l p.data.toList ∧ Below w.heap.size w w' := by
  rcases empty_cases p with ⟨h0, g1, g2⟩ | ⟨h0, g1, g2⟩
  · have HR : Hid (some En.root = Tr.get l p.data.toList) := Lib.hid (by rw [h0, Tr.get_root])
    clear h0
    go_enter Tryz.func43, Tryz.ntmps43
    go_wp2_with fail
    refine bodyPost_ret (v := .tuple #[En.root.agg, .bool true]) ?_ rfl ⟨some En.root, rfl, HR.out, ?_⟩
    · simp [results, Tryz.results43, go_sem, En.root, En.agg, En.cells]
    · exact (Below.refl _ _).alloc (Nat.le_refl _) _
  · have HP := Lib.hid h0
    clear h0
    have hB0 : Below w.heap.size w (w.alloc (.cells #[.string ⟨#[]⟩, .int .i64 0, .string ⟨#[]⟩, .bool false] 45)) := (Below.refl _ _).alloc (Nat.le_refl _) _
    have hr0 := Blk.new w 45 [.string ⟨#[]⟩, .int .i64 0, .string ⟨#[]⟩, .bool false]
    go_enter Tryz.func43, Tryz.ntmps43
    go_wp2_with fail
    generalize w.alloc (.cells #[.string ⟨#[]⟩, .int .i64 0, .string ⟨#[]⟩, .bool false] 45) = w0 at *
    go_loopw [13] (fun i wr => ∃ k : Nat, k ≤ l.length ∧ i = .int .i64 k ∧ Hid (∀ y ∈ l.take k, y.P ≠ p.data.toList) ∧ Blk wr w.heap.size 45 [.string ⟨#[]⟩, .int .i64 0, .string ⟨#[]⟩, .bool false] ∧ Below w.heap.size w wr) (fun i _ => l.length - (intOf i).toNat)
    case atStart => exact ⟨0, Nat.zero_le _, rfl, Lib.hid (fun y hy => by simp at hy), hr0, hB0⟩
    case round =>
      clear hr0 hB0
      obtain ⟨k, hk, rfl, HNo, hr, hB⟩ := hrel
      by_cases hlt : k < l.length
      · obtain ⟨b, o, rfl, hb, h0, h1, h2, h3⟩ := (EnRd.at_ (hl.below hB) hlt)
        have HF := Lib.hid (get_found hlt HP.out HNo.out)
        have HNx : Hid (l[k].P ≠ p.data.toList → ∀ y ∈ l.take (k + 1), y.P ≠ p.data.toList) := Lib.hid (fun h y hy => by
          rw [List.take_succ_eq_append_getElem hlt, List.mem_append, List.mem_singleton] at hy
          rcases hy with hy | rfl
          · exact HNo.out y hy
          · exact h)
        generalize l[k] = y at h0 h1 h2 h3 HF HNx
        obtain ⟨yp, yk, yt, yo⟩ := y
        dsimp only at h0 h1 h2 h3
        have hr6 := hr.alloc (.cells #[.string yp, .int .i64 yk, .string yt, .bool yo] 45)
        have hB6 := hB.alloc hB.size (.cells #[.string yp, .int .i64 yk, .string yt, .bool yo] 45)
        rcases hpe : (yp.toList == p.toList) with _ | _
        · have HN := Lib.hid (HNx.out (path_ne hpe))
          go_wp2_with fail
          go_roundw
          case rel => exact ⟨k + 1, by omega, by go_num, HN, hr6, hB6⟩
          case measure => simp [intOf]; omega
        · have HR := Lib.hid (HF.out (path_eq hpe)).symm
          obtain ⟨r0, r1, r2, r3, rf, rz⟩ := hr.four
          have hlw : w.heap.size < wr.heap.size := hr.lt
          go_wp2_with fail
          refine bodyPost_ret (v := .tuple #[(En.mk yp yk yt yo).agg, .bool true]) ?_ rfl ⟨some ⟨yp, yk, yt, yo⟩, rfl, HR.out, ?_⟩
          · simp [results, Tryz.results43, go_sem, En.agg, En.cells, r0, r1, r2, r3, World.cell?_alloc_lt, rz]
          · first
            | exact ((((hB6.setCell (by simp) _).setCell (by simp) _).setCell (by simp) _).setCell (by simp) _)
            | (have hZ := (((hB.setCell (p := ⟨w.heap.size, 0, none⟩) (Nat.le_refl _) (.string yp)).setCell (p := ⟨w.heap.size, 1, none⟩) (Nat.le_refl _) (.int .i64 yk)).setCell (p := ⟨w.heap.size, 2, none⟩) (Nat.le_refl _) (.string yt)).setCell (p := ⟨w.heap.size, 3, none⟩) (Nat.le_refl _) (.bool yo)
               exact hZ.alloc hZ.size _)
      · obtain rfl : k = l.length := by omega
        have HR : Hid (none = Tr.get l p.data.toList) := Lib.hid ((Tr.get_none HP.out).2 (fun y hy => HNo.out y (by rw [List.take_length]; exact hy))).symm
        obtain ⟨r0, r1, r2, r3, rf, rz⟩ := hr.four
        go_wp2_with fail
        refine bodyPost_ret (v := .tuple #[En.zero.agg, .bool false]) ?_ rfl ⟨none, rfl, HR.out, ?_⟩
        · simp [results, Tryz.results43, go_sem, En.zero, En.agg, En.cells, r0, r1, r2, r3]
        · exact ((((hB.setCell (by simp) _).setCell (by simp) _).setCell (by simp) _).setCell (by simp) _)

set_option maxHeartbeats 4000000 in
theorem refEntry_any (x : En) (layer : Bool) (w : World) (hs : x.p.size < 4294967281) (ht : x.t.size < 4294967281) :
    Calls Tryz.prog 72 #[.agg #[.string x.p, .int .i64 x.k, .string x.t, .bool x.o], .bool layer] w fun e w' => e = .returned (.int .i64 (Tr.entry x layer)) ∧ Below w.heap.size w w' := by
  have HE := Lib.hid (entry_eq x layer)
  have hc := fun W => refClean_any x.p W hs
  obtain ⟨xp, xk, xt, xo⟩ := x
  have hP : (En.mk xp xk xt xo).P = xp.data.toList := rfl
  rw [hP] at HE
  dsimp only at HE hs ht hc ⊢
  generalize Pt.clean xp.data.toList = cl at HE hc
  generalize Tr.entry ⟨xp, xk, xt, xo⟩ layer = res at HE
  clear hP
  have HB : Below w.heap.size w (w.alloc (.cells #[.string xp, .int .i64 xk, .string xt, .bool xo] 45)) := (Below.refl _ _).alloc (Nat.le_refl _) _
  have hx := Blk.new w 45 [.string xp, .int .i64 xk, .string xt, .bool xo]
  have hW : w.alloc (.cells #[.string xp, .int .i64 xk, .string xt, .bool xo] 45) = w.alloc (.cells #[.string xp, .int .i64 xk, .string xt, .bool xo] 45) := rfl
  go_enter Tryz.func72, Tryz.ntmps72
  go_upto_region 1 with fail
  clear hW
  generalize w.alloc (.cells #[.string xp, .int .i64 xk, .string xt, .bool xo] 45) = w0 at *
  obtain ⟨x0, x1, x2, x3, xfr, xz⟩ := hx.four
  cases layer
  · by_cases k1 : xk < 1
    · have t1 : decide (xk < 1) = true := decide_eq_true k1
      go_wp2_with fail
      go_ret
      exact ⟨ret_num (by rw [HE.out]; simp [t1]), HB⟩
    · by_cases k4 : 4 < xk
      · have t1 : decide (xk < 1) = false := decide_eq_false k1
        have t2 : decide (4 < xk) = true := decide_eq_true k4
        have t2' : decide (3 < xk) = true := decide_eq_true (by omega)
        go_wp2_with fail
        go_ret
        exact ⟨ret_num (by rw [HE.out]; simp [t1, t2']), HB⟩
      · have hk : xk = 1 ∨ xk = 2 ∨ xk = 3 ∨ xk = 4 := by omega
        clear k1 k4
        rcases hk with rfl | rfl | rfl | rfl
        · go_wp2_with fail
          refine (hc _).mono ?_
          rintro e w1 ⟨rfl, hb1⟩
          replace HB := HB.trans (hb1.mono HB.size)
          have hx1 := hx.below hb1 hx.lt
          clear hb1 x0 x1 x2 x3 xfr xz hx
          obtain ⟨x0, x1, x2, x3, xfr, xz⟩ := hx1.four
          cases cl
          · go_wp2_with fail
            go_ret
            exact ⟨ret_num (by rw [HE.out]; simp), HB⟩
          rcases t3 : decide ((100 : Int) < xt.size) with _ | _
          rotate_left
          · go_wp2_with fail
            go_ret
            exact ⟨ret_num (by rw [HE.out]; simp [t3]), HB⟩
          rcases empty_cases xt with ⟨_, g1, g2⟩ | ⟨_, g1, g2⟩
          · cases xo
            · go_wp2_with fail
              go_ret
              exact ⟨ret_num (by rw [HE.out]; simp [t3, g2]), HB⟩
            · go_wp2_with fail
              go_ret
              exact ⟨ret_num (by rw [HE.out]; simp [t3, g2]), HB⟩
          · cases xo
            · go_wp2_with fail
              go_ret
              exact ⟨ret_num (by rw [HE.out]; simp [t3, g2]), HB⟩
            · go_wp2_with fail
              go_ret
              exact ⟨ret_num (by rw [HE.out]; simp [t3, g2]), HB⟩
        · go_wp2_with fail
          refine (hc _).mono ?_
          rintro e w1 ⟨rfl, hb1⟩
          replace HB := HB.trans (hb1.mono HB.size)
          have hx1 := hx.below hb1 hx.lt
          clear hb1 x0 x1 x2 x3 xfr xz hx
          obtain ⟨x0, x1, x2, x3, xfr, xz⟩ := hx1.four
          cases cl
          · go_wp2_with fail
            go_ret
            exact ⟨ret_num (by rw [HE.out]; simp), HB⟩
          rcases t3 : decide ((100 : Int) < xt.size) with _ | _
          rotate_left
          · go_wp2_with fail
            go_ret
            exact ⟨ret_num (by rw [HE.out]; simp [t3]), HB⟩
          rcases empty_cases xt with ⟨_, g1, g2⟩ | ⟨_, g1, g2⟩
          · cases xo
            · go_wp2_with fail
              go_ret
              exact ⟨ret_num (by rw [HE.out]; simp [t3, g2]), HB⟩
            · go_wp2_with fail
              go_ret
              exact ⟨ret_num (by rw [HE.out]; simp [t3, g2]), HB⟩
          · cases xo
            · go_wp2_with fail
              go_ret
              exact ⟨ret_num (by rw [HE.out]; simp [t3, g2]), HB⟩
            · go_wp2_with fail
              go_ret
              exact ⟨ret_num (by rw [HE.out]; simp [t3, g2]), HB⟩
        · go_wp2_with fail
          refine (hc _).mono ?_
          rintro e w1 ⟨rfl, hb1⟩
          replace HB := HB.trans (hb1.mono HB.size)
          have hx1 := hx.below hb1 hx.lt
          clear hb1 x0 x1 x2 x3 xfr xz hx
          obtain ⟨x0, x1, x2, x3, xfr, xz⟩ := hx1.four
          cases cl
          · go_wp2_with fail
            go_ret
            exact ⟨ret_num (by rw [HE.out]; simp), HB⟩
          rcases t3 : decide ((100 : Int) < xt.size) with _ | _
          rotate_left
          · go_wp2_with fail
            go_ret
            exact ⟨ret_num (by rw [HE.out]; simp [t3]), HB⟩
          rcases empty_cases xt with ⟨_, g1, g2⟩ | ⟨_, g1, g2⟩
          · cases xo
            · go_wp2_with fail
              go_ret
              exact ⟨ret_num (by rw [HE.out]; simp [t3, g2]), HB⟩
            · go_wp2_with fail
              go_ret
              exact ⟨ret_num (by rw [HE.out]; simp [t3, g2]), HB⟩
          · cases xo
            · go_wp2_with fail
              go_ret
              exact ⟨ret_num (by rw [HE.out]; simp [t3, g2]), HB⟩
            · go_wp2_with fail
              go_ret
              exact ⟨ret_num (by rw [HE.out]; simp [t3, g2]), HB⟩
        · go_wp2_with fail
          go_ret
          exact ⟨ret_num (by rw [HE.out]; simp), HB⟩
  · by_cases k1 : xk < 1
    · have t1 : decide (xk < 1) = true := decide_eq_true k1
      go_wp2_with fail
      go_ret
      exact ⟨ret_num (by rw [HE.out]; simp [t1]), HB⟩
    · by_cases k4 : 4 < xk
      · have t1 : decide (xk < 1) = false := decide_eq_false k1
        have t2 : decide (4 < xk) = true := decide_eq_true k4
        have t2' : decide (3 < xk) = true := decide_eq_true (by omega)
        go_wp2_with fail
        go_ret
        exact ⟨ret_num (by rw [HE.out]; simp [t1, t2]), HB⟩
      · have hk : xk = 1 ∨ xk = 2 ∨ xk = 3 ∨ xk = 4 := by omega
        clear k1 k4
        rcases hk with rfl | rfl | rfl | rfl
        · go_wp2_with fail
          refine (hc _).mono ?_
          rintro e w1 ⟨rfl, hb1⟩
          replace HB := HB.trans (hb1.mono HB.size)
          have hx1 := hx.below hb1 hx.lt
          clear hb1 x0 x1 x2 x3 xfr xz hx
          obtain ⟨x0, x1, x2, x3, xfr, xz⟩ := hx1.four
          cases cl
          · go_wp2_with fail
            go_ret
            exact ⟨ret_num (by rw [HE.out]; simp), HB⟩
          rcases t3 : decide ((100 : Int) < xt.size) with _ | _
          rotate_left
          · go_wp2_with fail
            go_ret
            exact ⟨ret_num (by rw [HE.out]; simp [t3]), HB⟩
          rcases empty_cases xt with ⟨_, g1, g2⟩ | ⟨_, g1, g2⟩
          · cases xo
            · go_wp2_with fail
              go_ret
              exact ⟨ret_num (by rw [HE.out]; simp [t3, g2]), HB⟩
            · go_wp2_with fail
              go_ret
              exact ⟨ret_num (by rw [HE.out]; simp [t3, g2]), HB⟩
          · cases xo
            · go_wp2_with fail
              go_ret
              exact ⟨ret_num (by rw [HE.out]; simp [t3, g2]), HB⟩
            · go_wp2_with fail
              go_ret
              exact ⟨ret_num (by rw [HE.out]; simp [t3, g2]), HB⟩
        · go_wp2_with fail
          refine (hc _).mono ?_
          rintro e w1 ⟨rfl, hb1⟩
          replace HB := HB.trans (hb1.mono HB.size)
          have hx1 := hx.below hb1 hx.lt
          clear hb1 x0 x1 x2 x3 xfr xz hx
          obtain ⟨x0, x1, x2, x3, xfr, xz⟩ := hx1.four
          cases cl
          · go_wp2_with fail
            go_ret
            exact ⟨ret_num (by rw [HE.out]; simp), HB⟩
          rcases t3 : decide ((100 : Int) < xt.size) with _ | _
          rotate_left
          · go_wp2_with fail
            go_ret
            exact ⟨ret_num (by rw [HE.out]; simp [t3]), HB⟩
          rcases empty_cases xt with ⟨_, g1, g2⟩ | ⟨_, g1, g2⟩
          · cases xo
            · go_wp2_with fail
              go_ret
              exact ⟨ret_num (by rw [HE.out]; simp [t3, g2]), HB⟩
            · go_wp2_with fail
              go_ret
              exact ⟨ret_num (by rw [HE.out]; simp [t3, g2]), HB⟩
          · cases xo
            · go_wp2_with fail
              go_ret
              exact ⟨ret_num (by rw [HE.out]; simp [t3, g2]), HB⟩
            · go_wp2_with fail
              go_ret
              exact ⟨ret_num (by rw [HE.out]; simp [t3, g2]), HB⟩
        · go_wp2_with fail
          refine (hc _).mono ?_
          rintro e w1 ⟨rfl, hb1⟩
          replace HB := HB.trans (hb1.mono HB.size)
          have hx1 := hx.below hb1 hx.lt
          clear hb1 x0 x1 x2 x3 xfr xz hx
          obtain ⟨x0, x1, x2, x3, xfr, xz⟩ := hx1.four
          cases cl
          · go_wp2_with fail
            go_ret
            exact ⟨ret_num (by rw [HE.out]; simp), HB⟩
          rcases t3 : decide ((100 : Int) < xt.size) with _ | _
          rotate_left
          · go_wp2_with fail
            go_ret
            exact ⟨ret_num (by rw [HE.out]; simp [t3]), HB⟩
          rcases empty_cases xt with ⟨_, g1, g2⟩ | ⟨_, g1, g2⟩
          · cases xo
            · go_wp2_with fail
              go_ret
              exact ⟨ret_num (by rw [HE.out]; simp [t3, g2]), HB⟩
            · go_wp2_with fail
              go_ret
              exact ⟨ret_num (by rw [HE.out]; simp [t3, g2]), HB⟩
          · cases xo
            · go_wp2_with fail
              go_ret
              exact ⟨ret_num (by rw [HE.out]; simp [t3, g2]), HB⟩
            · go_wp2_with fail
              go_ret
              exact ⟨ret_num (by rw [HE.out]; simp [t3, g2]), HB⟩
        · go_wp2_with fail
          refine (hc _).mono ?_
          rintro e w1 ⟨rfl, hb1⟩
          replace HB := HB.trans (hb1.mono HB.size)
          have hx1 := hx.below hb1 hx.lt
          clear hb1 x0 x1 x2 x3 xfr xz hx
          obtain ⟨x0, x1, x2, x3, xfr, xz⟩ := hx1.four
          cases cl
          · go_wp2_with fail
            go_ret
            exact ⟨ret_num (by rw [HE.out]; simp), HB⟩
          rcases t3 : decide ((100 : Int) < xt.size) with _ | _
          rotate_left
          · go_wp2_with fail
            go_ret
            exact ⟨ret_num (by rw [HE.out]; simp [t3]), HB⟩
          rcases empty_cases xt with ⟨_, g1, g2⟩ | ⟨_, g1, g2⟩
          · cases xo
            · go_wp2_with fail
              go_ret
              exact ⟨ret_num (by rw [HE.out]; simp [t3, g2]), HB⟩
            · go_wp2_with fail
              go_ret
              exact ⟨ret_num (by rw [HE.out]; simp [t3, g2]), HB⟩
          · cases xo
            · go_wp2_with fail
              go_ret
              exact ⟨ret_num (by rw [HE.out]; simp [t3, g2]), HB⟩
            · go_wp2_with fail
              go_ret
              exact ⟨ret_num (by rw [HE.out]; simp [t3, g2]), HB⟩
end Go.Proofs.YtjppfhgkanbemabGreatDoor
