/-
  Compare in a world that grows; slices.SortFunc at entries.
  tree.Check, tree.Wrong and layer.Wrong. (Printed by wip/gencheck.py.)
  tree.Wrong, layer.Wrong and layer.Hides. (Printed by wip/genhides.py.)
-/
import Derived.Test.YtjppfhgkanbemacGreatDoorME
import Derived.Test.YtjppfhgkanbemacGreatDoorSort
import Derived.Test.YtjppfhgkanbemacGreatDoorShelf
import Derived.Shelf.SlSortCmp.QuietGrown
namespace Go.Proofs.YtjppfhgkanbemacGreatDoor
open Go.RowKit Go.Shelf Go.Sort Go.Lib

theorem grow_below {B : Nat} {w : World} (hB : B ≤ w.heap.size) (n : Nat) (os : Array Obj) : Below B w (grow (w.drewN n) os) :=
  ⟨rfl, rfl, rfl, by show w.heap.size ≤ (w.heap ++ os).size; simp, fun i hi => by show (w.heap ++ os)[i]? = _; exact Array.getElem?_append_left (by omega)⟩
theorem Gr.below {w w' : World} (h : Gr w w') {B : Nat} (hB : B ≤ w.heap.size) : Below B w w' := by
  obtain ⟨n, os, rfl⟩ := h
  exact grow_below hB n os
theorem cmp_gr (s t : ByteArray) (w : World) (hs : s.size < 4294967281) (ht : t.size < 4294967281) :
    Calls Tryz.prog 58 #[.string s, .string t] w fun e w' => e = .returned (.int .i64 (Pt.cmp s.data.toList t.data.toList)) ∧ Gr w w' := by
  have l1 := split_len_le s.data.toList
  have l2 := split_len_le t.data.toList
  rw [size_length] at l1 l2
  have c1 : Calls Tryz.prog 80 #[.string s, .string ⟨#[47]⟩] w fun e w' => e = .returned (.slice (some ⟨w.heap.size, 0, none⟩) (Pt.split s.data.toList).length (Pt.split s.data.toList).length) ∧ w' = w.alloc (.cells ((Pt.split s.data.toList).map Pt.str).toArray 9) :=
    (split_any s w hs).mono fun e w' ⟨n, he, hn, hw⟩ => ⟨by rw [he, hn], hw⟩
  have c2 : Calls Tryz.prog 80 #[.string t, .string ⟨#[47]⟩] (w.alloc (.cells ((Pt.split s.data.toList).map Pt.str).toArray 9)) fun e w' => e = .returned (.slice (some ⟨w.heap.size + 1, 0, none⟩) (Pt.split t.data.toList).length (Pt.split t.data.toList).length) ∧ w' = (w.alloc (.cells ((Pt.split s.data.toList).map Pt.str).toArray 9)).alloc (.cells ((Pt.split t.data.toList).map Pt.str).toArray 9) :=
    (split_any t _ ht).mono fun e w' ⟨n, he, hn, hw⟩ => ⟨by rw [he, hn, World.size_alloc], hw⟩
  have s1 := StrAt.new w (Pt.split s.data.toList)
  have s2 := StrAt.new (w.alloc (.cells ((Pt.split s.data.toList).map Pt.str).toArray 9)) (Pt.split t.data.toList)
  rw [World.size_alloc] at s2
  refine (cmp_core s t _ _ _ _ w _ _ c1 c2 (s1.below ((Below.refl (w.heap.size + 1) _).alloc (by simp) _) (Nat.lt_succ_self _)) s2 (by omega) (by omega)).mono fun e w' ⟨he, hd⟩ => ⟨he, ?_⟩
  obtain ⟨n, rfl⟩ := hd
  exact (((Gr.refl w).alloc _).alloc _).drewN n

/-- An entry whose path is short. -/
def SEn := { e : En // e.p.size < 4294967281 }
instance : Inhabited SEn := ⟨⟨En.zero, by decide⟩⟩
def SEn.cells (x : SEn) : List Value := x.1.cells
def SEn.cf (x y : SEn) : Int := Pt.cmp x.1.P y.1.P
def SEn.val (x : SEn) : En := x.1
theorem sen_swo : SWO (ltOf SEn.cf) where
  irrefl x := by
    show decide (Pt.cmp x.1.P x.1.P < 0) = false
    rw [Pt.cmp_self]; rfl
  trans x y z h1 h2 := by
    have h1 : Pt.cmp x.1.P y.1.P < 0 := of_decide_eq_true h1
    have h2 : Pt.cmp y.1.P z.1.P < 0 := of_decide_eq_true h2
    exact decide_eq_true (Pt.cmp_trans h1 h2)
  ntrans x y z h1 h2 := by
    have h1 : ¬ Pt.cmp x.1.P y.1.P < 0 := of_decide_eq_false h1
    have h2 : ¬ Pt.cmp y.1.P z.1.P < 0 := of_decide_eq_false h2
    refine decide_eq_false fun h => ?_
    by_cases e : x.1.P = y.1.P
    · have h : Pt.cmp x.1.P z.1.P < 0 := h
      rw [e] at h; exact h2 h
    · exact h2 (Pt.cmp_trans (Tr.lt_tri h1 e) h)

set_option maxHeartbeats 800000 in
theorem over1_any (x y : En) (hx : x.p.size < 4294967281) (hy : y.p.size < 4294967281) (W : World) : Calls Tryz.prog 66 #[.agg x.cells.toArray, .agg y.cells.toArray] W fun e w' => e = .returned (.int .i64 (Pt.cmp x.P y.P)) ∧ Gr W w' := by
  obtain ⟨xp, xk, xt, xo⟩ := x
  obtain ⟨yp, yk, yt, yo⟩ := y
  simp only [En.cells]
  dsimp only at hx hy
  go_enter Tryz.func66, Tryz.ntmps66
  go_wp2_with fail
  refine (cmp_gr xp yp _ hx hy).mono ?_
  rintro e w1 ⟨rfl, q, os, rfl⟩
  go_wp2_with fail
  go_ret
  refine ⟨rfl, ?_⟩
  obtain ⟨n, os', h⟩ := ((Gr.refl W).alloc (.cells #[.string xp, .int .i64 xk, .string xt, .bool xo] 53)).alloc (.cells #[.string yp, .int .i64 yk, .string yt, .bool yo] 53)
  rw [h]
  exact ⟨n + q, os' ++ os, by show grow (grow ((W.drewN n).drewN q) os') os = _; rw [grow_grow, World.drewN_drewN]⟩

theorem isAgg_en : ∀ w, (isAgg (Tryz.pdqEn_ren.t 24)).run Tryz.prog w = .ok true w := fun w => by kernel_rfl
theorem sizeOf_en : ∀ w, (Go.sizeOf (Tryz.pdqEn_ren.t 24)).run Tryz.prog w = .ok 4 w := fun w => by kernel_rfl

set_option maxHeartbeats 2000000 in
theorem sortE_core (f : FuncId) (hf : ∀ args w, (callFunc f args).run Tryz.prog w = .ok (.enter f args) w) (hcmp : ∀ (x y : SEn) (W : World), Calls Tryz.prog f #[.agg x.1.cells.toArray, .agg y.1.cells.toArray] W fun e w' => e = .returned (.int .i64 (Pt.cmp x.1.P y.1.P)) ∧ Gr W w')
    (base g cap : Nat) (l : List SEn) (w : World) (h : w.ownsRow base 53 4 (.slice (some ⟨g, 0, none⟩) l.length cap) l.length (l.flatMap SEn.cells)) (hsz : l.length < 4611686018427387904) :
    Calls Tryz.prog 65 #[.slice (some ⟨g, 0, none⟩) l.length cap, .func (.func f) #[] #[]] w fun e w' => e = .returned (.tuple #[]) ∧
      ∃ l' : List SEn, l'.Perm l ∧ (l'.Pairwise fun x y => ltOf SEn.cf y x = false) ∧ w'.ownsRow base 53 4 (.slice (some ⟨g, 0, none⟩) l.length cap) l.length (l'.flatMap SEn.cells) ∧ w.grownBy w' (some g) := by
  have hg : g < w.heap.size := by have := h.lt g rfl; exact this.2
  have hk : ∀ x : SEn, (SEn.cells x).length = 4 := fun _ => rfl
  have h1 : ∀ x : SEn, ∀ v ∈ SEn.cells x, v.oneCell' = true := fun x v hv => by
    simp [SEn.cells, En.cells] at hv; rcases hv with rfl | rfl | rfl | rfl <;> rfl
  have hs : l.toArray.size = l.length := by simp
  have hH := holdsK_own hk h
  have hp := AnyQ.pdqsortCmpFunc_all (P := Tryz.prog) (ρ := Tryz.pdqEn_ren) Tryz.pdqEn 4 isAgg_en sizeOf_en SEn.cells SEn.cf f #[] sen_swo g 0 cap l.toArray w hf (fun m os dk _ x y => hcmp x y _) ⟨hk, h1, hH, hg⟩ (l.length + 1) 0 l.length (Lib.bitLen l.length) l.toArray w (by omega) rfl (SWK.start hH) (Nat.zero_le _) (by rw [hs]; exact Nat.le_refl _) (by rw [hs]; exact hsz)
    (Nat.lt_of_le_of_lt (Lib.bitLen_le l.length 62 (by omega) (by omega)) (by omega)) (Or.inl rfl)
  rw [hs] at hp
  have hl : Calls Tryz.prog 87 #[.int .u64 (l.length : Int)] w fun e w' => e = .returned (.int .i64 (Lib.bitLen l.length : Nat)) ∧ w' = w := by
    have h := Any.bits_Len (SlLaysF0.n15.bits (P := Tryz.prog) (ρ := Tryz.lenEn_ren) Tryz.lenEn) (l.length : Int) w (by omega) (by omega)
    rw [Int.toNat_natCast] at h
    exact h
  have wr : IntKind.u64.wrap (l.length : Int) = l.length := by simp [IntKind.wrap, IntKind.bits, IntKind.signed]; omega
  have HF : Hid (∀ {d' : Array SEn} {nq : Nat} {os : Array Obj}, d'.size = l.length → (sortWorldK SEn.cells 4 w g 0 nq d' os).ownsRow base 53 4 (.slice (some ⟨g, 0, none⟩) l.length cap) l.length (d'.toList.flatMap SEn.cells) ∧ w.grownBy (sortWorldK SEn.cells 4 w g 0 nq d' os) (some g)) := Lib.hid (fun hd => own_sorted hk h hd)
  have HP := Lib.hid (pdq_sorts (ltOf SEn.cf) sen_swo l.toArray 0 l.length (Lib.bitLen l.length) true true (Nat.zero_le _) (by simp) (Or.inl rfl))
  clear hH hcmp hk h1 h hf
  generalize pdq (ltOf SEn.cf) l.toArray 0 l.length (Lib.bitLen l.length) true true = d' at hp HP
  generalize hL : Lib.bitLen l.length = L at hp hl
  clear hL
  go_enter Tryz.func65, Tryz.ntmps65
  go_wp2_with (first | (go_at_call 87; refine hl.mono ?_; rintro e w' ⟨rfl, rfl⟩) | (go_at_call 86; refine hp.mono ?_; rintro e w' ⟨rfl, n, os, rfl⟩))
  go_end0
  obtain ⟨⟨hd, _, hpm⟩, hst⟩ := HP.out
  have hd' : d'.size = l.length := by simpa using hd
  obtain ⟨o1, o2⟩ := HF.out (nq := n) (os := os) hd'
  refine ⟨rfl, d'.toList, ?_, ?_, o1, o2⟩
  · have e1 : d'.extract 0 l.length = d' := by rw [← hd']; simp
    have e2 : l.toArray.extract 0 l.length = l.toArray := by rw [← hs]; simp
    rw [e1, e2] at hpm
    simpa using hpm
  · rw [List.pairwise_iff_getElem]
    intro i j hi hj hij
    have := hst i j (Nat.zero_le _) hij (by simpa [hd'] using hj)
    rw [getElem!_pos d' j (by simpa using hj), getElem!_pos d' i (by simpa using hi)] at this
    simpa using this

/-- THE SORT of a row of entries of the call's own. -/
theorem sortE_any (f : FuncId) (hf : ∀ args w, (callFunc f args).run Tryz.prog w = .ok (.enter f args) w) (hcmp : ∀ (x y : En), x.p.size < 4294967281 → y.p.size < 4294967281 → ∀ (W : World), Calls Tryz.prog f #[.agg x.cells.toArray, .agg y.cells.toArray] W fun e w' => e = .returned (.int .i64 (Pt.cmp x.P y.P)) ∧ Gr W w')
    (base g cap : Nat) (l : List En) (w : World) (h : EnOwn w base (.slice (some ⟨g, 0, none⟩) l.length cap) l) (hs : ∀ e ∈ l, e.p.size < 4294967281) (hsz : l.length < 4611686018427387904) :
    Calls Tryz.prog 65 #[.slice (some ⟨g, 0, none⟩) l.length cap, .func (.func f) #[] #[]] w fun e w' => e = .returned (.tuple #[]) ∧
      ∃ l' : List En, l'.Perm l ∧ (l'.Pairwise fun x y => ¬ Pt.cmp y.P x.P < 0) ∧ EnOwn w' base (.slice (some ⟨g, 0, none⟩) l.length cap) l' ∧ w.grownBy w' (some g) := by
  have hmk : ∀ l : List En, (∀ e ∈ l, e.p.size < 4294967281) → ∃ m : List SEn, m.map SEn.val = l := by
    intro l
    induction l with
    | nil => intro _; exact ⟨[], rfl⟩
    | cons x r ih =>
      intro h
      obtain ⟨m, hm⟩ := ih fun e he => h e (by simp [he])
      exact ⟨⟨x, h x (by simp)⟩ :: m, congrArg (List.cons x) hm⟩
  obtain ⟨m, e1⟩ := hmk l hs
  have e2 : m.length = l.length := by rw [← e1, List.length_map]
  have e3 : ∀ m : List SEn, m.flatMap SEn.cells = En.flat (m.map SEn.val) := by
    intro m
    induction m with
    | nil => rfl
    | cons x r ih => rw [List.flatMap_cons, ih]; rfl
  have c := sortE_core f hf (fun x y W => hcmp x.1 y.1 x.2 y.2 W) base g cap m w (by rw [e2, e3, e1]; exact h) (by omega)
  rw [e2] at c
  refine c.mono ?_
  rintro e w' ⟨rfl, m', hp, hst, ho, hg⟩
  have hp' : (m'.map SEn.val).Perm l := by rw [← e1]; exact hp.map _
  refine ⟨rfl, m'.map SEn.val, hp', ?_, ?_, hg⟩
  · exact List.pairwise_map.2 (List.Pairwise.imp (fun {a b} h => (of_decide_eq_false h : ¬ Pt.cmp b.1.P a.1.P < 0)) hst)
  · unfold EnOwn
    rw [hp'.length_eq, ← e3]
    exact ho
end Go.Proofs.YtjppfhgkanbemacGreatDoor

namespace Go.Proofs.YtjppfhgkanbemacGreatDoor
open Go.RowKit Go.Shelf Go.Sort

theorem ret_fault {l : List En} {b : Bool} {p : Int × Int} {e a : Int} (h0 : Tr.wrong l b = p) (h : p = (e, a)) : Ending.returned (.agg #[.int .i64 e, .int .i64 a]) = .returned (.agg #[.int .i64 (Tr.wrong l b).1, .int .i64 (Tr.wrong l b).2]) := by rw [h0, h]
theorem dirBad_of {p : List En} {d : Pt.Bs} {r : Option En} (h : r = Tr.get p d) : Tr.dirBad p d = (!r.isSome || (r.getD En.zero).k != 2) := by
  unfold Tr.dirBad; rw [← h]; cases r <;> rfl
theorem badAt_entry {p : List En} {y : En} {b : Bool} {n : Int} (h : Tr.entry y b = n) (hn : n ≠ 0) : Tr.badAt p y b = n := by unfold Tr.badAt; rw [h, if_pos hn]
theorem badAt_order {p : List En} {y : En} {b : Bool} (h : Tr.entry y b = 0) (ho : (p.getLast?.any fun z => !Tr.ahead z y) = true) : Tr.badAt p y b = 2 := by unfold Tr.badAt; rw [h, ho]; rfl
theorem badAt_dir {p : List En} {y : En} {b : Bool} (h : Tr.entry y b = 0) (ho : (p.getLast?.any fun z => !Tr.ahead z y) = false) (hd : Tr.dirBad p (Pt.dirOf y.P) = true) : Tr.badAt p y b = 10 := by unfold Tr.badAt; rw [h, ho, hd]; rfl
theorem badAt_fine {p : List En} {y : En} {b : Bool} (h : Tr.entry y b = 0) (ho : (p.getLast?.any fun z => !Tr.ahead z y) = false) (hd : Tr.dirBad p (Pt.dirOf y.P) = false) : Tr.badAt p y b = 0 := by unfold Tr.badAt; rw [h, ho, hd]; rfl
theorem order_at {l : List En} {m : Nat} {y z : En} {n : Int} (hm : m < l.length) (hz : l[m] = z) (hn : Pt.cmp z.P y.P = n) : ((l.take (m + 1)).getLast?.any fun z => !Tr.ahead z y) = decide (0 ≤ n) := by
  rw [List.take_succ_eq_append_getElem hm, hz, List.getLast?_append]
  show (!Tr.ahead z y) = _
  unfold Tr.ahead
  rw [hn, Bool.eq_iff_iff]
  simp

set_option maxHeartbeats 4000000 in
set_option maxRecDepth 100000 in
theorem check_any (A : Option Addr) (c : Nat) (l : List En) (layer : Bool) (w : World) (hl : EnRd w w.heap.size A l) (hc : l.length ≤ c) (hs : Sm l) (hn : l.length ≤ 2305843009213693952) :
    Calls Tryz.prog 43 #[.slice A l.length c, .bool layer] w fun e w' => e = .returned (.agg #[.int .i64 (Tr.wrong l layer).1, .int .i64 (Tr.wrong l layer).2]) ∧ Below w.heap.size w w' := by
  have hmix : Tryz.prog.follows .mixedOrders = true := by kernel_rfl
  have HS := Lib.hid hs
  clear hs
  have hB0 : Below w.heap.size w (w.alloc (.cells #[.int .i64 0, .int .i64 0] 46)) := (Below.refl _ _).alloc (Nat.le_refl _) _
  have hq0 := Blk.new w 46 [.int .i64 0, .int .i64 0]
  go_enter Tryz.func43, Tryz.ntmps43
  by_cases h80 : 80 < l.length
  · have HW : Hid (Tr.wrong l layer = (5, 0)) := Lib.hid (by unfold Tr.wrong; rw [if_pos h80])
    go_wp2_with fail
    refine bodyPost_ret (v := .agg #[.int .i64 5, .int .i64 0]) ?_ rfl ⟨ret_fault HW.out rfl, ?_⟩
    · simp [results, Tryz.results43, go_sem]
    · first | exact (Below.refl _ _).alloc (Nat.le_refl _) _ | exact (hB0.setCell (by simp) _).setCell (by simp) _
  have HW : Hid (Tr.wrong l layer = Tr.wrongFrom layer (l.take 0) (l.drop 0)) := Lib.hid (by unfold Tr.wrong; rw [if_neg h80]; rfl)
  go_wp2_with fail
  generalize w.alloc (.cells #[.int .i64 0, .int .i64 0] 46) = w0 at *
  go_loopw [17] (fun i wr => ∃ k : Nat, k ≤ l.length ∧ i = .int .i64 k ∧ Hid (Tr.wrong l layer = Tr.wrongFrom layer (l.take k) (l.drop k)) ∧ Hid (Tr.Right layer (l.take k)) ∧ Blk wr w.heap.size 46 [.int .i64 0, .int .i64 0] ∧ Below w.heap.size w wr) (fun i _ => l.length - (intOf i).toNat)
  case atStart => exact ⟨0, Nat.zero_le _, rfl, HW, Lib.hid (Tr.right_nil _), hq0, hB0⟩
  case round =>
    clear hq0 hB0 HW
    obtain ⟨k, hk, rfl, HW, HR, hq, hB⟩ := hrel
    by_cases hlt : k < l.length
    · obtain ⟨b, o, rfl, hb, h0, h1, h2, h3⟩ := (EnRd.at_ (hl.below hB) hlt)
      have HB := Lib.hid (fun (e : Int) (h : Tr.badAt (l.take k) l[k] layer = e) (he : e ≠ 0) => HW.out.trans (Tr.wrongFrom_bad hlt rfl h he))
      have HG := Lib.hid (fun (h : Tr.badAt (l.take k) l[k] layer = 0) => (⟨HW.out.trans (Tr.wrongFrom_ok hlt rfl h), by rw [List.take_succ_eq_append_getElem hlt]; exact Tr.right_snoc.2 ⟨HR.out, h⟩⟩ : Tr.wrong l layer = Tr.wrongFrom layer (l.take (k + 1)) (l.drop (k + 1)) ∧ Tr.Right layer (l.take (k + 1))))
      have hsz := HS.out.at_ hlt
      have hbz : b < wr.heap.size := Nat.lt_of_lt_of_le hb hB.size
      have hbne : w.heap.size ≠ b := by omega
      clear HW
      generalize l[k] = y at h0 h1 h2 h3 HB HG hsz
      have cE := entry_any b (o + k * 4) y layer wr ⟨h0, h1, h2, h3⟩ hbz hsz.1 hsz.2
      clear h1 h2 h3
      obtain ⟨en, hen⟩ : ∃ en, en = Tr.entry y layer := ⟨_, rfl⟩
      rw [← hen] at cE
      have HE := Lib.hid hen.symm
      clear hen
      obtain ⟨q0, q1, qf, qz⟩ := hq.two
      go_wp2_with fail
      refine cE.mono ?_
      rintro e w1 ⟨rfl, hb1⟩
      clear cE q0 q1 qf qz
      have hB1 := hB.trans (hb1.mono hB.size)
      have hq1 := hq.below hb1 hq.lt
      have hy1 := (hb1.cell (p := ⟨b, o + k * 4, none⟩) hbz).trans h0
      have hb1z : b < w1.heap.size := Nat.lt_of_lt_of_le hbz hb1.size
      clear hb1 hB hq h0
      obtain ⟨yp, yk, yt, yo⟩ := y
      dsimp only at hy1 hsz
      rcases te : (en != 0) with _ | _
      rotate_left
      · have hen : en ≠ 0 := by simpa using te
        have HBB := Lib.hid (HB.out en (badAt_entry HE.out hen) hen)
        clear hen
        obtain ⟨q0, q1, qf, qz⟩ := hq1.two
        go_wp2_with fail
        refine bodyPost_ret (v := .agg #[.int .i64 en, .int .i64 k]) ?_ rfl ⟨ret_fault HBB.out rfl, ?_⟩
        · simp [results, Tryz.results43, go_sem, q0, q1]
        · exact (hB1.setCell (by simp) _).setCell (by simp) _
      have HE0 : Hid (Tr.entry ⟨yp, yk, yt, yo⟩ layer = 0) := Lib.hid (by rw [HE.out]; simpa using te)
      obtain ⟨q0, q1, qf, qz⟩ := hq1.two
      rcases k with _ | m
      · have HO2 : Hid ((l.take 0).getLast?.any (fun z => !Tr.ahead z ⟨yp, yk, yt, yo⟩) = false) := Lib.hid rfl
        go_wp2_with fail
        go_quiet (fail)
        have hB2 := below_drewN hB1 nq
        have hq2 := hq1.drewN nq
        have hy2 : (w1.drewN nq).cell? ⟨b, o, none⟩ = some (.string yp) := by simpa using hy1
        have hb2z : b < (w1.drewN nq).heap.size := hb1z
        clear hB1 hq1 hy1 hb1z q0 q1 qf qz
        generalize w1.drewN nq = w2 at *
        obtain ⟨q0, q1, qf, qz⟩ := hq2.two
        go_wp2_with fail
        refine (cut_any yp w2 (by omega)).mono ?_
        rintro e w3 ⟨rfl, hD⟩
        have hB3 := hB2.trans (hD.below (B := w.heap.size))
        have hq3 := hq2.below (hD.below (B := w2.heap.size)) hq2.lt
        have hl3 := hl.below hB3
        clear q0 q1 qf qz
        obtain ⟨sd, hsd⟩ : ∃ sd : ByteArray, sd = ⟨(Pt.dirOf yp.data.toList).toArray⟩ := ⟨_, rfl⟩
        have hsl : sd.data.toList = Pt.dirOf yp.data.toList := by rw [hsd]
        have hst : Pt.str (Pt.dirOf yp.data.toList) = .string sd := by rw [hsd]; rfl
        obtain ⟨sn, hsn⟩ : ∃ sn, Pt.str (Pt.nameOf yp.data.toList) = .string sn := ⟨_, rfl⟩
        rw [hst, hsn]
        have hsz2 : sd.size < 4294967281 := by have := (cut_len yp).1; rw [← hsl, size_length] at this; omega
        have cG := get_any (some ⟨b, o, none⟩) c (l.take (0)) sd w3 ((EnRd.take hl3 _).more hB3.size) (HS.out.take _) hsz2 (by rw [List.length_take]; omega)
        rw [show (l.take (0)).length = 0 by rw [List.length_take]; omega, hsl] at cG
        clear hsd hsl hst hsn hl3 hD
        go_wp2_with fail
        refine cG.mono ?_
        rintro e w4 ⟨r, rfl, hr, hb4⟩
        clear cG
        have hB4 := hB3.trans (hb4.mono hB3.size)
        have hq4 := hq3.below hb4 hq3.lt
        have HD := Lib.hid (dirBad_of (hr.2 (.inl HR.out.2.1)))
        clear hr hb4 hB3 hq3
        generalize r.getD En.zero = d at HD
        generalize r.isSome = ok at HD
        obtain ⟨dp, dk, dt, dop⟩ := d
        simp only [En.agg, En.cells]
        dsimp only at HD
        obtain ⟨q0, q1, qf, qz⟩ := hq4.two
        rcases ok with _ | _
        · go_wp2_with fail
          refine bodyPost_ret (v := .agg #[.int .i64 10, .int .i64 0]) ?_ rfl ⟨ret_fault (HB.out 10 (badAt_dir HE0.out HO2.out (HD.out.trans rfl)) (by decide)) rfl, ?_⟩
          · simp [results, Tryz.results43, go_sem, q0, q1, World.cell?_alloc_lt, qz]
          · have hZ := (hB4.setCell (p := ⟨w.heap.size, 0, none⟩) (Nat.le_refl _) (.int .i64 10)).setCell (p := ⟨w.heap.size, 1, none⟩) (Nat.le_refl _) (.int .i64 0)
            exact hZ.alloc hZ.size _
        rcases tk : (dk != 2) with _ | _
        · have HN := Lib.hid (HG.out (badAt_fine HE0.out HO2.out (HD.out.trans (by rw [tk]; rfl))))
          have hB5 := hB4.alloc hB4.size (.cells #[.string dp, .int .i64 dk, .string dt, .bool dop] 53)
          have hq5 := hq4.alloc (.cells #[.string dp, .int .i64 dk, .string dt, .bool dop] 53)
          go_wp2_with fail
          go_roundw
          case rel => exact ⟨0 + 1, by omega, by go_num, Lib.hid HN.out.1, Lib.hid HN.out.2, hq5, hB5⟩
          case measure => simp [intOf]; omega
        · go_wp2_with fail
          refine bodyPost_ret (v := .agg #[.int .i64 10, .int .i64 0]) ?_ rfl ⟨ret_fault (HB.out 10 (badAt_dir HE0.out HO2.out (HD.out.trans (by rw [tk]; rfl))) (by decide)) rfl, ?_⟩
          · simp [results, Tryz.results43, go_sem, q0, q1, World.cell?_alloc_lt, qz]
          · have hZ := (hB4.setCell (p := ⟨w.heap.size, 0, none⟩) (Nat.le_refl _) (.int .i64 10)).setCell (p := ⟨w.heap.size, 1, none⟩) (Nat.le_refl _) (.int .i64 0)
            exact hZ.alloc hZ.size _
      · have hml : m < l.length := by omega
        obtain ⟨b', o', hbo, _, z0, _, _, _⟩ := (EnRd.at_ (hl.below hB1) hml)
        injection hbo with hbo
        injection hbo with hbo1 hbo2
        subst hbo1 hbo2
        obtain ⟨n, hn⟩ : ∃ n, n = Pt.cmp l[m].P yp.data.toList := ⟨_, rfl⟩
        have HO := Lib.hid (order_at (y := ⟨yp, yk, yt, yo⟩) hml rfl hn.symm)
        have hszm := (HS.out.at_ hml).1
        have cC := fun W => cmp_gr l[m].p yp W hszm hsz.1
        rw [show Pt.cmp l[m].p.data.toList yp.data.toList = n from hn.symm] at cC
        clear hn
        generalize l[m].p = zp at z0 cC hszm
        have z0' := cell_grown hb1z z0
        have y0' := cell_grown hb1z hy1
        have tm : decide ((0 : Int) < ((m + 1 : Nat) : Int)) = true := decide_eq_true (by omega)
        have hwm : IntKind.i64.wrap ((m : Nat) : Int) = (m : Int) := IntWalk.i64_in _ (by omega)
        have hi1 : (m : Int) + 1 < (l.length : Int) := by omega
        have hi0 : (0 : Int) ≤ (m : Int) + 1 := by omega
        have hi2 : ((m : Int) + 1).toNat = m + 1 := by omega
        go_wp2_with fail
        go_quiet_grown ((go_at_call 58; exact Calls.grown_of (cC _)))
        have hB2 := hB1.trans (grow_below (w := w1) hB1.size nq osq)
        have hq2 := hq1.below (grow_below (w := w1) (Nat.le_refl _) nq osq) hq1.lt
        have hy2 := y0' nq osq
        have hb2z : b < (grow (w1.drewN nq) osq).heap.size := Nat.lt_of_lt_of_le hb1z (grow_below (w := w1) (Nat.le_refl _) nq osq).size
        clear hB1 hq1 hy1 hb1z q0 q1 qf qz z0 z0' y0' cC tm hwm hi1 hi0 hi2
        generalize grow (w1.drewN nq) osq = w2 at *
        rcases tn : decide (0 ≤ n) with _ | _
        rotate_left
        · obtain ⟨q0, q1, qf, qz⟩ := hq2.two
          have HBB := Lib.hid (HB.out 2 (badAt_order HE0.out (by rw [HO.out, tn])) (by decide))
          go_wp2_with fail
          refine bodyPost_ret (v := .agg #[.int .i64 2, .int .i64 (m + 1)]) ?_ rfl ⟨ret_fault HBB.out rfl, ?_⟩
          · simp [results, Tryz.results43, go_sem, q0, q1]
          · exact (hB2.setCell (by simp) _).setCell (by simp) _
        have HO2 := Lib.hid (HO.out.trans tn)
        clear HO
        obtain ⟨q0, q1, qf, qz⟩ := hq2.two
        go_wp2_with fail
        refine (cut_any yp w2 (by omega)).mono ?_
        rintro e w3 ⟨rfl, hD⟩
        have hB3 := hB2.trans (hD.below (B := w.heap.size))
        have hq3 := hq2.below (hD.below (B := w2.heap.size)) hq2.lt
        have hl3 := hl.below hB3
        clear q0 q1 qf qz
        obtain ⟨sd, hsd⟩ : ∃ sd : ByteArray, sd = ⟨(Pt.dirOf yp.data.toList).toArray⟩ := ⟨_, rfl⟩
        have hsl : sd.data.toList = Pt.dirOf yp.data.toList := by rw [hsd]
        have hst : Pt.str (Pt.dirOf yp.data.toList) = .string sd := by rw [hsd]; rfl
        obtain ⟨sn, hsn⟩ : ∃ sn, Pt.str (Pt.nameOf yp.data.toList) = .string sn := ⟨_, rfl⟩
        rw [hst, hsn]
        have hsz2 : sd.size < 4294967281 := by have := (cut_len yp).1; rw [← hsl, size_length] at this; omega
        have cG := get_any (some ⟨b, o, none⟩) c (l.take ((m + 1))) sd w3 ((EnRd.take hl3 _).more hB3.size) (HS.out.take _) hsz2 (by rw [List.length_take]; omega)
        rw [show (l.take ((m + 1))).length = (m + 1) by rw [List.length_take]; omega, hsl] at cG
        clear hsd hsl hst hsn hl3 hD
        go_wp2_with fail
        refine cG.mono ?_
        rintro e w4 ⟨r, rfl, hr, hb4⟩
        clear cG
        have hB4 := hB3.trans (hb4.mono hB3.size)
        have hq4 := hq3.below hb4 hq3.lt
        have HD := Lib.hid (dirBad_of (hr.2 (.inl HR.out.2.1)))
        clear hr hb4 hB3 hq3
        generalize r.getD En.zero = d at HD
        generalize r.isSome = ok at HD
        obtain ⟨dp, dk, dt, dop⟩ := d
        simp only [En.agg, En.cells]
        dsimp only at HD
        obtain ⟨q0, q1, qf, qz⟩ := hq4.two
        rcases ok with _ | _
        · go_wp2_with fail
          refine bodyPost_ret (v := .agg #[.int .i64 10, .int .i64 (m + 1)]) ?_ rfl ⟨ret_fault (HB.out 10 (badAt_dir HE0.out HO2.out (HD.out.trans rfl)) (by decide)) rfl, ?_⟩
          · simp [results, Tryz.results43, go_sem, q0, q1, World.cell?_alloc_lt, qz]
          · have hZ := (hB4.setCell (p := ⟨w.heap.size, 0, none⟩) (Nat.le_refl _) (.int .i64 10)).setCell (p := ⟨w.heap.size, 1, none⟩) (Nat.le_refl _) (.int .i64 (m + 1))
            exact hZ.alloc hZ.size _
        rcases tk : (dk != 2) with _ | _
        · have HN := Lib.hid (HG.out (badAt_fine HE0.out HO2.out (HD.out.trans (by rw [tk]; rfl))))
          have hB5 := hB4.alloc hB4.size (.cells #[.string dp, .int .i64 dk, .string dt, .bool dop] 53)
          have hq5 := hq4.alloc (.cells #[.string dp, .int .i64 dk, .string dt, .bool dop] 53)
          go_wp2_with fail
          go_roundw
          case rel => exact ⟨(m + 1) + 1, by omega, by go_num, Lib.hid HN.out.1, Lib.hid HN.out.2, hq5, hB5⟩
          case measure => simp [intOf]; omega
        · go_wp2_with fail
          refine bodyPost_ret (v := .agg #[.int .i64 10, .int .i64 (m + 1)]) ?_ rfl ⟨ret_fault (HB.out 10 (badAt_dir HE0.out HO2.out (HD.out.trans (by rw [tk]; rfl))) (by decide)) rfl, ?_⟩
          · simp [results, Tryz.results43, go_sem, q0, q1, World.cell?_alloc_lt, qz]
          · have hZ := (hB4.setCell (p := ⟨w.heap.size, 0, none⟩) (Nat.le_refl _) (.int .i64 10)).setCell (p := ⟨w.heap.size, 1, none⟩) (Nat.le_refl _) (.int .i64 (m + 1))
            exact hZ.alloc hZ.size _
    · obtain rfl : k = l.length := by omega
      have HZ : Hid (Tr.wrong l layer = (0, 0)) := Lib.hid (by rw [HW.out, List.drop_length]; rfl)
      obtain ⟨q0, q1, qf, qz⟩ := hq.two
      go_wp2_with fail
      refine bodyPost_ret (v := .agg #[.int .i64 0, .int .i64 0]) ?_ rfl ⟨ret_fault HZ.out rfl, ?_⟩
      · simp [results, Tryz.results43, go_sem, q0, q1]
      · exact (hB.setCell (by simp) _).setCell (by simp) _
end Go.Proofs.YtjppfhgkanbemacGreatDoor

namespace Go.Proofs.YtjppfhgkanbemacGreatDoor
open Go.RowKit Go.Shelf Go.Sort

theorem wrongT_any (A : Option Addr) (c : Nat) (l : List En) (w : World) (hl : EnRd w w.heap.size A l) (hc : l.length ≤ c) (hs : Sm l) (hn : l.length ≤ 2305843009213693952) :
    Calls Tryz.prog 20 #[.slice A l.length c] w fun e w' => e = .returned (.agg #[.int .i64 (Tr.wrong l false).1, .int .i64 (Tr.wrong l false).2]) ∧ Below w.heap.size w w' := by
  have hB0 : Below w.heap.size w (w.alloc (.cells #[.int .i64 0, .int .i64 0] 46)) := (Below.refl _ _).alloc (Nat.le_refl _) _
  have hq0 := Blk.new w 46 [.int .i64 0, .int .i64 0]
  have cK := fun W h => check_any A c l false W h hc hs hn
  obtain ⟨pr, hpr⟩ : ∃ pr, pr = Tr.wrong l false := ⟨_, rfl⟩
  rw [← hpr] at cK ⊢
  obtain ⟨x, y⟩ := pr
  clear hpr
  dsimp only at cK ⊢
  go_enter Tryz.func20, Tryz.ntmps20
  go_wp2_with fail
  generalize w.alloc (.cells #[.int .i64 0, .int .i64 0] 46) = w0 at *
  refine (cK w0 ((hl.below hB0).more hB0.size)).mono ?_
  rintro e w1 ⟨rfl, hb⟩
  have hB1 := hB0.trans (hb.mono hB0.size)
  have hq1 := hq0.below hb hq0.lt
  obtain ⟨q0, q1, qf, qz⟩ := hq1.two
  go_wp2_with fail
  refine bodyPost_ret (v := .agg #[.int .i64 x, .int .i64 y]) ?_ rfl ⟨rfl, ?_⟩
  · simp [results, Tryz.results20, go_sem, q0, q1]
  · exact (hB1.setCell (by simp) _).setCell (by simp) _

theorem wrongL_any (A : Option Addr) (c : Nat) (l : List En) (w : World) (hl : EnRd w w.heap.size A l) (hc : l.length ≤ c) (hs : Sm l) (hn : l.length ≤ 2305843009213693952) :
    Calls Tryz.prog 49 #[.slice A l.length c] w fun e w' => e = .returned (.agg #[.int .i64 (Tr.wrong l true).1, .int .i64 (Tr.wrong l true).2]) ∧ Below w.heap.size w w' := by
  have hB0 : Below w.heap.size w (w.alloc (.cells #[.int .i64 0, .int .i64 0] 46)) := (Below.refl _ _).alloc (Nat.le_refl _) _
  have hq0 := Blk.new w 46 [.int .i64 0, .int .i64 0]
  have cK := fun W h => check_any A c l true W h hc hs hn
  obtain ⟨pr, hpr⟩ : ∃ pr, pr = Tr.wrong l true := ⟨_, rfl⟩
  rw [← hpr] at cK ⊢
  obtain ⟨x, y⟩ := pr
  clear hpr
  dsimp only at cK ⊢
  go_enter Tryz.func49, Tryz.ntmps49
  go_wp2_with fail
  generalize w.alloc (.cells #[.int .i64 0, .int .i64 0] 46) = w0 at *
  refine (cK w0 ((hl.below hB0).more hB0.size)).mono ?_
  rintro e w1 ⟨rfl, hb⟩
  have hB1 := hB0.trans (hb.mono hB0.size)
  have hq1 := hq0.below hb hq0.lt
  obtain ⟨q0, q1, qf, qz⟩ := hq1.two
  go_wp2_with fail
  refine bodyPost_ret (v := .agg #[.int .i64 x, .int .i64 y]) ?_ rfl ⟨rfl, ?_⟩
  · simp [results, Tryz.results49, go_sem, q0, q1]
  · exact (hB1.setCell (by simp) _).setCell (by simp) _

def strLen : Value → Nat
  | .string s => s.size
  | _ => 0
theorem hides_step {l : List En} {p : Pt.Bs} {r : Option En} (h : r = Tr.get l p) : Tr.hides l p = ((r.isSome && (r.getD En.zero).k != 2) || Tr.hidAll l (Pt.dirOf p)) := by
  unfold Tr.hides Tr.own; rw [← h]; cases r <;> rfl
theorem hidAll_step {l : List En} {q : Pt.Bs} {r : Option En} (hq : ¬ q = []) (h : r = Tr.get l q) : Tr.hidAll l q = ((r.isSome && ((r.getD En.zero).k != 2 || (r.getD En.zero).o)) || Tr.hidAll l (Pt.dirOf q)) := by
  rw [Tr.hidAll_cons l hq]; unfold Tr.bad; rw [← h]; cases r <;> rfl

set_option maxHeartbeats 4000000 in
theorem hides_any (A : Option Addr) (c : Nat) (l : List En) (p : ByteArray) (w : World) (hl : EnRd w w.heap.size A l) (hs : Sm l) (hsrt : Tr.Srt l) (hp : p.size < 4294967281) (hn : l.length ≤ 2305843009213693952) :
    Calls Tryz.prog 64 #[.slice A l.length c, .string p] w fun e w' => e = .returned (.bool (Tr.hides l p.data.toList)) ∧ Below w.heap.size w w' := by
  have HS := Lib.hid hs
  have HT := Lib.hid hsrt
  clear hs hsrt
  go_enter Tryz.func64, Tryz.ntmps64
  go_wp2_with fail
  go_loopw [5] (fun v wr => ∃ q : ByteArray, v = .string q ∧ (q = p ∨ (q.size < p.size ∧ Hid (Tr.hides l p.data.toList = Tr.hidAll l q.data.toList))) ∧ Below w.heap.size w wr) (fun v _ => strLen v)
  case atStart => exact ⟨p, rfl, .inl rfl, Below.refl _ _⟩
  case round =>
    obtain ⟨q, rfl, hcase, hB⟩ := hrel
    have hqs : q.size < 4294967281 := by rcases hcase with h | h; · rw [h]; exact hp
                                         · omega
    rcases empty_cases q with ⟨hE, g1, g2⟩ | ⟨hE, g1, g2⟩
    · have HF : Hid (Tr.hides l p.data.toList = false) := by
        rcases hcase with h | ⟨_, h⟩
        · subst h; exact Lib.hid (by rw [hE]; exact Tr.hides_nil l)
        · exact Lib.hid (by rw [h.out, hE]; exact Tr.hidAll_nil l)
      clear hE
      go_wp2_with fail
      go_ret
      exact ⟨ret_bool HF.out.symm, hB⟩
    · have HE := Lib.hid hE
      clear hE
      go_wp2_with fail
      refine (get_any A c l q wr ((hl.below hB).more hB.size) HS.out hqs hn).mono ?_
      rintro e w1 ⟨r, rfl, hr, hb⟩
      have hB1 := hB.trans (hb.mono hB.size)
      have HR := Lib.hid (hr.2 (.inl HT.out))
      clear hr hb hB
      rcases hcase with h | ⟨hlq, HL⟩
      · subst h
        have HQ := Lib.hid (hides_step HR.out)
        clear HR
        generalize r.getD En.zero = d at HQ
        generalize r.isSome = ok at HQ
        have HR := HQ
        obtain ⟨dp, dk, dt, dop⟩ := d
        simp only [En.agg, En.cells]
        dsimp only at HQ
        cases ok
        · go_wp2_with fail
          refine (cut_any q _ (by omega)).mono ?_
          rintro e w3 ⟨rfl, hD⟩
          have hB3 := (hB1.alloc hB1.size (.cells #[.string dp, .int .i64 dk, .string dt, .bool dop] 53)).trans (hD.below (B := w.heap.size))
          clear hD
          obtain ⟨sd, hsd⟩ : ∃ sd : ByteArray, sd = ⟨(Pt.dirOf q.data.toList).toArray⟩ := ⟨_, rfl⟩
          have hsl : sd.data.toList = Pt.dirOf q.data.toList := by rw [hsd]
          have hst : Pt.str (Pt.dirOf q.data.toList) = .string sd := by rw [hsd]; rfl
          obtain ⟨sn, hsn⟩ : ∃ sn, Pt.str (Pt.nameOf q.data.toList) = .string sn := ⟨_, rfl⟩
          rw [hst, hsn]
          have hlt : sd.size < q.size := by have := Tr.dir_short HE.out; rw [← hsl, size_length, size_length] at this; exact this
          have HN : Hid (Tr.hides l q.data.toList = Tr.hidAll l sd.data.toList) := Lib.hid (by rw [HQ.out, Bool.false_and, Bool.false_or, hsl])
          clear hsd hsl hst hsn HR
          go_wp2_with fail
          go_roundw
          case rel => exact ⟨sd, rfl, .inr ⟨by omega, HN⟩, hB3⟩
          case measure => simp [strLen]; omega
        rcases tk : (dk != 2) with _ | _
        · cases dop
          · go_wp2_with fail
            refine (cut_any q _ (by omega)).mono ?_
            rintro e w3 ⟨rfl, hD⟩
            have hB3 := (hB1.alloc hB1.size (.cells #[.string dp, .int .i64 dk, .string dt, .bool false] 53)).trans (hD.below (B := w.heap.size))
            clear hD
            obtain ⟨sd, hsd⟩ : ∃ sd : ByteArray, sd = ⟨(Pt.dirOf q.data.toList).toArray⟩ := ⟨_, rfl⟩
            have hsl : sd.data.toList = Pt.dirOf q.data.toList := by rw [hsd]
            have hst : Pt.str (Pt.dirOf q.data.toList) = .string sd := by rw [hsd]; rfl
            obtain ⟨sn, hsn⟩ : ∃ sn, Pt.str (Pt.nameOf q.data.toList) = .string sn := ⟨_, rfl⟩
            rw [hst, hsn]
            have hlt : sd.size < q.size := by have := Tr.dir_short HE.out; rw [← hsl, size_length, size_length] at this; exact this
            have HN : Hid (Tr.hides l q.data.toList = Tr.hidAll l sd.data.toList) := Lib.hid (by rw [HQ.out, tk, Bool.and_false, Bool.false_or, hsl])
            clear hsd hsl hst hsn HR
            go_wp2_with fail
            go_roundw
            case rel => exact ⟨sd, rfl, .inr ⟨by omega, HN⟩, hB3⟩
            case measure => simp [strLen]; omega
          · go_wp2_with fail
            refine (cut_any q _ (by omega)).mono ?_
            rintro e w3 ⟨rfl, hD⟩
            have hB3 := (hB1.alloc hB1.size (.cells #[.string dp, .int .i64 dk, .string dt, .bool true] 53)).trans (hD.below (B := w.heap.size))
            clear hD
            obtain ⟨sd, hsd⟩ : ∃ sd : ByteArray, sd = ⟨(Pt.dirOf q.data.toList).toArray⟩ := ⟨_, rfl⟩
            have hsl : sd.data.toList = Pt.dirOf q.data.toList := by rw [hsd]
            have hst : Pt.str (Pt.dirOf q.data.toList) = .string sd := by rw [hsd]; rfl
            obtain ⟨sn, hsn⟩ : ∃ sn, Pt.str (Pt.nameOf q.data.toList) = .string sn := ⟨_, rfl⟩
            rw [hst, hsn]
            have hlt : sd.size < q.size := by have := Tr.dir_short HE.out; rw [← hsl, size_length, size_length] at this; exact this
            have HN : Hid (Tr.hides l q.data.toList = Tr.hidAll l sd.data.toList) := Lib.hid (by rw [HQ.out, tk, Bool.and_false, Bool.false_or, hsl])
            clear hsd hsl hst hsn HR
            go_wp2_with fail
            go_roundw
            case rel => exact ⟨sd, rfl, .inr ⟨by omega, HN⟩, hB3⟩
            case measure => simp [strLen]; omega
        · go_wp2_with fail
          go_ret
          exact ⟨ret_bool (by rw [HQ.out, tk, Bool.and_self, Bool.true_or]), hB1.alloc hB1.size _⟩
      · have HQ := Lib.hid (HL.out.trans (hidAll_step HE.out HR.out))
        clear HR HL
        generalize r.getD En.zero = d at HQ
        generalize r.isSome = ok at HQ
        have HR := HQ
        obtain ⟨dp, dk, dt, dop⟩ := d
        simp only [En.agg, En.cells]
        dsimp only at HQ
        have hne : ¬ q.toList = p.toList := fun e => by
          have := congrArg List.length e
          rw [Lib.toList_data, Lib.toList_data, size_length, size_length] at this
          omega
        have hneb : (q.toList == p.toList) = false := by rw [beq_eq_false_iff_ne]; exact hne
        cases ok
        · go_wp2_with fail
          refine (cut_any q _ (by omega)).mono ?_
          rintro e w3 ⟨rfl, hD⟩
          have hB3 := (hB1.alloc hB1.size (.cells #[.string dp, .int .i64 dk, .string dt, .bool dop] 53)).trans (hD.below (B := w.heap.size))
          clear hD
          obtain ⟨sd, hsd⟩ : ∃ sd : ByteArray, sd = ⟨(Pt.dirOf q.data.toList).toArray⟩ := ⟨_, rfl⟩
          have hsl : sd.data.toList = Pt.dirOf q.data.toList := by rw [hsd]
          have hst : Pt.str (Pt.dirOf q.data.toList) = .string sd := by rw [hsd]; rfl
          obtain ⟨sn, hsn⟩ : ∃ sn, Pt.str (Pt.nameOf q.data.toList) = .string sn := ⟨_, rfl⟩
          rw [hst, hsn]
          have hlt : sd.size < q.size := by have := Tr.dir_short HE.out; rw [← hsl, size_length, size_length] at this; exact this
          have HN : Hid (Tr.hides l p.data.toList = Tr.hidAll l sd.data.toList) := Lib.hid (by rw [HQ.out, Bool.false_and, Bool.false_or, hsl])
          clear hsd hsl hst hsn HR
          go_wp2_with fail
          go_roundw
          case rel => exact ⟨sd, rfl, .inr ⟨by omega, HN⟩, hB3⟩
          case measure => simp [strLen]; omega
        rcases tk : (dk != 2) with _ | _
        · cases dop
          · go_wp2_with fail
            refine (cut_any q _ (by omega)).mono ?_
            rintro e w3 ⟨rfl, hD⟩
            have hB3 := (hB1.alloc hB1.size (.cells #[.string dp, .int .i64 dk, .string dt, .bool false] 53)).trans (hD.below (B := w.heap.size))
            clear hD
            obtain ⟨sd, hsd⟩ : ∃ sd : ByteArray, sd = ⟨(Pt.dirOf q.data.toList).toArray⟩ := ⟨_, rfl⟩
            have hsl : sd.data.toList = Pt.dirOf q.data.toList := by rw [hsd]
            have hst : Pt.str (Pt.dirOf q.data.toList) = .string sd := by rw [hsd]; rfl
            obtain ⟨sn, hsn⟩ : ∃ sn, Pt.str (Pt.nameOf q.data.toList) = .string sn := ⟨_, rfl⟩
            rw [hst, hsn]
            have hlt : sd.size < q.size := by have := Tr.dir_short HE.out; rw [← hsl, size_length, size_length] at this; exact this
            have HN : Hid (Tr.hides l p.data.toList = Tr.hidAll l sd.data.toList) := Lib.hid (by rw [HQ.out, tk, Bool.or_false, Bool.and_false, Bool.false_or, hsl])
            clear hsd hsl hst hsn HR
            go_wp2_with fail
            go_roundw
            case rel => exact ⟨sd, rfl, .inr ⟨by omega, HN⟩, hB3⟩
            case measure => simp [strLen]; omega
          · go_wp2_with fail
            go_ret
            exact ⟨ret_bool (by rw [HQ.out, tk, Bool.false_or, Bool.and_self, Bool.true_or]), hB1.alloc hB1.size _⟩
        · go_wp2_with fail
          go_ret
          exact ⟨ret_bool (by rw [HQ.out, tk, Bool.true_or, Bool.and_self, Bool.true_or]), hB1.alloc hB1.size _⟩
end Go.Proofs.YtjppfhgkanbemacGreatDoor
