/-
  Compare in a world that grows; slices.SortFunc at entries.
-/
import Derived.Test.YtjppfhgkanbemabDoorTrEntry
import Derived.Test.YtjppfhgkanbemabDoorSort
import Derived.Test.YtjppfhgkanbemabDoorShelf
import Derived.Shelf.SlSortCmp.QuietGrown
namespace Go.Proofs.YtjppfhgkanbemabDoor
open Go.RowKit Go.Shelf Go.Sort Go.Lib

theorem grow_below {B : Nat} {w : World} (hB : B ≤ w.heap.size) (n : Nat) (os : Array Obj) : Below B w (grow (w.drewN n) os) :=
  ⟨rfl, rfl, rfl, by show w.heap.size ≤ (w.heap ++ os).size; simp, fun i hi => by show (w.heap ++ os)[i]? = _; exact Array.getElem?_append_left (by omega)⟩
theorem Gr.below {w w' : World} (h : Gr w w') {B : Nat} (hB : B ≤ w.heap.size) : Below B w w' := by
  obtain ⟨n, os, rfl⟩ := h
  exact grow_below hB n os
theorem cmp_gr (s t : ByteArray) (w : World) (hs : s.size < 4294967281) (ht : t.size < 4294967281) :
    Calls Tryd.prog 41 #[.string s, .string t] w fun e w' => e = .returned (.int .i64 (Pt.cmp s.data.toList t.data.toList)) ∧ Gr w w' := by
  have l1 := split_len_le s.data.toList
  have l2 := split_len_le t.data.toList
  rw [size_length] at l1 l2
  have c1 : Calls Tryd.prog 71 #[.string s, .string ⟨#[47]⟩] w fun e w' => e = .returned (.slice (some ⟨w.heap.size, 0, none⟩) (Pt.split s.data.toList).length (Pt.split s.data.toList).length) ∧ w' = w.alloc (.cells ((Pt.split s.data.toList).map Pt.str).toArray 9) :=
    (split_any s w hs).mono fun e w' ⟨n, he, hn, hw⟩ => ⟨by rw [he, hn], hw⟩
  have c2 : Calls Tryd.prog 71 #[.string t, .string ⟨#[47]⟩] (w.alloc (.cells ((Pt.split s.data.toList).map Pt.str).toArray 9)) fun e w' => e = .returned (.slice (some ⟨w.heap.size + 1, 0, none⟩) (Pt.split t.data.toList).length (Pt.split t.data.toList).length) ∧ w' = (w.alloc (.cells ((Pt.split s.data.toList).map Pt.str).toArray 9)).alloc (.cells ((Pt.split t.data.toList).map Pt.str).toArray 9) :=
    (split_any t _ ht).mono fun e w' ⟨n, he, hn, hw⟩ => ⟨by rw [he, hn, World.size_alloc], hw⟩
  have s1 := StrAt.new w (Pt.split s.data.toList)
  have s2 := StrAt.new (w.alloc (.cells ((Pt.split s.data.toList).map Pt.str).toArray 9)) (Pt.split t.data.toList)
  rw [World.size_alloc] at s2
  refine (cmp_core s t _ _ _ _ w _ _ c1 c2 (s1.below ((Below.refl (w.heap.size + 1) _).alloc (by simp) _) (Nat.lt_succ_self _)) s2 (by omega) (by omega)).mono fun e w' ⟨he, hd⟩ => ⟨he, ?_⟩
  obtain ⟨n, rfl⟩ := hd
  exact (((Gr.refl w).alloc _).alloc _).drewN n

/-- An entry whose path is short. -/
def SEn := { e : En // e.p.size < 4294967281 }
instance : Inhabited SEn := ⟨⟨En.zero, by decide⟩⟩
def SEn.cells (x : SEn) : List Value := x.1.cells
def SEn.cf (x y : SEn) : Int := Pt.cmp x.1.P y.1.P
def SEn.val (x : SEn) : En := x.1
theorem sen_swo : SWO (ltOf SEn.cf) where
  irrefl x := by
    show decide (Pt.cmp x.1.P x.1.P < 0) = false
    rw [Pt.cmp_self]; rfl
  trans x y z h1 h2 := by
    have h1 : Pt.cmp x.1.P y.1.P < 0 := of_decide_eq_true h1
    have h2 : Pt.cmp y.1.P z.1.P < 0 := of_decide_eq_true h2
    exact decide_eq_true (Pt.cmp_trans h1 h2)
  ntrans x y z h1 h2 := by
    have h1 : ¬ Pt.cmp x.1.P y.1.P < 0 := of_decide_eq_false h1
    have h2 : ¬ Pt.cmp y.1.P z.1.P < 0 := of_decide_eq_false h2
    refine decide_eq_false fun h => ?_
    by_cases e : x.1.P = y.1.P
    · have h : Pt.cmp x.1.P z.1.P < 0 := h
      rw [e] at h; exact h2 h
    · exact h2 (Pt.cmp_trans (Tr.lt_tri h1 e) h)

set_option maxHeartbeats 800000 in
theorem over1_any (x y : En) (hx : x.p.size < 4294967281) (hy : y.p.size < 4294967281) (W : World) : Calls Tryd.prog 99 #[.agg x.cells.toArray, .agg y.cells.toArray] W fun e w' => e = .returned (.int .i64 (Pt.cmp x.P y.P)) ∧ Gr W w' := by
  obtain ⟨xp, xk, xt, xo⟩ := x
  obtain ⟨yp, yk, yt, yo⟩ := y
  simp only [En.cells]
  dsimp only at hx hy
  go_enter Tryd.func99, Tryd.ntmps99
  go_wp2_with fail
  refine (cmp_gr xp yp _ hx hy).mono ?_
  rintro e w1 ⟨rfl, q, os, rfl⟩
  go_wp2_with fail
  go_ret
  refine ⟨rfl, ?_⟩
  obtain ⟨n, os', h⟩ := ((Gr.refl W).alloc (.cells #[.string xp, .int .i64 xk, .string xt, .bool xo] 32)).alloc (.cells #[.string yp, .int .i64 yk, .string yt, .bool yo] 32)
  rw [h]
  exact ⟨n + q, os' ++ os, by show grow (grow ((W.drewN n).drewN q) os') os = _; rw [grow_grow, World.drewN_drewN]⟩

theorem isAgg_en : ∀ w, (isAgg (Tryd.pdqEn_ren.t 24)).run Tryd.prog w = .ok true w := fun w => by kernel_rfl
theorem sizeOf_en : ∀ w, (Go.sizeOf (Tryd.pdqEn_ren.t 24)).run Tryd.prog w = .ok 4 w := fun w => by kernel_rfl

set_option maxHeartbeats 2000000 in
theorem sortE_core (f : FuncId) (hf : ∀ args w, (callFunc f args).run Tryd.prog w = .ok (.enter f args) w) (hcmp : ∀ (x y : SEn) (W : World), Calls Tryd.prog f #[.agg x.1.cells.toArray, .agg y.1.cells.toArray] W fun e w' => e = .returned (.int .i64 (Pt.cmp x.1.P y.1.P)) ∧ Gr W w')
    (base g cap : Nat) (l : List SEn) (w : World) (h : w.ownsRow base 32 4 (.slice (some ⟨g, 0, none⟩) l.length cap) l.length (l.flatMap SEn.cells)) (hsz : l.length < 4611686018427387904) :
    Calls Tryd.prog 39 #[.slice (some ⟨g, 0, none⟩) l.length cap, .func (.func f) #[] #[]] w fun e w' => e = .returned (.tuple #[]) ∧
      ∃ l' : List SEn, l'.Perm l ∧ (l'.Pairwise fun x y => ltOf SEn.cf y x = false) ∧ w'.ownsRow base 32 4 (.slice (some ⟨g, 0, none⟩) l.length cap) l.length (l'.flatMap SEn.cells) ∧ w.grownBy w' (some g) := by
  have hg : g < w.heap.size := by have := h.lt g rfl; exact this.2
  have hk : ∀ x : SEn, (SEn.cells x).length = 4 := fun _ => rfl
  have h1 : ∀ x : SEn, ∀ v ∈ SEn.cells x, v.oneCell' = true := fun x v hv => by
    simp [SEn.cells, En.cells] at hv; rcases hv with rfl | rfl | rfl | rfl <;> rfl
  have hs : l.toArray.size = l.length := by simp
  have hH := holdsK_own hk h
  have hp := AnyQ.pdqsortCmpFunc_all (P := Tryd.prog) (ρ := Tryd.pdqEn_ren) Tryd.pdqEn 4 isAgg_en sizeOf_en SEn.cells SEn.cf f #[] sen_swo g 0 cap l.toArray w hf (fun m os dk _ x y => hcmp x y _) ⟨hk, h1, hH, hg⟩ (l.length + 1) 0 l.length (Lib.bitLen l.length) l.toArray w (by omega) rfl (SWK.start hH) (Nat.zero_le _) (by rw [hs]; exact Nat.le_refl _) (by rw [hs]; exact hsz)
    (Nat.lt_of_le_of_lt (Lib.bitLen_le l.length 62 (by omega) (by omega)) (by omega)) (Or.inl rfl)
  rw [hs] at hp
  have hl : Calls Tryd.prog 70 #[.int .u64 (l.length : Int)] w fun e w' => e = .returned (.int .i64 (Lib.bitLen l.length : Nat)) ∧ w' = w := by
    have h := Any.bits_Len (SlLaysF0.n15.bits (P := Tryd.prog) (ρ := Tryd.lenEn_ren) Tryd.lenEn) (l.length : Int) w (by omega) (by omega)
    rw [Int.toNat_natCast] at h
    exact h
  have wr : IntKind.u64.wrap (l.length : Int) = l.length := by simp [IntKind.wrap, IntKind.bits, IntKind.signed]; omega
  have HF : Hid (∀ {d' : Array SEn} {nq : Nat} {os : Array Obj}, d'.size = l.length → (sortWorldK SEn.cells 4 w g 0 nq d' os).ownsRow base 32 4 (.slice (some ⟨g, 0, none⟩) l.length cap) l.length (d'.toList.flatMap SEn.cells) ∧ w.grownBy (sortWorldK SEn.cells 4 w g 0 nq d' os) (some g)) := Lib.hid (fun hd => own_sorted hk h hd)
  have HP := Lib.hid (pdq_sorts (ltOf SEn.cf) sen_swo l.toArray 0 l.length (Lib.bitLen l.length) true true (Nat.zero_le _) (by simp) (Or.inl rfl))
  clear hH hcmp hk h1 h hf
  generalize pdq (ltOf SEn.cf) l.toArray 0 l.length (Lib.bitLen l.length) true true = d' at hp HP
  generalize hL : Lib.bitLen l.length = L at hp hl
  clear hL
  go_enter Tryd.func39, Tryd.ntmps39
  go_wp2_with (first | (go_at_call 70; refine hl.mono ?_; rintro e w' ⟨rfl, rfl⟩) | (go_at_call 69; refine hp.mono ?_; rintro e w' ⟨rfl, n, os, rfl⟩))
  go_end0
  obtain ⟨⟨hd, _, hpm⟩, hst⟩ := HP.out
  have hd' : d'.size = l.length := by simpa using hd
  obtain ⟨o1, o2⟩ := HF.out (nq := n) (os := os) hd'
  refine ⟨rfl, d'.toList, ?_, ?_, o1, o2⟩
  · have e1 : d'.extract 0 l.length = d' := by rw [← hd']; simp
    have e2 : l.toArray.extract 0 l.length = l.toArray := by rw [← hs]; simp
    rw [e1, e2] at hpm
    simpa using hpm
  · rw [List.pairwise_iff_getElem]
    intro i j hi hj hij
    have := hst i j (Nat.zero_le _) hij (by simpa [hd'] using hj)
    rw [getElem!_pos d' j (by simpa using hj), getElem!_pos d' i (by simpa using hi)] at this
    simpa using this

/-- THE SORT of a row of entries of the call's own. -/
theorem sortE_any (f : FuncId) (hf : ∀ args w, (callFunc f args).run Tryd.prog w = .ok (.enter f args) w) (hcmp : ∀ (x y : En), x.p.size < 4294967281 → y.p.size < 4294967281 → ∀ (W : World), Calls Tryd.prog f #[.agg x.cells.toArray, .agg y.cells.toArray] W fun e w' => e = .returned (.int .i64 (Pt.cmp x.P y.P)) ∧ Gr W w')
    (base g cap : Nat) (l : List En) (w : World) (h : EnOwn w base (.slice (some ⟨g, 0, none⟩) l.length cap) l) (hs : ∀ e ∈ l, e.p.size < 4294967281) (hsz : l.length < 4611686018427387904) :
    Calls Tryd.prog 39 #[.slice (some ⟨g, 0, none⟩) l.length cap, .func (.func f) #[] #[]] w fun e w' => e = .returned (.tuple #[]) ∧
      ∃ l' : List En, l'.Perm l ∧ (l'.Pairwise fun x y => ¬ Pt.cmp y.P x.P < 0) ∧ EnOwn w' base (.slice (some ⟨g, 0, none⟩) l.length cap) l' ∧ w.grownBy w' (some g) := by
  have hmk : ∀ l : List En, (∀ e ∈ l, e.p.size < 4294967281) → ∃ m : List SEn, m.map SEn.val = l := by
    intro l
    induction l with
    | nil => intro _; exact ⟨[], rfl⟩
    | cons x r ih =>
      intro h
      obtain ⟨m, hm⟩ := ih fun e he => h e (by simp [he])
      exact ⟨⟨x, h x (by simp)⟩ :: m, congrArg (List.cons x) hm⟩
  obtain ⟨m, e1⟩ := hmk l hs
  have e2 : m.length = l.length := by rw [← e1, List.length_map]
  have e3 : ∀ m : List SEn, m.flatMap SEn.cells = En.flat (m.map SEn.val) := by
    intro m
    induction m with
    | nil => rfl
    | cons x r ih => rw [List.flatMap_cons, ih]; rfl
  have c := sortE_core f hf (fun x y W => hcmp x.1 y.1 x.2 y.2 W) base g cap m w (by rw [e2, e3, e1]; exact h) (by omega)
  rw [e2] at c
  refine c.mono ?_
  rintro e w' ⟨rfl, m', hp, hst, ho, hg⟩
  have hp' : (m'.map SEn.val).Perm l := by rw [← e1]; exact hp.map _
  refine ⟨rfl, m'.map SEn.val, hp', ?_, ?_, hg⟩
  · exact List.pairwise_map.2 (List.Pairwise.imp (fun {a b} h => (of_decide_eq_false h : ¬ Pt.cmp b.1.P a.1.P < 0)) hst)
  · unfold EnOwn
    rw [hp'.length_eq, ← e3]
    exact ho
end Go.Proofs.YtjppfhgkanbemabDoor
