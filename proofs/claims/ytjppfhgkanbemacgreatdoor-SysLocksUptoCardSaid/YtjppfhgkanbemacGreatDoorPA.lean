/-
  Parse, as the program has it: a range over strings.SplitSeq that collects.
  Join.
-/
import Derived.Test.YtjppfhgkanbemacGreatDoorMD
import Derived.RangeFuncBox
import Derived.Test.YtjppfhgkanbemacGreatDoorMC
namespace Go.Proofs.YtjppfhgkanbemacGreatDoor
open Go.RowKit Go.Shelf
attribute [local go_sem] Oper.semAt_some

theorem own_agree {b n₀ base : Nat} {e : TypeId} {size k : Nat} {v : Value} {xs : List Value} {W W' : World} (h : W.ownsRow base e size v k xs) (hag : Agree b n₀ W W') (hb : b < base) : W'.ownsRow base e size v k xs := by
  obtain ⟨row, hg, hr⟩ := hag
  refine h.kept hg ?_
  rcases h.2 with ⟨rfl, _⟩ | ⟨g, cap, cur, rfl, hlo, hgb, _⟩
  · exact .inl rfl
  · refine .inr fun e' => ?_
    have e2 : row = some g := by simpa [Value.ownBlock] using e'.symm
    rcases hr g e2 with h1 | ⟨_, o, ho, hc⟩
    · omega
    · rw [hgb] at ho; cases ho; cases hc

theorem parse_long {s : ByteArray} (h : 80 < s.size) : Pt.parse s.data.toList = ([], 4) := by
  unfold Pt.parse; rw [size_length, if_pos h]
theorem parse_nil : Pt.parse [] = ([], 6) := rfl
theorem parse_bad {s : ByteArray} (h : s.size ≤ 80) (h0 : ¬ s.data.toList = []) (hf : ((Pt.split s.data.toList).filter Pt.counts).all Pt.fine = false) : Pt.parse s.data.toList = ([], 7) := by
  unfold Pt.parse; rw [size_length, if_neg (by omega), if_neg h0, hf]; rfl
theorem parse_good {s : ByteArray} (h : s.size ≤ 80) (h0 : ¬ s.data.toList = []) (hf : ((Pt.split s.data.toList).filter Pt.counts).all Pt.fine = true) : Pt.parse s.data.toList = ((Pt.split s.data.toList).filter Pt.counts, 0) := by
  unfold Pt.parse; rw [size_length, if_neg (by omega), if_neg h0, hf]; rfl
/-- The result of Parse. -/
def Parsed (w : World) (s : ByteArray) (e : Ending) (w' : World) : Prop :=
  ∃ v, e = .returned (.tuple #[v, .int .i64 (Pt.parse s.data.toList).2]) ∧ StrOwn w' w.heap.size v (Pt.parse s.data.toList).1 ∧ Below w.heap.size w w'
theorem Parsed.none {w w' : World} {s : ByteArray} {k : Int} (h : Pt.parse s.data.toList = ([], k)) (hb : Below w.heap.size w w') : Parsed w s (.returned (.tuple #[.slice none 0 0, .int .i64 k])) w' := by
  refine ⟨_, by rw [h], ?_, hb⟩
  rw [h]
  exact World.ownsRow_nil _ _ _ _

/-- Between two rounds: the two results' boxes, the box of what was collected. -/
def PI (w : World) (n₀ : Nat) (pre : List Pt.Bs) (W : World) : Prop :=
  ∃ v, Blk W w.heap.size 39 [.slice none 0 0] ∧ Blk W (w.heap.size + 1) 29 [.int .i64 0] ∧ Blk W (w.heap.size + 1 + 1) 39 [v] ∧ StrOwn W n₀ v (pre.filter Pt.counts) ∧ Below w.heap.size w W ∧ Hid ((pre.filter Pt.counts).all Pt.fine = true)
/-- A round has left: a name is none. -/
def PX (w : World) (s : ByteArray) (c : Code) (_ : List Pt.Bs) (W : World) : Prop :=
  c = .ret ∧ Blk W w.heap.size 39 [.slice none 0 0] ∧ Blk W (w.heap.size + 1) 29 [.int .i64 7] ∧ Below w.heap.size w W ∧ Hid (((Pt.split s.data.toList).filter Pt.counts).all Pt.fine = false)
theorem counts_nil : Pt.counts [] = false := rfl
theorem counts_dot : Pt.counts [46] = false := rfl
theorem counts_else {x : Pt.Bs} (h1 : ¬ x = []) (h2 : ¬ x = [46]) : Pt.counts x = true := by
  unfold Pt.counts
  cases x with
  | nil => exact absurd rfl h1
  | cons c r => simp only [List.isEmpty_cons, Bool.false_or, Bool.not_eq_true', beq_eq_false_iff_ne]; exact h2
theorem fine_else {x : Pt.Bs} (h : ¬ x = [46, 46]) : Pt.fine x = Pt.named x := by
  unfold Pt.fine
  rw [beq_eq_false_iff_ne.2 h]; rfl
theorem filter_snoc {pre : List Pt.Bs} {x : Pt.Bs} (h : Pt.counts x = true) : (pre ++ [x]).filter Pt.counts = pre.filter Pt.counts ++ [x] := by
  rw [List.filter_append]; simp [h]
theorem filter_skip {pre : List Pt.Bs} {x : Pt.Bs} (h : Pt.counts x = false) : (pre ++ [x]).filter Pt.counts = pre.filter Pt.counts := by
  rw [List.filter_append]; simp [h]
theorem filter_bad {xs pre : List Pt.Bs} {x : Pt.Bs} (h : pre ++ [x] <+: xs) (h1 : Pt.counts x = true) (h2 : Pt.fine x = false) : (xs.filter Pt.counts).all Pt.fine = false := by
  rw [List.all_eq_false]
  exact ⟨x, List.mem_filter.2 ⟨h.subset (by simp), h1⟩, by simp [h2]⟩

/-- A row's block holds cells. -/
theorem own_cells {W : World} {base : Nat} {e : TypeId} {size k : Nat} {v : Value} {xs : List Value} (h : W.ownsRow base e size v k xs) {j : Nat} {o : Obj} (hj : v.ownBlock = some j) (ho : W.heap[j]? = some o) : o.isCells = true := by
  rcases h.2 with ⟨rfl, _⟩ | ⟨g, cap, cur, rfl, _, hgb, _⟩
  · simp [Value.ownBlock] at hj
  · have e2 : g = j := by simpa [Value.ownBlock] using hj
    subst e2
    rw [hgb] at ho; cases ho; rfl
theorem own_or {v : Value} {j : Nat} (hj : some j ≠ v.ownBlock) : v.ownBlock = none ∨ v.ownBlock ≠ some j := by
  right; exact fun e => hj e.symm
theorem PI_next {w W w2 : World} {n₀ g cap : Nat} {v x' : Value} {pre : List Pt.Bs} {x : Pt.Bs} {o : Obj} (hn : w.heap.size + 1 + 1 + 1 + 3 ≤ n₀) (hsz : n₀ ≤ W.heap.size)
    (hR : Blk W w.heap.size 39 [.slice none 0 0]) (hE : Blk W (w.heap.size + 1) 29 [.int .i64 0]) (hO : Blk W (w.heap.size + 1 + 1) 39 [v]) (hS : StrOwn W n₀ v (pre.filter Pt.counts)) (hB : Below w.heap.size w W)
    (HA : Hid ((pre.filter Pt.counts).all Pt.fine = true)) (hc : Pt.counts x = true) (hf : Pt.fine x = true) (hx : x' = Pt.str x)
    (hgrow : (W.alloc o).grownBy w2 v.ownBlock) (hown : w2.ownsRow n₀ 9 1 (.slice (some ⟨g, 0, none⟩) ((pre.filter Pt.counts).length + 1) cap) ((pre.filter Pt.counts).length + 1) ((pre.filter Pt.counts).map Pt.str ++ [x'])) :
    KeepsFrom n₀ W (w2.setCell ⟨w.heap.size + 1 + 1, 0, none⟩ (.slice (some ⟨g, 0, none⟩) ((pre.filter Pt.counts).length + 1) cap)) ∧ Keep3 (w.heap.size + 1 + 1 + 1) W (w2.setCell ⟨w.heap.size + 1 + 1, 0, none⟩ (.slice (some ⟨g, 0, none⟩) ((pre.filter Pt.counts).length + 1) cap))
      ∧ PI w n₀ (pre ++ [x]) (w2.setCell ⟨w.heap.size + 1 + 1, 0, none⟩ (.slice (some ⟨g, 0, none⟩) ((pre.filter Pt.counts).length + 1) cap)) := by
  have hne : ∀ k, k < n₀ → some k ≠ v.ownBlock := fun k hk => own_ne hS (.inl hk)
  have hgn : w2.ownsRow n₀ 9 1 (.slice (some ⟨g, 0, none⟩) ((pre.filter Pt.counts).length + 1) cap) ((pre.filter Pt.counts).length + 1) ((pre.filter Pt.counts).map Pt.str ++ [x']) := hown
  have hlo : n₀ ≤ g := own_lo hgn rfl
  refine ⟨?_, ?_, ?_⟩
  · refine KeepsFrom.trans (KeepsFrom.trans ((KeepsOthers.alloc W o).from n₀) ((KeepsOthers.of_grownBy hgrow fun j o' hj ho' => own_cells (hS.alloc o) hj ho').from n₀)) ((KeepsOthers.setCell _ _ _).from n₀)
  · intro k h1 h2
    rw [Below.heap_setCell _ _ _ k (by simp; omega), hgrow.block k (by simp; omega) (hne k (by omega))]
    exact Below.heap_alloc W o k (by omega)
  · have hO2 := (hO.alloc o).grown hgrow (hne _ (by omega))
    have hR2 := (hR.alloc o).grown hgrow (hne _ (by omega))
    have hE2 := (hE.alloc o).grown hgrow (hne _ (by omega))
    refine ⟨_, hR2.far (by show w.heap.size ≠ w.heap.size + 1 + 1; omega) _, hE2.far (by show w.heap.size + 1 ≠ w.heap.size + 1 + 1; omega) _, hO2.set_ 0 _, ?_, ?_, Lib.hid (by rw [filter_snoc hc, List.all_append, HA.out]; simp [hf])⟩
    · refine StrOwn.snoc (y := x) (l := pre.filter Pt.counts) (n := (pre.filter Pt.counts).length) (xs := (pre.filter Pt.counts).map Pt.str) (x := x') ?_ (filter_snoc hc) hx
      exact World.ownsRow.kept hgn (grownBy_setCell' _ _ _) (.inr (by simp [Value.ownBlock]; omega))
    · exact ((hB.alloc hB.size o).grown hgrow (by simp; have := hB.size; omega) (fun k e => by
        have := own_lo hS e; omega)).setCell (p := ⟨w.heap.size + 1 + 1, 0, none⟩) (by simp; omega) _

set_option maxRecDepth 100000 in
set_option maxHeartbeats 2000000 in
theorem parse_any (s : ByteArray) (w : World) (hs : s.size ≤ 140737488355328) :
    Calls Tryz.prog 89 #[.string s] w (Parsed w s) := by
  rcases Nat.lt_or_ge 80 s.size with hlen | hlen
  · have HE := Lib.hid (parse_long hlen)
    go_enter Tryz.func89, Tryz.ntmps89
    go_wp2
    exact bodyPost_ret (v := .tuple #[.slice none 0 0, .int .i64 4]) (by simp [results, Tryz.results89, go_sem]) rfl (Parsed.none HE.out (((Below.refl _ w).alloc (Nat.le_refl _) _).alloc (by simp) _))
  by_cases h0 : s.data.toList = []
  · have HE := Lib.hid (show Pt.parse s.data.toList = ([], 6) by rw [h0]; rfl)
    have g1 := empty_of h0
    have g2 := isEmpty_of h0
    clear h0
    go_enter Tryz.func89, Tryz.ntmps89
    go_wp2
    exact bodyPost_ret (v := .tuple #[.slice none 0 0, .int .i64 6]) (by simp [results, Tryz.results89, go_sem]) rfl (Parsed.none HE.out (((Below.refl _ w).alloc (Nat.le_refl _) _).alloc (by simp) _))
  have HB := Lib.hid (fun h => parse_bad hlen h0 h)
  have HG := Lib.hid (fun h => parse_good hlen h0 h)
  have g1 := nonempty_of h0
  have g2 := notEmpty_of h0
  have h3 : 1 ≤ 3 - 1 - 1 := by decide
  obtain ⟨i0, hi, hz0, hz1, hz2⟩ := info_parts info_str
  refine (callsIn_wide (n := 3)).1 ?_
  refine callsIn_of_wp_marks Tryz.func89 rfl trivial ?_ rfl
  simp only [Tryz.ntmps89, List.size_toArray, List.length_cons, List.length_nil, Nat.reduceAdd, Nat.reduceSub, Array.replicate_succ, Array.replicate_zero, List.push_toArray, List.append_toArray, List.nil_append, List.cons_append]
  gi_wp2_with (refine ⟨trivial, ?_⟩; gi_at_call 44; refine (callsIn_wide.2 (seq_any _ _)).mono ?_; rintro e w1 ⟨rfl, hbx, hz, hb1⟩)
  have hB1 : Below w.heap.size w w1 := ((((Below.refl _ w).alloc (Nat.le_refl _) _).alloc (by simp) _).alloc (by simp; omega) _).trans (hb1.mono (by simp; omega))
  have hR1 : Blk w1 w.heap.size 39 [.slice none 0 0] := (((Blk.new w 39 [.slice none 0 0]).alloc _).alloc _).below hb1 (by simp; omega)
  have hE1 : Blk w1 (w.heap.size + 1) 29 [.int .i64 0] := by
    have h := ((Blk.new (w.alloc (.cells #[.slice none 0 0] 39)) 29 [.int .i64 0]).alloc (.cells #[.slice none 0 0] 39)).below hb1 (by simp)
    rwa [World.size_alloc] at h
  have hO1 : Blk w1 (w.heap.size + 1 + 1) 39 [.slice none 0 0] := by
    have h := (Blk.new ((w.alloc (.cells #[.slice none 0 0] 39)).alloc (.cells #[.int .i64 0] 29)) 39 [.slice none 0 0]).below hb1 (by simp)
    rwa [World.size_alloc, World.size_alloc] at h
  rw [World.size_alloc, World.size_alloc, World.size_alloc] at hbx hz
  clear hb1
  refine range_box (F := Fence.wide) (n := 3) rfl (by decide) (b := w.heap.size + 1 + 1 + 1) (s := s) (xs := Pt.split s.data.toList) rfl trivial (enters_of Tryz.func83 (by kernel_rfl) rfl) (hands_any 2 _ s (by decide) hs) (by omega) hbx rfl
    (PI w w1.heap.size) (PX w s)
    (fun pre W W' ⟨v, a1, a2, a3, a4, a5, a6⟩ k => ⟨v, a1.agree k (by omega), a2.agree k (by omega), a3.agree k (by omega), own_agree a4 k (by omega), below_agree a5 k (by omega), a6⟩)
    (fun c pre W W' ⟨a1, a2, a3, a5, a6⟩ k => ⟨a1, a2.agree k (by omega), a3.agree k (by omega), below_agree a5 k (by omega), a6⟩)
    ⟨_, hR1, hE1, hO1, World.ownsRow_nil _ _ _ _, hB1, Lib.hid rfl⟩
    (fun x => { tmps := #[.string s, undef, .pointer (some ⟨w.heap.size, 0, none⟩), .pointer (some ⟨w.heap.size + 1, 0, none⟩), .pointer (some ⟨w.heap.size + 1 + 1, 0, none⟩), .string ⟨x.toArray⟩, .string s, .int .i64 s.size, .bool (decide (80 < (s.size : Int))), .string s, .bool false, .string s,
      .func (.func 83) #[] #[.pointer (some ⟨w.heap.size + 1 + 1 + 1 + 1, 0, none⟩), .pointer (some ⟨w.heap.size + 1 + 1 + 1, 0, none⟩), .pointer (some ⟨w.heap.size + 1 + 1 + 1 + 2, 0, none⟩)], .string ⟨x.toArray⟩,
      undef, undef, undef, undef, undef, undef, undef, undef, undef, undef, undef, undef, undef, undef, undef, undef, undef, undef, undef], defers := [] }) ?assign ?body ?done ?stop
  case assign =>
    intro l x W K hK
    gi_wp2
    exact hK
  case body =>
    rintro l pre x W ⟨v, hR, hE, hO, hS, hB, HA⟩ hpre hsz
    have hx : x.length ≤ s.size := by rw [← size_length]; exact piece_len _ x (piece_of hpre)
    clear hR1 hE1 hO1 hB1 hbx g1 g2 h0
    obtain ⟨r0, r0f, _⟩ := hR.one
    obtain ⟨e0, e0f, _⟩ := hE.one
    obtain ⟨o0, o0f, _⟩ := hO.one
    obtain ⟨sx, hsx⟩ : ∃ sx : ByteArray, sx = ⟨x.toArray⟩ := ⟨_, rfl⟩
    have hsl : sx.toList = x := by rw [hsx, Lib.toList_data]
    have c := named_any sx W (by unfold maxLen; rw [hsx]; show x.toArray.size ≤ _; simp; omega)
    rw [show sx.data.toList = x by rw [hsx]] at c
    dsimp only
    rw [← hsx]
    by_cases x1 : x = []
    · subst x1
      have f1 := hsl
      have f2 : sx.toList.isEmpty = true := by rw [hsl]; rfl
      clear hsl hsx c
      gi_wp2
      exact ⟨KeepsFrom.refl _ _, Keep3.refl _ _, v, hR, hE, hO, by rw [filter_skip counts_nil]; exact hS, hB, Lib.hid (by rw [filter_skip counts_nil]; exact HA.out)⟩
    by_cases x2 : x = [46]
    · subst x2
      have f1 := hsl
      clear hsl hsx c x1
      gi_wp2
      exact ⟨KeepsFrom.refl _ _, Keep3.refl _ _, v, hR, hE, hO, by rw [filter_skip counts_dot]; exact hS, hB, Lib.hid (by rw [filter_skip counts_dot]; exact HA.out)⟩
    have hcx := counts_else x1 x2
    have f1 : ¬ sx.toList = [] := by rw [hsl]; exact x1
    have f2 : sx.toList.isEmpty = false := by rw [hsl]; cases x with
      | nil => exact absurd rfl x1
      | cons _ _ => rfl
    have f3 : (sx.toList == [46]) = false := by rw [hsl]; exact beq_eq_false_iff_ne.2 x2
    have hnum : (pre.filter Pt.counts).length ≤ 81 := by
      have h1 := hpre.length_le
      have h2 := split_len_le s.data.toList
      rw [size_length] at h2
      have h4 := List.length_filter_le Pt.counts pre
      simp at h1
      omega
    have hst : Value.string sx = Pt.str x := by rw [hsx]; rfl
    have HST := Lib.hid hst
    have HCX := Lib.hid hcx
    clear hst hcx hsx x1 x2
    have hne : ∀ k, k < w1.heap.size → some k ≠ v.ownBlock := fun k hk => own_ne hS (.inl hk)
    have HNE := Lib.hid hne
    clear hne
    by_cases hf : Pt.fine x = true
    · have HF := Lib.hid hf
      clear hf
      by_cases x3 : x = [46, 46]
      · subst x3
        have f4 := hsl
        clear hsl c f1 f2 f3
        gi_wp2
        refine ⟨trivial, ?_⟩
        gi_wp2_with (gi_at_builtin; go_must (refine wpListIn_append_own _ rfl _ _ 39 rfl w1.heap.size 9 i0 _ 1 16 Tryz.underlying39 hi hz0 hz1 hz2 rfl (by decide) _ _ _ rfl (hS.alloc _) ⟨W.heap.size, 0, none⟩ 1 1 [.string sx] rfl rfl (cell_one_new _ _ _) (by simp [Value.oneCell']) (by unfold maxLen; omega) (by omega) (by simp; omega) ?_); intro v' w2 hown' hgrow _; obtain ⟨g', cap', rfl⟩ := ownsRow_succ hown'; have hO2 := (hO.alloc _).grown hgrow (HNE.out _ (by omega)); have o2 := (hO2.one).1; have o2f := (hO2.one).2.1)
        exact PI_next (by omega) hsz hR hE hO hS hB HA HCX.out HF.out HST.out hgrow hown'
      · have hn : Pt.named x = true := by rw [← fine_else x3]; exact HF.out
        rw [hn] at c
        replace c : Calls Tryz.prog 29 #[.string sx] W fun e w' => e = .returned (.bool true) ∧ W = w' := c.mono fun e w' ⟨he, hw⟩ => ⟨he, hw.symm⟩
        have f4 : (sx.toList == [46, 46]) = false := by rw [hsl]; exact beq_eq_false_iff_ne.2 x3
        clear hsl x3 hn
        gi_wp2_with (first
          | (refine ⟨trivial, ?_⟩; gi_at_call 29; refine (CallsIn.inRound l (callsIn_wide.2 c)).mono ?_; rintro e w' ⟨rfl, rfl⟩)
          | (gi_at_builtin; go_must (refine wpListIn_append_own _ rfl _ _ 39 rfl w1.heap.size 9 i0 _ 1 16 Tryz.underlying39 hi hz0 hz1 hz2 rfl (by decide) _ _ _ rfl (hS.alloc _) ⟨W.heap.size, 0, none⟩ 1 1 [.string sx] rfl rfl (cell_one_new _ _ _) (by simp [Value.oneCell']) (by unfold maxLen; omega) (by omega) (by simp; omega) ?_); intro v' w2 hown' hgrow _; obtain ⟨g', cap', rfl⟩ := ownsRow_succ hown'; have hO2 := (hO.alloc _).grown hgrow (HNE.out _ (by omega)); have o2 := (hO2.one).1; have o2f := (hO2.one).2.1))
        exact PI_next (by omega) hsz hR hE hO hS hB HA HCX.out HF.out HST.out hgrow hown'
    · have hff : Pt.fine x = false := by simpa using hf
      have x3 : ¬ x = [46, 46] := fun e => by rw [e] at hff; cases hff
      have hn : Pt.named x = false := by rw [← fine_else x3]; exact hff
      rw [hn] at c
      replace c : Calls Tryz.prog 29 #[.string sx] W fun e w' => e = .returned (.bool false) ∧ W = w' := c.mono fun e w' ⟨he, hw⟩ => ⟨he, hw.symm⟩
      have HF := Lib.hid (filter_bad hpre HCX.out hff)
      have f4 : (sx.toList == [46, 46]) = false := by rw [hsl]; exact beq_eq_false_iff_ne.2 x3
      clear hsl x3 hn hff hf
      gi_wp2_with (refine ⟨trivial, ?_⟩; gi_at_call 29; refine (CallsIn.inRound l (callsIn_wide.2 c)).mono ?_; rintro e w' ⟨rfl, rfl⟩)
      exact ⟨((KeepsOthers.setCell _ _ _).trans (KeepsOthers.setCell _ _ _)).from _, rfl, (hR.set_ 0 (.slice none 0 0)).far (by simp) _, (hE.far (by simp) _).set_ 0 _, (hB.setCell (p := ⟨w.heap.size, 0, none⟩) (Nat.le_refl _) _).setCell (p := ⟨w.heap.size + 1, 0, none⟩) (by simp) _, HF⟩
  case done =>
    rintro D W hD ⟨v, hR, hE, hO, hS, hB, HA⟩ hK
    clear hR1 hE1 hO1 hB1 hbx g1 g2 h0
    obtain ⟨r0, r0f, _⟩ := hR.one
    obtain ⟨e0, e0f, _⟩ := hE.one
    obtain ⟨o0, o0f, _⟩ := hO.one
    have HS := Lib.hid hS
    obtain ⟨A, n, c, rfl⟩ : ∃ A n c, v = .slice A n c := by
      rcases own_shape hS with ⟨rfl, _⟩ | ⟨g, c, rfl, _⟩
      · exact ⟨_, _, _, rfl⟩
      · exact ⟨_, _, _, rfl⟩
    clear hS
    gi_wp2
    have hK' : ((W.setCell ⟨w.heap.size, 0, none⟩ (.slice A n c)).setCell ⟨w.heap.size + 1, 0, none⟩ (.int .i64 0)).heap[D]? = some (.deferred (some [])) :=
      (Below.heap_setCell _ ⟨w.heap.size + 1, 0, none⟩ _ D (by simp; omega)).trans ((Below.heap_setCell _ ⟨w.heap.size, 0, none⟩ _ D (by simp; omega)).trans hK)
    have R2 := ((hR.set_ 0 (.slice A n c)).far (p := ⟨w.heap.size + 1, 0, none⟩) (by simp) (.int .i64 0))
    have E2 := ((hE.far (p := ⟨w.heap.size, 0, none⟩) (by simp) (.slice A n c)).set_ 0 (.int .i64 0))
    refine ⟨by simp, .inl ⟨_, _, rfl, run_takeDeferred hK', ?_⟩⟩
    have hc := cell_kept (R2.one).1 (grownBy_putObj' _ D (.deferred none)) (fun r e => by cases e; exact ⟨_, hK', rfl⟩)
    have hc2 := cell_kept (E2.one).1 (grownBy_putObj' _ D (.deferred none)) (fun r e => by cases e; exact ⟨_, hK', rfl⟩)
    refine ⟨.tuple #[.slice A n c, .int .i64 0], by simp [results, Tryz.results89, go_sem, hc, hc2], ?_⟩
    have hP := HG.out HA.out
    refine ⟨_, by rw [hP], ?_, ((hB.setCell (p := ⟨w.heap.size, 0, none⟩) (Nat.le_refl _) _).setCell (p := ⟨w.heap.size + 1, 0, none⟩) (by simp) _).grown (grownBy_putObj' _ D _) (by simpa using hB.size) (fun k e => by cases e; omega)⟩
    rw [hP]
    have hne : ∀ k, k < w1.heap.size → some k ≠ (Value.slice A n c).ownBlock := fun k hk => own_ne HS.out (.inl hk)
    have S1 := (HS.out.kept (grownBy_setCell' _ _ (.slice A n c)) (own_or (hne w.heap.size (by omega)))).kept (grownBy_setCell' _ _ (.int .i64 0)) (own_or (hne (w.heap.size + 1) (by omega)))
    exact own_base (ownsRow_putObj S1 _ hK' rfl) (by omega)
  case stop =>
    rintro D c pre W hD ⟨rfl, hR, hE, hB, HA⟩ hK
    obtain ⟨r0, r0f, _⟩ := hR.one
    obtain ⟨e0, e0f, _⟩ := hE.one
    gi_wp2
    refine ⟨by simp, .inl ⟨_, _, rfl, run_takeDeferred hK, ?_⟩⟩
    have hc := cell_kept r0 (grownBy_putObj' _ D (.deferred none)) (fun r e => by cases e; exact ⟨_, hK, rfl⟩)
    have hc2 := cell_kept e0 (grownBy_putObj' _ D (.deferred none)) (fun r e => by cases e; exact ⟨_, hK, rfl⟩)
    refine ⟨.tuple #[.slice none 0 0, .int .i64 7], by simp [results, Tryz.results89, go_sem, hc, hc2], Parsed.none (HB.out HA.out) ?_⟩
    exact hB.grown (grownBy_putObj' _ D _) hB.size (fun k e => by cases e; omega)
end Go.Proofs.YtjppfhgkanbemacGreatDoor

namespace Go.Proofs.YtjppfhgkanbemacGreatDoor
open Go.RowKit Go.Shelf

theorem join_any (d s : ByteArray) (w : World) (hs : s.size ≤ 140737488355328) (hd : d.size ≤ 140737488355328) :
    Calls Tryz.prog 123 #[.string d, .string s] w fun e w' => e = .returned (Pt.str (Pt.join d.data.toList s.data.toList)) ∧ w' = w := by
  by_cases h2 : d.data.toList = []
  · have E : Pt.join d.data.toList s.data.toList = s.data.toList := by unfold Pt.join; rw [if_pos h2]
    have HE := Lib.hid E
    have g3 := empty_of h2
    have g4 := isEmpty_of h2
    clear E h2
    go_enter Tryz.func123, Tryz.ntmps123
    go_wp2
    go_ret
    exact ⟨ret_str (by rw [HE.out]; rfl), rfl⟩
  · have E : Pt.join d.data.toList s.data.toList = (d ++ ⟨#[47]⟩ ++ s).data.toList := by
      unfold Pt.join; rw [if_neg h2, data_app, data_app]; simp
    have HE := Lib.hid E
    have g3 := nonempty_of h2
    have g4 := notEmpty_of h2
    clear E h2
    go_enter Tryz.func123, Tryz.ntmps123
    go_wp2
    go_ret
    exact ⟨ret_str (by rw [HE.out]; rfl), rfl⟩

end Go.Proofs.YtjppfhgkanbemacGreatDoor
