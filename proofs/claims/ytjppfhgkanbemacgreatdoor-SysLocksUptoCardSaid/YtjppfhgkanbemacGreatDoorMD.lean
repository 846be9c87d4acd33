/-
  A range over strings.SplitSeq at a slash: the statement's law for an iterator that keeps its rest in a box of its own, and the iterator's contract.
  Clean, as the program (a range over strings.SplitSeq) and as the document has it.
  Clean, as the document has it.
  Words on texts that later walks share.
-/
import Derived.Test.YtjppfhgkanbemacGreatDoorMC
import Derived.RangeFuncNested
import Derived.RangeFuncBound
import Derived.RangeFuncCalls
import Derived.RangeFuncLeaves
import Derived.Shelf.Abstract
import Derived.Shelf.RegionOpen
import Derived.OwnWalkIn
import Derived.TacticsInMore
import Derived.LoopNIn
import Derived.LoopIn
namespace Go.Proofs.YtjppfhgkanbemacGreatDoor
open Go.RowKit Go.Shelf
attribute [local go_sem] Oper.semAt_some

/-- The iterator's three boxes: its rest, the separator, how much of it stays. -/
def Boxes (W : World) (b : Nat) (r : ByteArray) : Prop := Blk W b 9 [.string r] ∧ Blk W (b + 1) 9 [.string ⟨#[47]⟩] ∧ Blk W (b + 2) 3 [.int .i64 0]
/-- Three blocks lie as they lay. -/
def Keep3 (b : Nat) (W W' : World) : Prop := ∀ k, b ≤ k → k < b + 3 → W'.heap[k]? = W.heap[k]?
theorem Keep3.trans {b : Nat} {A B C : World} (h : Keep3 b A B) (k : Keep3 b B C) : Keep3 b A C := fun i h1 h2 => (k i h1 h2).trans (h i h1 h2)
theorem Keep3.refl (b : Nat) (A : World) : Keep3 b A A := fun _ _ _ => rfl
theorem Keep3.putObj {b : Nat} {W : World} {l : Nat} (o : Obj) (h : b + 3 ≤ l) : Keep3 b W (W.putObj l o) := fun k _ h2 => World.putObj_heap_other (by omega)
theorem Boxes.keep {b : Nat} {r : ByteArray} {W W' : World} (h : Boxes W b r) (k : Keep3 b W W') : Boxes W' b r :=
  ⟨(k b (by omega) (by omega)).trans h.1, (k (b + 1) (by omega) (by omega)).trans h.2.1, (k (b + 2) (by omega) (by omega)).trans h.2.2⟩
theorem Boxes.next {b : Nat} {r : ByteArray} {W : World} (h : Boxes W b r) (r' : ByteArray) : Boxes (W.setCell ⟨b, 0, none⟩ (.string r')) b r' :=
  ⟨h.1.set_ 0 _, h.2.1.far (by simp) _, h.2.2.far (by simp) _⟩
/-- More memory; a write into the iterator's own box; the turn of a block that holds no cells and is not old. -/
def Agree (b n₀ : Nat) (W W' : World) : Prop := ∃ row, W.grownBy W' row ∧ ∀ r, row = some r → r = b ∨ (n₀ ≤ r ∧ ∃ o : Obj, W.heap[r]? = some o ∧ o.isCells = false)
theorem Agree.alloc (b n₀ : Nat) (W : World) (o : Obj) : Agree b n₀ W (W.alloc o) := ⟨none, World.grownBy_alloc W o none, fun r e => by cases e⟩
theorem Agree.putObj {b n₀ : Nat} {W : World} {l : Nat} {o : Obj} (o' : Obj) (hl : W.heap[l]? = some o) (hc : o.isCells = false) (h : n₀ ≤ l) : Agree b n₀ W (W.putObj l o') :=
  ⟨some l, grownBy_putObj' W l o', fun r e => by cases e; exact .inr ⟨h, o, hl, hc⟩⟩
theorem Agree.setCell (b n₀ : Nat) (W : World) (v : Value) : Agree b n₀ W (W.setCell ⟨b, 0, none⟩ v) := ⟨some b, grownBy_setCell' W b v, fun r e => by cases e; exact .inl rfl⟩

/-- What the iterator does with whatever loop: it hands the pieces on, in turn, until the loop says no more. -/
def Hands (F : Fence) (n : Nat) (P : Program) (gf b : Nat) (s : ByteArray) (xs : List Pt.Bs) : Prop :=
  ∀ (l : Nat) (J Jx : List Pt.Bs → World → Prop) (W : World), Boxes W b s →
    (∀ pre W v, J pre W → J pre (W.setCell ⟨b, 0, none⟩ v)) → (∀ pre W v, Jx pre W → Jx pre (W.setCell ⟨b, 0, none⟩ v)) →
    (∀ pre x W1, J pre W1 → pre ++ [x] <+: xs → YieldAt F (n - 1) P l #[Pt.str x] W1 fun e W' =>
      (e = .returned (.bool true) ∧ J (pre ++ [x]) W' ∧ Keep3 b W1 W') ∨ (e = .returned (.bool false) ∧ Jx (pre ++ [x]) W')) →
    J [] W →
    CallsIn F n P gf #[.func (.yield l) #[] #[], .pointer (some ⟨b + 1, 0, none⟩), .pointer (some ⟨b, 0, none⟩), .pointer (some ⟨b + 2, 0, none⟩)] W fun e W' => (∃ v, e = .returned v) ∧ (J xs W' ∨ ∃ pre, Jx pre W')

/-- How a round's body may be left. -/
def roundEnd (b n₀ : Nat) (I : List Pt.Bs → World → Prop) (Ix : Code → List Pt.Bs → World → Prop) (xs : List Pt.Bs) (W : World) : Exit → Act → World → Prop
  | .normal, _, W' => KeepsFrom n₀ W W' ∧ Keep3 b W W' ∧ I xs W'
  | .ret, _, W' => KeepsFrom n₀ W W' ∧ Ix .ret xs W'
  | .exit id, _, W' => KeepsFrom n₀ W W' ∧ Ix (.exit id) xs W'
  | .goto t, _, W' => KeepsFrom n₀ W W' ∧ Ix (.goto t) xs W'
  | .panic _, _, _ => False
  | .outgrown, _, _ => False

theorem range_box {P : Program} {F : Fence} {n : Nat} {g : Operand} {ps : Array Tmp} {assign body : Code} {Q : Exit → Act → World → Prop} {a : Act} {w : World}
    (hro : F.round = none) (h1 : 1 ≤ n) {gf b : Nat} {s : ByteArray} {xs : List Pt.Bs} (hg : a.eval g = .func (.func gf) #[] #[.pointer (some ⟨b + 1, 0, none⟩), .pointer (some ⟨b, 0, none⟩), .pointer (some ⟨b + 2, 0, none⟩)])
    (hFg : F.fn gf) (eg : ∀ args w, (callFunc gf args).run P w = .ok (.enter gf args) w) (hseq : Hands F (n - 1) P gf b s xs) (hb : b + 3 ≤ w.heap.size) (hbx : Boxes w b s) (hps : ps.size = 1)
    (I : List Pt.Bs → World → Prop) (Ix : Code → List Pt.Bs → World → Prop) (hI : ∀ pre W W', I pre W → Agree b w.heap.size W W' → I pre W') (hIx : ∀ c pre W W', Ix c pre W → Agree b w.heap.size W W' → Ix c pre W')
    (h0 : I [] w) (a₁ : Pt.Bs → Act)
    (hassign : ∀ (l : Nat) (x : Pt.Bs) (W : World) (K : Act → World → Prop), K (a₁ x) W →
      assign.wpIn (F.inRound l) (n - 1 - 1) P (Exit.then K (fun _ _ _ => False)) { tmps := (ps.zip #[Pt.str x]).foldl (fun t (p, v) => t.setIfInBounds p v) a.tmps, defers := [] } W)
    (hbody : ∀ (l : Nat) (pre : List Pt.Bs) (x : Pt.Bs) (W : World), I pre W → pre ++ [x] <+: xs → w.heap.size ≤ W.heap.size → body.wpIn (F.inRound l) (n - 1 - 1) P (roundEnd b w.heap.size I Ix (pre ++ [x]) W) (a₁ x) W)
    (hdone : ∀ (D : Nat) (W : World), w.heap.size ≤ D → I xs W → W.heap[D]? = some (.deferred (some [])) → Q .normal { a with defers := { target := .collected D, args := #[] } :: a.defers } W)
    (hstop : ∀ (D : Nat) (c : Code) (pre : List Pt.Bs) (W : World), w.heap.size ≤ D → Ix c pre W → W.heap[D]? = some (.deferred (some [])) → c.wpIn F n P Q { a with defers := { target := .collected D, args := #[] } :: a.defers } W) :
    (Code.rangeFunc g ps assign body).wpIn F n P Q a w := by
  refine wpIn_rangeFunc ?_
  intro fn hfn
  rw [hro]
  obtain ⟨rec, hrec⟩ : ∃ rec : LoopState → Option Code → Loop, rec = fun st pe => { state := st, pending := pe, fn, tmps := a.tmps, params := ps, assign, body, defers := w.heap.size } := ⟨_, rfl⟩
  obtain ⟨W1, hW1⟩ : ∃ W1, (w.alloc (.deferred (some []))).alloc (.loop (rec .ready none)) = W1 := ⟨_, rfl⟩
  obtain ⟨l0, hl0⟩ : ∃ l0, l0 = w.heap.size + 1 := ⟨_, rfl⟩
  obtain ⟨d0, hd0⟩ : ∃ d0, d0 = w.heap.size := ⟨_, rfl⟩
  have hL1 : W1.heap[l0]? = some (.loop (rec .ready none)) := by
    rw [← hW1, hl0]; have := World.alloc_heap_new (w.alloc (.deferred (some []))) (.loop (rec .ready none)); rwa [World.size_alloc] at this
  have hK1 : W1.heap[d0]? = some (.deferred (some [])) := by
    rw [← hW1, hd0]; exact (Below.heap_alloc _ _ _ (by simp)).trans (World.alloc_heap_new w _)
  have hI1 : I [] W1 := by rw [← hW1]; exact hI _ _ _ (hI _ _ _ h0 (Agree.alloc _ _ _ _)) (Agree.alloc _ _ _ _)
  have hx1 : Boxes W1 b s := by
    refine hbx.keep fun k _ h2 => ?_
    rw [← hW1]
    exact (Below.heap_alloc _ _ _ (by simp; omega)).trans (Below.heap_alloc _ _ _ (by omega))
  have hz1 : w.heap.size ≤ W1.heap.size := by rw [← hW1]; simp; omega
  refine ⟨l0, [{ target := .collected d0, args := #[] }], W1, { target := .fn (.func gf) #[.pointer (some ⟨b + 1, 0, none⟩), .pointer (some ⟨b, 0, none⟩), .pointer (some ⟨b + 2, 0, none⟩)], args := #[.func (.yield l0) #[] #[]] }, W1, gf,
    #[.func (.yield l0) #[] #[], .pointer (some ⟨b + 1, 0, none⟩), .pointer (some ⟨b, 0, none⟩), .pointer (some ⟨b + 2, 0, none⟩)], W1, ?_, ?_, ?_, ?_, fun _ => h1, ?_⟩
  · rw [← hW1, hrec, hl0, hd0]; exact run_enterLoop_outer _ _ _ _ _
  · simp only [resolve, hg]
    simp [go_sem]
  · intro f' hf'; simp [Target.leads] at hf'; subst hf'; exact hFg
  · simp [invoke, go_sem, eg]
  · refine (hseq l0
      (fun pre W => I pre W ∧ W.heap[l0]? = some (.loop (rec .ready none)) ∧ W.heap[d0]? = some (.deferred (some [])))
      (fun pre W => ∃ c, Ix c pre W ∧ W.heap[l0]? = some (.loop (rec .done (some c))) ∧ W.heap[d0]? = some (.deferred (some [])))
      W1 hx1
      (fun pre W v h => ⟨hI _ _ _ h.1 (Agree.setCell _ _ _ _), (Below.heap_setCell W _ v l0 (by simp; omega)).trans h.2.1, (Below.heap_setCell W _ v d0 (by simp; omega)).trans h.2.2⟩)
      (fun pre W v h => by
        obtain ⟨c, hc, hl, hk⟩ := h
        exact ⟨c, hIx c _ _ _ hc (Agree.setCell _ _ _ _), (Below.heap_setCell W _ v l0 (by simp; omega)).trans hl, (Below.heap_setCell W _ v d0 (by simp; omega)).trans hk⟩)
      ?_ ⟨hI1, hL1, hK1⟩).mono ?_
    · -- one round
      rintro pre x W ⟨hi, hl, hk⟩ hpre
      have hlt : l0 < W.heap.size := (Array.getElem?_eq_some_iff.1 hl).1
      have hy := run_yield (P := P) (args := #[Pt.str x]) hl (by rw [hrec]; exact hps.symm)
      rw [hrec] at hy
      refine ⟨fn, _, assign, body, hy, roundIn_of_wpIn hfn (hassign _ x W _ ?_)⟩
      clear hy
      refine ⟨_, run_beginRound hl (by rw [hrec]), ?_⟩
      have hl2 : (W.putObj l0 (.loop { rec .ready none with state := .busy })).heap[l0]? = some (.loop { rec .ready none with state := .busy }) := World.putObj_heap_same hlt
      have hk2 : (W.putObj l0 (.loop { rec .ready none with state := .busy })).heap[d0]? = some (.deferred (some [])) := (World.putObj_heap_other (by omega)).trans hk
      have hw2 : Keep3 b W (W.putObj l0 (.loop { rec .ready none with state := .busy })) := Keep3.putObj _ (by omega)
      have hz2 : w.heap.size ≤ (W.putObj l0 (.loop { rec .ready none with state := .busy })).heap.size := by have := (Array.getElem?_eq_some_iff.1 hl2).1; omega
      refine wpIn_mono (hbody _ pre x _ (hI _ _ _ hi (Agree.putObj _ hl rfl (by omega))) hpre hz2) ?_
      have fin : ∀ (jump : Option Code) (W3 : World), KeepsFrom w.heap.size (W.putObj l0 (.loop { rec .ready none with state := .busy })) W3 →
          (Instr.endRound l0 jump).run P W3 = .ok (.bool jump.isNone) (W3.putObj l0 (.loop (rec (if jump.isNone then .ready else .done) jump))) ∧
          W3.heap[l0]? = some (.loop { rec .ready none with state := .busy }) ∧
          (W3.putObj l0 (.loop (rec (if jump.isNone then .ready else .done) jump))).heap[l0]? = some (.loop (rec (if jump.isNone then .ready else .done) jump)) ∧
          (W3.putObj l0 (.loop (rec (if jump.isNone then .ready else .done) jump))).heap[d0]? = some (.deferred (some [])) := fun jump W3 hk3 => by
        have hl3 := hk3.same _ _ (by omega) hl2 rfl
        have := run_endRound (P := P) jump hl3
        rw [hrec] at this ⊢
        exact ⟨this, by rw [hrec] at hl3; exact hl3, World.putObj_heap_same (Array.getElem?_eq_some_iff.1 hl3).1, (World.putObj_heap_other (by omega)).trans (hk3.same _ _ (by omega) hk2 rfl)⟩
      rintro e a3 W3 hp
      cases e with
      | normal =>
        obtain ⟨hk3, hkp3, hi3⟩ := hp
        obtain ⟨hr, hl3, hl4, hk4⟩ := fin none W3 hk3
        exact ⟨_, _, hr, .inl ⟨rfl, ⟨hI _ _ _ hi3 (Agree.putObj _ hl3 rfl (by omega)), hl4, hk4⟩, (hw2.trans hkp3).trans (Keep3.putObj _ (by omega))⟩⟩
      | ret =>
        obtain ⟨hk3, hi3⟩ := hp
        obtain ⟨hr, hl3, hl4, hk4⟩ := fin (some .ret) W3 hk3
        exact ⟨_, _, hr, .inr ⟨rfl, .ret, hIx _ _ _ _ hi3 (Agree.putObj _ hl3 rfl (by omega)), hl4, hk4⟩⟩
      | exit id =>
        obtain ⟨hk3, hi3⟩ := hp
        obtain ⟨hr, hl3, hl4, hk4⟩ := fin (some (.exit id)) W3 hk3
        exact ⟨_, _, hr, .inr ⟨rfl, .exit id, hIx _ _ _ _ hi3 (Agree.putObj _ hl3 rfl (by omega)), hl4, hk4⟩⟩
      | goto t =>
        obtain ⟨hk3, hi3⟩ := hp
        obtain ⟨hr, hl3, hl4, hk4⟩ := fin (some (.goto t)) W3 hk3
        exact ⟨_, _, hr, .inr ⟨rfl, .goto t, hIx _ _ _ _ hi3 (Agree.putObj _ hl3 rfl (by omega)), hl4, hk4⟩⟩
      | panic ch => exact hp.elim
      | outgrown => exact hp.elim
    · -- behind the iterator
      rintro e W2 ⟨⟨v, rfl⟩, (⟨hi, hl, hk⟩ | ⟨pre, c, hi, hl, hk⟩)⟩
      · exact ⟨none, _, by have := run_endLoop (P := P) hl (by rw [hrec]; simp); rw [hrec] at this; exact this, hdone d0 _ (by omega) (hI _ _ _ hi (Agree.putObj _ hl rfl (by omega))) ((World.putObj_heap_other (by omega)).trans hk)⟩
      · exact ⟨some c, _, by have := run_endLoop (P := P) hl (by rw [hrec]; simp); rw [hrec] at this; exact this, hstop d0 c pre _ (by omega) (hIx _ _ _ _ hi (Agree.putObj _ hl rfl (by omega))) ((World.putObj_heap_other (by omega)).trans hk)⟩

/-- How long the iterator's rest is. -/
def restLen (b : Nat) (W : World) : Nat := match W.cell? ⟨b, 0, none⟩ with | some (.string r) => r.size | _ => 0
theorem restLen_of {b : Nat} {W : World} {r : ByteArray} (h : Boxes W b r) : restLen b W = r.size := by
  unfold restLen; rw [show W.cell? ⟨b, 0, none⟩ = some (.string r) from h.1.cell 0]

set_option maxRecDepth 100000 in
set_option maxHeartbeats 1000000 in
theorem hands_any (n b : Nat) (s : ByteArray) (hn : 1 ≤ n) (hs : s.size ≤ 140737488355328) : Hands Fence.wide n Tryz.prog 83 b s (Pt.split s.data.toList) := by
  intro l J Jx W hbx hJ hJx hY h0
  refine callsIn_of_wp Tryz.func83 rfl trivial ?_ rfl
  simp only [Tryz.ntmps83, List.size_toArray, List.length_cons, List.length_nil, Nat.reduceAdd, Nat.reduceSub, Array.replicate_succ, Array.replicate_zero, List.push_toArray, List.append_toArray, List.nil_append, List.cons_append]
  have h2 := (hbx.2.1.one).1
  gi_wp2_with fail
  clear h2
  gi_loopw [7] (fun _ wr => ∃ pre r, Boxes wr b r ∧ J pre wr ∧ r.size ≤ s.size ∧ Hid (Pt.split s.data.toList = pre ++ Pt.split r.data.toList)) (fun _ wr => restLen b wr)
  case atStart => exact ⟨[], s, hbx, h0, Nat.le_refl _, Lib.hid rfl⟩
  case round =>
    obtain ⟨pre, r, hB, hj, hr, HS⟩ := hrel
    have c := (callsIn_wide (n := n - 1)).2 (index_slash r wr)
    have hge := Lib.indexByte_ge r.data.toList 47
    obtain ⟨x0, x0f, _⟩ := hB.1.one
    obtain ⟨x1, _, _⟩ := hB.2.1.one
    obtain ⟨x2, _, _⟩ := hB.2.2.one
    by_cases hm : Lib.indexByte r.data.toList 47 = -1
    · rw [hm] at c
      have HE := Lib.hid (HS.out.trans (by rw [split_none hm]))
      obtain ⟨fn, tmps, assign, body, hy, hR⟩ := hY pre r.data.toList wr hj ⟨[], by rw [HE.out]; simp⟩
      have hy' : (Instr.yield l #[.string r]).run Tryz.prog wr = .ok (.round l fn tmps assign body) wr := hy
      clear hy hm hge hY
      gi_wp2_with (refine ⟨trivial, ?_⟩; gi_at_call 85; refine c.mono ?_; rintro e w' ⟨rfl, rfl⟩)
      refine hR.mono ?_
      rintro e W2 (⟨rfl, hJ2, hk2⟩ | ⟨rfl, hJx2⟩)
      · gi_wp2
        go_end0
        exact ⟨⟨_, rfl⟩, .inl (by rw [HE.out]; exact hJ2)⟩
      · gi_wp2
        go_end0
        exact ⟨⟨_, rfl⟩, .inr ⟨_, hJx2⟩⟩
    · obtain ⟨i, hi⟩ : ∃ i : Nat, Lib.indexByte r.data.toList 47 = i := ⟨(Lib.indexByte r.data.toList 47).toNat, by omega⟩
      have hlt := (slash_at hi).2.2
      rw [size_length] at hlt
      rw [hi] at c
      have HE := Lib.hid (HS.out.trans (by rw [split_hit hi]))
      obtain ⟨fn, tmps, assign, body, hy, hR⟩ := hY pre (r.data.toList.take i) wr hj ⟨Pt.split (r.data.toList.drop (i + 1)), by rw [HE.out]; simp⟩
      have es : Pt.str (r.data.toList.take i) = .string (r.extract 0 i) := by rw [str_extract]; simp
      have hy' : (Instr.yield l #[.string (r.extract 0 i)]).run Tryz.prog wr = .ok (.round l fn tmps assign body) wr := by rw [← es]; exact hy
      have ed := Lib.hid (show (r.extract (i + 1) r.size).data.toList = r.data.toList.drop (i + 1) by rw [Lib.extract_data, List.take_of_length_le (by rw [List.length_drop, size_length]; exact Nat.le_refl _)])
      clear hy hm hge hi es
      gi_wp2_with (refine ⟨trivial, ?_⟩; gi_at_call 85; refine c.mono ?_; rintro e w' ⟨rfl, rfl⟩)
      refine hR.mono ?_
      rintro e W2 (⟨rfl, hJ2, hk2⟩ | ⟨rfl, hJx2⟩)
      · have hB2 := hB.keep hk2
        clear x0 x0f x1 x2
        obtain ⟨x0, x0f, _⟩ := hB2.1.one
        obtain ⟨x1, _, _⟩ := hB2.2.1.one
        gi_wp2
        go_roundw
        case rel => exact ⟨pre ++ [r.data.toList.take i], r.extract (i + 1) r.size, hB2.next _, hJ _ _ _ hJ2, by simp; omega, Lib.hid (by rw [HE.out, ed.out, List.append_assoc]; rfl)⟩
        case measure => rw [restLen_of (hB2.next _), restLen_of hB]; simp; omega
      · gi_wp2
        refine bodyPost_ret (results_none rfl _ _ _) rfl ?_
        exact ⟨⟨_, rfl⟩, .inr ⟨_, hJx2⟩⟩
end Go.Proofs.YtjppfhgkanbemacGreatDoor

namespace Go.Proofs.YtjppfhgkanbemacGreatDoor
open Go.RowKit Go.Shelf
attribute [local go_sem] Oper.semAt_some

theorem seq_any (s : ByteArray) (w : World) :
    Calls Tryz.prog 44 #[.string s, .string ⟨#[47]⟩] w fun e w' => e = .returned (.func (.func 83) #[] #[.pointer (some ⟨w.heap.size + 1, 0, none⟩), .pointer (some ⟨w.heap.size, 0, none⟩), .pointer (some ⟨w.heap.size + 2, 0, none⟩)])
      ∧ Boxes w' w.heap.size s ∧ w'.heap.size = w.heap.size + 3 ∧ Below w.heap.size w w' := by
  go_enter Tryz.func44, Tryz.ntmps44
  go_wp2
  go_ret
  refine ⟨rfl, ⟨((Blk.new w _ _).alloc _).alloc _, ?_, ?_⟩, by simp, (((Below.refl _ w).alloc (Nat.le_refl _) _).alloc (by simp) _).alloc (by simp; omega) _⟩
  · have h := (Blk.new (w.alloc (.cells #[.string s] 9)) 9 [.string ⟨#[47]⟩]).alloc (.cells #[.int .i64 0] 3)
    rwa [World.size_alloc] at h
  · have h := Blk.new ((w.alloc (.cells #[.string s] 9)).alloc (.cells #[.string ⟨#[47]⟩] 9)) 3 [.int .i64 0]
    rwa [World.size_alloc, World.size_alloc] at h

theorem Agree.below {b n₀ n : Nat} {w W W' : World} (h : Below n w W) (k : Agree b n₀ W W') (hn : n ≤ w.heap.size) (h1 : n ≤ b) (h2 : n ≤ n₀) : Below n w W' := by
  obtain ⟨row, hg, hr⟩ := k
  exact h.grown hg (Nat.le_trans hn h.size) (fun r e => by rcases hr r e with rfl | ⟨h3, _⟩ <;> omega)
theorem below_agree {b n₀ : Nat} {w W W' : World} (h : Below w.heap.size w W) (k : Agree b n₀ W W') (h1 : w.heap.size ≤ b ∧ w.heap.size ≤ n₀) : Below w.heap.size w W' := Agree.below h k (Nat.le_refl _) h1.1 h1.2
theorem Blk.agree {b n₀ g : Nat} {t : TypeId} {cs : List Value} {W W' : World} (h : Blk W g t cs) (k : Agree b n₀ W W') (hne : g ≠ b) : Blk W' g t cs := by
  obtain ⟨row, hg, hr⟩ := k
  refine h.grown hg (fun e => ?_)
  rcases hr g e.symm with h1 | ⟨_, o, ho, hc⟩
  · exact hne h1
  · rw [show W.heap[g]? = _ from h] at ho
    cases ho
    cases hc
theorem piece_len : ∀ (l : Pt.Bs), ∀ p ∈ Pt.split l, p.length ≤ l.length
  | [] => by intro p hp; simp [Pt.split] at hp; subst hp; simp
  | c :: r => by
    have ih := piece_len r
    intro p hp
    by_cases h : c = 47
    · subst h
      rw [Pt.split_slash] at hp
      rcases List.mem_cons.1 hp with rfl | hp
      · simp
      · have := ih p hp; simp; omega
    · rw [Pt.split_cons h] at hp
      cases hs : Pt.split r with
      | nil => exact absurd hs (Pt.split_ne r)
      | cons q qs =>
        rw [hs] at hp ih
        rcases List.mem_cons.1 hp with rfl | hp
        · have := ih q (by simp); simp; omega
        · have := ih p (by simp [hp]); simp; omega
theorem piece_of {l : Pt.Bs} {pre : List Pt.Bs} {x : Pt.Bs} (h : pre ++ [x] <+: Pt.split l) : x ∈ Pt.split l := h.subset (by simp)

theorem clean_long {s : ByteArray} (h : 80 < s.size) : Pt.clean s.data.toList = false := by
  unfold Pt.clean; rw [size_length, decide_eq_false (by omega)]; rfl
theorem clean_short {s : ByteArray} (h : s.size ≤ 80) : Pt.clean s.data.toList = (Pt.split s.data.toList).all Pt.named := by
  unfold Pt.clean; rw [size_length, decide_eq_true h]; rfl
theorem all_bad {xs pre : List Pt.Bs} {x : Pt.Bs} (h : pre ++ [x] <+: xs) (hx : Pt.named x = false) : xs.all Pt.named = false := by
  rw [List.all_eq_false]
  exact ⟨x, h.subset (by simp), by simp [hx]⟩

set_option maxRecDepth 100000 in
set_option maxHeartbeats 1000000 in
theorem clean_any (s : ByteArray) (w : World) (hs : s.size ≤ 140737488355328) :
    Calls Tryz.prog 22 #[.string s] w fun e w' => e = .returned (.bool (Pt.clean s.data.toList)) ∧ Below w.heap.size w w' := by
  rcases Nat.lt_or_ge 80 s.size with hlen | hlen
  · have HE := Lib.hid (clean_long hlen)
    go_enter Tryz.func22, Tryz.ntmps22
    go_wp2
    exact bodyPost_ret (v := .bool false) (by simp [results, Tryz.results22, go_sem]) rfl ⟨ret_bool HE.out.symm, (Below.refl _ w).alloc (Nat.le_refl _) _⟩
  have HE := Lib.hid (clean_short hlen)
  have h3 : 1 ≤ 3 - 1 - 1 := by decide
  refine (callsIn_wide (n := 3)).1 ?_
  refine callsIn_of_wp_marks Tryz.func22 rfl trivial ?_ rfl
  simp only [Tryz.ntmps22, List.size_toArray, List.length_cons, List.length_nil, Nat.reduceAdd, Nat.reduceSub, Array.replicate_succ, Array.replicate_zero, List.push_toArray, List.append_toArray, List.nil_append, List.cons_append]
  gi_wp2_with (refine ⟨trivial, ?_⟩; gi_at_call 44; refine (callsIn_wide.2 (seq_any _ _)).mono ?_; rintro e w1 ⟨rfl, hbx, hz, hb1⟩)
  have hR1 : Blk w1 w.heap.size 4 [.bool false] := (Blk.new w 4 [.bool false]).below hb1 (by simp)
  have hB1 : Below w.heap.size w w1 := ((Below.refl _ w).alloc (Nat.le_refl _) _).trans (hb1.mono (by simp))
  rw [World.size_alloc] at hbx hz
  clear hb1
  refine range_box (F := Fence.wide) (n := 3) rfl (by decide) (b := w.heap.size + 1) (s := s) (xs := Pt.split s.data.toList) rfl trivial (enters_of Tryz.func83 (by kernel_rfl) rfl) (hands_any 2 _ s (by decide) hs) (by omega) hbx rfl
    (fun pre W => Blk W w.heap.size 4 [.bool false] ∧ Below w.heap.size w W ∧ Hid (pre.all Pt.named = true))
    (fun c _ W => c = .ret ∧ Blk W w.heap.size 4 [.bool false] ∧ Below w.heap.size w W ∧ Hid ((Pt.split s.data.toList).all Pt.named = false))
    (fun pre W W' h k => ⟨h.1.agree k (by omega), below_agree h.2.1 k (by omega), h.2.2⟩)
    (fun c pre W W' h k => ⟨h.1, h.2.1.agree k (by omega), below_agree h.2.2.1 k (by omega), h.2.2.2⟩)
    ⟨hR1, hB1, Lib.hid rfl⟩
    (fun x => { tmps := #[.string s, undef, .pointer (some ⟨w.heap.size, 0, none⟩), Pt.str x, .string s, .int .i64 s.size, .bool (decide (80 < (s.size : Int))), .string s,
      .func (.func 83) #[] #[.pointer (some ⟨w.heap.size + 1 + 1, 0, none⟩), .pointer (some ⟨w.heap.size + 1, 0, none⟩), .pointer (some ⟨w.heap.size + 1 + 2, 0, none⟩)], Pt.str x, undef, undef, undef], defers := [] }) ?assign ?body ?done ?stop
  case assign =>
    intro l x W K hK
    gi_wp2
    exact hK
  case body =>
    rintro l pre x W ⟨hR, hB, HA⟩ hpre hsz
    have hx : x.length ≤ s.size := by rw [← size_length]; exact piece_len _ x (piece_of hpre)
    have c := named_any ⟨x.toArray⟩ W (by unfold maxLen; show x.toArray.size ≤ _; simp; omega)
    obtain ⟨r0, r0f, _⟩ := hR.one
    rcases hn : Pt.named x with _ | _
    · have c' : Calls Tryz.prog 29 #[Pt.str x] W fun e w' => e = .returned (.bool false) ∧ w' = W := c.mono fun e w' ⟨he, hw⟩ => ⟨by rw [he]; exact ret_bool hn, hw⟩
      have HF := Lib.hid (all_bad hpre hn)
      clear c hn
      gi_wp2_with (refine ⟨trivial, ?_⟩; gi_at_call 29; refine (CallsIn.inRound l (callsIn_wide.2 c')).mono ?_; rintro e w' ⟨rfl, rfl⟩)
      exact ⟨(KeepsOthers.setCell _ _ _).from _, rfl, hR.set_ 0 (.bool false), hB.setCell (p := ⟨w.heap.size, 0, none⟩) (Nat.le_refl _) _, HF⟩
    · have c' : Calls Tryz.prog 29 #[Pt.str x] W fun e w' => e = .returned (.bool true) ∧ w' = W := c.mono fun e w' ⟨he, hw⟩ => ⟨by rw [he]; exact ret_bool hn, hw⟩
      have HF := Lib.hid hn
      clear c hn
      gi_wp2_with (refine ⟨trivial, ?_⟩; gi_at_call 29; refine (CallsIn.inRound l (callsIn_wide.2 c')).mono ?_; rintro e w' ⟨rfl, rfl⟩)
      exact ⟨KeepsFrom.refl _ _, Keep3.refl _ _, hR, hB, Lib.hid (by rw [List.all_append, HA.out]; simp [HF.out])⟩
  case done =>
    rintro D W hD ⟨hR, hB, HA⟩ hK
    obtain ⟨r0, r0f, _⟩ := hR.one
    gi_wp2
    have hK' := (Below.heap_setCell W ⟨w.heap.size, 0, none⟩ (.bool true) D (by simp; omega)).trans hK
    refine ⟨by simp, .inl ⟨_, _, rfl, run_takeDeferred hK', ?_⟩⟩
    have hc := cell_kept (((hR.set_ 0 (.bool true)).one).1) (grownBy_putObj' _ D (.deferred none)) (fun r e => by cases e; exact ⟨_, hK', rfl⟩)
    refine ⟨.bool true, by simp [results, Tryz.results22, go_sem, hc], ret_bool (by rw [HE.out, HA.out]), ?_⟩
    exact (hB.setCell (p := ⟨w.heap.size, 0, none⟩) (Nat.le_refl _) _).grown (grownBy_putObj' _ D _) (by simpa using hB.size) (fun k e => by cases e; omega)
  case stop =>
    rintro D c pre W hD ⟨rfl, hR, hB, HA⟩ hK
    obtain ⟨r0, r0f, _⟩ := hR.one
    gi_wp2
    refine ⟨by simp, .inl ⟨_, _, rfl, run_takeDeferred hK, ?_⟩⟩
    have hc := cell_kept r0 (grownBy_putObj' _ D (.deferred none)) (fun r e => by cases e; exact ⟨_, hK, rfl⟩)
    refine ⟨.bool false, by simp [results, Tryz.results22, go_sem, hc], ret_bool (by rw [HE.out, HA.out]), ?_⟩
    exact hB.grown (grownBy_putObj' _ D _) hB.size (fun k e => by cases e; omega)
end Go.Proofs.YtjppfhgkanbemacGreatDoor

namespace Go.Proofs.YtjppfhgkanbemacGreatDoor
open Go.RowKit Go.Shelf

end Go.Proofs.YtjppfhgkanbemacGreatDoor

namespace Go.Proofs.YtjppfhgkanbemacGreatDoor
open Go.RowKit Go.Shelf

theorem toList_beq (a b : ByteArray) : (a.toList == b.toList) = (a.data.toList == b.data.toList) := by rw [Lib.toList_data, Lib.toList_data]
/-- A text is empty, or it isn't: in the walk's spellings. -/
theorem empty_cases (a : ByteArray) : (a.data.toList = [] ∧ a.toList = [] ∧ a.toList.isEmpty = true) ∨ (¬ a.data.toList = [] ∧ ¬ a.toList = [] ∧ a.toList.isEmpty = false) := by
  by_cases h : a.data.toList = []
  · exact .inl ⟨h, empty_of h, isEmpty_of h⟩
  · exact .inr ⟨h, nonempty_of h, notEmpty_of h⟩

theorem cut_len (s : ByteArray) : (Pt.dirOf s.data.toList).length ≤ s.size ∧ (Pt.nameOf s.data.toList).length ≤ s.size := by
  rcases cut_of_last s with ⟨_, hn⟩ | ⟨i, hi, _, hc, hn⟩
  · rw [(cut_no hn).1, (cut_no hn).2, size_length]; simp
  · have h := cut_at (by simpa using hi) hc hn
    rw [h.1, h.2, List.length_take, List.length_drop, size_length]; omega

end Go.Proofs.YtjppfhgkanbemacGreatDoor
