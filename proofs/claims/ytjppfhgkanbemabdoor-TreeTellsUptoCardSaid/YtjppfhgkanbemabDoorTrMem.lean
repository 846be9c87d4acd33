/-
  Entries in memory: cells, slices, rows of the call's own.
-/
import Derived.Test.YtjppfhgkanbemabDoorPtMore
import Derived.Test.YtjppfhgkanbemabDoorTrOver
import Derived.WalkSpells
import Derived.Outline
import Derived.Deep.RegionHeld3
namespace Go.Proofs.YtjppfhgkanbemabDoor
open Go.RowKit

def En.cells (x : En) : List Value := [.string x.p, .int .i64 x.k, .string x.t, .bool x.o]
def En.agg (x : En) : Value := .agg x.cells.toArray
def En.flat (l : List En) : List Value := l.flatMap En.cells
theorem En.agg_eq (x : En) : x.agg = .agg #[.string x.p, .int .i64 x.k, .string x.t, .bool x.o] := rfl

/-- An entry's four cells at an address. -/
def EnAt (w : World) (b i : Nat) (x : En) : Prop :=
  w.cell? ⟨b, i, none⟩ = some (.string x.p) ∧ w.cell? ⟨b, i + 1, none⟩ = some (.int .i64 x.k) ∧ w.cell? ⟨b, i + 2, none⟩ = some (.string x.t) ∧ w.cell? ⟨b, i + 3, none⟩ = some (.bool x.o)
theorem EnAt.below {w w' : World} {B b i : Nat} {x : En} (h : EnAt w b i x) (hB : Below B w w') (hb : b < B) : EnAt w' b i x :=
  ⟨(hB.cell hb).trans h.1, (hB.cell hb).trans h.2.1, (hB.cell hb).trans h.2.2.1, (hB.cell hb).trans h.2.2.2⟩
theorem eflat_at (l : List En) (k : Nat) (hk : k < l.length) :
    (En.flat l)[k * 4 + 0]? = some (.string l[k].p) ∧ (En.flat l)[k * 4 + 1]? = some (.int .i64 l[k].k) ∧ (En.flat l)[k * 4 + 2]? = some (.string l[k].t) ∧ (En.flat l)[k * 4 + 3]? = some (.bool l[k].o) := by
  induction l generalizing k with
  | nil => simp at hk
  | cons x r ih =>
    have e : En.flat (x :: r) = [.string x.p, .int .i64 x.k, .string x.t, .bool x.o] ++ En.flat r := rfl
    rw [e]
    cases k with
    | zero => simp
    | succ k =>
      have h := ih k (by simpa using hk)
      have e2 : ∀ j, ([Value.string x.p, .int .i64 x.k, .string x.t, .bool x.o] ++ En.flat r)[(k + 1) * 4 + j]? = (En.flat r)[k * 4 + j]? := fun j => by
        rw [List.getElem?_append_right (by simp; omega)]
        congr 1
        simp
        omega
      simpa only [e2, List.getElem_cons_succ] using h
theorem eflat_len (l : List En) : (En.flat l).length = l.length * 4 := by
  induction l with
  | nil => rfl
  | cons x r ih =>
    rw [show En.flat (x :: r) = x.cells ++ En.flat r from rfl, List.length_append, ih]
    simp [En.cells]
    omega
theorem eflat_append (l r : List En) : En.flat (l ++ r) = En.flat l ++ En.flat r := by simp [En.flat]
theorem eflat_one {l : List En} {u : Value} (h : u ∈ En.flat l) : u.oneCell' = true := by
  simp only [En.flat, List.mem_flatMap, En.cells, List.mem_cons, List.mem_nil_iff, or_false] at h
  obtain ⟨x, _, rfl | rfl | rfl | rfl⟩ := h <;> rfl
theorem eflat_take (r : List En) (i : Nat) : (En.flat r).take (i * 4) = En.flat (r.take i) := by
  induction r generalizing i with
  | nil => simp [En.flat]
  | cons y r ih =>
    rcases i with _ | i
    · simp [En.flat]
    · have e : En.flat (y :: r) = [.string y.p, .int .i64 y.k, .string y.t, .bool y.o] ++ En.flat r := rfl
      rw [List.take_succ_cons, e, show En.flat (y :: r.take i) = [.string y.p, .int .i64 y.k, .string y.t, .bool y.o] ++ En.flat (r.take i) from rfl, ← ih i, show (i + 1) * 4 = i * 4 + 4 from by omega]
      rfl

/-- A slice of entries. -/
def EnRd (w : World) (B : Nat) (A : Option Addr) (l : List En) : Prop := Rd w B 4 A l.length (En.flat l)
theorem EnRd.at_ {w : World} {B : Nat} {A : Option Addr} {l : List En} (h : EnRd w B A l) {k : Nat} (hk : k < l.length) :
    ∃ b o, A = some ⟨b, o, none⟩ ∧ b < B ∧ EnAt w b (o + k * 4) l[k] := by
  obtain ⟨b, o, e, hb, hc⟩ := h.2 (by omega)
  obtain ⟨f0, f1, f2, f3⟩ := eflat_at l k hk
  exact ⟨b, o, e, hb, hc _ _ f0, hc _ _ f1, hc _ _ f2, hc _ _ f3⟩
/-- The first k of a slice. -/
theorem EnRd.take {w : World} {B : Nat} {A : Option Addr} {l : List En} (h : EnRd w B A l) (k : Nat) : EnRd w B A (l.take k) := by
  refine ⟨eflat_len _, fun hn => ?_⟩
  have hl : 0 < l.length := by rw [List.length_take] at hn; omega
  obtain ⟨b, o, e, hb, hc⟩ := h.2 hl
  refine ⟨b, o, e, hb, fun j u hu => hc j u ?_⟩
  rw [← eflat_take, List.getElem?_take] at hu
  split at hu
  · exact hu
  · cases hu
/-- A row of entries of the call's own. -/
def EnOwn (w : World) (base : Nat) (v : Value) (l : List En) : Prop := w.ownsRow base 32 4 v l.length (En.flat l)
theorem EnOwn.snoc {w : World} {base n : Nat} {v : Value} {xs : List Value} {l m : List En} {y : En} (h : w.ownsRow base 32 4 v (n + 1) (xs ++ [.string y.p, .int .i64 y.k, .string y.t, .bool y.o]))
    (e : m = l ++ [y]) (hn : n = l.length := by rfl) (hx : xs = En.flat l := by rfl) : EnOwn w base v m := by
  subst e hn hx
  unfold EnOwn
  rw [eflat_append, List.length_append]
  exact h
theorem EnOwn.rd {w : World} {base : Nat} {v : Value} {l : List En} (h : EnOwn w base v l) : ∃ A c, v = .slice A l.length c ∧ l.length ≤ c ∧ EnRd w w.heap.size A l := by
  rcases own_shape h with ⟨rfl, h0⟩ | ⟨g, cap, rfl, _, _, hc⟩
  · have e : l = [] := List.length_eq_zero_iff.1 h0
    subst e
    exact ⟨none, 0, rfl, Nat.le_refl _, Rd.nil⟩
  · exact ⟨some ⟨g, 0, none⟩, cap, rfl, hc, Rd.of_own h⟩
theorem EnOwn.nil (w : World) (base : Nat) : EnOwn w base (.slice none 0 0) [] := World.ownsRow_nil _ _ _ _
/-- A literal of entries. -/
theorem EnRd.lit (w : World) (l : List En) {cs : Array Value} (h : cs = (En.flat l).toArray) : EnRd (w.alloc (.cells cs 32)) (w.heap.size + 1) (some ⟨w.heap.size, 0, none⟩) l := by
  subst h
  refine ⟨eflat_len l, fun _ => ⟨_, 0, rfl, Nat.lt_succ_self _, fun j u hu => ?_⟩⟩
  rw [Nat.zero_add]
  exact ((Blk.new w _ (En.flat l)).cell j).trans hu

theorem info_en : (Tryd.prog.info? 32).map (fun i => (i.zero, i.size, i.bytes)) = some (some (.agg #[.string ⟨#[]⟩, .int .i64 0, .string ⟨#[]⟩, .bool false]), 4, 48) := by kernel_rfl

/-- All paths are short enough for a call of Compare. -/
def Sm (l : List En) : Prop := ∀ e ∈ l, e.p.size < 4294967281 ∧ e.t.size < 4294967281
theorem Sm.at_ {l : List En} (h : Sm l) {k : Nat} (hk : k < l.length) : l[k].p.size < 4294967281 ∧ l[k].t.size < 4294967281 := h _ (List.getElem_mem hk)
theorem Sm.take {l : List En} (h : Sm l) (k : Nat) : Sm (l.take k) := fun e he => h e (List.mem_of_mem_take he)
theorem Tr.right_sm {b : Bool} {l : List En} (h : Tr.Right b l) : Sm l := fun e he => by
  have h1 := Tr.clean_len (Tr.entry_clean (h.1 e he))
  have h2 := ((Tr.entry_zero e b).1 (h.1 e he)).2.2.1
  have h3 : e.p.size = e.P.length := (size_length e.p).symm
  omega

/-! ### Where a path stands -/
/-- What Find answers. -/
def FindRel (l : List En) (p : Pt.Bs) (k : Nat) (b : Bool) : Prop :=
  k ≤ l.length ∧ (b = true → ∃ h : k < l.length, l[k].P = p) ∧ (Tr.Srt l → (∀ t (h : t < l.length), t < k → Pt.cmp l[t].P p < 0) ∧ (∀ t (h : t < l.length), k ≤ t → 0 ≤ Pt.cmp l[t].P p) ∧ (b = false → ∀ e ∈ l, e.P ≠ p))
theorem srt_lt {l : List En} (h : Tr.Srt l) {i j : Nat} (hj : j < l.length) (hij : i < j) : Pt.cmp (l[i]'(by omega)).P l[j].P < 0 := List.pairwise_iff_getElem.1 h i j _ hj hij
theorem find_end {l : List En} {p : Pt.Bs} {k : Nat} {b : Bool} (hk : k ≤ l.length) (h1 : Tr.Srt l → ∀ t (h : t < l.length), t < k → Pt.cmp l[t].P p < 0) (h2 : Tr.Srt l → ∀ t (h : t < l.length), k ≤ t → 0 ≤ Pt.cmp l[t].P p)
    (hb : if h : k < l.length then b = decide (Pt.cmp l[k].P p = 0) else b = false) : FindRel l p k b := by
  refine ⟨hk, fun e => ?_, fun hs => ⟨h1 hs, h2 hs, fun e => ?_⟩⟩
  · by_cases h : k < l.length
    · rw [dif_pos h, e] at hb
      exact ⟨h, Pt.cmp_zero (of_decide_eq_true hb.symm)⟩
    · rw [dif_neg h, e] at hb; cases hb
  · intro x hx he
    obtain ⟨t, ht, rfl⟩ := List.getElem_of_mem hx
    have hz : Pt.cmp l[t].P p = 0 := by rw [he, Pt.cmp_self]
    rcases Nat.lt_or_ge t k with hlt | hge
    · have := h1 hs t ht hlt; omega
    · have hkl : k < l.length := by omega
      rw [dif_pos hkl, e] at hb
      have hne : Pt.cmp l[k].P p ≠ 0 := of_decide_eq_false hb.symm
      rcases Nat.eq_or_lt_of_le hge with e2 | hgt
      · subst e2; exact hne hz
      · have h3 := srt_lt hs ht hgt
        rw [he] at h3
        exact absurd h3 (by have := h2 hs k hkl (Nat.le_refl _); omega)
theorem find_get {l : List En} {p : Pt.Bs} {k : Nat} {b : Bool} (h : FindRel l p k b) (hs : Tr.Srt l) (hp : p ≠ []) : (∀ hb : b = true, Tr.get l p = some (l[k]'(h.2.1 hb).1)) ∧ (b = false → Tr.get l p = none) := by
  refine ⟨fun hb => ?_, fun hb => (Tr.get_none hp).2 ((h.2.2 hs).2.2 hb)⟩
  obtain ⟨h1, h2⟩ := h.2.1 hb
  exact (Tr.get_iff hs hp).2 ⟨List.getElem_mem h1, h2⟩
theorem find_is {l : List En} {p : Pt.Bs} {k : Nat} {b : Bool} (h : FindRel l p k b) (hs : Tr.Srt l) (hp : p ≠ []) : b = (Tr.get l p).isSome := by
  obtain ⟨h1, h2⟩ := find_get h hs hp
  cases b
  · rw [h2 rfl]; rfl
  · rw [h1 rfl]; rfl
end Go.Proofs.YtjppfhgkanbemabDoor
