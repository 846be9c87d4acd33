/-
  Entries in memory: cells, slices, rows of the call's own.
  tree.Find and tree.Get.
  tree.entry.
-/
import Derived.Test.YtjppfhgkanbemacGreatDoorMD
import Derived.Test.YtjppfhgkanbemacGreatDoorMB
import Derived.WalkSpells
import Derived.Outline
import Derived.Deep.RegionHeld3
namespace Go.Proofs.YtjppfhgkanbemacGreatDoor
open Go.RowKit

def En.cells (x : En) : List Value := [.string x.p, .int .i64 x.k, .string x.t, .bool x.o]
def En.agg (x : En) : Value := .agg x.cells.toArray
def En.flat (l : List En) : List Value := l.flatMap En.cells
theorem En.agg_eq (x : En) : x.agg = .agg #[.string x.p, .int .i64 x.k, .string x.t, .bool x.o] := rfl

/-- An entry's four cells at an address. -/
def EnAt (w : World) (b i : Nat) (x : En) : Prop :=
  w.cell? ⟨b, i, none⟩ = some (.string x.p) ∧ w.cell? ⟨b, i + 1, none⟩ = some (.int .i64 x.k) ∧ w.cell? ⟨b, i + 2, none⟩ = some (.string x.t) ∧ w.cell? ⟨b, i + 3, none⟩ = some (.bool x.o)
theorem EnAt.below {w w' : World} {B b i : Nat} {x : En} (h : EnAt w b i x) (hB : Below B w w') (hb : b < B) : EnAt w' b i x :=
  ⟨(hB.cell hb).trans h.1, (hB.cell hb).trans h.2.1, (hB.cell hb).trans h.2.2.1, (hB.cell hb).trans h.2.2.2⟩
theorem eflat_at (l : List En) (k : Nat) (hk : k < l.length) :
    (En.flat l)[k * 4 + 0]? = some (.string l[k].p) ∧ (En.flat l)[k * 4 + 1]? = some (.int .i64 l[k].k) ∧ (En.flat l)[k * 4 + 2]? = some (.string l[k].t) ∧ (En.flat l)[k * 4 + 3]? = some (.bool l[k].o) := by
  induction l generalizing k with
  | nil => simp at hk
  | cons x r ih =>
    have e : En.flat (x :: r) = [.string x.p, .int .i64 x.k, .string x.t, .bool x.o] ++ En.flat r := rfl
    rw [e]
    cases k with
    | zero => simp
    | succ k =>
      have h := ih k (by simpa using hk)
      have e2 : ∀ j, ([Value.string x.p, .int .i64 x.k, .string x.t, .bool x.o] ++ En.flat r)[(k + 1) * 4 + j]? = (En.flat r)[k * 4 + j]? := fun j => by
        rw [List.getElem?_append_right (by simp; omega)]
        congr 1
        simp
        omega
      simpa only [e2, List.getElem_cons_succ] using h
theorem eflat_len (l : List En) : (En.flat l).length = l.length * 4 := by
  induction l with
  | nil => rfl
  | cons x r ih =>
    rw [show En.flat (x :: r) = x.cells ++ En.flat r from rfl, List.length_append, ih]
    simp [En.cells]
    omega
theorem eflat_append (l r : List En) : En.flat (l ++ r) = En.flat l ++ En.flat r := by simp [En.flat]
theorem eflat_one {l : List En} {u : Value} (h : u ∈ En.flat l) : u.oneCell' = true := by
  simp only [En.flat, List.mem_flatMap, En.cells, List.mem_cons, List.mem_nil_iff, or_false] at h
  obtain ⟨x, _, rfl | rfl | rfl | rfl⟩ := h <;> rfl
theorem eflat_take (r : List En) (i : Nat) : (En.flat r).take (i * 4) = En.flat (r.take i) := by
  induction r generalizing i with
  | nil => simp [En.flat]
  | cons y r ih =>
    rcases i with _ | i
    · simp [En.flat]
    · have e : En.flat (y :: r) = [.string y.p, .int .i64 y.k, .string y.t, .bool y.o] ++ En.flat r := rfl
      rw [List.take_succ_cons, e, show En.flat (y :: r.take i) = [.string y.p, .int .i64 y.k, .string y.t, .bool y.o] ++ En.flat (r.take i) from rfl, ← ih i, show (i + 1) * 4 = i * 4 + 4 from by omega]
      rfl

/-- A slice of entries. -/
def EnRd (w : World) (B : Nat) (A : Option Addr) (l : List En) : Prop := Rd w B 4 A l.length (En.flat l)
theorem EnRd.at_ {w : World} {B : Nat} {A : Option Addr} {l : List En} (h : EnRd w B A l) {k : Nat} (hk : k < l.length) :
    ∃ b o, A = some ⟨b, o, none⟩ ∧ b < B ∧ EnAt w b (o + k * 4) l[k] := by
  obtain ⟨b, o, e, hb, hc⟩ := h.2 (by omega)
  obtain ⟨f0, f1, f2, f3⟩ := eflat_at l k hk
  exact ⟨b, o, e, hb, hc _ _ f0, hc _ _ f1, hc _ _ f2, hc _ _ f3⟩
/-- The first k of a slice. -/
theorem EnRd.take {w : World} {B : Nat} {A : Option Addr} {l : List En} (h : EnRd w B A l) (k : Nat) : EnRd w B A (l.take k) := by
  refine ⟨eflat_len _, fun hn => ?_⟩
  have hl : 0 < l.length := by rw [List.length_take] at hn; omega
  obtain ⟨b, o, e, hb, hc⟩ := h.2 hl
  refine ⟨b, o, e, hb, fun j u hu => hc j u ?_⟩
  rw [← eflat_take, List.getElem?_take] at hu
  split at hu
  · exact hu
  · cases hu
/-- A row of entries of the call's own. -/
def EnOwn (w : World) (base : Nat) (v : Value) (l : List En) : Prop := w.ownsRow base 53 4 v l.length (En.flat l)
theorem EnOwn.snoc {w : World} {base n : Nat} {v : Value} {xs : List Value} {l m : List En} {y : En} (h : w.ownsRow base 53 4 v (n + 1) (xs ++ [.string y.p, .int .i64 y.k, .string y.t, .bool y.o]))
    (e : m = l ++ [y]) (hn : n = l.length := by rfl) (hx : xs = En.flat l := by rfl) : EnOwn w base v m := by
  subst e hn hx
  unfold EnOwn
  rw [eflat_append, List.length_append]
  exact h
theorem EnOwn.rd {w : World} {base : Nat} {v : Value} {l : List En} (h : EnOwn w base v l) : ∃ A c, v = .slice A l.length c ∧ l.length ≤ c ∧ EnRd w w.heap.size A l := by
  rcases own_shape h with ⟨rfl, h0⟩ | ⟨g, cap, rfl, _, _, hc⟩
  · have e : l = [] := List.length_eq_zero_iff.1 h0
    subst e
    exact ⟨none, 0, rfl, Nat.le_refl _, Rd.nil⟩
  · exact ⟨some ⟨g, 0, none⟩, cap, rfl, hc, Rd.of_own h⟩
theorem EnOwn.nil (w : World) (base : Nat) : EnOwn w base (.slice none 0 0) [] := World.ownsRow_nil _ _ _ _
/-- A literal of entries. -/
theorem EnRd.lit (w : World) (l : List En) {cs : Array Value} (h : cs = (En.flat l).toArray) : EnRd (w.alloc (.cells cs 53)) (w.heap.size + 1) (some ⟨w.heap.size, 0, none⟩) l := by
  subst h
  refine ⟨eflat_len l, fun _ => ⟨_, 0, rfl, Nat.lt_succ_self _, fun j u hu => ?_⟩⟩
  rw [Nat.zero_add]
  exact ((Blk.new w _ (En.flat l)).cell j).trans hu

theorem info_en : (Tryz.prog.info? 53).map (fun i => (i.zero, i.size, i.bytes)) = some (some (.agg #[.string ⟨#[]⟩, .int .i64 0, .string ⟨#[]⟩, .bool false]), 4, 48) := by kernel_rfl

/-- All paths are short enough for a call of Compare. -/
def Sm (l : List En) : Prop := ∀ e ∈ l, e.p.size < 4294967281 ∧ e.t.size < 4294967281
theorem Sm.at_ {l : List En} (h : Sm l) {k : Nat} (hk : k < l.length) : l[k].p.size < 4294967281 ∧ l[k].t.size < 4294967281 := h _ (List.getElem_mem hk)
theorem Sm.take {l : List En} (h : Sm l) (k : Nat) : Sm (l.take k) := fun e he => h e (List.mem_of_mem_take he)
theorem Tr.right_sm {b : Bool} {l : List En} (h : Tr.Right b l) : Sm l := fun e he => by
  have h1 := Tr.clean_len (Tr.entry_clean (h.1 e he))
  have h2 := ((Tr.entry_zero e b).1 (h.1 e he)).2.2.1
  have h3 : e.p.size = e.P.length := (size_length e.p).symm
  omega

/-! ### Where a path stands -/
/-- What Find answers. -/
def FindRel (l : List En) (p : Pt.Bs) (k : Nat) (b : Bool) : Prop :=
  k ≤ l.length ∧ (b = true → ∃ h : k < l.length, l[k].P = p) ∧ (Tr.Srt l → (∀ t (h : t < l.length), t < k → Pt.cmp l[t].P p < 0) ∧ (∀ t (h : t < l.length), k ≤ t → 0 ≤ Pt.cmp l[t].P p) ∧ (b = false → ∀ e ∈ l, e.P ≠ p))
theorem srt_lt {l : List En} (h : Tr.Srt l) {i j : Nat} (hj : j < l.length) (hij : i < j) : Pt.cmp (l[i]'(by omega)).P l[j].P < 0 := List.pairwise_iff_getElem.1 h i j _ hj hij
theorem find_end {l : List En} {p : Pt.Bs} {k : Nat} {b : Bool} (hk : k ≤ l.length) (h1 : Tr.Srt l → ∀ t (h : t < l.length), t < k → Pt.cmp l[t].P p < 0) (h2 : Tr.Srt l → ∀ t (h : t < l.length), k ≤ t → 0 ≤ Pt.cmp l[t].P p)
    (hb : if h : k < l.length then b = decide (Pt.cmp l[k].P p = 0) else b = false) : FindRel l p k b := by
  refine ⟨hk, fun e => ?_, fun hs => ⟨h1 hs, h2 hs, fun e => ?_⟩⟩
  · by_cases h : k < l.length
    · rw [dif_pos h, e] at hb
      exact ⟨h, Pt.cmp_zero (of_decide_eq_true hb.symm)⟩
    · rw [dif_neg h, e] at hb; cases hb
  · intro x hx he
    obtain ⟨t, ht, rfl⟩ := List.getElem_of_mem hx
    have hz : Pt.cmp l[t].P p = 0 := by rw [he, Pt.cmp_self]
    rcases Nat.lt_or_ge t k with hlt | hge
    · have := h1 hs t ht hlt; omega
    · have hkl : k < l.length := by omega
      rw [dif_pos hkl, e] at hb
      have hne : Pt.cmp l[k].P p ≠ 0 := of_decide_eq_false hb.symm
      rcases Nat.eq_or_lt_of_le hge with e2 | hgt
      · subst e2; exact hne hz
      · have h3 := srt_lt hs ht hgt
        rw [he] at h3
        exact absurd h3 (by have := h2 hs k hkl (Nat.le_refl _); omega)
theorem find_get {l : List En} {p : Pt.Bs} {k : Nat} {b : Bool} (h : FindRel l p k b) (hs : Tr.Srt l) (hp : p ≠ []) : (∀ hb : b = true, Tr.get l p = some (l[k]'(h.2.1 hb).1)) ∧ (b = false → Tr.get l p = none) := by
  refine ⟨fun hb => ?_, fun hb => (Tr.get_none hp).2 ((h.2.2 hs).2.2 hb)⟩
  obtain ⟨h1, h2⟩ := h.2.1 hb
  exact (Tr.get_iff hs hp).2 ⟨List.getElem_mem h1, h2⟩
theorem find_is {l : List En} {p : Pt.Bs} {k : Nat} {b : Bool} (h : FindRel l p k b) (hs : Tr.Srt l) (hp : p ≠ []) : b = (Tr.get l p).isSome := by
  obtain ⟨h1, h2⟩ := find_get h hs hp
  cases b
  · rw [h2 rfl]; rfl
  · rw [h1 rfl]; rfl
end Go.Proofs.YtjppfhgkanbemacGreatDoor

namespace Go.Proofs.YtjppfhgkanbemacGreatDoor
open Go.RowKit Go.Shelf

theorem find1_any (x : En) (p : ByteArray) (w : World) (hx : x.p.size < 4294967281) (hp : p.size < 4294967281) :
    Calls Tryz.prog 62 #[.agg #[.string x.p, .int .i64 x.k, .string x.t, .bool x.o], .string p] w fun e w' => e = .returned (.int .i64 (Pt.cmp x.P p.data.toList)) ∧ Below w.heap.size w w' := by
  obtain ⟨xp, xk, xt, xo⟩ := x
  dsimp only at hx ⊢
  go_enter Tryz.func62, Tryz.ntmps62
  go_wp2_with fail
  refine (cmp_any xp p _ hx hp).mono ?_
  rintro e w1 ⟨rfl, hb⟩
  go_wp2_with fail
  go_ret
  exact ⟨rfl, ((Below.refl _ _).alloc (Nat.le_refl _) _).trans (hb.mono (by simp))⟩

theorem find_low {l : List En} {p : Pt.Bs} {m : Nat} (hm : m < l.length) (h : Pt.cmp l[m].P p < 0) : Tr.Srt l → ∀ t (ht : t < l.length), t < m + 1 → Pt.cmp l[t].P p < 0 := by
  intro hs t ht htm
  rcases Nat.eq_or_lt_of_le (show t ≤ m by omega) with e | h2
  · subst e; exact h
  · exact Pt.cmp_trans (srt_lt hs hm h2) h
theorem find_high {l : List En} {p : Pt.Bs} {m : Nat} (hm : m < l.length) (h : 0 ≤ Pt.cmp l[m].P p) : Tr.Srt l → ∀ t (ht : t < l.length), m ≤ t → 0 ≤ Pt.cmp l[t].P p := by
  intro hs t ht htm
  rcases Nat.eq_or_lt_of_le htm with e | h3
  · subst e; exact h
  · refine Int.not_lt.1 fun h2 => ?_
    have := Pt.cmp_trans (srt_lt hs ht h3) h2
    omega

set_option maxHeartbeats 1600000 in
theorem search_any (A : Option Addr) (c : Nat) (l : List En) (p : ByteArray) (w : World) (hl : EnRd w w.heap.size A l) (hs : Sm l) (hp : p.size < 4294967281) (hn : l.length ≤ 2305843009213693952) :
    Calls Tryz.prog 61 #[.slice A l.length c, .string p, .func (.func 62) #[] #[]] w fun e w' => ∃ (k : Nat) (b : Bool), e = .returned (.tuple #[.int .i64 k, .bool b]) ∧ FindRel l p.data.toList k b ∧ Below w.heap.size w w' := by
  have HS := Lib.hid hs
  clear hs
  go_enter Tryz.func61, Tryz.ntmps61
  go_wp2_with fail
  go_loopw [9, 10] (fun vi vj wr => ∃ lo hi : Nat, vi = .int .i64 lo ∧ vj = .int .i64 hi ∧ lo ≤ hi ∧ hi ≤ l.length ∧ Hid (Tr.Srt l → ∀ t (h : t < l.length), t < lo → Pt.cmp l[t].P p.data.toList < 0) ∧ Hid (Tr.Srt l → ∀ t (h : t < l.length), hi ≤ t → 0 ≤ Pt.cmp l[t].P p.data.toList) ∧ Below w.heap.size w wr) (fun vi vj _ => (intOf vj).toNat - (intOf vi).toNat)
  case atStart => exact ⟨0, l.length, rfl, rfl, Nat.zero_le _, Nat.le_refl _, Lib.hid fun _ t _ h => absurd h (Nat.not_lt_zero _), Lib.hid fun _ t h h' => by omega, Below.refl _ _⟩
  case round =>
    obtain ⟨lo, hi, rfl, rfl, hlh, hin, H1, H2, hB⟩ := hrel
    by_cases hlt : lo < hi
    · obtain ⟨m, hm⟩ : ∃ m, m = (lo + hi) / 2 := ⟨_, rfl⟩
      have hml : m < l.length := by omega
      obtain ⟨b, o, rfl, hb, h0, h1, h2, h3⟩ := (EnRd.at_ (hl.below hB) hml)
      have HL := Lib.hid (fun h => find_low (p := p.data.toList) hml h)
      have HH := Lib.hid (fun h => find_high (p := p.data.toList) hml h)
      have hsz := (HS.out.at_ hml).1
      generalize l[m] = y at h0 h1 h2 h3 HL HH hsz
      obtain ⟨yp, yk, yt, yo⟩ := y
      dsimp only at h0 h1 h2 h3 hsz
      rw [hm] at h0 h1 h2 h3
      go_wp2_with fail
      refine (find1_any ⟨yp, yk, yt, yo⟩ p _ hsz hp).mono ?_
      rintro e w1 ⟨rfl, hb1⟩
      have hB1 := hB.trans (hb1.mono hB.size)
      clear h0 h1 h2 h3 hb1
      generalize hcm : Pt.cmp (En.P ⟨yp, yk, yt, yo⟩) p.data.toList = n at HL HH
      by_cases hneg : n < 0
      · go_wp2_with fail
        go_roundw
        case rel => exact ⟨m + 1, hi, by rw [hm]; go_num, rfl, by omega, hin, Lib.hid (HL.out hneg), H2, hB1⟩
        case measure => simp [intOf]; omega
      · go_wp2_with fail
        go_roundw
        case rel => exact ⟨lo, m, rfl, by rw [hm]; go_num, by omega, by omega, H1, Lib.hid (HH.out hneg), hB1⟩
        case measure => simp [intOf]; omega
    · obtain rfl : lo = hi := by omega
      have HE := Lib.hid (fun b hb => find_end (l := l) (p := p.data.toList) (k := lo) (b := b) hin H1.out H2.out hb)
      clear H1 H2
      by_cases hkl : lo < l.length
      · have HE2 := Lib.hid (fun b (hb : b = decide (Pt.cmp l[lo].P p.data.toList = 0)) => HE.out b (by rw [dif_pos hkl]; exact hb))
        clear HE
        obtain ⟨b, o, rfl, hb, h0, h1, h2, h3⟩ := (EnRd.at_ (hl.below hB) hkl)
        have hsz := (HS.out.at_ hkl).1
        generalize l[lo] = y at h0 h1 h2 h3 HE2 hsz
        obtain ⟨yp, yk, yt, yo⟩ := y
        dsimp only at h0 h1 h2 h3 hsz
        go_wp2_with fail
        refine (find1_any ⟨yp, yk, yt, yo⟩ p _ hsz hp).mono ?_
        rintro e w1 ⟨rfl, hb1⟩
        have hB1 := hB.trans (hb1.mono hB.size)
        clear h0 h1 h2 h3 hb1
        generalize Pt.cmp (En.P ⟨yp, yk, yt, yo⟩) p.data.toList = n at HE2
        go_wp2_with fail
        go_ret2
        exact ⟨lo, n == 0, rfl, HE2.out (n == 0) (by rw [Bool.eq_iff_iff]; simp), hB1⟩
      · have HE2 := Lib.hid (HE.out false (by rw [dif_neg hkl]))
        go_wp2_with fail
        go_ret2
        exact ⟨lo, false, rfl, HE2.out, hB⟩

theorem find_any (A : Option Addr) (c : Nat) (l : List En) (p : ByteArray) (w : World) (hl : EnRd w w.heap.size A l) (hs : Sm l) (hp : p.size < 4294967281) (hn : l.length ≤ 2305843009213693952) :
    Calls Tryz.prog 45 #[.slice A l.length c, .string p] w fun e w' => ∃ (k : Nat) (b : Bool), e = .returned (.tuple #[.int .i64 k, .bool b]) ∧ FindRel l p.data.toList k b ∧ Below w.heap.size w w' := by
  go_enter Tryz.func45, Tryz.ntmps45
  go_wp2_with fail
  refine (search_any A c l p w hl hs hp hn).mono ?_
  rintro e w1 ⟨k, b, rfl, hf, hb⟩
  go_wp2_with fail
  go_ret2
  exact ⟨k, b, rfl, hf, hb⟩

/-- What Get answers. -/
def GetRel (l : List En) (p : Pt.Bs) (r : Option En) : Prop := (∀ x, r = some x → p ≠ [] → x ∈ l ∧ x.P = p) ∧ (Tr.Srt l ∨ p = [] → r = Tr.get l p)
set_option maxHeartbeats 1600000 in
theorem get_any (A : Option Addr) (c : Nat) (l : List En) (p : ByteArray) (w : World) (hl : EnRd w w.heap.size A l) (hs : Sm l) (hp : p.size < 4294967281) (hn : l.length ≤ 2305843009213693952) :
    Calls Tryz.prog 23 #[.slice A l.length c, .string p] w fun e w' => ∃ r : Option En, e = .returned (.tuple #[(r.getD En.zero).agg, .bool r.isSome]) ∧ GetRel l p.data.toList r ∧ Below w.heap.size w w' := by
  by_cases h0 : p.data.toList = []
  · have g1 := empty_of h0
    have g2 := isEmpty_of h0
    have HR : Hid (GetRel l p.data.toList (some En.root)) := Lib.hid ⟨fun _ _ hne => absurd h0 hne, fun _ => by rw [h0, Tr.get_root]⟩
    clear h0
    go_enter Tryz.func23, Tryz.ntmps23
    go_wp2_with fail
    refine bodyPost_ret (v := .tuple #[En.root.agg, .bool true]) ?_ rfl ⟨some En.root, rfl, HR.out, ?_⟩
    · simp [results, Tryz.results23, go_sem, En.root, En.agg, En.cells]
    · exact (Below.refl _ _).alloc (Nat.le_refl _) _
  · have g1 := nonempty_of h0
    have g2 := notEmpty_of h0
    have HP := Lib.hid h0
    clear h0
    have hB0 : Below w.heap.size w (w.alloc (.cells #[.string ⟨#[]⟩, .int .i64 0, .string ⟨#[]⟩, .bool false] 53)) := (Below.refl _ _).alloc (Nat.le_refl _) _
    have hr0 := Blk.new w 53 [.string ⟨#[]⟩, .int .i64 0, .string ⟨#[]⟩, .bool false]
    go_enter Tryz.func23, Tryz.ntmps23
    go_wp2_with fail
    generalize w.alloc (.cells #[.string ⟨#[]⟩, .int .i64 0, .string ⟨#[]⟩, .bool false] 53) = w0 at *
    refine (find_any A c l p w0 ((hl.below hB0).more hB0.size) hs hp hn).mono ?_
    rintro e w1 ⟨k, b, rfl, hf, hb⟩
    have hB1 := hB0.trans (hb.mono hB0.size)
    have hr1 := hr0.below hb hr0.lt
    clear hb hB0 hr0
    obtain ⟨r0, r1, r2, r3, rf, rz⟩ := hr1.four
    cases b
    · have HR : Hid (GetRel l p.data.toList none) := Lib.hid ⟨fun _ h => (nomatch h), fun hs => by
        rcases hs with hs | hs
        · exact ((find_get hf hs HP.out).2 rfl).symm
        · exact absurd hs HP.out⟩
      clear hf
      go_wp2_with fail
      refine bodyPost_ret (v := .tuple #[En.zero.agg, .bool false]) ?_ rfl ⟨none, rfl, HR.out, ?_⟩
      · simp [results, Tryz.results23, go_sem, En.zero, En.agg, En.cells, r0, r1, r2, r3]
      · exact ((((hB1.setCell (by simp) _).setCell (by simp) _).setCell (by simp) _).setCell (by simp) _)
    · obtain ⟨hk, hkp⟩ := hf.2.1 rfl
      have HR : Hid (GetRel l p.data.toList (some l[k])) := Lib.hid ⟨fun x h _ => by
          injection h with h; subst h; exact ⟨List.getElem_mem hk, hkp⟩, fun hs => by
        rcases hs with hs | hs
        · exact ((find_get hf hs HP.out).1 rfl).symm
        · exact absurd hs HP.out⟩
      clear hf hkp
      obtain ⟨b, o, rfl, hb, h0, h1, h2, h3⟩ := (EnRd.at_ (hl.below hB1) hk)
      have hne : w.heap.size ≠ b := by omega
      generalize l[k] = y at h0 h1 h2 h3 HR
      obtain ⟨yp, yk, yt, yo⟩ := y
      dsimp only at h0 h1 h2 h3
      go_wp2_with fail
      refine bodyPost_ret (v := .tuple #[(En.mk yp yk yt yo).agg, .bool true]) ?_ rfl ⟨some ⟨yp, yk, yt, yo⟩, rfl, HR.out, ?_⟩
      · simp [results, Tryz.results23, go_sem, En.agg, En.cells, r0, r1, r2, r3]
      · exact ((((hB1.setCell (by simp) _).setCell (by simp) _).setCell (by simp) _).setCell (by simp) _)
end Go.Proofs.YtjppfhgkanbemacGreatDoor

namespace Go.Proofs.YtjppfhgkanbemacGreatDoor
open Go.RowKit Go.Shelf

theorem entry_eq (x : En) (b : Bool) : Tr.entry x b = bif decide (x.k < 1) || decide ((bif b then 4 else 3) < x.k) then 1 else bif !Pt.clean x.P then 7 else bif decide ((100 : Int) < x.t.size) then 4 else
    bif (!x.t.toList.isEmpty && x.k != 1 && x.k != 3) || (x.k == 3 && x.t.toList.isEmpty) || (x.o && (!b || x.k != 2)) then 8 else 0 := by
  have h0 : (x.t.size != 0) = !x.t.toList.isEmpty := by
    rcases empty_cases x.t with ⟨h1, _, h3⟩ | ⟨h1, _, h3⟩
    · have := congrArg List.length h1; rw [size_length] at this; rw [h3, this]; rfl
    · have : x.t.size ≠ 0 := fun e => h1 (List.length_eq_zero_iff.1 (by rw [size_length]; exact e))
      rw [h3]; simpa using this
  have h1 : (x.t.size == 0) = x.t.toList.isEmpty := by
    have h2 : (x.t.size == 0) = !(x.t.size != 0) := by cases x.t.size <;> rfl
    rw [h2, h0, Bool.not_not]
  have h2 : decide ((100 : Int) < x.t.size) = decide (100 < x.t.size) := decide_eq_decide.2 (by omega)
  unfold Tr.entry Tr.badKind Tr.badFit
  rw [h0, h1, h2]
  generalize (decide (x.k < 1) || decide ((bif b then 4 else 3) < x.k)) = a1
  generalize Pt.clean x.P = a2
  generalize (!x.t.toList.isEmpty && x.k != 1 && x.k != 3 || x.k == 3 && x.t.toList.isEmpty || x.o && (!b || x.k != 2)) = a3
  by_cases h : 100 < x.t.size
  · rw [decide_eq_true h, if_pos h]; cases a1 <;> cases a2 <;> rfl
  · rw [decide_eq_false h, if_neg h]; cases a1 <;> cases a2 <;> cases a3 <;> rfl

set_option maxHeartbeats 4000000 in
theorem entry_any (b i : Nat) (x : En) (layer : Bool) (w : World) (hx : EnAt w b i x) (hb : b < w.heap.size) (hs : x.p.size < 4294967281) (ht : x.t.size < 4294967281) :
    Calls Tryz.prog 57 #[.pointer (some ⟨b, i, none⟩), .bool layer] w fun e w' => e = .returned (.int .i64 (Tr.entry x layer)) ∧ Below w.heap.size w w' := by
  have HE := Lib.hid (entry_eq x layer)
  have hc := fun W => clean_any x.p W (by omega)
  obtain ⟨xp, xk, xt, xo⟩ := x
  obtain ⟨h0, h1, h2, h3⟩ := hx
  have hP : (En.mk xp xk xt xo).P = xp.data.toList := rfl
  rw [hP] at HE
  dsimp only at h0 h1 h2 h3 HE hs ht hc
  generalize Pt.clean xp.data.toList = cl at HE hc
  generalize Tr.entry ⟨xp, xk, xt, xo⟩ layer = res at HE
  clear hP
  have hcell : ∀ {w' : World} {j : Nat} {v : Value}, Below w.heap.size w w' → w.cell? ⟨b, j, none⟩ = some v → w'.cell? ⟨b, j, none⟩ = some v := fun h e => (h.cell (p := ⟨b, _, none⟩) hb).trans e
  cases layer
  · have HB := Below.refl w.heap.size w
    go_enter Tryz.func57, Tryz.ntmps57
    rcases t1 : decide (xk < 1) with _ | _
    rotate_left
    · go_wp2_with fail
      go_ret
      exact ⟨ret_num (by rw [HE.out]; simp [t1]), HB⟩
    rcases t2 : decide (3 < xk) with _ | _
    rotate_left
    · go_wp2_with fail
      go_ret
      exact ⟨ret_num (by rw [HE.out]; simp [t1, t2]), HB⟩
    go_wp2_with fail
    refine (hc _).mono ?_
    rintro e w1 ⟨rfl, hb1⟩
    replace HB := HB.trans (hb1.mono HB.size)
    have h0' := hcell HB h0
    have h1' := hcell HB h1
    have h2' := hcell HB h2
    have h3' := hcell HB h3
    have hbz : b < w1.heap.size := Nat.lt_of_lt_of_le hb HB.size
    clear h0 h1 h2 h3 hb1 hc
    cases cl
    · go_wp2_with fail
      go_ret
      exact ⟨ret_num (by rw [HE.out]; simp [t1, t2]), HB⟩
    rcases t3 : decide ((100 : Int) < xt.size) with _ | _
    rotate_left
    · go_wp2_with fail
      go_ret
      exact ⟨ret_num (by rw [HE.out]; simp [t1, t2, t3]), HB⟩
    rcases empty_cases xt with ⟨_, g1, g2⟩ | ⟨_, g1, g2⟩
    · rcases t4 : (xk == 3) with _ | _
      · cases xo
        · go_wp2_with fail
          go_ret
          exact ⟨ret_num (by rw [HE.out]; simp [t1, t2, t3, g2, t4]), HB⟩
        · go_wp2_with fail
          go_ret
          exact ⟨ret_num (by rw [HE.out]; simp [t1, t2, t3, g2, t4]), HB⟩
      · go_wp2_with fail
        go_ret
        exact ⟨ret_num (by rw [HE.out]; simp [t1, t2, t3, g2, t4]), HB⟩
    · rcases t5 : (xk != 1) with _ | _
      · rcases t4 : (xk == 3) with _ | _
        · cases xo
          · go_wp2_with fail
            go_ret
            exact ⟨ret_num (by rw [HE.out]; simp [t1, t2, t3, g2, t4, t5]), HB⟩
          · go_wp2_with fail
            go_ret
            exact ⟨ret_num (by rw [HE.out]; simp [t1, t2, t3, g2, t4, t5]), HB⟩
        · exfalso; simp at t5 t4; omega
      · rcases t6 : (xk != 3) with _ | _
        · have t4 : (xk == 3) = true := by simpa using t6
          cases xo
          · go_wp2_with fail
            go_ret
            exact ⟨ret_num (by rw [HE.out]; simp [t1, t2, t3, g2, t4, t5, t6]), HB⟩
          · go_wp2_with fail
            go_ret
            exact ⟨ret_num (by rw [HE.out]; simp [t1, t2, t3, g2, t4, t5, t6]), HB⟩
        · go_wp2_with fail
          go_ret
          exact ⟨ret_num (by rw [HE.out]; simp [t1, t2, t3, g2, t5, t6]), HB⟩
  · have HB := Below.refl w.heap.size w
    go_enter Tryz.func57, Tryz.ntmps57
    rcases t1 : decide (xk < 1) with _ | _
    rotate_left
    · go_wp2_with fail
      go_ret
      exact ⟨ret_num (by rw [HE.out]; simp [t1]), HB⟩
    rcases t2 : decide (4 < xk) with _ | _
    rotate_left
    · go_wp2_with fail
      go_ret
      exact ⟨ret_num (by rw [HE.out]; simp [t1, t2]), HB⟩
    go_wp2_with fail
    refine (hc _).mono ?_
    rintro e w1 ⟨rfl, hb1⟩
    replace HB := HB.trans (hb1.mono HB.size)
    have h0' := hcell HB h0
    have h1' := hcell HB h1
    have h2' := hcell HB h2
    have h3' := hcell HB h3
    have hbz : b < w1.heap.size := Nat.lt_of_lt_of_le hb HB.size
    clear h0 h1 h2 h3 hb1 hc
    cases cl
    · go_wp2_with fail
      go_ret
      exact ⟨ret_num (by rw [HE.out]; simp [t1, t2]), HB⟩
    rcases t3 : decide ((100 : Int) < xt.size) with _ | _
    rotate_left
    · go_wp2_with fail
      go_ret
      exact ⟨ret_num (by rw [HE.out]; simp [t1, t2, t3]), HB⟩
    rcases empty_cases xt with ⟨_, g1, g2⟩ | ⟨_, g1, g2⟩
    · rcases t4 : (xk == 3) with _ | _
      · cases xo
        · go_wp2_with fail
          go_ret
          exact ⟨ret_num (by rw [HE.out]; simp [t1, t2, t3, g2, t4]), HB⟩
        · rcases t7 : (xk != 2) with _ | _
          · go_wp2_with fail
            go_ret
            exact ⟨ret_num (by rw [HE.out]; simp [t1, t2, t3, g2, t4, t7]), HB⟩
          · go_wp2_with fail
            go_ret
            exact ⟨ret_num (by rw [HE.out]; simp [t1, t2, t3, g2, t4, t7]), HB⟩
      · go_wp2_with fail
        go_ret
        exact ⟨ret_num (by rw [HE.out]; simp [t1, t2, t3, g2, t4]), HB⟩
    · rcases t5 : (xk != 1) with _ | _
      · rcases t4 : (xk == 3) with _ | _
        · cases xo
          · go_wp2_with fail
            go_ret
            exact ⟨ret_num (by rw [HE.out]; simp [t1, t2, t3, g2, t4, t5]), HB⟩
          · rcases t7 : (xk != 2) with _ | _
            · go_wp2_with fail
              go_ret
              exact ⟨ret_num (by rw [HE.out]; simp [t1, t2, t3, g2, t4, t5, t7]), HB⟩
            · go_wp2_with fail
              go_ret
              exact ⟨ret_num (by rw [HE.out]; simp [t1, t2, t3, g2, t4, t5, t7]), HB⟩
        · exfalso; simp at t5 t4; omega
      · rcases t6 : (xk != 3) with _ | _
        · have t4 : (xk == 3) = true := by simpa using t6
          cases xo
          · go_wp2_with fail
            go_ret
            exact ⟨ret_num (by rw [HE.out]; simp [t1, t2, t3, g2, t4, t5, t6]), HB⟩
          · rcases t7 : (xk != 2) with _ | _
            · go_wp2_with fail
              go_ret
              exact ⟨ret_num (by rw [HE.out]; simp [t1, t2, t3, g2, t4, t5, t6, t7]), HB⟩
            · go_wp2_with fail
              go_ret
              exact ⟨ret_num (by rw [HE.out]; simp [t1, t2, t3, g2, t4, t5, t6, t7]), HB⟩
        · go_wp2_with fail
          go_ret
          exact ⟨ret_num (by rw [HE.out]; simp [t1, t2, t3, g2, t5, t6]), HB⟩
end Go.Proofs.YtjppfhgkanbemacGreatDoor
