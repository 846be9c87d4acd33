/-
  Trees and layers in plain words: lists of entries. No program in sight.
-/
import Derived.Test.YtjppfhgkanbemabDoorPtPure
namespace Go.Proofs.YtjppfhgkanbemabDoor

/-- An entry: path, kind, text, opaque. -/
structure En where
  p : ByteArray
  k : Int
  t : ByteArray
  o : Bool

namespace En
def P (e : En) : Pt.Bs := e.p.data.toList
def beq (x y : En) : Bool := x.p.data.toList == y.p.data.toList && x.k == y.k && x.t.data.toList == y.t.data.toList && x.o == y.o
end En
theorem bytes_ext {a b : ByteArray} (h : a.data.toList = b.data.toList) : a = b := by
  obtain ⟨⟨a⟩⟩ := a
  obtain ⟨⟨b⟩⟩ := b
  have h' : a = b := h
  rw [h']
namespace En
theorem beq_iff (x y : En) : beq x y = true ↔ x = y := by
  unfold beq
  rw [Bool.and_eq_true, Bool.and_eq_true, Bool.and_eq_true, beq_iff_eq, beq_iff_eq, beq_iff_eq, beq_iff_eq]
  constructor
  · rintro ⟨⟨⟨h1, h2⟩, h3⟩, h4⟩
    obtain ⟨a, b, c, d⟩ := x
    obtain ⟨a', b', c', d'⟩ := y
    have h1 := bytes_ext h1
    have h3 := bytes_ext h3
    cases h1; cases h3
    have h2 : b = b' := h2
    have h4 : d = d' := h4
    rw [h2, h4]
  · rintro rfl; exact ⟨⟨⟨rfl, rfl⟩, rfl⟩, rfl⟩
instance : DecidableEq En := fun x y => if h : beq x y = true then .isTrue ((beq_iff x y).1 h) else .isFalse fun e => h ((beq_iff x y).2 e)
/-- The directory of all. -/
def root : En := ⟨⟨#[]⟩, 2, ⟨#[]⟩, false⟩
def zero : En := ⟨⟨#[]⟩, 0, ⟨#[]⟩, false⟩
def clear (e : En) : En := ⟨e.p, e.k, e.t, false⟩
end En

namespace Tr
open Pt

def get (l : List En) (p : Bs) : Option En := if p = [] then some En.root else l.find? fun e => e.P == p
def badKind (e : En) (b : Bool) : Bool := decide (e.k < 1) || decide ((bif b then 4 else 3) < e.k)
def badFit (e : En) (b : Bool) : Bool := (e.t.size != 0 && e.k != 1 && e.k != 3) || (e.k == 3 && e.t.size == 0) || (e.o && (!b || e.k != 2))
/-- What is wrong with an entry (0: nothing). -/
def entry (e : En) (b : Bool) : Int :=
  if badKind e b = true then 1 else if clean e.P = false then 7 else if 100 < e.t.size then 4 else if badFit e b = true then 8 else 0
def ahead (y x : En) : Bool := decide (cmp y.P x.P < 0)
def dirBad (p : List En) (d : Bs) : Bool := match get p d with
  | some e => e.k != 2
  | none => true
def badAt (p : List En) (x : En) (b : Bool) : Int :=
  if entry x b ≠ 0 then entry x b else
  if (p.getLast?.any fun y => !ahead y x) then 2 else
  if dirBad p (dirOf x.P) then 10 else 0
def wrongFrom (b : Bool) : List En → List En → Int × Int
  | _, [] => (0, 0)
  | p, x :: r => if badAt p x b = 0 then wrongFrom b (p ++ [x]) r else (badAt p x b, p.length)
def wrong (l : List En) (b : Bool) : Int × Int := if 80 < l.length then (5, 0) else wrongFrom b [] l

def Srt (l : List En) : Prop := l.Pairwise fun a b => cmp a.P b.P < 0
def Right (b : Bool) (l : List En) : Prop := (∀ e ∈ l, entry e b = 0) ∧ Srt l ∧ ∀ e ∈ l, dirOf e.P = [] ∨ ∃ d ∈ l, d.P = dirOf e.P ∧ d.k = 2

/-! ### Directories of paths -/
theorem split_snoc' (l : Bs) : ∃ ps n, split l = ps ++ [n] ∧ dirOf l = glue ps ∧ nameOf l = n := by
  refine ⟨(split l).dropLast, (split l).getLast (split_ne l), (List.dropLast_concat_getLast _).symm, rfl, ?_⟩
  unfold nameOf
  rw [List.getLastD_eq_getLast?, List.getLast?_eq_some_getLast (split_ne l)]; rfl
theorem dir_app (l : Bs) : dirOf l = [] ∨ l = dirOf l ++ 47 :: nameOf l := by
  obtain ⟨ps, n, hs, hd, hn⟩ := split_snoc' l
  by_cases e : ps = []
  · subst e; left; rw [hd]; rfl
  · right
    have hg := glue_split l
    rw [hs, glue_app e (by simp)] at hg
    rw [hd, hn]; exact hg.symm
theorem dir_under {l : Bs} (h : dirOf l ≠ []) : under l (dirOf l) = true := by
  rcases dir_app l with e | e
  · exact absurd e h
  · exact (under_iff h).2 ⟨_, e⟩
theorem dir_lt {l : Bs} (h : dirOf l ≠ []) : cmp (dirOf l) l < 0 := (order (c := []) h (dir_under h)).1
theorem dir_short {l : Bs} (h : l ≠ []) : (dirOf l).length < l.length := by
  rcases dir_app l with e | e
  · rw [e]; cases l with
    | nil => exact absurd rfl h
    | cons _ _ => simp
  · have := congrArg List.length e
    rw [List.length_append, List.length_cons] at this
    omega
theorem dir_nil : dirOf [] = [] := rfl
theorem named_ne' {p : Bs} (h : named p = true) : p ≠ [] := by
  intro e; subst e; cases h
theorem clean_ne {l : Bs} (h : clean l = true) : l ≠ [] := by
  intro e; subst e; cases h
theorem clean_len {l : Bs} (h : clean l = true) : l.length ≤ 80 := by
  unfold clean at h
  rw [Bool.and_eq_true, decide_eq_true_eq] at h
  exact h.1
theorem clean_names {l : Bs} (h : clean l = true) : ∀ p ∈ split l, named p = true := by
  unfold clean at h
  rw [Bool.and_eq_true, List.all_eq_true] at h
  exact h.2
theorem clean_dir {l : Bs} (h : clean l = true) (hd : dirOf l ≠ []) : clean (dirOf l) = true := by
  have hn := clean_names h
  obtain ⟨ps, n, hs, hd', _⟩ := split_snoc' l
  have hp : ps ≠ [] := by intro e; subst e; exact hd (by rw [hd']; rfl)
  have hsp : split (glue ps) = ps := split_glue hp fun q hq d hd2 => split_noslash l q (by rw [hs]; exact List.mem_append_left _ hq) d hd2
  unfold clean
  rw [Bool.and_eq_true, decide_eq_true_eq, List.all_eq_true]
  refine ⟨Nat.le_trans (Nat.le_of_lt (dir_short (clean_ne h))) (clean_len h), ?_⟩
  rw [hd', hsp]
  intro q hq
  exact hn q (by rw [hs]; exact List.mem_append_left _ hq)

/-! ### Sorted lists -/
theorem srt_head {a : En} {l : List En} (h : Srt (a :: l)) : ∀ b ∈ l, cmp a.P b.P < 0 := (List.pairwise_cons.1 h).1
theorem srt_tail {a : En} {l : List En} (h : Srt (a :: l)) : Srt l := (List.pairwise_cons.1 h).2
theorem srt_nil : Srt [] := List.Pairwise.nil
theorem lt_irrefl (a : Bs) : ¬ cmp a a < 0 := by rw [cmp_self]; omega
theorem lt_asymm {a b : Bs} (h : cmp a b < 0) : ¬ cmp b a < 0 := by rw [cmp_neg a b]; omega
theorem srt_ext : ∀ {l m : List En}, Srt l → Srt m → (∀ e, e ∈ l ↔ e ∈ m) → l = m
  | [], [], _, _, _ => rfl
  | [], b :: m, _, _, h => absurd ((h b).2 (by simp)) (by simp)
  | a :: l, [], _, _, h => absurd ((h a).1 (by simp)) (by simp)
  | a :: l, b :: m, hl, hm, h => by
    have e : a = b := by
      have h1 := (h a).1 (by simp)
      have h2 := (h b).2 (by simp)
      rcases List.mem_cons.1 h1 with e | h1
      · exact e
      rcases List.mem_cons.1 h2 with e | h2
      · exact e.symm
      exact absurd (srt_head hl b h2) (lt_asymm (srt_head hm a h1))
    subst e
    refine congrArg _ (srt_ext (srt_tail hl) (srt_tail hm) fun e => ?_)
    have h3 := h e
    rw [List.mem_cons, List.mem_cons] at h3
    constructor
    · intro he
      rcases h3.1 (.inr he) with e' | h4
      · subst e'; exact absurd (srt_head hl e he) (lt_irrefl _)
      · exact h4
    · intro he
      rcases h3.2 (.inr he) with e' | h4
      · subst e'; exact absurd (srt_head hm e he) (lt_irrefl _)
      · exact h4
theorem srt_same : ∀ {l : List En}, Srt l → ∀ {a b : En}, a ∈ l → b ∈ l → a.P = b.P → a = b
  | [], _, _, _, h, _, _ => nomatch h
  | x :: l, hs, a, b, ha, hb, e => by
    rcases List.mem_cons.1 ha with e1 | h1
    · rcases List.mem_cons.1 hb with e2 | h2
      · rw [e1, e2]
      · have := srt_head hs b h2; rw [← e, e1, cmp_self] at this; omega
    · rcases List.mem_cons.1 hb with e2 | h2
      · have := srt_head hs a h1; rw [e, e2, cmp_self] at this; omega
      · exact srt_same (srt_tail hs) h1 h2 e
theorem get_some {l : List En} {p : Bs} {e : En} (hp : p ≠ []) (h : get l p = some e) : e ∈ l ∧ e.P = p := by
  unfold get at h
  rw [if_neg hp] at h
  exact ⟨List.mem_of_find?_eq_some h, by simpa using List.find?_some h⟩
theorem get_none {l : List En} {p : Bs} (hp : p ≠ []) : get l p = none ↔ ∀ e ∈ l, e.P ≠ p := by
  unfold get
  rw [if_neg hp, List.find?_eq_none]
  simp
theorem get_mem {l : List En} (hs : Srt l) {e : En} (he : e ∈ l) (hp : e.P ≠ []) : get l e.P = some e := by
  rcases h : get l e.P with _ | x
  · exact absurd rfl ((get_none hp).1 h e he)
  · obtain ⟨h1, h2⟩ := get_some hp h
    rw [srt_same hs h1 he h2]
theorem get_root (l : List En) : get l [] = some En.root := by unfold get; rw [if_pos rfl]
theorem get_iff {l : List En} (hs : Srt l) {p : Bs} (hp : p ≠ []) {e : En} : get l p = some e ↔ e ∈ l ∧ e.P = p := by
  constructor
  · exact get_some hp
  · rintro ⟨h1, rfl⟩; exact get_mem hs h1 hp

/-! ### What is right -/
theorem entry_zero (e : En) (b : Bool) : entry e b = 0 ↔ badKind e b = false ∧ clean e.P = true ∧ e.t.size ≤ 100 ∧ badFit e b = false := by
  unfold entry
  rcases h1 : badKind e b with _ | _
  · rcases h2 : clean e.P with _ | _
    · simp
    · by_cases h3 : 100 < e.t.size
      · rw [if_neg (by simp), if_neg (by simp), if_pos h3]; simp; omega
      · rcases h4 : badFit e b with _ | _
        · simp [h3]; omega
        · simp [h3]
  · simp
theorem entry_clean {e : En} {b : Bool} (h : entry e b = 0) : clean e.P = true := ((entry_zero e b).1 h).2.1
theorem entry_kind {e : En} {b : Bool} (h : entry e b = 0) : 1 ≤ e.k ∧ e.k ≤ 4 ∧ (b = false → e.k ≤ 3) := by
  have h := ((entry_zero e b).1 h).1
  unfold badKind at h
  rw [Bool.or_eq_false_iff, decide_eq_false_iff_not, decide_eq_false_iff_not] at h
  cases b
  · have h2 := h.2; simp only [cond_false] at h2; exact ⟨by omega, by omega, fun _ => by omega⟩
  · have h2 := h.2; simp only [cond_true] at h2; exact ⟨by omega, by omega, fun e => by cases e⟩
theorem entry_opaque {e : En} (h : entry e false = 0) : e.o = false := by
  have h := ((entry_zero e false).1 h).2.2.2
  unfold badFit at h
  rcases ho : e.o with _ | _
  · rfl
  · rw [ho] at h; simp at h
theorem entry_dirOpaque {e : En} {b : Bool} (h : entry e b = 0) (ho : e.o = true) : e.k = 2 := by
  have h := ((entry_zero e b).1 h).2.2.2
  unfold badFit at h
  rw [ho] at h
  simp only [Bool.true_and, Bool.or_eq_false_iff, bne_eq_false_iff_eq] at h
  exact h.2.2
theorem kind_of {e : En} {b : Bool} (h1 : 1 ≤ e.k) (h2 : e.k ≤ (bif b then 4 else 3)) : badKind e b = false := by
  unfold badKind
  rw [Bool.or_eq_false_iff, decide_eq_false_iff_not, decide_eq_false_iff_not]
  exact ⟨by omega, by omega⟩
theorem entry_layer {e : En} (h : entry e false = 0) : entry e true = 0 := by
  have hk := entry_kind h
  have ho := entry_opaque h
  obtain ⟨h1, h2, h3, h4⟩ := (entry_zero e false).1 h
  refine (entry_zero e true).2 ⟨kind_of hk.1 hk.2.1, h2, h3, ?_⟩
  unfold badFit at h4 ⊢
  rw [ho] at h4 ⊢
  simpa using h4
/-- What isn't white is one of a tree, once it isn't opaque. -/
theorem entry_shown {e : En} (h : entry e true = 0) (hk : e.k ≠ 4) : entry e.clear false = 0 := by
  have hk2 := entry_kind h
  obtain ⟨h1, h2, h3, h4⟩ := (entry_zero e true).1 h
  refine (entry_zero e.clear false).2 ⟨kind_of hk2.1 (show e.k ≤ 3 by omega), h2, h3, ?_⟩
  unfold badFit at h4 ⊢
  rw [Bool.or_eq_false_iff] at h4
  rw [Bool.or_eq_false_iff]
  exact ⟨h4.1, rfl⟩
theorem right_ne {b : Bool} {l : List En} (h : Right b l) {e : En} (he : e ∈ l) : e.P ≠ [] := clean_ne (entry_clean (h.1 e he))
theorem right_nil (b : Bool) : Right b [] := ⟨fun _ h => (nomatch h), srt_nil, fun _ h => (nomatch h)⟩
theorem right_layer {l : List En} (h : Right false l) : Right true l := ⟨fun e he => entry_layer (h.1 e he), h.2⟩

theorem dirBad_iff {p : List En} (hs : Srt p) (d : Bs) : dirBad p d = false ↔ d = [] ∨ ∃ e ∈ p, e.P = d ∧ e.k = 2 := by
  unfold dirBad
  by_cases hd : d = []
  · subst hd; rw [get_root]; simp [En.root]
  · rcases h : get p d with _ | e
    · simp only [hd, false_or]
      constructor
      · intro h'; cases h'
      · rintro ⟨e, he, h1, _⟩; exact absurd h1 ((get_none hd).1 h e he)
    · obtain ⟨h1, h2⟩ := get_some hd h
      simp only [hd, false_or, bne_eq_false_iff_eq]
      constructor
      · intro h3; exact ⟨e, h1, h2, h3⟩
      · rintro ⟨x, hx, h3, h4⟩; rw [srt_same hs h1 hx (h2.trans h3.symm)]; exact h4
theorem badAt_zero {p : List En} {x : En} {b : Bool} : badAt p x b = 0 ↔ entry x b = 0 ∧ (p.getLast?.any fun y => !ahead y x) = false ∧ dirBad p (dirOf x.P) = false := by
  unfold badAt
  by_cases h1 : entry x b = 0
  · rw [if_neg (by simp [h1])]
    rcases h2 : (p.getLast?.any fun y => !ahead y x) with _ | _
    · rcases h3 : dirBad p (dirOf x.P) with _ | _ <;> simp [h1]
    · simp
  · rw [if_pos h1]; simp [h1]
theorem srt_snoc {p : List En} {x : En} : Srt (p ++ [x]) ↔ Srt p ∧ (p.getLast?.any fun y => !ahead y x) = false := by
  unfold Srt
  rw [List.pairwise_append]
  simp only [List.pairwise_singleton, List.mem_singleton, forall_eq, true_and]
  rcases List.eq_nil_or_concat p with rfl | ⟨q, y, rfl⟩
  · simp
  · simp only [List.concat_eq_append, List.getLast?_append, List.getLast?_singleton, Option.some_or, Option.any_some, ahead, Bool.not_eq_false', decide_eq_true_eq]
    constructor
    · rintro ⟨h1, h2⟩; exact ⟨h1, h2 y (by simp)⟩
    · rintro ⟨h1, h2⟩
      refine ⟨h1, fun z hz => ?_⟩
      rw [List.mem_append, List.mem_singleton] at hz
      rcases hz with hz | rfl
      · exact cmp_trans ((List.pairwise_append.1 h1).2.2 z hz y (by simp)) h2
      · exact h2
theorem right_snoc {p : List En} {x : En} {b : Bool} : Right b (p ++ [x]) ↔ Right b p ∧ badAt p x b = 0 := by
  rw [badAt_zero]
  constructor
  · rintro ⟨h1, h2, h3⟩
    have hs := srt_snoc.1 h2
    have hx : ∀ y ∈ p, cmp y.P x.P < 0 := fun y hy => (List.pairwise_append.1 h2).2.2 y hy x (by simp)
    refine ⟨⟨fun e he => h1 e (List.mem_append_left _ he), hs.1, fun e he => ?_⟩, h1 x (by simp), hs.2, ?_⟩
    · rcases h3 e (List.mem_append_left _ he) with h | ⟨d, hd, h4, h5⟩
      · exact .inl h
      · rw [List.mem_append, List.mem_singleton] at hd
        rcases hd with hd | rfl
        · exact .inr ⟨d, hd, h4, h5⟩
        · by_cases hn : dirOf e.P = []
          · exact .inl hn
          · have := dir_lt hn
            rw [← h4] at this
            exact absurd this (lt_asymm (hx e he))
    · rw [dirBad_iff hs.1]
      rcases h3 x (by simp) with h | ⟨d, hd, h4, h5⟩
      · exact .inl h
      · rw [List.mem_append, List.mem_singleton] at hd
        rcases hd with hd | rfl
        · exact .inr ⟨d, hd, h4, h5⟩
        · by_cases hn : dirOf d.P = []
          · exact .inl hn
          · have := dir_lt hn
            rw [← h4] at this
            exact absurd this (lt_irrefl _)
  · rintro ⟨⟨h1, h2, h3⟩, h4, h5, h6⟩
    refine ⟨fun e he => ?_, srt_snoc.2 ⟨h2, h5⟩, fun e he => ?_⟩
    · rw [List.mem_append, List.mem_singleton] at he
      rcases he with he | rfl
      · exact h1 e he
      · exact h4
    · rw [List.mem_append, List.mem_singleton] at he
      rcases he with he | rfl
      · rcases h3 e he with h | ⟨d, hd, h7⟩
        · exact .inl h
        · exact .inr ⟨d, List.mem_append_left _ hd, h7⟩
      · rcases (dirBad_iff h2 _).1 h6 with h | ⟨d, hd, h7⟩
        · exact .inl h
        · exact .inr ⟨d, List.mem_append_left _ hd, h7⟩
theorem right_pre {p q : List En} {b : Bool} (h : Right b (p ++ q)) : Right b p := by
  induction q generalizing p with
  | nil => simpa using h
  | cons x q ih =>
    have e : p ++ x :: q = (p ++ [x]) ++ q := by simp
    rw [e] at h
    exact (right_snoc.1 (ih h)).1
theorem wrongFrom_right (b : Bool) : ∀ (r p : List En), Right b p → ((wrongFrom b p r).1 = 0 ↔ Right b (p ++ r))
  | [], p, hp => by simp [wrongFrom, hp]
  | x :: r, p, hp => by
    have e : p ++ x :: r = (p ++ [x]) ++ r := by simp
    rw [wrongFrom]
    by_cases hb : badAt p x b = 0
    · rw [if_pos hb, wrongFrom_right b r (p ++ [x]) (right_snoc.2 ⟨hp, hb⟩), e]
    · rw [if_neg hb]
      refine ⟨fun h => absurd h hb, fun h => ?_⟩
      exfalso
      rw [e] at h
      exact hb (right_snoc.1 (right_pre h)).2
theorem wrong_zero (l : List En) (b : Bool) : (wrong l b).1 = 0 ↔ l.length ≤ 80 ∧ Right b l := by
  unfold wrong
  by_cases h : 80 < l.length
  · rw [if_pos h]; simp; omega
  · rw [if_neg h, wrongFrom_right b l [] (right_nil b)]
    simp
    omega

/-! ### Check, step by step -/
theorem wrongFrom_bad {l : List En} {b : Bool} {k : Nat} {x : En} {e : Int} (hk : k < l.length) (hx : l[k] = x) (hb : badAt (l.take k) x b = e) (he : e ≠ 0) : wrongFrom b (l.take k) (l.drop k) = (e, (k : Int)) := by
  rw [List.drop_eq_getElem_cons hk, hx, wrongFrom, hb, if_neg he]
  simp
  omega
theorem wrongFrom_ok {l : List En} {b : Bool} {k : Nat} {x : En} (hk : k < l.length) (hx : l[k] = x) (hb : badAt (l.take k) x b = 0) : wrongFrom b (l.take k) (l.drop k) = wrongFrom b (l.take (k + 1)) (l.drop (k + 1)) := by
  rw [List.drop_eq_getElem_cons hk, hx, wrongFrom, if_pos hb, List.take_succ_eq_append_getElem hk, hx]
end Tr
end Go.Proofs.YtjppfhgkanbemabDoor
