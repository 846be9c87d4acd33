/-
  Layers over trees in plain words: what a layer hides, what comes of layers, and its laws. No program in sight.
-/
import Derived.Test.YtjppfhgkanbemabDoorTrPure
namespace Go.Proofs.YtjppfhgkanbemabDoor
namespace Tr
open Pt

def bad (l : List En) (q : Bs) : Bool := match get l q with
  | some e => e.k != 2 || e.o
  | none => false
def own (l : List En) (q : Bs) : Bool := match get l q with
  | some e => e.k != 2
  | none => false
def hidUp (l : List En) : Nat → Bs → Bool
  | 0, _ => false
  | n + 1, q => if q = [] then false else bad l q || hidUp l n (dirOf q)
def hidAll (l : List En) (q : Bs) : Bool := hidUp l q.length q
/-- Is what lies below a layer not seen at a path? -/
def hides (l : List En) (p : Bs) : Bool := own l p || hidAll l (dirOf p)

theorem hidUp_fuel (l : List En) : ∀ (n m : Nat) (q : Bs), q.length ≤ n → q.length ≤ m → hidUp l n q = hidUp l m q
  | 0, 0, _, _, _ => rfl
  | 0, m + 1, q, h, _ => by
    have : q = [] := List.length_eq_zero_iff.1 (by omega)
    subst this; simp [hidUp]
  | n + 1, 0, q, _, h => by
    have : q = [] := List.length_eq_zero_iff.1 (by omega)
    subst this; simp [hidUp]
  | n + 1, m + 1, q, h1, h2 => by
    unfold hidUp
    by_cases hq : q = []
    · rw [if_pos hq, if_pos hq]
    · have := dir_short hq
      rw [if_neg hq, if_neg hq, hidUp_fuel l n m (dirOf q) (by omega) (by omega)]
theorem hidAll_nil (l : List En) : hidAll l [] = false := rfl
theorem hidAll_cons (l : List En) {q : Bs} (h : q ≠ []) : hidAll l q = (bad l q || hidAll l (dirOf q)) := by
  have h1 := dir_short h
  unfold hidAll
  cases hn : q.length with
  | zero => exact absurd (List.length_eq_zero_iff.1 hn) h
  | succ n =>
    rw [hidUp, if_neg h, hidUp_fuel l n (dirOf q).length (dirOf q) (by omega) (Nat.le_refl _)]
theorem own_nil (l : List En) : own l [] = false := by unfold own; rw [get_root]; rfl
theorem hides_nil (l : List En) : hides l [] = false := by unfold hides; rw [own_nil, dir_nil, hidAll_nil]; rfl
theorem own_bad {l : List En} {q : Bs} (h : bad l q = false) : own l q = false := by
  unfold bad at h; unfold own
  rcases g : get l q with _ | e
  · rfl
  · rw [g] at h; simp only [Bool.or_eq_false_iff] at h; exact h.1
theorem bad_not {l : List En} {q : Bs} (h : bad l q = false) {e : En} (g : get l q = some e) : e.k = 2 ∧ e.o = false := by
  unfold bad at h
  rw [g] at h
  simp only [Bool.or_eq_false_iff, bne_eq_false_iff_eq] at h
  exact h
/-- What isn't hidden lies in a directory that isn't. -/
theorem hides_dir {l : List En} {p : Bs} (h : hides l p = false) : hides l (dirOf p) = false ∧ (dirOf p ≠ [] → bad l (dirOf p) = false) := by
  unfold hides at h
  rw [Bool.or_eq_false_iff] at h
  by_cases hd : dirOf p = []
  · rw [hd]; exact ⟨hides_nil l, fun h => absurd rfl h⟩
  · have h2 := h.2
    rw [hidAll_cons l hd, Bool.or_eq_false_iff] at h2
    refine ⟨?_, fun _ => h2.1⟩
    unfold hides
    rw [own_bad h2.1, h2.2]; rfl

/-! ### Insertion -/
def ins (x : En) : List En → List En
  | [] => [x]
  | y :: r => if cmp y.P x.P < 0 then y :: ins x r else if y.P = x.P then x :: r else x :: y :: r
theorem mem_ins {x : En} : ∀ {l : List En}, Srt l → ∀ e, e ∈ ins x l ↔ e = x ∨ (e ∈ l ∧ e.P ≠ x.P)
  | [], _, e => by simp [ins]
  | y :: r, h, e => by
    unfold ins
    by_cases h1 : cmp y.P x.P < 0
    · have hne : y.P ≠ x.P := fun e => by rw [e, cmp_self] at h1; omega
      rw [if_pos h1, List.mem_cons, mem_ins (srt_tail h), List.mem_cons]
      constructor
      · rintro (rfl | h2 | ⟨h2, h3⟩)
        · exact .inr ⟨.inl rfl, hne⟩
        · exact .inl h2
        · exact .inr ⟨.inr h2, h3⟩
      · rintro (h2 | ⟨rfl | h2, h3⟩)
        · exact .inr (.inl h2)
        · exact .inl rfl
        · exact .inr (.inr ⟨h2, h3⟩)
    · rw [if_neg h1]
      have far : ∀ z ∈ r, z.P ≠ x.P := fun z hz e => h1 (e ▸ srt_head h z hz)
      by_cases h2 : y.P = x.P
      · rw [if_pos h2, List.mem_cons, List.mem_cons]
        constructor
        · rintro (h3 | h3)
          · exact .inl h3
          · exact .inr ⟨.inr h3, far e h3⟩
        · rintro (h3 | ⟨rfl | h3, h4⟩)
          · exact .inl h3
          · exact absurd h2 h4
          · exact .inr h3
      · rw [if_neg h2, List.mem_cons, List.mem_cons]
        constructor
        · rintro (h3 | rfl | h3)
          · exact .inl h3
          · exact .inr ⟨.inl rfl, h2⟩
          · exact .inr ⟨.inr h3, far e h3⟩
        · rintro (h3 | ⟨h3, _⟩)
          · exact .inl h3
          · exact .inr h3
theorem lt_tri {a b : Bs} (h1 : ¬ cmp a b < 0) (h2 : a ≠ b) : cmp b a < 0 := by
  rw [cmp_neg a b]
  have : cmp a b ≠ 0 := fun e => h2 (cmp_zero e)
  omega
theorem srt_ins {x : En} : ∀ {l : List En}, Srt l → Srt (ins x l)
  | [], _ => List.pairwise_singleton _ _
  | y :: r, h => by
    unfold ins
    by_cases h1 : cmp y.P x.P < 0
    · rw [if_pos h1]
      refine List.pairwise_cons.2 ⟨fun z hz => ?_, srt_ins (srt_tail h)⟩
      rcases (mem_ins (srt_tail h) z).1 hz with rfl | ⟨hz, _⟩
      · exact h1
      · exact srt_head h z hz
    · rw [if_neg h1]
      by_cases h2 : y.P = x.P
      · rw [if_pos h2]
        exact List.pairwise_cons.2 ⟨fun z hz => h2 ▸ srt_head h z hz, srt_tail h⟩
      · rw [if_neg h2]
        have h3 := lt_tri h1 h2
        refine List.pairwise_cons.2 ⟨fun z hz => ?_, h⟩
        rcases List.mem_cons.1 hz with rfl | hz
        · exact h3
        · exact cmp_trans h3 (srt_head h z hz)
def insAll (xs a : List En) : List En := xs.foldl (fun a x => ins x a) a
theorem srt_insAll : ∀ {xs a : List En}, Srt a → Srt (insAll xs a)
  | [], _, h => h
  | _ :: xs, _, h => srt_insAll (xs := xs) (srt_ins h)
theorem mem_insAll : ∀ {xs a : List En}, Srt xs → Srt a → ∀ e, e ∈ insAll xs a ↔ e ∈ xs ∨ (e ∈ a ∧ ∀ y ∈ xs, y.P ≠ e.P)
  | [], a, _, _, e => by simp [insAll]
  | x :: xs, a, hx, ha, e => by
    have h := mem_insAll (srt_tail hx) (srt_ins (x := x) ha) e
    show e ∈ insAll xs (ins x a) ↔ _
    rw [h, mem_ins ha, List.mem_cons]
    constructor
    · rintro (h1 | ⟨rfl | ⟨h1, h2⟩, h3⟩)
      · exact .inl (.inr h1)
      · exact .inl (.inl rfl)
      · refine .inr ⟨h1, fun y hy => ?_⟩
        rcases List.mem_cons.1 hy with rfl | hy
        · exact fun e => h2 e.symm
        · exact h3 y hy
    · rintro ((rfl | h1) | ⟨h1, h2⟩)
      · exact .inr ⟨.inl rfl, fun y hy e' => by have := srt_head hx y hy; rw [e', cmp_self] at this; omega⟩
      · exact .inl h1
      · exact .inr ⟨.inr ⟨h1, fun e' => h2 x (by simp) e'.symm⟩, fun y hy => h2 y (by simp [hy])⟩

/-! ### A layer over a tree -/
def shown (l : List En) : List En := (l.filter fun e => e.k != 4).map En.clear
def keepR (l t : List En) : List En := t.filter fun e => !hides l e.P
def keep (l t : List En) : List En := t.filter fun e => (get l e.P).isNone && !hides l e.P
def overL (l t : List En) : List En := insAll (shown l) (keepR l t)
def over (l t : List En) : List En × Int :=
  if (wrong l true).1 ≠ 0 then ([], (wrong l true).1) else if (wrong t false).1 ≠ 0 then ([], (wrong t false).1) else
  if 80 < (overL l t).length then ([], 5) else (overL l t, 0)

theorem mem_shown {l : List En} {e : En} : e ∈ shown l ↔ ∃ x ∈ l, x.k ≠ 4 ∧ e = x.clear := by
  unfold shown
  simp only [List.mem_map, List.mem_filter, bne_iff_ne]
  constructor
  · rintro ⟨x, ⟨h1, h2⟩, h3⟩; exact ⟨x, h1, h2, h3.symm⟩
  · rintro ⟨x, h1, h2, h3⟩; exact ⟨x, ⟨h1, h2⟩, h3.symm⟩
theorem srt_shown {l : List En} (h : Srt l) : Srt (shown l) := by
  unfold shown Srt
  rw [List.pairwise_map]
  exact List.Pairwise.filter _ h
theorem srt_filter {l : List En} (h : Srt l) (f : En → Bool) : Srt (l.filter f) := List.Pairwise.filter _ h
theorem srt_overL {l t : List En} (ht : Srt t) : Srt (overL l t) := srt_insAll (srt_filter ht _)
theorem mem_keep {l t : List En} {e : En} : e ∈ keep l t ↔ e ∈ t ∧ get l e.P = none ∧ hides l e.P = false := by
  unfold keep
  simp only [List.mem_filter, Bool.and_eq_true, Option.isNone_iff_eq_none, Bool.not_eq_true']
theorem mem_overL {l t : List En} (hl : Right true l) (ht : Right false t) {e : En} : e ∈ overL l t ↔ e ∈ keep l t ∨ e ∈ shown l := by
  unfold overL keepR
  rw [mem_insAll (srt_shown hl.2.1) (srt_filter ht.2.1 _), mem_keep]
  simp only [List.mem_filter, Bool.not_eq_true']
  constructor
  · rintro (h | ⟨⟨h1, h2⟩, h3⟩)
    · exact .inr h
    · refine .inl ⟨h1, ?_, h2⟩
      have hp := right_ne ht h1
      rcases g : get l e.P with _ | x
      · rfl
      · exfalso
        obtain ⟨g1, g2⟩ := get_some hp g
        unfold hides own at h2
        rw [g, Bool.or_eq_false_iff, bne_eq_false_iff_eq] at h2
        exact h3 x.clear (mem_shown.2 ⟨x, g1, by omega, rfl⟩) g2
  · rintro (⟨h1, h2, h3⟩ | h)
    · have hp := right_ne ht h1
      refine .inr ⟨⟨h1, h3⟩, fun y hy e' => ?_⟩
      obtain ⟨x, hx, _, rfl⟩ := mem_shown.1 hy
      exact (get_none hp).1 h2 x hx e'
    · exact .inl h
theorem get_shown_dir {l : List En} {q : Bs} {d : En} (hd : d ∈ l) (hq : d.P = q) (hk : d.k = 2) : ∃ x ∈ shown l, x.P = q ∧ x.k = 2 :=
  ⟨d.clear, mem_shown.2 ⟨d, hd, by omega, rfl⟩, hq, hk⟩
theorem over_right {l t : List En} (hl : Right true l) (ht : Right false t) : Right false (overL l t) := by
  refine ⟨fun e he => ?_, srt_overL ht.2.1, fun e he => ?_⟩
  · rcases (mem_overL hl ht).1 he with h | h
    · exact ht.1 e (mem_keep.1 h).1
    · obtain ⟨x, hx, hk, rfl⟩ := mem_shown.1 h
      exact entry_shown (hl.1 x hx) hk
  · by_cases hd : dirOf e.P = []
    · exact .inl hd
    right
    rcases (mem_overL hl ht).1 he with h | h
    · obtain ⟨h1, h2, h3⟩ := mem_keep.1 h
      obtain ⟨h4, h5⟩ := hides_dir h3
      have h5 := h5 hd
      rcases ht.2.2 e h1 with h6 | ⟨d, hdt, h6, h7⟩
      · exact absurd h6 hd
      rcases g : get l (dirOf e.P) with _ | x
      · refine ⟨d, (mem_overL hl ht).2 (.inl (mem_keep.2 ⟨hdt, ?_, ?_⟩)), h6, h7⟩
        · rw [h6]; exact g
        · rw [h6]; exact h4
      · obtain ⟨g1, g2⟩ := get_some hd g
        obtain ⟨y, hy, hy2⟩ := get_shown_dir g1 g2 (bad_not h5 g).1
        exact ⟨y, (mem_overL hl ht).2 (.inr hy), hy2⟩
    · obtain ⟨x, hx, _, rfl⟩ := mem_shown.1 h
      rcases hl.2.2 x hx with h6 | ⟨d, hdl, h6, h7⟩
      · exact absurd h6 hd
      · obtain ⟨y, hy, hy2⟩ := get_shown_dir hdl h6 h7
        exact ⟨y, (mem_overL hl ht).2 (.inr hy), hy2⟩
/-- The sort of what is kept and shown is the layer over the tree. -/
theorem over_sorted {l t m : List En} (hl : Right true l) (ht : Right false t) (hp : m.Perm (keep l t ++ shown l)) (hs : m.Pairwise fun x y => ¬ cmp y.P x.P < 0) : m = overL l t := by
  have hne : (keep l t ++ shown l).Pairwise fun x y => x.P ≠ y.P := by
    have ne_of : ∀ {l : List En}, Srt l → l.Pairwise fun x y => x.P ≠ y.P := fun h => List.Pairwise.imp (fun h e => by rw [e, cmp_self] at h; omega) h
    refine List.pairwise_append.2 ⟨ne_of (srt_filter ht.2.1 _), ne_of (srt_shown hl.2.1), fun a ha b hb e => ?_⟩
    obtain ⟨h1, h2, _⟩ := mem_keep.1 ha
    obtain ⟨x, hx, _, rfl⟩ := mem_shown.1 hb
    exact (get_none (right_ne ht h1)).1 h2 x hx e.symm
  have hne2 : m.Pairwise fun x y => x.P ≠ y.P := (hp.symm.pairwise_iff (fun h e => h e.symm)).1 hne
  refine srt_ext (List.Pairwise.imp₂ (fun {a b} (h1 : ¬ cmp b.P a.P < 0) (h2 : a.P ≠ b.P) => lt_tri h1 (Ne.symm h2)) hs hne2) (srt_overL ht.2.1) fun e => ?_
  rw [hp.mem_iff, List.mem_append, mem_overL hl ht]

/-! ### What is seen -/
theorem seen_own {l t : List En} (hl : Right true l) (ht : Right false t) {p : Bs} (hp : p ≠ []) {y : En} (hy : y ∈ l) (e : y.P = p) : get (overL l t) p = if y.k = 4 then none else some y.clear := by
  by_cases hk : y.k = 4
  · rw [if_pos hk, get_none hp]
    intro x hx e'
    rcases (mem_overL hl ht).1 hx with h | h
    · obtain ⟨h1, h2, _⟩ := mem_keep.1 h
      exact (get_none (right_ne ht h1)).1 h2 y hy (e.trans e'.symm)
    · obtain ⟨z, hz, hk2, rfl⟩ := mem_shown.1 h
      have : y = z := srt_same hl.2.1 hy hz (e.trans e'.symm)
      subst this; exact hk2 hk
  · rw [if_neg hk, get_iff (srt_overL ht.2.1) hp]
    exact ⟨(mem_overL hl ht).2 (.inr (mem_shown.2 ⟨y, hy, hk, rfl⟩)), e⟩
theorem seen_low {l t : List En} (hl : Right true l) (ht : Right false t) {p : Bs} (hp : p ≠ []) (hno : ∀ y ∈ l, y.P ≠ p) : get (overL l t) p = if hides l p then none else get t p := by
  have hn : get l p = none := (get_none hp).2 hno
  have key : ∀ e, e.P = p → (e ∈ overL l t ↔ e ∈ t ∧ hides l p = false) := by
    intro e he
    rw [mem_overL hl ht, mem_keep, he]
    constructor
    · rintro (⟨h1, _, h2⟩ | h)
      · exact ⟨h1, h2⟩
      · obtain ⟨z, hz, _, rfl⟩ := mem_shown.1 h
        exact absurd he (hno z hz)
    · rintro ⟨h1, h2⟩; exact .inl ⟨h1, hn, h2⟩
  rcases hh : hides l p with _ | _
  · rw [if_neg (by simp)]
    rcases g : get t p with _ | e
    · rw [get_none hp]
      intro e he h2
      exact (get_none hp).1 g e ((key e h2).1 he).1 h2
    · obtain ⟨g1, g2⟩ := get_some hp g
      rw [get_iff (srt_overL ht.2.1) hp]
      exact ⟨(key e g2).2 ⟨g1, hh⟩, g2⟩
  · rw [if_pos rfl, get_none hp]
    intro e he h2
    have := ((key e h2).1 he).2
    rw [hh] at this; cases this

/-! ### Layers over layers -/
def mergeL : List (List En) → List En × Int
  | [] => ([], 0)
  | x :: r => if (mergeL r).2 ≠ 0 then ([], (mergeL r).2) else over x (mergeL r).1
def merge (ls : List (List En)) : List En × Int := if 5 < ls.length then ([], 5) else mergeL ls

theorem over_ok {l t : List En} (h : (over l t).2 = 0) : l.length ≤ 80 ∧ Right true l ∧ t.length ≤ 80 ∧ Right false t ∧ (overL l t).length ≤ 80 ∧ over l t = (overL l t, 0) := by
  unfold over at h ⊢
  by_cases h1 : (wrong l true).1 = 0
  · by_cases h2 : (wrong t false).1 = 0
    · obtain ⟨a1, a2⟩ := (wrong_zero l true).1 h1
      obtain ⟨b1, b2⟩ := (wrong_zero t false).1 h2
      rw [if_neg (by simp [h1]), if_neg (by simp [h2])] at h ⊢
      by_cases h3 : 80 < (overL l t).length
      · rw [if_pos h3] at h; cases h
      · exact ⟨a1, a2, b1, b2, by omega, if_neg h3⟩
    · rw [if_neg (by simp [h1]), if_pos h2] at h; exact absurd h h2
  · rw [if_pos h1] at h; exact absurd h h1
theorem over_is {l t : List En} (h1 : l.length ≤ 80) (h2 : Right true l) (h3 : t.length ≤ 80) (h4 : Right false t) (h5 : (overL l t).length ≤ 80) : over l t = (overL l t, 0) := by
  have w1 := (wrong_zero l true).2 ⟨h1, h2⟩
  have w2 := (wrong_zero t false).2 ⟨h3, h4⟩
  unfold over
  rw [if_neg (by simp [w1]), if_neg (by simp [w2]), if_neg (by omega)]
theorem over_none {l t : List En} (h : (over l t).2 ≠ 0) : (over l t).1 = [] := by
  unfold over at h ⊢
  split
  · rfl
  · split
    · rfl
    · split
      · rfl
      · rename_i a b c; rw [if_neg a, if_neg b, if_neg c] at h; exact absurd rfl h
theorem mergeL_none : ∀ {ls : List (List En)}, (mergeL ls).2 ≠ 0 → (mergeL ls).1 = []
  | [], h => absurd rfl h
  | x :: r, h => by
    unfold mergeL at h ⊢
    split
    · rfl
    · rename_i a; rw [if_neg a] at h; exact over_none h
theorem mergeL_right : ∀ {ls : List (List En)}, (mergeL ls).2 = 0 → (mergeL ls).1.length ≤ 80 ∧ Right false (mergeL ls).1
  | [], _ => ⟨by decide, right_nil _⟩
  | x :: r, h => by
    unfold mergeL at h ⊢
    split
    · rename_i a; rw [if_pos a] at h; exact absurd h a
    · rename_i a
      rw [if_neg a] at h
      obtain ⟨_, h2, _, h4, h5, h6⟩ := over_ok h
      rw [h6]; exact ⟨h5, over_right h2 h4⟩
theorem mergeL_tail {x : List En} {r : List (List En)} (h : (mergeL (x :: r)).2 = 0) : (mergeL r).2 = 0 ∧ mergeL (x :: r) = over x (mergeL r).1 := by
  rw [mergeL] at h ⊢
  by_cases a : (mergeL r).2 = 0
  · exact ⟨a, if_neg fun h => h a⟩
  · rw [if_pos a] at h; exact absurd h a
theorem mergeL_cons {x : List En} {r : List (List En)} (h : (mergeL r).2 = 0) : mergeL (x :: r) = over x (mergeL r).1 := by
  rw [mergeL, if_neg (by simp [h])]
theorem hides_none (p : Bs) : hides [] p = false := by
  have hb : ∀ q : Bs, q ≠ [] → bad [] q = false := fun q hq => by
    unfold bad; rw [(get_none (l := []) hq).2 (fun _ h => nomatch h)]
  have ha : ∀ n (q : Bs), hidUp [] n q = false := by
    intro n
    induction n with
    | zero => intro q; rfl
    | succ n ih =>
      intro q
      unfold hidUp
      by_cases hq : q = []
      · rw [if_pos hq]
      · rw [if_neg hq, hb q hq, ih]; rfl
  unfold hides hidAll
  rw [ha]
  by_cases hp : p = []
  · subst hp; rw [own_nil]; rfl
  · rw [own_bad (hb p hp)]; rfl
/-- A clear layer over a tree. -/
theorem overL_clear (t : List En) : overL [] t = t := by
  unfold overL keepR
  show t.filter _ = t
  rw [List.filter_eq_self]
  intro e _
  rw [hides_none]; rfl
/-- A tree as a layer over nothing. -/
theorem shown_tree {t : List En} (h : Right false t) : shown t = t := by
  unfold shown
  rw [List.filter_eq_self.2 (fun e he => by have := entry_kind (h.1 e he); simp only [bne_iff_ne]; have := this.2.2 rfl; omega)]
  have : t.map En.clear = t.map id := List.map_congr_left fun e he => by
    have := entry_opaque (h.1 e he)
    obtain ⟨a, b, c, d⟩ := e
    show En.mk a b c false = En.mk a b c d
    have h : d = false := this
    rw [h]
  rw [this, List.map_id]
theorem overL_nil {t : List En} (h : Right false t) : overL t [] = t := by
  have hs : Srt (keepR t []) := srt_nil
  refine srt_ext (srt_insAll hs) h.2.1 fun e => ?_
  unfold overL
  rw [mem_insAll (srt_shown h.2.1) hs, shown_tree h]
  simp [keepR]
theorem merge_clear : ∀ {ls : List (List En)} {n : Nat}, (mergeL ls).2 = 0 → mergeL (ls.take n ++ [] :: ls.drop n) = mergeL ls
  | ls, 0, h => by
    obtain ⟨h1, h2⟩ := mergeL_right h
    rw [List.take_zero, List.drop_zero, List.nil_append, mergeL_cons h, over_is (by decide) (right_nil _) h1 h2 (by rw [overL_clear]; exact h1), overL_clear, ← h]
  | [], n + 1, _ => by
    rw [List.take_nil, List.drop_nil, List.nil_append, mergeL_cons rfl]
    exact over_is (by decide) (right_nil _) (by decide) (right_nil _) (by decide)
  | x :: r, n + 1, h => by
    obtain ⟨h1, h2⟩ := mergeL_tail h
    have ih := merge_clear (ls := r) (n := n) h1
    rw [List.take_succ_cons, List.drop_succ_cons, List.cons_append, mergeL_cons (by rw [ih]; exact h1), ih, h2]
theorem merge_drop : ∀ {ls : List (List En)} {n : Nat}, (mergeL ls).2 = 0 → (mergeL (ls.drop n)).2 = 0
  | ls, 0, h => h
  | [], n + 1, h => by rw [List.drop_nil]; exact h
  | x :: r, n + 1, h => by rw [List.drop_succ_cons]; exact merge_drop (mergeL_tail h).1
theorem merge_parts : ∀ {ls : List (List En)} {n : Nat}, (mergeL ls).2 = 0 → mergeL (ls.take n ++ [(mergeL (ls.drop n)).1]) = mergeL ls
  | ls, 0, h => by
    obtain ⟨h1, h2⟩ := mergeL_right h
    rw [List.take_zero, List.drop_zero, List.nil_append, mergeL_cons rfl]
    show over (mergeL ls).1 [] = _
    rw [over_is h1 (right_layer h2) (by decide) (right_nil _) (by rw [overL_nil h2]; exact h1), overL_nil h2, ← h]
  | [], n + 1, _ => by
    rw [List.take_nil, List.drop_nil, List.nil_append, mergeL_cons rfl]
    exact over_is (by decide) (right_nil _) (by decide) (right_nil _) (by decide)
  | x :: r, n + 1, h => by
    obtain ⟨h1, h2⟩ := mergeL_tail h
    have ih := merge_parts (ls := r) (n := n) h1
    rw [List.take_succ_cons, List.drop_succ_cons, List.cons_append, mergeL_cons (by rw [ih]; exact h1), ih, h2]
end Tr
end Go.Proofs.YtjppfhgkanbemabDoor
