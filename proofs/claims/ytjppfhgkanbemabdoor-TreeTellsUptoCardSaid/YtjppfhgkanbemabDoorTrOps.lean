/-
  What is done with trees, in plain words: List, Put, Remove, and their laws. No program in sight.
-/
import Derived.Test.YtjppfhgkanbemabDoorTrOver
namespace Go.Proofs.YtjppfhgkanbemabDoor
namespace Tr
open Pt

def dirErr (t : List En) (d : Bs) : Int := match get t d with
  | none => 6
  | some x => if x.k ≠ 2 then 10 else 0
def kindErr (t : List En) (e : En) : Int := match get t e.P with
  | some x => if (x.k == 2) ≠ (e.k == 2) then 7 else 0
  | none => if t.length = 80 then 5 else 0
def putErr (t : List En) (e : En) : Int :=
  if (wrong t false).1 ≠ 0 then (wrong t false).1 else if entry e false ≠ 0 then entry e false else
  if dirErr t (dirOf e.P) ≠ 0 then dirErr t (dirOf e.P) else kindErr t e
def put (t : List En) (e : En) : List En × Int := if putErr t e ≠ 0 then ([], putErr t e) else (ins e t, 0)
def names (t : List En) (p : Bs) : List Bs := (t.filter fun e => dirOf e.P == p).map fun e => nameOf e.P
def list (t : List En) (p : Bs) : List Bs × Int := if dirErr t p ≠ 0 then ([], dirErr t p) else (names t p, 0)
def without (t : List En) (p : Bs) : List En := t.filter fun e => e.P != p
def full (t : List En) (p : Bs) : Bool := t.any fun e => under e.P p
def removeErr (t : List En) (p : Bs) : Int :=
  if (wrong t false).1 ≠ 0 then (wrong t false).1 else if p = [] ∨ get t p = none then 6 else if full t p = true then 11 else 0
def remove (t : List En) (p : Bs) : List En × Int := if removeErr t p ≠ 0 then ([], removeErr t p) else (without t p, 0)

theorem under_len {s d : Bs} (hd : d ≠ []) (h : under s d = true) : d.length < s.length := by
  obtain ⟨r, rfl⟩ := (under_iff hd).1 h
  simp
/-- What lies below a directory lies in it, or its own directory lies below it. -/
theorem under_step {s d : Bs} (hd : d ≠ []) (h : under s d = true) : dirOf s ≠ [] ∧ (dirOf s = d ∨ under (dirOf s) d = true) := by
  obtain ⟨r, hr, e⟩ := (under_split hd).1 h
  obtain ⟨q, n, hrq⟩ : ∃ q n, r = q ++ [n] := by
    rcases List.eq_nil_or_concat r with h | ⟨q, n, h⟩
    · exact absurd h hr
    · exact ⟨q, n, by rw [h, List.concat_eq_append]⟩
  subst hrq
  have hds : dirOf s = glue (split d ++ q) := by
    unfold dirOf; rw [e, ← List.append_assoc, List.dropLast_concat]
  by_cases hq : q = []
  · subst hq
    rw [List.append_nil, glue_split] at hds
    exact ⟨by rw [hds]; exact hd, .inl hds⟩
  · rw [glue_app (split_ne d) hq, glue_split] at hds
    refine ⟨by rw [hds]; simp, .inr ?_⟩
    rw [hds]; exact (under_iff hd).2 ⟨_, rfl⟩
theorem child_under {s d : Bs} (hd : d ≠ []) (h : dirOf s = d) : under s d = true := by
  subst h; exact dir_under hd
theorem under_dirs {b : Bool} {t : List En} (h : Right b t) {q : Bs} (hq : q ≠ []) : ∀ (n : Nat) {x : En}, x ∈ t → x.P.length ≤ n → under x.P q = true → (∃ d ∈ t, d.P = q ∧ d.k = 2) ∧ ∃ c ∈ t, dirOf c.P = q
  | 0, x, _, hn, hu => by have := under_len hq hu; omega
  | n + 1, x, hx, hn, hu => by
    obtain ⟨h1, h2⟩ := under_step hq hu
    have hs := dir_short (right_ne h hx)
    rcases h.2.2 x hx with h3 | ⟨d, hd, h3, h4⟩
    · exact absurd h3 h1
    · rcases h2 with h2 | h2
      · exact ⟨⟨d, hd, h3.trans h2, h4⟩, x, hx, h2⟩
      · exact under_dirs h hq n hd (by rw [h3]; omega) (by rw [h3]; exact h2)
theorem under_dir {b : Bool} {t : List En} (h : Right b t) {q : Bs} (hq : q ≠ []) {x : En} (hx : x ∈ t) (hu : under x.P q = true) : ∃ d ∈ t, d.P = q ∧ d.k = 2 := (under_dirs h hq _ hx (Nat.le_refl _) hu).1
theorem full_names {t : List En} (h : Right false t) {p : Bs} (hp : p ≠ []) : full t p = !(names t p).isEmpty := by
  unfold full names
  rw [Bool.eq_iff_iff, List.any_eq_true, Bool.not_eq_true', Bool.eq_false_iff, Ne, List.isEmpty_iff, List.map_eq_nil_iff]
  constructor
  · rintro ⟨x, hx, hu⟩ hn
    obtain ⟨c, hc, h2⟩ := (under_dirs h hp _ hx (Nat.le_refl _) hu).2
    have := List.filter_eq_nil_iff.1 hn c hc
    rw [h2, beq_self_eq_true] at this
    exact this rfl
  · intro hn
    obtain ⟨x, r, hr⟩ := List.exists_cons_of_ne_nil hn
    have hx : x ∈ t.filter fun e => dirOf e.P == p := by rw [hr]; simp
    obtain ⟨h1, h2⟩ := List.mem_filter.1 hx
    exact ⟨x, h1, child_under hp (by simpa using h2)⟩
/-- Behind a directory stands what lies below it, if anything does. -/
theorem full_next {t : List En} (h : Srt t) {k : Nat} (hk : k < t.length) (hp : t[k].P ≠ []) : full t t[k].P = if h : k + 1 < t.length then under t[k + 1].P t[k].P else false := by
  unfold full
  rw [Bool.eq_iff_iff, List.any_eq_true]
  have srt : ∀ {i j : Nat} (hj : j < t.length) (hij : i < j), cmp (t[i]'(by omega)).P t[j].P < 0 := fun {i j} hj hij => List.pairwise_iff_getElem.1 h i j _ hj hij
  constructor
  · rintro ⟨x, hx, hu⟩
    obtain ⟨j, hj, rfl⟩ := List.getElem_of_mem hx
    have h1 := (order (c := []) hp hu).1
    have hkj : k < j := by
      rcases Nat.lt_trichotomy k j with h2 | h2 | h2
      · exact h2
      · subst h2; rw [cmp_self] at h1; omega
      · exact absurd (srt hk h2) (lt_asymm h1)
    rw [dif_pos (by omega)]
    rcases Nat.eq_or_lt_of_le (show k + 1 ≤ j from hkj) with e | h2
    · subst e; exact hu
    · have h3 := srt (i := k) (j := k + 1) (by omega) (by omega)
      have h4 := srt hj h2
      rcases (order (c := t[k + 1].P) hp hu).2 with h5 | h5 | h5 | h5
      · rw [h5, cmp_self] at h3; omega
      · exact h5
      · exact absurd h3 (lt_asymm h5)
      · omega
  · intro hu
    split at hu
    · rename_i h2; exact ⟨_, List.getElem_mem h2, hu⟩
    · cases hu

/-! ### Put -/
theorem put_ok {t : List En} {e : En} (h : putErr t e = 0) : t.length ≤ 80 ∧ Right false t ∧ entry e false = 0 ∧ (dirOf e.P = [] ∨ ∃ d ∈ t, d.P = dirOf e.P ∧ d.k = 2) ∧ (∀ x ∈ t, x.P = e.P → (x.k = 2 ↔ e.k = 2)) ∧ ((∀ x ∈ t, x.P ≠ e.P) → t.length < 80) := by
  unfold putErr at h
  by_cases h1 : (wrong t false).1 = 0
  · rw [if_neg (by simp [h1])] at h
    obtain ⟨a1, a2⟩ := (wrong_zero t false).1 h1
    by_cases h2 : entry e false = 0
    · rw [if_neg (by simp [h2])] at h
      have hp := clean_ne (entry_clean h2)
      by_cases h3 : dirErr t (dirOf e.P) = 0
      · rw [if_neg (by simp [h3])] at h
        refine ⟨a1, a2, h2, ?_, fun x hx hxe => ?_, fun hno => ?_⟩
        · by_cases hd : dirOf e.P = []
          · exact .inl hd
          · unfold dirErr at h3
            rcases g : get t (dirOf e.P) with _ | d
            · rw [g] at h3; cases h3
            · rw [g] at h3
              dsimp only at h3
              by_cases hk : d.k = 2
              · exact .inr ⟨d, (get_some hd g).1, (get_some hd g).2, hk⟩
              · rw [if_pos hk] at h3; cases h3
        · unfold kindErr at h
          have g := get_mem a2.2.1 hx (right_ne a2 hx)
          rw [hxe] at g
          rw [g] at h
          dsimp only at h
          by_cases hk : (x.k == 2) = (e.k == 2)
          · rw [Bool.eq_iff_iff, beq_iff_eq, beq_iff_eq] at hk; exact hk
          · rw [if_pos hk] at h; cases h
        · unfold kindErr at h
          rw [(get_none hp).2 hno] at h
          dsimp only at h
          by_cases hl : t.length = 80
          · rw [if_pos hl] at h; cases h
          · omega
      · rw [if_pos h3] at h; exact absurd h h3
    · rw [if_pos h2] at h; exact absurd h h2
  · rw [if_pos h1] at h; exact absurd h h1
theorem put_right {t : List En} {e : En} (h : putErr t e = 0) : Right false (ins e t) := by
  obtain ⟨_, a2, h2, h3, h4, _⟩ := put_ok h
  have hm := mem_ins (x := e) a2.2.1
  refine ⟨fun x hx => ?_, srt_ins a2.2.1, fun x hx => ?_⟩
  · rcases (hm x).1 hx with rfl | ⟨hx, _⟩
    · exact h2
    · exact a2.1 x hx
  · have key : ∀ d ∈ t, d.k = 2 → ∃ d' ∈ ins e t, d'.P = d.P ∧ d'.k = 2 := fun d hd hk => by
      by_cases hde : d.P = e.P
      · exact ⟨e, (hm e).2 (.inl rfl), hde.symm, (h4 d hd hde).1 hk⟩
      · exact ⟨d, (hm d).2 (.inr ⟨hd, hde⟩), rfl, hk⟩
    rcases (hm x).1 hx with rfl | ⟨hx, _⟩
    · rcases h3 with h3 | ⟨d, hd, h5, h6⟩
      · exact .inl h3
      · obtain ⟨d', h7, h8, h9⟩ := key d hd h6
        exact .inr ⟨d', h7, h8.trans h5, h9⟩
    · rcases a2.2.2 x hx with h3 | ⟨d, hd, h5, h6⟩
      · exact .inl h3
      · obtain ⟨d', h7, h8, h9⟩ := key d hd h6
        exact .inr ⟨d', h7, h8.trans h5, h9⟩
theorem ins_len_new {e : En} : ∀ {t : List En}, Srt t → (∀ x ∈ t, x.P ≠ e.P) → (ins e t).length = t.length + 1
  | [], _, _ => rfl
  | y :: r, hs, h => by
    unfold ins
    split
    · rw [List.length_cons, ins_len_new (srt_tail hs) (fun x hx => h x (by simp [hx])), List.length_cons]
    · rw [if_neg (h y (by simp))]; rfl
theorem ins_len_old {e : En} : ∀ {t : List En}, Srt t → (∃ x ∈ t, x.P = e.P) → (ins e t).length = t.length
  | [], _, h => by obtain ⟨x, hx, _⟩ := h; cases hx
  | y :: r, hs, h => by
    unfold ins
    split
    · rename_i h1
      have : ∃ x ∈ r, x.P = e.P := by
        obtain ⟨x, hx, h2⟩ := h
        rcases List.mem_cons.1 hx with rfl | hx
        · rw [h2, cmp_self] at h1; omega
        · exact ⟨x, hx, h2⟩
      rw [List.length_cons, ins_len_old (srt_tail hs) this, List.length_cons]
    · rename_i h1
      by_cases h2 : y.P = e.P
      · rw [if_pos h2]; rfl
      · exfalso
        obtain ⟨x, hx, h3⟩ := h
        rcases List.mem_cons.1 hx with rfl | hx
        · exact h2 h3
        · exact h1 (h3 ▸ srt_head hs x hx)
theorem put_len {t : List En} {e : En} (h : putErr t e = 0) : (ins e t).length ≤ 80 := by
  obtain ⟨h1, a2, _, _, _, h5⟩ := put_ok h
  by_cases hx : ∃ x ∈ t, x.P = e.P
  · rw [ins_len_old a2.2.1 hx]; exact h1
  · have hn : ∀ x ∈ t, x.P ≠ e.P := fun x h2 h3 => hx ⟨x, h2, h3⟩
    rw [ins_len_new a2.2.1 hn]; have := h5 hn; omega
theorem get_ins_same {t : List En} {e : En} (h : Srt t) (hp : e.P ≠ []) : get (ins e t) e.P = some e := (get_iff (srt_ins h) hp).2 ⟨(mem_ins h e).2 (.inl rfl), rfl⟩
theorem get_ins_other {t : List En} {e : En} (h : Srt t) {q : Bs} (hq : q ≠ e.P) : get (ins e t) q = get t q := by
  by_cases hq0 : q = []
  · subst hq0; rw [get_root, get_root]
  · rcases g : get t q with _ | x
    · rw [get_none hq0]
      intro x hx
      rcases (mem_ins h x).1 hx with rfl | ⟨hx, _⟩
      · exact fun e => hq e.symm
      · exact (get_none hq0).1 g x hx
    · obtain ⟨g1, g2⟩ := get_some hq0 g
      exact (get_iff (srt_ins h) hq0).2 ⟨(mem_ins h x).2 (.inr ⟨g1, by rw [g2]; exact hq⟩), g2⟩

/-! ### Remove -/
theorem remove_ok {t : List En} {p : Bs} (h : removeErr t p = 0) : t.length ≤ 80 ∧ Right false t ∧ p ≠ [] ∧ get t p ≠ none ∧ full t p = false := by
  unfold removeErr at h
  by_cases h1 : (wrong t false).1 = 0
  · rw [if_neg (by simp [h1])] at h
    obtain ⟨a1, a2⟩ := (wrong_zero t false).1 h1
    by_cases h2 : p = [] ∨ get t p = none
    · rw [if_pos h2] at h; cases h
    · rw [if_neg h2] at h
      rcases hf : full t p with _ | _
      · exact ⟨a1, a2, fun e => h2 (.inl e), fun e => h2 (.inr e), rfl⟩
      · rw [hf] at h; cases h
  · rw [if_pos h1] at h; exact absurd h h1
theorem mem_without {t : List En} {p : Bs} {e : En} : e ∈ without t p ↔ e ∈ t ∧ e.P ≠ p := by
  unfold without; simp
theorem remove_right {t : List En} {p : Bs} (h : removeErr t p = 0) : Right false (without t p) := by
  obtain ⟨_, a2, hp, _, hf⟩ := remove_ok h
  refine ⟨fun x hx => a2.1 x (mem_without.1 hx).1, srt_filter a2.2.1 _, fun x hx => ?_⟩
  obtain ⟨h1, _⟩ := mem_without.1 hx
  rcases a2.2.2 x h1 with h3 | ⟨d, hd, h5, h6⟩
  · exact .inl h3
  · by_cases hde : d.P = p
    · exfalso
      unfold full at hf
      rw [List.any_eq_false] at hf
      exact hf x h1 (child_under hp (h5.symm.trans hde))
    · exact .inr ⟨d, mem_without.2 ⟨hd, hde⟩, h5, h6⟩
theorem get_without_same {t : List En} {p : Bs} (hp : p ≠ []) : get (without t p) p = none := (get_none hp).2 fun _ h => (mem_without.1 h).2
theorem get_without_other {t : List En} (h : Srt t) {p q : Bs} (hq : q ≠ p) : get (without t p) q = get t q := by
  by_cases hq0 : q = []
  · subst hq0; rw [get_root, get_root]
  · rcases g : get t q with _ | x
    · rw [get_none hq0]
      exact fun x hx => (get_none hq0).1 g x (mem_without.1 hx).1
    · obtain ⟨g1, g2⟩ := get_some hq0 g
      exact (get_iff (srt_filter h _) hq0).2 ⟨mem_without.2 ⟨g1, by rw [g2]; exact hq⟩, g2⟩
theorem without_len (t : List En) (p : Bs) : (without t p).length ≤ t.length := List.length_filter_le _ _
/-- Put, and removed. -/
theorem back {t : List En} {e : En} (h : putErr t e = 0) (hn : get t e.P = none) : remove (ins e t) e.P = (t, 0) := by
  obtain ⟨_, a2, h2, _, _, _⟩ := put_ok h
  have hp := clean_ne (entry_clean h2)
  have hno := (get_none hp).1 hn
  have hw : (wrong (ins e t) false).1 = 0 := (wrong_zero _ _).2 ⟨put_len h, put_right h⟩
  have hf : full (ins e t) e.P = false := by
    unfold full
    rw [List.any_eq_false]
    intro x hx hu
    rcases (mem_ins a2.2.1 x).1 hx with rfl | ⟨hx, _⟩
    · have := under_len hp hu; omega
    · obtain ⟨d, hd, h3, _⟩ := under_dir a2 hp hx hu
      exact hno d hd h3
  have hr : removeErr (ins e t) e.P = 0 := by
    unfold removeErr
    rw [if_neg (by simp [hw]), if_neg, hf]
    · rfl
    · rintro (h | h)
      · exact hp h
      · rw [get_ins_same a2.2.1 hp] at h; cases h
  unfold remove
  rw [if_neg (by simp [hr])]
  have : without (ins e t) e.P = t := srt_ext (srt_filter (srt_ins a2.2.1) _) a2.2.1 fun x => by
    rw [mem_without, mem_ins a2.2.1]
    constructor
    · rintro ⟨rfl | ⟨h, _⟩, h3⟩
      · exact absurd rfl h3
      · exact h
    · exact fun h => ⟨.inr ⟨h, hno x h⟩, hno x h⟩
  rw [this]
end Tr
end Go.Proofs.YtjppfhgkanbemabDoor
