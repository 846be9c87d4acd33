/-
  The document's Move in plain words: what it builds is the moved tree.
-/
import Derived.Test.YtjppfhgkanbemabDoorTrRefR
import Derived.Test.YtjppfhgkanbemabDoorTrMvLaw
namespace Go.Proofs.YtjppfhgkanbemabDoor
namespace Tr
open Pt

def movedO (l : List En) (s d : Bs) : List En := (l.filter fun e => decide (mv s e.P)).map (renE s d)
theorem mem_movedO {l : List En} {s d : Bs} {e : En} : e ∈ movedO l s d ↔ ∃ x ∈ l, mv s x.P ∧ renE s d x = e := by
  unfold movedO
  rw [List.mem_map]
  constructor
  · rintro ⟨x, hx, h⟩
    obtain ⟨h1, h2⟩ := List.mem_filter.1 hx
    exact ⟨x, h1, of_decide_eq_true h2, h⟩
  · rintro ⟨x, h1, h2, h⟩
    exact ⟨x, List.mem_filter.2 ⟨h1, decide_eq_true h2⟩, h⟩
theorem mem_outside {l : List En} {p : Bs} {e : En} : e ∈ outside l p ↔ e ∈ l ∧ ¬ mv p e.P := by
  unfold outside mv
  rw [List.mem_filter, Bool.and_eq_true, bne_iff_ne, Bool.not_eq_true', ← Bool.not_eq_true, not_or]
theorem movedO_yes {l : List En} {s d : Bs} {k : Nat} (hk : k < l.length) (h : mv s l[k].P) : movedO (l.take (k + 1)) s d = movedO (l.take k) s d ++ [renE s d l[k]] := by
  unfold movedO
  rw [List.take_succ_eq_append_getElem hk, List.filter_append, List.map_append]; simp [h]
theorem movedO_no {l : List En} {s d : Bs} {k : Nat} (hk : k < l.length) (h : ¬ mv s l[k].P) : movedO (l.take (k + 1)) s d = movedO (l.take k) s d := by
  unfold movedO
  rw [List.take_succ_eq_append_getElem hk, List.filter_append, List.map_append]; simp [h]
theorem insAll_snoc (xs : List En) (x : En) (a : List En) : insAll (xs ++ [x]) a = ins x (insAll xs a) := by
  unfold insAll; rw [List.foldl_append]; rfl
theorem movedO_le (l : List En) (s d : Bs) : (movedO l s d).length ≤ l.length := by
  unfold movedO; rw [List.length_map]; exact List.length_filter_le _ _
theorem mem_ins_or {x : En} : ∀ {l : List En} {e : En}, e ∈ ins x l → e = x ∨ e ∈ l
  | [], e, h => by simpa [ins] using h
  | y :: r, e, h => by
    unfold ins at h
    split at h
    · rcases List.mem_cons.1 h with rfl | h
      · exact .inr (by simp)
      · rcases mem_ins_or h with h | h
        · exact .inl h
        · exact .inr (by simp [h])
    · split at h
      · rcases List.mem_cons.1 h with rfl | h
        · exact .inl rfl
        · exact .inr (by simp [h])
      · rcases List.mem_cons.1 h with rfl | h
        · exact .inl rfl
        · exact .inr h
theorem mem_insAll_or : ∀ {xs a : List En} {e : En}, e ∈ insAll xs a → e ∈ xs ∨ e ∈ a
  | [], _, _, h => .inr h
  | x :: xs, a, e, h => by
    rcases mem_insAll_or (xs := xs) (a := ins x a) h with h | h
    · exact .inl (by simp [h])
    · rcases mem_ins_or h with rfl | h
      · exact .inl (by simp)
      · exact .inr h
theorem move_same {l : List En} {s : Bs} (hw : (wrong l false).1 = 0) (h : movesErr l s s = 0) : move l s s = (l, 0) := by
  obtain ⟨_, ht⟩ := (wrong_zero l false).1 hw
  obtain ⟨_, _, hs, _, _⟩ := moves_ok h
  have he : moveErr l s s = 0 := by
    unfold moveErr
    rw [if_neg (by simp [hw]), if_neg (by simp [h]), if_neg]
    intro h2
    obtain ⟨e, he, h3⟩ := List.any_eq_true.1 h2
    obtain ⟨x, hx, _, rfl⟩ := mem_moved.1 he
    rw [renE_same (ren_self hs), entry_clean (ht.1 x hx)] at h3; cases h3
  unfold move
  rw [if_neg (by simp [he]), move_self ht h]
theorem refMove_bad {l : List En} {s d : Bs} (hw : (wrong l false).1 = 0) (h : movesErr l s d = 0) {x : En} (hx : x ∈ l) (hm : mv s x.P) (hc : clean (renE s d x).P = false) : move l s d = ([], 4) := by
  have he : moveErr l s d = 4 := by
    unfold moveErr
    rw [if_neg (by simp [hw]), if_neg (by simp [h]), if_pos]
    exact List.any_eq_true.2 ⟨_, mem_moved.2 ⟨x, hx, stays_iff.2 (.inl hm), rfl⟩, by rw [hc]; rfl⟩
  unfold move
  rw [he]; rfl
theorem refMove_good {l : List En} {s d : Bs} (hw : (wrong l false).1 = 0) (h : movesErr l s d = 0) (hsd : s ≠ d) (hc : ∀ e ∈ movedO l s d, clean e.P = true) : move l s d = (insAll (movedO l s d) (outside (outside l s) d), 0) := by
  obtain ⟨_, ht⟩ := (wrong_zero l false).1 hw
  obtain ⟨z, hz, hs, hcd, h1⟩ := moves_ok h
  obtain ⟨hu, hde, hdest⟩ := h1.resolve_left hsd
  have hfree := dest_free ht (clean_ne hcd) hdest
  have hrest : ∀ e, e ∈ outside (outside l s) d ↔ e ∈ l ∧ ¬ mv s e.P ∧ e.P ≠ d := fun e => by
    rw [mem_outside, mem_outside]
    constructor
    · rintro ⟨⟨h1, h2⟩, h3⟩; exact ⟨h1, h2, fun e => h3 (.inl e)⟩
    · rintro ⟨h1, h2, h3⟩
      refine ⟨⟨h1, h2⟩, fun h4 => ?_⟩
      rcases h4 with h4 | h4
      · exact h3 h4
      · rw [hfree e h1] at h4; cases h4
  have hmem : ∀ e, e ∈ movedL l s d ↔ e ∈ movedO l s d ∨ e ∈ outside (outside l s) d := fun e => by
    rw [mem_moved, mem_movedO, hrest]
    constructor
    · rintro ⟨x, hx, hst, rfl⟩
      by_cases hm : mv s x.P
      · exact .inl ⟨x, hx, hm, rfl⟩
      · rw [renE_same (ren_not hm)]
        exact .inr ⟨hx, hm, (stays_iff.1 hst).resolve_left hm⟩
    · rintro (⟨x, hx, hm, rfl⟩ | ⟨hx, hm, hd⟩)
      · exact ⟨x, hx, stays_iff.2 (.inl hm), rfl⟩
      · exact ⟨e, hx, stays_iff.2 (.inr hd), renE_same (ren_not hm)⟩
  have hne : (movedO l s d).Pairwise fun x y => x.P ≠ y.P := by
    unfold movedO
    rw [List.pairwise_map]
    refine List.Pairwise.imp_of_mem (fun {a b} ha hb hne he => ?_) (List.Pairwise.filter _ (srt_ne ht.2.1))
    rw [renE_P, renE_P] at he
    obtain ⟨a1, a2⟩ := List.mem_filter.1 ha
    obtain ⟨b1, b2⟩ := List.mem_filter.1 hb
    exact hne (ren_inj ht h a1 b1 (stays_iff.2 (.inl (of_decide_eq_true a2))) (stays_iff.2 (.inl (of_decide_eq_true b2))) he)
  have hsr : Srt (outside (outside l s) d) := srt_filter (srt_filter ht.2.1 _) _
  have hdis : ∀ x ∈ movedO l s d, ∀ y ∈ outside (outside l s) d, x.P ≠ y.P := fun x hx y hy e => by
    obtain ⟨x', hx', hm, rfl⟩ := mem_movedO.1 hx
    obtain ⟨y1, y2, y3⟩ := (hrest y).1 hy
    rw [renE_P] at e
    have h2 : ren s d x'.P = ren s d y.P := by rw [e, ren_not y2]
    have h3 := ren_inj ht h hx' y1 (stays_iff.2 (.inl hm)) (stays_iff.2 (.inr y3)) h2
    rw [h3] at hm; exact y2 hm
  have he : moveErr l s d = 0 := by
    unfold moveErr
    rw [if_neg (by simp [hw]), if_neg (by simp [h]), if_neg]
    intro h2
    obtain ⟨e, he, h3⟩ := List.any_eq_true.1 h2
    rcases (hmem e).1 he with h4 | h4
    · rw [hc e h4] at h3; cases h3
    · rw [entry_clean (ht.1 e ((hrest e).1 h4).1)] at h3; cases h3
  unfold move
  rw [if_neg (by simp [he])]
  have : sortL (movedL l s d) = insAll (movedO l s d) (outside (outside l s) d) := srt_ext (srt_sortL _) (srt_insAll hsr) fun e => by
    rw [mem_sortL (moved_ne ht h), hmem, mem_insNe hne hsr hdis]
  rw [this]
/-- The names below a place, and its list. -/
theorem list_names {l : List En} (ht : Right false l) {d : Bs} (hd : d ≠ []) {y : En} (hg : get l d = some y) : ((list l d).2 = 0 ∧ (list l d).1 ≠ []) ↔ names l d ≠ [] := by
  by_cases hk : y.k = 2
  · have hl : list l d = (names l d, 0) := by
      unfold list dirErr
      rw [hg]
      simp [hk]
    rw [hl]
    exact ⟨fun h => h.2, fun h => ⟨rfl, h⟩⟩
  · have hl : list l d = ([], 10) := by
      unfold list dirErr
      rw [hg]
      simp [hk]
    rw [hl]
    constructor
    · rintro ⟨h, _⟩; cases h
    · intro hn
      exfalso
      obtain ⟨x, r, hr⟩ := List.exists_cons_of_ne_nil hn
      have hx : x ∈ names l d := by rw [hr]; simp
      unfold names at hx
      obtain ⟨c, hc, _⟩ := List.mem_map.1 hx
      obtain ⟨c1, c2⟩ := List.mem_filter.1 hc
      have c3 : dirOf c.P = d := by simpa using c2
      rcases ht.2.2 c c1 with h | ⟨z, hz, hzP, hzk⟩
      · exact hd (c3.symm.trans h)
      · rw [c3] at hzP
        have := (get_iff ht.2.1 hd).2 ⟨hz, hzP⟩
        rw [hg] at this
        injection this with this
        rw [this] at hk; exact hk hzk
end Tr
end Go.Proofs.YtjppfhgkanbemabDoor
