/-
  The laws of Move in plain words. No program in sight.
-/
import Derived.Test.YtjppfhgkanbemabDoorTrMvPure
namespace Go.Proofs.YtjppfhgkanbemabDoor
namespace Tr
open Pt

theorem en_ext {x y : En} (h : x.P = y.P) (hk : x.k = y.k) (ht : x.t = y.t) (ho : x.o = y.o) : x = y := by
  obtain ⟨a, b, c, d⟩ := x
  obtain ⟨a', b', c', d'⟩ := y
  have h1 : a = a' := bytes_ext h
  have h2 : b = b' := hk
  have h3 : c = c' := ht
  have h4 : d = d' := ho
  subst h1 h2 h3 h4; rfl
theorem renE_k (s d : Bs) (e : En) : (renE s d e).k = e.k := by
  unfold renE
  split
  · rfl
  · split <;> rfl
theorem renE_t (s d : Bs) (e : En) : (renE s d e).t = e.t := by
  unfold renE
  split
  · rfl
  · split <;> rfl
theorem renE_o (s d : Bs) (e : En) : (renE s d e).o = e.o := by
  unfold renE
  split
  · rfl
  · split <;> rfl
theorem renE_eq {s d : Bs} {e e' : En} (hP : e'.P = ren s d e.P) (hk : e'.k = e.k) (ht : e'.t = e.t) (ho : e'.o = e.o) : renE s d e = e' :=
  en_ext (by rw [renE_P, hP]) (by rw [renE_k, hk]) (by rw [renE_t, ht]) (by rw [renE_o, ho])
theorem renE_same {s d : Bs} {e : En} (h : ren s d e.P = e.P) : renE s d e = e := renE_eq h.symm rfl rfl rfl
theorem mem_moved {t : List En} {s d : Bs} {e : En} : e ∈ movedL t s d ↔ ∃ x ∈ t, stays s d x = true ∧ renE s d x = e := by
  unfold movedL
  rw [List.mem_map]
  constructor
  · rintro ⟨x, hx, h⟩
    obtain ⟨h1, h2⟩ := List.mem_filter.1 hx
    exact ⟨x, h1, h2, h⟩
  · rintro ⟨x, h1, h2, h⟩
    exact ⟨x, List.mem_filter.2 ⟨h1, h2⟩, h⟩
theorem mem_move {t : List En} {s d : Bs} (ht : Right false t) (h : movesErr t s d = 0) {e : En} : e ∈ sortL (movedL t s d) ↔ ∃ x ∈ t, stays s d x = true ∧ renE s d x = e := by
  rw [mem_sortL (moved_ne ht h), mem_moved]
theorem ins_le' (x : En) : ∀ l : List En, (ins x l).length ≤ l.length + 1
  | [] => by simp [ins]
  | y :: r => by
    unfold ins
    have := ins_le' x r
    split
    · simp only [List.length_cons]; omega
    · split <;> simp
theorem insAll_le : ∀ (xs a : List En), (insAll xs a).length ≤ xs.length + a.length
  | [], a => by simp [insAll]
  | x :: xs, a => by
    have h1 := insAll_le xs (ins x a)
    have h2 := ins_le' x a
    show (insAll xs (ins x a)).length ≤ _
    rw [List.length_cons]; omega
theorem move_len (t : List En) (s d : Bs) : (sortL (movedL t s d)).length ≤ t.length := by
  have h := insAll_le (movedL t s d) []
  have h2 : (movedL t s d).length ≤ t.length := by unfold movedL; rw [List.length_map]; exact List.length_filter_le _ _
  unfold sortL
  simp only [List.length_nil] at h
  omega
theorem move_ok {t : List En} {s d : Bs} (h : moveErr t s d = 0) : t.length ≤ 80 ∧ Right false t ∧ movesErr t s d = 0 ∧ (∀ e ∈ movedL t s d, clean e.P = true) ∧ move t s d = (sortL (movedL t s d), 0) := by
  have hm : move t s d = (sortL (movedL t s d), 0) := by unfold move; rw [if_neg (by simp [h])]
  unfold moveErr at h
  by_cases h1 : (wrong t false).1 = 0
  · rw [if_neg (by simp [h1])] at h
    obtain ⟨a1, a2⟩ := (wrong_zero t false).1 h1
    by_cases h2 : movesErr t s d = 0
    · rw [if_neg (by simp [h2])] at h
      refine ⟨a1, a2, h2, fun e he => ?_, hm⟩
      rcases hc : clean e.P with _ | _
      · rw [if_pos (List.any_eq_true.2 ⟨e, he, by rw [hc]; rfl⟩)] at h; cases h
      · rfl
    · rw [if_pos h2] at h; exact absurd h h2
  · rw [if_pos h1] at h; exact absurd h h1
theorem move_none {t : List En} {s d : Bs} (h : (move t s d).2 ≠ 0) : (move t s d).1 = [] := by
  unfold move at h ⊢
  split
  · rfl
  · rename_i h1; rw [if_neg h1] at h; exact absurd rfl h
/-- A parent goes along. -/
theorem dir_along {s d r : Bs} : ∃ r', (r' = [] ∨ ∃ q, r' = 47 :: q) ∧ dirOf (s ++ 47 :: r) = s ++ r' ∧ dirOf (d ++ 47 :: r) = d ++ r' := by
  have key : ∀ x : Bs, dirOf (x ++ 47 :: r) = glue (split x ++ (split r).dropLast) := fun x => by
    unfold dirOf
    rw [split_app, List.dropLast_append_of_ne_nil (split_ne r)]
  by_cases h : (split r).dropLast = []
  · refine ⟨[], .inl rfl, ?_, ?_⟩
    · rw [key, h, List.append_nil, glue_split, List.append_nil]
    · rw [key, h, List.append_nil, glue_split, List.append_nil]
  · refine ⟨47 :: glue (split r).dropLast, .inr ⟨_, rfl⟩, ?_, ?_⟩
    · rw [key, glue_app (split_ne s) h, glue_split]
    · rw [key, glue_app (split_ne d) h, glue_split]
theorem under_trans_dir {q s : Bs} (hs : s ≠ []) (hd : dirOf q ≠ []) (h : mv s (dirOf q)) : under q s = true := by
  have h1 := dir_under hd
  obtain ⟨r, e⟩ := (under_iff hd).1 h1
  obtain ⟨r2, e2, hr⟩ := mv_split hs h
  rw [under_iff hs]
  rcases hr with rfl | ⟨r3, rfl⟩
  · exact ⟨r, by rw [e, e2, List.append_nil]⟩
  · exact ⟨r3 ++ 47 :: r, by rw [e, e2]; simp⟩
theorem dirErr_dir {t : List En} {d : Bs} (h : dirErr t d = 0) : d = [] ∨ ∃ x ∈ t, x.P = d ∧ x.k = 2 := by
  by_cases hd : d = []
  · exact .inl hd
  unfold dirErr at h
  rcases g : get t d with _ | x
  · rw [g] at h; cases h
  · rw [g] at h
    dsimp only at h
    by_cases hk : x.k = 2
    · exact .inr ⟨x, (get_some hd g).1, (get_some hd g).2, hk⟩
    · rw [if_pos hk] at h; cases h
theorem dirErr_of {t : List En} {d : Bs} (ht : Srt t) (h : d = [] ∨ ∃ x ∈ t, x.P = d ∧ x.k = 2) : dirErr t d = 0 := by
  unfold dirErr
  rcases h with rfl | ⟨x, hx, rfl, hk⟩
  · rw [get_root]; rfl
  · by_cases hd : x.P = []
    · rw [hd, get_root]; rfl
    · rw [get_mem ht hx hd]; dsimp only; rw [if_neg (by simp [hk])]
theorem move_self {t : List En} {s : Bs} (ht : Right false t) (h : movesErr t s s = 0) : sortL (movedL t s s) = t := by
  obtain ⟨_, _, hs, _, _⟩ := moves_ok h
  refine srt_ext (srt_sortL _) ht.2.1 fun e => ?_
  rw [mem_move ht h]
  constructor
  · rintro ⟨x, hx, _, rfl⟩
    rw [renE_same (ren_self hs)]; exact hx
  · intro he
    refine ⟨e, he, stays_iff.2 ?_, renE_same (ren_self hs)⟩
    by_cases h1 : e.P = s
    · exact .inl (.inl h1)
    · exact .inr h1
/-- A tree that is moved in is right. -/
theorem move_right {t : List En} {s d : Bs} (h : moveErr t s d = 0) : Right false (sortL (movedL t s d)) := by
  obtain ⟨_, ht, hm, hcl, _⟩ := move_ok h
  obtain ⟨z, hz, hs, hc, h1⟩ := moves_ok hm
  rcases h1 with rfl | ⟨hu, hde, hdest⟩
  · rw [move_self ht hm]; exact ht
  have hfree := dest_free ht (clean_ne hc) hdest
  refine ⟨fun e he => ?_, srt_sortL _, fun e he => ?_⟩
  · obtain ⟨x, hx, hst, rfl⟩ := (mem_move ht hm).1 he
    obtain ⟨a1, _, a3, a4⟩ := (entry_zero x false).1 (ht.1 x hx)
    refine (entry_zero _ _).2 ⟨?_, hcl _ (mem_moved.2 ⟨x, hx, hst, rfl⟩), ?_, ?_⟩
    · unfold badKind at a1 ⊢; rw [renE_k]; exact a1
    · rw [renE_t]; exact a3
    · unfold badFit at a4 ⊢; rw [renE_k, renE_t, renE_o]; exact a4
  · obtain ⟨x, hx, hst, rfl⟩ := (mem_move ht hm).1 he
    rw [renE_P]
    -- an entry that stays where it is
    have stay : ∀ y ∈ t, ¬ mv s y.P → y.P ≠ d → y ∈ sortL (movedL t s d) := fun y hy hn hd =>
      (mem_move ht hm).2 ⟨y, hy, stays_iff.2 (.inr hd), renE_same (ren_not hn)⟩
    by_cases hmx : mv s x.P
    · obtain ⟨r, e, hr⟩ := mv_split hs hmx
      rcases hr with rfl | ⟨r', rfl⟩
      · rw [e, ren_app hs (.inl rfl), List.append_nil]
        rcases dirErr_dir hde with h0 | ⟨y, hy, hyP, hyk⟩
        · exact .inl h0
        · have hd0 : dirOf d ≠ [] := by rw [← hyP]; exact right_ne ht hy
          refine .inr ⟨y, stay y hy (fun hmv => ?_) (fun e' => ?_), hyP, hyk⟩
          · rw [hyP] at hmv
            rw [under_trans_dir hs hd0 hmv] at hu; cases hu
          · have := dir_short (clean_ne hc)
            rw [← hyP, e'] at this; omega
      · obtain ⟨r2, hr2, e1, e2⟩ := dir_along (s := s) (d := d) (r := r')
        rw [e, ren_app hs (.inr ⟨r', rfl⟩), e2]
        have hp : dirOf x.P = s ++ r2 := by rw [e, e1]
        rcases ht.2.2 x hx with h0 | ⟨y, hy, hyP, hyk⟩
        · rw [hp] at h0
          exact absurd (List.append_eq_nil_iff.1 h0).1 hs
        · rw [hp] at hyP
          refine .inr ⟨renE s d y, (mem_move ht hm).2 ⟨y, hy, stays_iff.2 (.inl (by rw [hyP]; exact mv_of hs hr2)), rfl⟩, ?_, by rw [renE_k]; exact hyk⟩
          rw [renE_P, hyP, ren_app hs hr2]
    · have hxd := (stays_iff.1 hst).resolve_left hmx
      rw [ren_not hmx]
      rcases ht.2.2 x hx with h0 | ⟨y, hy, hyP, hyk⟩
      · exact .inl h0
      · have hd0 : dirOf x.P ≠ [] := by rw [← hyP]; exact right_ne ht hy
        refine .inr ⟨y, stay y hy (fun hmv => ?_) (fun e' => ?_), hyP, hyk⟩
        · rw [hyP] at hmv
          exact hmx (.inr (under_trans_dir hs hd0 hmv))
        · have := hfree x hx
          rw [← e', hyP, dir_under hd0] at this; cases this
/-- What stood at a path stands where the path has gone. -/
theorem move_get {t : List En} {s d q : Bs} (h : moveErr t s d = 0) (hq : ¬ (q = d ∧ s ≠ d)) {e : En} (he : get t q = some e) : get (sortL (movedL t s d)) (ren s d q) = some (if mv s q then ⟨⟨(ren s d q).toArray⟩, e.k, e.t, e.o⟩ else e) := by
  obtain ⟨_, ht, hm, _, _⟩ := move_ok h
  obtain ⟨z, hz, hs, hc, h1⟩ := moves_ok hm
  have hR := move_right h
  by_cases hq0 : q = []
  · subst hq0
    have hn : ¬ mv s [] := by
      intro hmv
      obtain ⟨r, e, _⟩ := mv_split hs hmv
      exact hs (List.append_eq_nil_iff.1 e.symm).1
    rw [ren_not hn, if_neg hn, get_root, ← he, get_root]
  · obtain ⟨e1, e2⟩ := get_some hq0 he
    have hst : stays s d e = true := stays_iff.2 (by
      by_cases h2 : q = d
      · have : s = d := by
          by_cases h3 : s = d
          · exact h3
          · exact absurd ⟨h2, h3⟩ hq
        exact .inl (.inl (by rw [e2, h2, this]))
      · exact .inr (by rw [e2]; exact h2))
    have hmem := (mem_move ht hm).2 ⟨e, e1, hst, rfl⟩
    have hP : (renE s d e).P = ren s d q := by rw [renE_P, e2]
    have hg : get (sortL (movedL t s d)) (ren s d q) = some (renE s d e) := (get_iff hR.2.1 (by rw [← hP]; exact right_ne hR hmem)).2 ⟨hmem, hP⟩
    rw [hg]
    congr 1
    split
    · exact renE_eq (by rw [e2]; rfl) rfl rfl rfl
    · rename_i hn
      exact renE_same (by rw [e2]; exact ren_not hn)
/-- Moved, and moved back. -/
theorem move_back {t : List En} {s d : Bs} (h : moveErr t s d = 0) (hn : get t d = none) : move (sortL (movedL t s d)) d s = (t, 0) := by
  obtain ⟨hl, ht, hm, _, _⟩ := move_ok h
  obtain ⟨z, hz, hs, hc, h1⟩ := moves_ok hm
  have hR := move_right h
  have hd := clean_ne hc
  have hsd : s ≠ d := fun e => by rw [e, hn] at hz; cases hz
  obtain ⟨hu, hde, hdest⟩ := h1.resolve_left hsd
  have hfree := dest_free ht hd hdest
  have hnd := (get_none hd).1 hn
  obtain ⟨z1, z2⟩ := get_some hs hz
  have hst : ∀ y ∈ t, stays s d y = true := fun y hy => stays_iff.2 (.inr (hnd y hy))
  have hnmv : ∀ y ∈ t, ¬ mv d y.P := fun y hy hmv => by
    rcases hmv with h2 | h2
    · exact hnd y hy h2
    · rw [hfree y hy] at h2; cases h2
  have hback : ∀ y ∈ t, ren d s (ren s d y.P) = y.P := fun y hy => by
    by_cases hmv : mv s y.P
    · obtain ⟨r, e, hr⟩ := mv_split hs hmv
      rw [e, ren_app hs hr, ren_app hd hr]
    · rw [ren_not hmv, ren_not (hnmv y hy)]
  have hbackE : ∀ y ∈ t, renE d s (renE s d y) = y := fun y hy => renE_eq (by rw [renE_P, hback y hy]) (renE_k s d y).symm (renE_t s d y).symm (renE_o s d y).symm
  have hns : ∀ y ∈ t, ren s d y.P ≠ s := fun y hy e => by
    have h2 := hback y hy
    rw [e] at h2
    by_cases hmv : mv s y.P
    · obtain ⟨r, e2, hr⟩ := mv_split hs hmv
      rw [e2, ren_app hs hr] at e
      rcases hr with rfl | ⟨r', rfl⟩
      · rw [List.append_nil] at e; exact hsd e.symm
      · have := hfree z z1
        rw [z2, (under_iff hd).2 ⟨r', e.symm⟩] at this; cases this
    · rw [ren_not hmv] at e
      exact hmv (.inl e)
  have hgd : get (sortL (movedL t s d)) d ≠ none := by
    have h2 := move_get h (q := s) (fun h => hsd h.1) hz
    rw [ren_mv (.inl rfl), List.drop_length, List.append_nil] at h2
    rw [h2]; simp
  have hgs : get (sortL (movedL t s d)) s = none := (get_none hs).2 fun y hy => by
    obtain ⟨x, hx, _, rfl⟩ := (mem_move ht hm).1 hy
    rw [renE_P]; exact hns x hx
  have hsu : under s d = false := by have := hfree z z1; rw [z2] at this; exact this
  have hsdir : dirErr (sortL (movedL t s d)) (dirOf s) = 0 := dirErr_of hR.2.1 (by
    rcases ht.2.2 z z1 with h0 | ⟨y, hy, hyP, hyk⟩
    · rw [z2] at h0; exact .inl h0
    · rw [z2] at hyP
      have hd0 : dirOf s ≠ [] := by rw [← hyP]; exact right_ne ht hy
      refine .inr ⟨y, (mem_move ht hm).2 ⟨y, hy, hst y hy, renE_same (ren_not fun hmv => ?_)⟩, hyP, hyk⟩
      rw [hyP] at hmv
      have := under_len hs (under_trans_dir hs hd0 hmv)
      omega)
  have hme : movesErr (sortL (movedL t s d)) d s = 0 := by
    unfold movesErr
    rw [if_neg (fun h => h.elim hgd hd), if_neg (by rw [← z2, entry_clean (ht.1 z z1)]; simp), if_neg (fun e => hsd e.symm), if_neg (by rw [hsu]; simp), if_neg (by simp [hsdir])]
    unfold destErr
    rw [hgs]
  have hw : (wrong (sortL (movedL t s d)) false).1 = 0 := (wrong_zero _ _).2 ⟨Nat.le_trans (move_len t s d) hl, hR⟩
  have hmem : ∀ e, e ∈ movedL (sortL (movedL t s d)) d s ↔ e ∈ t := fun e => by
    rw [mem_moved]
    constructor
    · rintro ⟨y, hy, _, rfl⟩
      obtain ⟨x, hx, _, rfl⟩ := (mem_move ht hm).1 hy
      rw [hbackE x hx]; exact hx
    · intro he
      refine ⟨renE s d e, (mem_move ht hm).2 ⟨e, he, hst e he, rfl⟩, stays_iff.2 (.inr (by rw [renE_P]; exact hns e he)), hbackE e he⟩
  have herr : moveErr (sortL (movedL t s d)) d s = 0 := by
    unfold moveErr
    rw [if_neg (by simp [hw]), if_neg (by simp [hme]), if_neg]
    intro h2
    obtain ⟨e, he, h3⟩ := List.any_eq_true.1 h2
    rw [entry_clean (ht.1 e ((hmem e).1 he))] at h3; cases h3
  unfold move
  rw [if_neg (by simp [herr])]
  have : sortL (movedL (sortL (movedL t s d)) d s) = t := srt_ext (srt_sortL _) ht.2.1 fun e => by
    rw [mem_sortL (moved_ne hR hme), hmem]
  rw [this]
end Tr
end Go.Proofs.YtjppfhgkanbemabDoor
