/-
  tree.Move in plain words. No program in sight.
-/
import Derived.Test.YtjppfhgkanbemabDoorTrOps
namespace Go.Proofs.YtjppfhgkanbemabDoor
namespace Tr
open Pt

/-- What is wrong with a move onto what stands there. -/
def destErr (t : List En) (x : En) (d : Bs) : Int := match get t d with
  | none => 0
  | some y => if x.k ≠ 2 ∧ y.k = 2 then 9 else if x.k = 2 ∧ y.k ≠ 2 then 10 else if (list t d).2 = 0 ∧ (list t d).1 ≠ [] then 11 else 0
def movesErr (t : List En) (s d : Bs) : Int :=
  if get t s = none ∨ s = [] then 6 else if clean d = false then 7 else if s = d then 0 else if under d s = true then 8 else
  if dirErr t (dirOf d) ≠ 0 then dirErr t (dirOf d) else destErr t ((get t s).getD En.zero) d
def ren (s d q : Bs) : Bs := if q = s then d else if under q s = true then d ++ q.drop s.length else q
def renE (s d : Bs) (e : En) : En := if e.P = s then ⟨⟨d.toArray⟩, e.k, e.t, e.o⟩ else if under e.P s = true then ⟨⟨(d ++ e.P.drop s.length).toArray⟩, e.k, e.t, e.o⟩ else e
theorem renE_P (s d : Bs) (e : En) : (renE s d e).P = ren s d e.P := by
  unfold renE ren
  split
  · rfl
  · split <;> rfl
def stays (s d : Bs) (e : En) : Bool := e.P == s || under e.P s || e.P != d
def movedL (t : List En) (s d : Bs) : List En := (t.filter (stays s d)).map (renE s d)
def sortL (l : List En) : List En := insAll l []
def moveErr (t : List En) (s d : Bs) : Int :=
  if (wrong t false).1 ≠ 0 then (wrong t false).1 else if movesErr t s d ≠ 0 then movesErr t s d else if (movedL t s d).any (fun e => !clean e.P) = true then 4 else 0
def move (t : List En) (s d : Bs) : List En × Int := if moveErr t s d ≠ 0 then ([], moveErr t s d) else (sortL (movedL t s d), 0)

/-- Either the path itself or a path below. -/
def mv (s q : Bs) : Prop := q = s ∨ under q s = true
instance (s q : Bs) : Decidable (mv s q) := inferInstanceAs (Decidable (_ ∨ _))
theorem mv_split {s q : Bs} (hs : s ≠ []) (h : mv s q) : ∃ r, q = s ++ r ∧ (r = [] ∨ ∃ r', r = 47 :: r') := by
  rcases h with h | h
  · exact ⟨[], by rw [h, List.append_nil], .inl rfl⟩
  · obtain ⟨r, e⟩ := (under_iff hs).1 h
    exact ⟨47 :: r, e, .inr ⟨r, rfl⟩⟩
theorem mv_of {s r : Bs} (hs : s ≠ []) (h : r = [] ∨ ∃ r', r = 47 :: r') : mv s (s ++ r) := by
  rcases h with rfl | ⟨r', rfl⟩
  · exact .inl (List.append_nil s)
  · exact .inr ((under_iff hs).2 ⟨r', rfl⟩)
theorem ren_mv {s d q : Bs} (h : mv s q) : ren s d q = d ++ q.drop s.length := by
  unfold ren
  by_cases e : q = s
  · rw [if_pos e, e, List.drop_length, List.append_nil]
  · rw [if_neg e, if_pos (h.resolve_left e)]
theorem ren_app {s d r : Bs} (hs : s ≠ []) (h : r = [] ∨ ∃ r', r = 47 :: r') : ren s d (s ++ r) = d ++ r := by
  rw [ren_mv (mv_of hs h), List.drop_left]
theorem ren_not {s d q : Bs} (h : ¬ mv s q) : ren s d q = q := by
  unfold ren
  rw [if_neg (fun e => h (.inl e)), if_neg (fun e => h (.inr e))]
theorem ren_self {s q : Bs} (hs : s ≠ []) : ren s s q = q := by
  by_cases h : mv s q
  · obtain ⟨r, rfl, hr⟩ := mv_split hs h
    exact ren_app hs hr
  · exact ren_not h
theorem stays_iff {s d : Bs} {e : En} : stays s d e = true ↔ mv s e.P ∨ e.P ≠ d := by
  unfold stays mv
  rw [Bool.or_eq_true, Bool.or_eq_true, beq_iff_eq, bne_iff_ne]
/-- What a move that is allowed says. -/
theorem moves_ok {t : List En} {s d : Bs} (h : movesErr t s d = 0) : ∃ x, get t s = some x ∧ s ≠ [] ∧ clean d = true ∧ (s = d ∨ (under d s = false ∧ dirErr t (dirOf d) = 0 ∧ destErr t x d = 0)) := by
  unfold movesErr at h
  by_cases h1 : get t s = none ∨ s = []
  · rw [if_pos h1] at h; cases h
  rw [if_neg h1] at h
  rcases hg : get t s with _ | x
  · exact absurd (.inl hg) h1
  rw [hg] at h
  by_cases h2 : clean d = false
  · rw [if_pos h2] at h; cases h
  rw [if_neg h2] at h
  refine ⟨x, rfl, fun e => h1 (.inr e), by simpa using h2, ?_⟩
  by_cases h3 : s = d
  · exact .inl h3
  rw [if_neg h3] at h
  by_cases h4 : under d s = true
  · rw [if_pos h4] at h; cases h
  rw [if_neg h4] at h
  by_cases h5 : dirErr t (dirOf d) = 0
  · rw [if_neg (by simp [h5])] at h
    exact .inr ⟨by simpa using h4, h5, h⟩
  · rw [if_pos h5] at h; exact absurd h h5
theorem dest_free {t : List En} {x : En} {d : Bs} (ht : Right false t) (hd : d ≠ []) (h : destErr t x d = 0) : ∀ y ∈ t, under y.P d = false := by
  intro y hy
  rcases hu : under y.P d with _ | _
  · rfl
  exfalso
  obtain ⟨⟨e, he, he1, he2⟩, c, hc, hc1⟩ := under_dirs ht hd _ hy (Nat.le_refl _) hu
  have hg : get t d = some e := (get_iff ht.2.1 hd).2 ⟨he, he1⟩
  have hl : list t d = (names t d, 0) := by
    unfold list dirErr
    rw [hg]
    simp [he2]
  unfold destErr at h
  rw [hg, hl] at h
  dsimp only at h
  have hn : names t d ≠ [] := by
    unfold names
    intro hn
    rw [List.map_eq_nil_iff] at hn
    have := List.filter_eq_nil_iff.1 hn c hc
    rw [hc1, beq_self_eq_true] at this
    exact this rfl
  rw [he2] at h
  by_cases hx : x.k = 2
  · rw [if_neg (fun h => h.1 hx), if_neg (fun h => h.2 rfl), if_pos ⟨rfl, hn⟩] at h; cases h
  · rw [if_pos ⟨hx, rfl⟩] at h; cases h
/-- No two paths fall together. -/
theorem ren_inj {t : List En} {s d : Bs} (ht : Right false t) (h : movesErr t s d = 0) {x y : En} (hx : x ∈ t) (hy : y ∈ t) (hxs : stays s d x = true) (hys : stays s d y = true) (he : ren s d x.P = ren s d y.P) : x.P = y.P := by
  obtain ⟨z, _, hs, hc, h1⟩ := moves_ok h
  rcases h1 with rfl | ⟨_, _, hde⟩
  · rw [ren_self hs, ren_self hs] at he; exact he
  have hfree := dest_free ht (clean_ne hc) hde
  have key : ∀ {x y : En}, y ∈ t → mv s x.P → ¬ mv s y.P → stays s d y = true → ren s d x.P = ren s d y.P → False := by
    intro x y hy hm hn hst he
    obtain ⟨r, e, hr⟩ := mv_split hs hm
    rw [e, ren_app hs hr, ren_not hn] at he
    rcases hr with rfl | ⟨r', rfl⟩
    · rw [List.append_nil] at he
      exact ((stays_iff.1 hst).resolve_left hn) he.symm
    · have := hfree y hy
      rw [(under_iff (clean_ne hc)).2 ⟨r', he.symm⟩] at this
      cases this
  by_cases mx : mv s x.P <;> by_cases my : mv s y.P
  · obtain ⟨r, e, hr⟩ := mv_split hs mx
    obtain ⟨r', e', hr'⟩ := mv_split hs my
    rw [e, e', ren_app hs hr, ren_app hs hr'] at he
    rw [e, e', List.append_cancel_left he]
  · exact (key hy mx my hys he).elim
  · exact (key hx my mx hxs he.symm).elim
  · rwa [ren_not mx, ren_not my] at he
theorem srt_ne {l : List En} (h : Srt l) : l.Pairwise fun x y => x.P ≠ y.P := List.Pairwise.imp (fun h e => by rw [e, cmp_self] at h; omega) h
theorem moved_ne {t : List En} {s d : Bs} (ht : Right false t) (h : movesErr t s d = 0) : (movedL t s d).Pairwise fun x y => x.P ≠ y.P := by
  unfold movedL
  rw [List.pairwise_map]
  refine List.Pairwise.imp_of_mem (fun {a b} ha hb hne he => ?_) (List.Pairwise.filter _ (srt_ne ht.2.1))
  rw [renE_P, renE_P] at he
  obtain ⟨a1, a2⟩ := List.mem_filter.1 ha
  obtain ⟨b1, b2⟩ := List.mem_filter.1 hb
  exact hne (ren_inj ht h a1 b1 a2 b2 he)
theorem mem_insNe : ∀ {xs a : List En}, (xs.Pairwise fun x y => x.P ≠ y.P) → Srt a → (∀ x ∈ xs, ∀ y ∈ a, x.P ≠ y.P) → ∀ e, e ∈ insAll xs a ↔ e ∈ xs ∨ e ∈ a
  | [], a, _, _, _, e => by simp [insAll]
  | x :: xs, a, hx, ha, hd, e => by
    obtain ⟨hx1, hx2⟩ := List.pairwise_cons.1 hx
    have h := mem_insNe hx2 (srt_ins (x := x) ha) (fun y hy z hz => by
      rcases (mem_ins ha z).1 hz with rfl | ⟨hz, _⟩
      · exact fun e => hx1 y hy e.symm
      · exact hd y (by simp [hy]) z hz) e
    show e ∈ insAll xs (ins x a) ↔ _
    rw [h, mem_ins ha, List.mem_cons]
    constructor
    · rintro (h1 | rfl | ⟨h1, _⟩)
      · exact .inl (.inr h1)
      · exact .inl (.inl rfl)
      · exact .inr h1
    · rintro ((rfl | h1) | h1)
      · exact .inr (.inl rfl)
      · exact .inl h1
      · exact .inr (.inr ⟨h1, fun e' => hd x (by simp) e h1 e'.symm⟩)
theorem mem_sortL {l : List En} (h : l.Pairwise fun x y => x.P ≠ y.P) (e : En) : e ∈ sortL l ↔ e ∈ l := by
  unfold sortL
  rw [mem_insNe h srt_nil (fun _ _ _ h => (nomatch h))]
  simp
theorem srt_sortL (l : List En) : Srt (sortL l) := srt_insAll srt_nil
theorem sort_uniq {l m : List En} (hne : l.Pairwise fun x y => x.P ≠ y.P) (hp : m.Perm l) (hs : m.Pairwise fun x y => ¬ cmp y.P x.P < 0) : m = sortL l := by
  have hne2 : m.Pairwise fun x y => x.P ≠ y.P := (hp.symm.pairwise_iff (fun h e => h e.symm)).1 hne
  refine srt_ext (List.Pairwise.imp₂ (fun {a b} (h1 : ¬ cmp b.P a.P < 0) (h2 : a.P ≠ b.P) => lt_tri h1 (Ne.symm h2)) hs hne2) (srt_sortL l) fun e => ?_
  rw [hp.mem_iff, mem_sortL hne]
end Tr
end Go.Proofs.YtjppfhgkanbemabDoor
