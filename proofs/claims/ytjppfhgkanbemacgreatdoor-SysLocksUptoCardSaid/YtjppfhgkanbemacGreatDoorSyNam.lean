/-
  How many names an answer has at most. No program in sight.
-/
import Derived.Test.YtjppfhgkanbemacGreatDoorSyFlat
namespace Go.Proofs.YtjppfhgkanbemacGreatDoor
namespace Sy
open Pt Tr

theorem names_len (t : List En) (p : Bs) : (Tr.names t p).length ≤ t.length := by
  unfold Tr.names
  simp only [List.length_map]
  exact List.length_filter_le _ _
theorem list_len (t : List En) (p : Bs) : (Tr.list t p).1.length ≤ t.length := by
  unfold Tr.list
  split
  · exact Nat.zero_le _
  · exact names_len t p
theorem write_names (s : St) (c : Ca) (d : Nat) : (callWrite s c d).2.names.length ≤ s.T.length := by
  unfold callWrite
  dsimp only
  repeat' (first | exact Nat.zero_le _ | split)
theorem use_names (s : St) (c : Ca) : (use s c).2.names.length ≤ s.T.length := by
  unfold use
  split
  · exact Nat.zero_le _
  split
  · exact Nat.zero_le _
  split
  · exact Nat.zero_le _
  split
  · unfold callDup
    split
    · exact Nat.zero_le _
    · exact Nat.zero_le _
  split
  · unfold callSeek
    split
    · exact Nat.zero_le _
    · exact Nat.zero_le _
  split
  · exact Nat.zero_le _
  split
  · unfold callRead
    split
    · exact Nat.zero_le _
    split
    · exact Nat.zero_le _
    · exact Nat.zero_le _
  · exact write_names s c _
theorem tell_names (s : St) (c : Ca) : (tell s c).names.length ≤ s.T.length := by
  unfold tell
  dsimp only
  split
  · exact Nat.zero_le _
  split
  · exact list_len _ _
  split
  · exact Nat.zero_le _
  · exact Nat.zero_le _
theorem open_names (s : St) (c : Ca) : (callOpen s c).2.names.length ≤ s.T.length := by
  unfold callOpen
  split
  · exact Nat.zero_le _
  split
  · exact Nat.zero_le _
  split
  · exact Nat.zero_le _
  dsimp only
  split
  · exact Nat.zero_le _
  · exact Nat.zero_le _
theorem create_names (s : St) (c : Ca) : (create s c).2.names.length ≤ s.T.length := by
  unfold create
  dsimp only
  split
  · exact Nat.zero_le _
  split
  · exact Nat.zero_le _
  · exact Nat.zero_le _
theorem remove_names (s : St) (c : Ca) : (Sy.remove s c).2.names.length ≤ s.T.length := by
  unfold Sy.remove
  dsimp only
  split
  · exact Nat.zero_le _
  split
  · exact Nat.zero_le _
  split
  · exact Nat.zero_le _
  split
  · exact Nat.zero_le _
  split
  · exact Nat.zero_le _
  split
  · exact Nat.zero_le _
  · exact Nat.zero_le _
theorem rename_names (s : St) (c : Ca) : (rename s c).2.names.length ≤ s.T.length := by
  unfold rename
  dsimp only
  split
  · exact Nat.zero_le _
  split
  · exact Nat.zero_le _
  split
  · exact Nat.zero_le _
  split
  · exact Nat.zero_le _
  · exact Nat.zero_le _
theorem call_names (s : St) (c : Ca) : (call s c).2.names.length ≤ s.T.length := by
  unfold call
  split
  · exact Nat.zero_le _
  split
  · exact Nat.zero_le _
  split
  · exact open_names s c
  split
  · exact create_names s c
  split
  · exact remove_names s c
  split
  · exact rename_names s c
  split
  · exact tell_names s c
  · exact use_names s c
theorem okT {s : St} (h : Ok s) : s.T.length ≤ 80 := by
  obtain ⟨_, _, _, _, e, h6, _, h8⟩ := fine_parts h.1
  rw [← h.T, e]; exact h6
theorem calls_names : ∀ {l : List Ca} {s : St}, Ok s → ∀ a ∈ (calls s l).2, a.names.length ≤ 80
  | [], _, _, a, h => nomatch h
  | c :: r, s, h, a, ha => by
    have ha : a = (call s c).2 ∨ a ∈ (calls (call s c).1 r).2 := by simpa [calls] using ha
    rcases ha with rfl | ha
    · exact Nat.le_trans (call_names s c) (okT h)
    · exact calls_names (call_good h c).1 a ha
theorem play_names {u : Un} {l : List Ca} : ∀ a ∈ (play u l).2.1, a.names.length ≤ 80 := by
  unfold play
  split
  · exact fun _ h => nomatch h
  split
  · exact fun _ h => nomatch h
  · rename_i h _
    exact calls_names (start_ok (by simpa using h))
theorem play_len {u : Un} {l : List Ca} (h : (play u l).2.2 = 0) : (play u l).2.1.length = l.length ∧ l.length ≤ 80 ∧ (wrongU u).1 = 0 ∧ play u l = (((calls (start u) l).1.u, (calls (start u) l).1.T, (calls (start u) l).1.files.length), (calls (start u) l).2, 0) := by
  unfold play at h ⊢
  by_cases h1 : (wrongU u).1 = 0
  · rw [if_neg (by simp [h1])] at h ⊢
    by_cases h2 : 80 < l.length
    · rw [if_pos h2] at h; exact absurd h (show ¬ (5 : Int) = 0 by decide)
    · rw [if_neg h2] at h ⊢
      exact ⟨calls_len _ _, by omega, h1, rfl⟩
  · rw [if_pos h1] at h
    exact absurd h h1
theorem play_bad0 {u : Un} {l : List Ca} (h : (play u l).2.2 ≠ 0) : play u l = ((Un.zero, [], 0), [], (play u l).2.2) := by
  unfold play at h ⊢
  by_cases h1 : (wrongU u).1 = 0
  · rw [if_neg (by simp [h1])] at h ⊢
    by_cases h2 : 80 < l.length
    · rw [if_pos h2]
    · rw [if_neg h2] at h; exact absurd rfl h
  · rw [if_pos h1]
theorem okR {s : St} (h : Ok s) : Right false s.T := by
  obtain ⟨_, _, _, _, e, h6, _, h8⟩ := fine_parts h.1
  rw [← h.T, e]; exact h8
theorem play_ok2 {u : Un} {l : List Ca} (h : (play u l).2.2 = 0) : Tr.Fine (play u l).1.1 ∧ seenU (play u l).1.1 = ((play u l).1.2.1, 0) ∧ (play u l).1.1.L = u.L ∧ (play u l).1.2.1.length ≤ 80 ∧ Right false (play u l).1.2.1 := by
  obtain ⟨_, _, h3, h4⟩ := play_len h
  have a := start_ok h3
  have b := calls_ok (l := l) a
  rw [h4]
  exact ⟨b.1.1, b.1.2, b.2, okT b.1, okR b.1⟩
/-- Without calls that leave all as it was. -/
theorem play_drop {f : Ca → An → Bool} (hf : ∀ s c, Ok s → f c (call s c).2 = false → (call s c).1 = s) {u : Un} {l : List Ca} (h : (play u l).2.2 = 0) : play u (drop f l (play u l).2.1) = ((play u l).1, dropA f l (play u l).2.1, 0) := by
  obtain ⟨h1, h2, h3, h4⟩ := play_len h
  have hd := calls_drop hf l (start_ok h3)
  have hlen : ∀ (l : List Ca) (m : List An), (drop f l m).length ≤ l.length := by
    intro l
    induction l with
    | nil => intro m; exact Nat.zero_le _
    | cons c r ih =>
      intro m
      cases m with
      | nil => exact Nat.zero_le _
      | cons a t =>
        show (if f c a then c :: drop f r t else drop f r t).length ≤ _
        have := ih t
        split
        · simp only [List.length_cons]; omega
        · simp only [List.length_cons]; omega
  rw [h4]
  dsimp only
  have hl := hlen l (calls (start u) l).2
  unfold play
  rw [if_neg (by simp [h3]), if_neg (by omega), hd]
theorem drop_snoc {f : Ca → An → Bool} : ∀ (l : List Ca) (m : List An) (c : Ca) (a : An), l.length = m.length → drop f (l ++ [c]) (m ++ [a]) = drop f l m ++ (if f c a then [c] else []) ∧ dropA f (l ++ [c]) (m ++ [a]) = dropA f l m ++ (if f c a then [a] else [])
  | [], [], c, a, _ => by
    constructor
    · show (if f c a then [c] else []) = [] ++ _; rw [List.nil_append]
    · show (if f c a then [a] else []) = [] ++ _; rw [List.nil_append]
  | x :: l, y :: m, c, a, h => by
    have ih := drop_snoc (f := f) l m c a (by simpa using h)
    constructor
    · show (if f x y then x :: drop f (l ++ [c]) (m ++ [a]) else drop f (l ++ [c]) (m ++ [a])) = (if f x y then x :: drop f l m else drop f l m) ++ _
      rw [ih.1]; split <;> rfl
    · show (if f x y then y :: dropA f (l ++ [c]) (m ++ [a]) else dropA f (l ++ [c]) (m ++ [a])) = (if f x y then y :: dropA f l m else dropA f l m) ++ _
      rw [ih.2]; split <;> rfl
  | [], _ :: _, _, _, h => by simp at h
  | _ :: _, [], _, _, h => by simp at h
theorem drop_lens {f : Ca → An → Bool} : ∀ (l : List Ca) (m : List An), (drop f l m).length = (dropA f l m).length ∧ (drop f l m).length ≤ l.length
  | [], m => by
    refine ⟨?_, Nat.le_refl _⟩
    show 0 = _; rfl
  | c :: r, [] => ⟨rfl, Nat.zero_le _⟩
  | c :: r, a :: t => by
    have ih := drop_lens (f := f) r t
    show (if f c a then c :: drop f r t else drop f r t).length = (if f c a then a :: dropA f r t else dropA f r t).length ∧ (if f c a then c :: drop f r t else drop f r t).length ≤ (c :: r).length
    split
    · simp only [List.length_cons]; omega
    · simp only [List.length_cons]; omega
theorem drop_mem {f : Ca → An → Bool} : ∀ {l : List Ca} {m : List An} {c : Ca}, c ∈ drop f l m → c ∈ l
  | [], _, _, h => nomatch h
  | _ :: _, [], _, h => nomatch h
  | x :: r, a :: t, c, h => by
    have h : c ∈ (if f x a then x :: drop f r t else drop f r t) := h
    split at h
    · rcases List.mem_cons.1 h with h | h
      · exact h ▸ List.mem_cons_self ..
      · exact List.mem_cons_of_mem _ (drop_mem h)
    · exact List.mem_cons_of_mem _ (drop_mem h)
/-- Over one tree. -/
theorem play_flat {u : Un} (h : (wrongU u).1 = 0) (l : List Ca) : (play u l).2.2 = (play ⟨(seenU u).1, []⟩ l).2.2 ∧ (play u l).2.1.length = (play ⟨(seenU u).1, []⟩ l).2.1.length ∧
    (full (play u l).2.1 = true ∨ full (play ⟨(seenU u).1, []⟩ l).2.1 = true ∨ ((play u l).2.1 = (play ⟨(seenU u).1, []⟩ l).2.1 ∧ (play u l).1.2 = (play ⟨(seenU u).1, []⟩ l).1.2)) := by
  have hs := start_sim ((fine_iff u).1 h)
  have hw : (wrongU ⟨(seenU u).1, []⟩).1 = 0 := (fine_iff _).2 hs.2.1.1
  have ha := calls_alike (l := l) hs
  unfold play
  rw [if_neg (by simp [h]), if_neg (c := (wrongU ⟨(seenU u).1, []⟩).1 ≠ 0) (by simp [hw])]
  by_cases h2 : 80 < l.length
  · rw [if_pos h2, if_pos h2]
    exact ⟨rfl, rfl, .inr (.inr ⟨rfl, rfl⟩)⟩
  · rw [if_neg h2, if_neg h2]
    refine ⟨rfl, by simp only [calls_len], ?_⟩
    rcases ha with g | g | ⟨g1, g2⟩
    · exact .inl g
    · exact .inr (.inl g)
    · refine .inr (.inr ⟨g2, ?_⟩)
      show ((calls (start u) l).1.T, (calls (start u) l).1.files.length) = ((calls (start ⟨(seenU u).1, []⟩) l).1.T, (calls (start ⟨(seenU u).1, []⟩) l).1.files.length)
      rw [g1.2.2]
end Sy
end Go.Proofs.YtjppfhgkanbemacGreatDoor
