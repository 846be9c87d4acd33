/-
  Paths in plain words: lists of bytes, their pieces between slashes, and the order of paths. No program in sight.
-/
import Derived.Lib.SplitLaws
import Derived.Lib.Bytealg
import Derived.Lib.Strings
import Derived.Lib.LastIndexByte
namespace Go.Proofs.YtjppfhgkanbemabDoor.Pt

abbrev Bs := List UInt8

def letter (c : UInt8) : Bool := (decide (97 ≤ c.toNat) && decide (c.toNat ≤ 122)) || (decide (48 ≤ c.toNat) && decide (c.toNat ≤ 57))
def named (l : Bs) : Bool := decide (1 ≤ l.length) && decide (l.length ≤ 12) && l.all letter
/-- A byte put ahead of the first piece. -/
def onto (c : UInt8) : List Bs → List Bs
  | [] => [[c]]
  | p :: ps => (c :: p) :: ps
/-- The pieces between the slashes. -/
def split : Bs → List Bs
  | [] => [[]]
  | c :: r => if c = 47 then [] :: split r else onto c (split r)
/-- The pieces, joined again. -/
def glue : List Bs → Bs
  | [] => []
  | [p] => p
  | p :: q :: r => p ++ 47 :: glue (q :: r)
def clean (l : Bs) : Bool := decide (l.length ≤ 80) && (split l).all named
def dirOf (l : Bs) : Bs := glue ((split l).dropLast)
def nameOf (l : Bs) : Bs := (split l).getLastD []
def join (d n : Bs) : Bs := if d = [] then n else d ++ 47 :: n
def under (s d : Bs) : Bool := if d = [] then !s.isEmpty else Lib.hasPrefix s (d ++ [47])
/-- A piece that counts. -/
def counts (n : Bs) : Bool := !(n.isEmpty || n == [46])
def fine (n : Bs) : Bool := n == [46, 46] || named n
/-- The names of a text, and the number of what is wrong (0: nothing). -/
def parse (l : Bs) : List Bs × Int :=
  if 80 < l.length then ([], 4)
  else if l = [] then ([], 6)
  else if ((split l).filter counts).all fine then ((split l).filter counts, 0) else ([], 7)
/-- Below 0, 0, above 0: pieces by pieces. -/
def cmpP : List Bs → List Bs → Int
  | x :: xs, y :: ys => if Lib.compareBytes x y = 0 then cmpP xs ys else Lib.compareBytes x y
  | xs, ys => (xs.length : Int) - (ys.length : Int)
def cmp (a b : Bs) : Int := cmpP (split a) (split b)

/-! ### Pieces -/
theorem split_ne (l : Bs) : split l ≠ [] := by
  cases l with
  | nil => simp [split]
  | cons c r =>
    unfold split
    split
    · simp
    · unfold onto; split <;> simp
theorem onto_len (c : UInt8) (ps : List Bs) (h : ps ≠ []) : (onto c ps).length = ps.length := by
  cases ps with
  | nil => exact absurd rfl h
  | cons p ps => rfl
theorem split_nil : split [] = [[]] := rfl
theorem split_slash (r : Bs) : split (47 :: r) = [] :: split r := by simp [split]
theorem split_cons {c : UInt8} (h : c ≠ 47) (r : Bs) : split (c :: r) = onto c (split r) := by simp [split, h]
theorem glue_cons (p : Bs) {ps : List Bs} (h : ps ≠ []) : glue (p :: ps) = p ++ 47 :: glue ps := by
  cases ps with
  | nil => exact absurd rfl h
  | cons q r => rfl
theorem glue_onto (c : UInt8) {ps : List Bs} (h : ps ≠ []) : glue (onto c ps) = c :: glue ps := by
  cases ps with
  | nil => exact absurd rfl h
  | cons p r =>
    cases r with
    | nil => rfl
    | cons q r => rfl
theorem glue_split : ∀ l : Bs, glue (split l) = l
  | [] => rfl
  | c :: r => by
    by_cases h : c = 47
    · subst h; rw [split_slash, glue_cons _ (split_ne r), glue_split r]; rfl
    · rw [split_cons h, glue_onto c (split_ne r), glue_split r]
/-- A piece without a slash in front. -/
theorem split_piece : ∀ {p : Bs}, (∀ c ∈ p, c ≠ 47) → ∀ r : Bs, split (p ++ 47 :: r) = p :: split r
  | [], _, r => split_slash r
  | c :: p, h, r => by
    rw [List.cons_append, split_cons (h c (by simp)), split_piece (fun d hd => h d (by simp [hd])) r]
    rfl
theorem split_one : ∀ {p : Bs}, (∀ c ∈ p, c ≠ 47) → split p = [p]
  | [], _ => rfl
  | c :: p, h => by
    rw [split_cons (h c (by simp)), split_one (fun d hd => h d (by simp [hd]))]
    rfl
theorem onto_noslash {c : UInt8} (hc : c ≠ 47) {ps : List Bs} (h : ∀ p ∈ ps, ∀ d ∈ p, d ≠ 47) : ∀ p ∈ onto c ps, ∀ d ∈ p, d ≠ 47 := by
  cases ps with
  | nil => intro p hp d hd; simp [onto] at hp; subst hp; simp at hd; subst hd; exact hc
  | cons q r =>
    intro p hp d hd
    simp only [onto, List.mem_cons] at hp
    rcases hp with rfl | hp
    · simp only [List.mem_cons] at hd
      rcases hd with rfl | hd
      · exact hc
      · exact h q (by simp) d hd
    · exact h p (by simp [hp]) d hd
theorem split_noslash : ∀ l : Bs, ∀ p ∈ split l, ∀ d ∈ p, d ≠ 47
  | [] => by intro p hp d hd; simp [split] at hp; subst hp; cases hd
  | c :: r => by
    by_cases h : c = 47
    · subst h
      rw [split_slash]
      intro p hp d hd
      simp only [List.mem_cons] at hp
      rcases hp with rfl | hp
      · cases hd
      · exact split_noslash r p hp d hd
    · rw [split_cons h]; exact onto_noslash h (split_noslash r)
theorem split_glue : ∀ {ps : List Bs}, ps ≠ [] → (∀ p ∈ ps, ∀ d ∈ p, d ≠ 47) → split (glue ps) = ps
  | [], h, _ => absurd rfl h
  | [p], _, h => split_one (h p (by simp))
  | p :: q :: r, _, h => by
    rw [glue_cons p (by simp), split_piece (h p (by simp)), split_glue (by simp) (fun x hx => h x (by simp [hx]))]
theorem split_inj {a b : Bs} (h : split a = split b) : a = b := by rw [← glue_split a, h, glue_split b]
/-- What stands ahead of a slash, and behind it. -/
theorem split_app : ∀ (d r : Bs), split (d ++ 47 :: r) = split d ++ split r
  | [], r => split_slash r
  | c :: d, r => by
    by_cases h : c = 47
    · subst h; rw [List.cons_append, split_slash, split_slash, split_app d r]; rfl
    · rw [List.cons_append, split_cons h, split_cons h, split_app d r]
      cases hs : split d with
      | nil => exact absurd hs (split_ne d)
      | cons p ps => rfl
theorem glue_app {ps qs : List Bs} (hp : ps ≠ []) (hq : qs ≠ []) : glue (ps ++ qs) = glue ps ++ 47 :: glue qs := by
  induction ps with
  | nil => exact absurd rfl hp
  | cons p ps ih =>
    cases ps with
    | nil => rw [List.singleton_append, glue_cons p hq]; rfl
    | cons q r =>
      rw [List.cons_append, glue_cons p (by simp), ih (by simp), glue_cons p (by simp)]
      simp

/-! ### The order -/
theorem cb_self : ∀ a : Bs, Lib.compareBytes a a = 0
  | [] => rfl
  | c :: r => by unfold Lib.compareBytes; simp [UInt8.lt_irrefl, cb_self r]
theorem cb_zero : ∀ {a b : Bs}, Lib.compareBytes a b = 0 → a = b
  | [], [], _ => rfl
  | [], _ :: _, h => by simp [Lib.compareBytes] at h
  | _ :: _, [], h => by simp [Lib.compareBytes] at h
  | x :: a, y :: b, h => by
    unfold Lib.compareBytes at h
    by_cases h1 : x < y
    · simp [h1] at h
    · by_cases h2 : y < x
      · simp [h1, h2] at h
      · simp [h1, h2] at h
        have : x = y := UInt8.le_antisymm (UInt8.not_lt.1 h2) (UInt8.not_lt.1 h1)
        rw [this, cb_zero h]
theorem cb_neg : ∀ a b : Bs, Lib.compareBytes b a = - Lib.compareBytes a b
  | [], [] => rfl
  | [], _ :: _ => rfl
  | _ :: _, [] => rfl
  | x :: a, y :: b => by
    unfold Lib.compareBytes
    by_cases h1 : x < y
    · have h2 : ¬ y < x := fun h => UInt8.lt_irrefl _ (UInt8.lt_trans h1 h)
      simp [h1, h2]
    · by_cases h2 : y < x
      · simp [h1, h2]
      · simp [h1, h2, cb_neg a b]
theorem cb_trans : ∀ {a b c : Bs}, Lib.compareBytes a b < 0 → Lib.compareBytes b c < 0 → Lib.compareBytes a c < 0
  | [], [], _, h, _ => by simp [Lib.compareBytes] at h
  | [], _ :: _, [], _, h => by simp [Lib.compareBytes] at h
  | [], _ :: _, _ :: _, _, _ => by simp [Lib.compareBytes]
  | _ :: _, [], _, h, _ => by simp [Lib.compareBytes] at h
  | _ :: _, _ :: _, [], _, h => by simp [Lib.compareBytes] at h
  | x :: a, y :: b, z :: c, h, k => by
    unfold Lib.compareBytes at h k ⊢
    by_cases h1 : x < y
    · by_cases k1 : y < z
      · simp [UInt8.lt_trans h1 k1]
      · by_cases k2 : z < y
        · simp [k1, k2] at k
        · have : y = z := UInt8.le_antisymm (UInt8.not_lt.1 k2) (UInt8.not_lt.1 k1)
          subst this
          simp [h1]
    · by_cases h2 : y < x
      · simp [h1, h2] at h
      · have : x = y := UInt8.le_antisymm (UInt8.not_lt.1 h2) (UInt8.not_lt.1 h1)
        subst this
        simp [h1] at h
        by_cases k1 : x < z
        · simp [k1]
        · by_cases k2 : z < x
          · simp [k1, k2] at k
          · simp [k1, k2] at k ⊢
            exact cb_trans h k
theorem cmpP_cons (x y : Bs) (a b : List Bs) : cmpP (x :: a) (y :: b) = if Lib.compareBytes x y = 0 then cmpP a b else Lib.compareBytes x y := rfl
theorem cmpP_nil_l (b : List Bs) : cmpP [] b = - (b.length : Int) := by cases b <;> simp [cmpP]
theorem cmpP_nil_r (a : List Bs) : cmpP a [] = (a.length : Int) := by cases a <;> simp [cmpP]
theorem cmpP_neg : ∀ a b : List Bs, cmpP b a = - cmpP a b
  | [], b => by rw [cmpP_nil_l, cmpP_nil_r]; omega
  | _ :: _, [] => by rw [cmpP_nil_l, cmpP_nil_r]
  | x :: a, y :: b => by
    rw [cmpP_cons, cmpP_cons, cb_neg x y]
    by_cases h : Lib.compareBytes x y = 0
    · rw [if_pos h, if_pos (by omega), cmpP_neg a b]
    · rw [if_neg h, if_neg (by omega)]
theorem cmpP_self : ∀ a : List Bs, cmpP a a = 0
  | [] => rfl
  | x :: a => by rw [cmpP_cons, if_pos (cb_self x), cmpP_self a]
theorem cmpP_zero : ∀ {a b : List Bs}, cmpP a b = 0 → a = b
  | [], b, h => by rw [cmpP_nil_l] at h; cases b with
    | nil => rfl
    | cons y b => simp at h; omega
  | x :: a, [], h => by rw [cmpP_nil_r] at h; simp at h; omega
  | x :: a, y :: b, h => by
    rw [cmpP_cons] at h
    by_cases e : Lib.compareBytes x y = 0
    · rw [if_pos e] at h; rw [cb_zero e, cmpP_zero h]
    · rw [if_neg e] at h; exact absurd h e
theorem cmpP_trans : ∀ {a b c : List Bs}, cmpP a b < 0 → cmpP b c < 0 → cmpP a c < 0
  | [], b, c, h, k => by
    rw [cmpP_nil_l] at h ⊢
    cases b with
    | nil => simp at h
    | cons y b =>
      cases c with
      | nil => rw [cmpP_nil_r] at k; simp at k; omega
      | cons z c => simp
  | x :: a, [], c, h, k => by rw [cmpP_nil_r] at h; simp at h; omega
  | x :: a, y :: b, [], h, k => by rw [cmpP_nil_r] at k; simp at k; omega
  | x :: a, y :: b, z :: c, h, k => by
    rw [cmpP_cons] at h k ⊢
    by_cases e1 : Lib.compareBytes x y = 0
    · have := cb_zero e1; subst this
      rw [if_pos e1] at h
      by_cases e2 : Lib.compareBytes x z = 0
      · rw [if_pos e2] at k ⊢; exact cmpP_trans h k
      · rw [if_neg e2] at k ⊢; exact k
    · rw [if_neg e1] at h
      by_cases e2 : Lib.compareBytes y z = 0
      · have := cb_zero e2; subst this
        rw [if_neg e1]; exact h
      · rw [if_neg e2] at k
        have := cb_trans h k
        rw [if_neg (by omega)]; exact this
theorem cmp_neg (a b : Bs) : cmp b a = - cmp a b := cmpP_neg _ _
theorem cmp_self (a : Bs) : cmp a a = 0 := cmpP_self _
theorem cmp_zero {a b : Bs} (h : cmp a b = 0) : a = b := split_inj (cmpP_zero h)
theorem cmp_trans {a b c : Bs} (h : cmp a b < 0) (k : cmp b c < 0) : cmp a c < 0 := cmpP_trans h k
theorem cmp_eq_zero (a b : Bs) : cmp a b = 0 ↔ a = b := ⟨cmp_zero, fun h => by rw [h, cmp_self]⟩
/-- A list comes ahead of what goes on behind it. -/
theorem cmpP_pre : ∀ (a r : List Bs), cmpP a (a ++ r) = - (r.length : Int)
  | [], r => cmpP_nil_l r
  | x :: a, r => by rw [List.cons_append, cmpP_cons, if_pos (cb_self x), cmpP_pre a r]
/-- What is no longer one of a list is ahead of it, or behind all that goes on behind it. -/
theorem cmpP_beside : ∀ (c a r : List Bs), ¬ a <+: c → cmpP c a < 0 ∨ cmpP c (a ++ r) > 0
  | c, [], r, h => absurd (List.nil_prefix) h
  | [], y :: a, r, _ => by left; rw [cmpP_nil_l]; simp
  | x :: c, y :: a, r, h => by
    rw [List.cons_append, cmpP_cons, cmpP_cons]
    by_cases e : Lib.compareBytes x y = 0
    · rw [if_pos e, if_pos e]
      have := cb_zero e; subst this
      exact cmpP_beside c a r fun hp => h (List.cons_prefix_cons.2 ⟨rfl, hp⟩)
    · rw [if_neg e, if_neg e]; omega

/-! ### Below a directory -/
theorem under_iff {s d : Bs} (hd : d ≠ []) : under s d = true ↔ ∃ r, s = d ++ 47 :: r := by
  unfold under Lib.hasPrefix
  rw [if_neg hd, List.isPrefixOf_iff_prefix]
  constructor
  · rintro ⟨r, rfl⟩; exact ⟨r, by simp⟩
  · rintro ⟨r, rfl⟩; exact ⟨r, by simp⟩
theorem under_split {s d : Bs} (hd : d ≠ []) : under s d = true ↔ ∃ r, r ≠ [] ∧ split s = split d ++ r := by
  rw [under_iff hd]
  constructor
  · rintro ⟨r, rfl⟩; exact ⟨split r, split_ne r, split_app d r⟩
  · rintro ⟨r, hr, e⟩
    refine ⟨glue r, ?_⟩
    rw [← glue_split s, e, glue_app (split_ne d) hr, glue_split d]
theorem order {a b c : Bs} (ha : a ≠ []) (hu : under b a = true) : cmp a b < 0 ∧ (c = a ∨ under c a = true ∨ cmp c a < 0 ∨ cmp c b > 0) := by
  obtain ⟨r, hr, e⟩ := (under_split ha).1 hu
  unfold cmp
  rw [e]
  refine ⟨?_, ?_⟩
  · rw [cmpP_pre]
    cases r with
    | nil => exact absurd rfl hr
    | cons y r => simp
  · by_cases hp : split a <+: split c
    · obtain ⟨t, ht⟩ := hp
      cases t with
      | nil => left; exact split_inj (by rw [← ht]; simp)
      | cons y t => right; left; exact (under_split ha).2 ⟨y :: t, by simp, ht.symm⟩
    · right; right; exact cmpP_beside _ _ _ hp
end Go.Proofs.YtjppfhgkanbemabDoor.Pt
