/-
  The plain functions behind package lock: what Wrong, Meets, cut, tidy, Take, Free and Leave compute, as functions of lists. No program in sight.
-/
namespace Go.Proofs.YtjppfhgkanbemacGreatDoor

structure Lk where
  o : Int
  f : Int
  t : Int
  a : Bool

namespace Lk

def beq (x y : Lk) : Bool := x.o == y.o && x.f == y.f && x.t == y.t && x.a == y.a

theorem beq_iff (x y : Lk) : beq x y = true ↔ x = y := by
  cases x; cases y; simp [beq, and_assoc]

instance : DecidableEq Lk := fun x y => if h : beq x y = true then .isTrue ((beq_iff x y).1 h) else .isFalse fun e => h ((beq_iff x y).2 e)

def zero : Lk := ⟨0, 0, 0, false⟩

def clash (x y : Lk) : Bool := x.o != y.o && (x.a || y.a) && decide (x.f < y.t) && decide (y.f < x.t)

theorem clash_comm (x y : Lk) : clash x y = clash y x := by
  unfold clash
  rw [bne_comm (a := x.o), Bool.or_comm x.a]
  rw [Bool.and_assoc, Bool.and_comm (decide (x.f < y.t)), ← Bool.and_assoc]

/-- what is wrong with a lock by its own numbers -/
def range (x : Lk) : Bool := decide (x.o < 0) || decide (4 ≤ x.o) || decide (x.f < 0) || decide (x.t ≤ x.f) || decide (1000 < x.t)

/-- the one ahead does not go ahead -/
def order (y x : Lk) : Bool := decide (x.o < y.o) || (y.o == x.o && (decide (x.f < y.t) || (y.t == x.f && y.a == x.a)))

/-- the error of x behind the list p: 0, if there is none -/
def badAt (p : List Lk) (x : Lk) : Int :=
  if range x then 3 else
  if (p.getLast?.any fun y => order y x) then 2 else
  if p.any (fun y => clash y x) then 8 else 0

def wrongFrom : List Lk → List Lk → Int × Int
  | _, [] => (0, 0)
  | p, x :: r => if badAt p x = 0 then wrongFrom (p ++ [x]) r else (badAt p x, p.length)

def wrong (l : List Lk) : Int × Int := if 40 < l.length then (5, 0) else wrongFrom [] l

def meets (l : List Lk) (x : Lk) : Option Lk := l.find? fun y => clash y x

def cut1 (x y : Lk) : List Lk :=
  if y.o ≠ x.o ∨ y.t ≤ x.f ∨ x.t ≤ y.f then [y] else
  (if y.f < x.f then [⟨y.o, y.f, x.f, y.a⟩] else []) ++ (if x.t < y.t then [⟨y.o, x.t, y.t, y.a⟩] else [])

def cut (l : List Lk) (x : Lk) : List Lk := l.flatMap (cut1 x)

def touch (y x : Lk) : Bool := y.o == x.o && y.t == x.f && y.a == x.a

def push (out : List Lk) (x : Lk) : List Lk :=
  match out.getLast? with
  | some y => if touch y x then out.dropLast ++ [⟨y.o, y.f, x.t, y.a⟩] else out ++ [x]
  | none => [x]

def tidy (l : List Lk) : List Lk := l.foldl push []

def less (x y : Lk) : Bool := decide (x.o < y.o) || (x.o == y.o && decide (x.f < y.f))

def insert (x : Lk) : List Lk → List Lk
  | [] => [x]
  | y :: r => if less y x then y :: insert x r else x :: y :: r

def sort : List Lk → List Lk
  | [] => []
  | x :: r => insert x (sort r)

def take (l : List Lk) (x : Lk) : List Lk × Int :=
  if (wrong l).1 ≠ 0 then ([], (wrong l).1) else
  if (wrong [x]).1 ≠ 0 then ([], (wrong [x]).1) else
  if (meets l x).isSome then ([], 13) else
  if 40 < (tidy (sort (cut l x ++ [x]))).length then ([], 5) else (tidy (sort (cut l x ++ [x])), 0)

def free (l : List Lk) (x : Lk) : List Lk × Int :=
  if (wrong l).1 ≠ 0 then ([], (wrong l).1) else
  if (wrong [x]).1 ≠ 0 then ([], (wrong [x]).1) else
  if 40 < (cut l x).length then ([], 5) else (cut l x, 0)

def leave (l : List Lk) (o : Int) : List Lk := l.filter fun x => x.o != o

theorem meets_found {l : List Lk} {x : Lk} {k : Nat} (hk : k < l.length) (hno : ∀ y ∈ l.take k, clash y x = false) (hc : clash l[k] x = true) : meets l x = some l[k] := by
  have e : l.find? (fun y => clash y x) = (l.take k ++ l[k] :: l.drop (k + 1)).find? (fun y => clash y x) := by
    rw [← List.drop_eq_getElem_cons hk, List.take_append_drop]
  unfold meets
  rw [e, List.find?_append, List.find?_eq_none.2 (fun y hy => by simp [hno y hy]), Option.none_or, List.find?_cons, hc]
theorem meets_none {l : List Lk} {x : Lk} {k : Nat} (hk : l.length ≤ k) (hno : ∀ y ∈ l.take k, clash y x = false) : meets l x = none := by
  rw [List.take_of_length_le hk] at hno
  exact List.find?_eq_none.2 (fun y hy => by simp [hno y hy])
theorem meets_next {l : List Lk} {x : Lk} {k : Nat} (hk : k < l.length) (hno : ∀ y ∈ l.take k, clash y x = false) (hc : ¬ clash l[k] x = true) : ∀ y ∈ l.take (k + 1), clash y x = false := by
  intro y hy
  rw [List.take_succ_eq_append_getElem hk, List.mem_append] at hy
  rcases hy with hy | hy
  · exact hno y hy
  · simp at hy; subst hy; simpa using hc

theorem cut1_le (x y : Lk) : (cut1 x y).length ≤ 2 := by
  unfold cut1; split
  · simp
  · split <;> split <;> simp
theorem cut_le (l : List Lk) (x : Lk) : (cut l x).length ≤ 2 * l.length := by
  induction l with
  | nil => simp [cut]
  | cons y r ih =>
    have h1 := cut1_le x y
    have e : cut (y :: r) x = cut1 x y ++ cut r x := rfl
    rw [e, List.length_append, List.length_cons]
    omega
theorem cut_step {l : List Lk} {k : Nat} (hk : k < l.length) (x : Lk) {y : Lk} (hy : l[k] = y) : cut (l.take (k + 1)) x = cut (l.take k) x ++ cut1 x y := by
  rw [List.take_succ_eq_append_getElem hk, hy]
  simp [cut]

theorem cut1_off {x y : Lk} (h : y.o ≠ x.o ∨ y.t ≤ x.f ∨ x.t ≤ y.f) : cut1 x y = [y] := if_pos h
theorem cut1_on {x y : Lk} (h0 : y.o = x.o) (h1 : ¬ y.t ≤ x.f) (h2 : ¬ x.t ≤ y.f) :
    cut1 x y = (if y.f < x.f then [⟨y.o, y.f, x.f, y.a⟩] else []) ++ (if x.t < y.t then [⟨y.o, x.t, y.t, y.a⟩] else []) :=
  if_neg (by simp only [not_or, ne_eq, Decidable.not_not]; exact ⟨h0, h1, h2⟩)

theorem push_nil (x : Lk) : push [] x = [x] := rfl
theorem push_touch (r : List Lk) (y x : Lk) (h : touch y x = true) : push (r ++ [y]) x = r ++ [⟨y.o, y.f, x.t, y.a⟩] := by
  simp [push, h]
theorem push_apart (r : List Lk) (y x : Lk) (h : touch y x = false) : push (r ++ [y]) x = r ++ [y] ++ [x] := by
  simp [push, h]
theorem tidy_step {l : List Lk} {k : Nat} (hk : k < l.length) {x : Lk} (hx : l[k] = x) : tidy (l.take (k + 1)) = push (tidy (l.take k)) x := by
  unfold tidy
  rw [List.take_succ_eq_append_getElem hk, hx, List.foldl_append]
  rfl
theorem push_le (r : List Lk) (x : Lk) : (push r x).length ≤ r.length + 1 := by
  rcases List.eq_nil_or_concat r with rfl | ⟨q, y, rfl⟩
  · simp [push]
  · simp only [List.concat_eq_append]
    rcases h : touch y x with _ | _
    · rw [push_apart _ _ _ h]; simp
    · rw [push_touch _ _ _ h]; simp
theorem tidy_le (l : List Lk) : (tidy l).length ≤ l.length := by
  have h : ∀ (l r : List Lk), (l.foldl push r).length ≤ r.length + l.length := by
    intro l
    induction l with
    | nil => intro r; simp
    | cons x l ih =>
      intro r
      have h1 := ih (push r x)
      have h2 := push_le r x
      simp only [List.foldl_cons, List.length_cons]
      omega
  have := h l []
  simpa [tidy] using this

end Lk
end Go.Proofs.YtjppfhgkanbemacGreatDoor
