/-
  The owners' numbers as a row of cells; lists of blocks; no program in sight.
  Processes in memory: the box of all, the files, the open ones; what stays where calls write.
  sys.set: the union is another one.
  slices.Concat at two rows of texts.
  A walk through names, and where a path leads.
  Where a path leads.
  Answers: how a call ends.
  Answers handed on.
  Pointers compared.
  The lowest number that is free.
  What a file has; it is written.
-/
import Derived.Test.YtjppfhgkanbemacGreatDoorSA
import Derived.Test.YtjppfhgkanbemacGreatDoorMA
import Derived.Test.YtjppfhgkanbemacGreatDoorUA
import Derived.Test.YtjppfhgkanbemacGreatDoorLkWalks
import Derived.Lib.AppendZeros
import Derived.Test.YtjppfhgkanbemacGreatDoorPA
import Derived.LaidEql
namespace Go.Proofs.YtjppfhgkanbemacGreatDoor
open Go.RowKit

def ptr (g : Nat) : Value := .pointer (some ⟨g, 0, none⟩)
def fdV (D : List Nat) : Option Nat → Value
  | none => .pointer none
  | some d => ptr (D.getD d 0)
namespace Sy
def fdCells (D : List Nat) (fds : List (List (Option Nat))) : List Value := fds.flatMap fun r => r.map (fdV D)
theorem fd_len {D : List Nat} {m : Nat} : ∀ {fds : List (List (Option Nat))}, (∀ r ∈ fds, r.length = m) → (fdCells D fds).length = fds.length * m
  | [], _ => by simp [fdCells]
  | r :: t, h => by
    have h1 := fd_len (D := D) (fds := t) fun x hx => h x (List.mem_cons_of_mem _ hx)
    have h2 := h r (List.mem_cons_self ..)
    unfold fdCells at h1 ⊢
    rw [List.flatMap_cons, List.length_append, h1, List.length_map, h2, List.length_cons]
    rw [Nat.add_mul]; omega
theorem fd_get {D : List Nat} {m : Nat} : ∀ {fds : List (List (Option Nat))}, (∀ r ∈ fds, r.length = m) → ∀ {o k : Nat}, o < fds.length → k < m → (fdCells D fds)[o * m + k]? = some (fdV D ((fds.getD o []).getD k none))
  | [], _, _, _, ho, _ => absurd ho (Nat.not_lt_zero _)
  | r :: t, h, 0, k, _, hk => by
    have h2 := h r (List.mem_cons_self ..)
    unfold fdCells
    rw [List.flatMap_cons, Nat.zero_mul, Nat.zero_add, List.getElem?_append_left (by rw [List.length_map]; omega), List.getElem?_map]
    show Option.map _ r[k]? = some (fdV D (r.getD k none))
    rw [List.getD_eq_getElem?_getD, List.getElem?_eq_getElem (by omega)]; rfl
  | r :: t, h, o + 1, k, ho, hk => by
    have h1 := fd_get (D := D) (fds := t) (fun x hx => h x (List.mem_cons_of_mem _ hx)) (o := o) (k := k) (by simpa using ho) hk
    have h2 := h r (List.mem_cons_self ..)
    unfold fdCells at h1 ⊢
    rw [List.flatMap_cons, List.getElem?_append_right (by rw [List.length_map, Nat.add_mul]; omega), List.length_map, h2]
    have e : (o + 1) * m + k - m = o * m + k := by rw [Nat.add_mul]; omega
    rw [e, h1]; rfl
theorem fd_set {D : List Nat} {m : Nat} (v : Option Nat) : ∀ {fds : List (List (Option Nat))}, (∀ r ∈ fds, r.length = m) → ∀ {o k : Nat}, o < fds.length → k < m → (fdCells D fds).set (o * m + k) (fdV D v) = fdCells D (fds.modify o fun r => r.set k v)
  | [], _, _, _, ho, _ => absurd ho (Nat.not_lt_zero _)
  | r :: t, h, 0, k, _, hk => by
    have h2 := h r (List.mem_cons_self ..)
    unfold fdCells
    rw [List.flatMap_cons, Nat.zero_mul, Nat.zero_add, List.set_append_left _ _ (by rw [List.length_map]; omega), ← List.map_set]
    show _ = List.flatMap _ (r.set k v :: t)
    rw [List.flatMap_cons]
  | r :: t, h, o + 1, k, ho, hk => by
    have h1 := fd_set (D := D) v (fds := t) (fun x hx => h x (List.mem_cons_of_mem _ hx)) (o := o) (k := k) (by simpa using ho) hk
    have h2 := h r (List.mem_cons_self ..)
    unfold fdCells at h1 ⊢
    rw [List.flatMap_cons, List.set_append_right _ _ (by rw [List.length_map, Nat.add_mul]; omega), List.length_map, h2]
    have e : (o + 1) * m + k - m = o * m + k := by rw [Nat.add_mul]; omega
    rw [e, h1]
    show _ = List.flatMap _ (r :: t.modify o fun r => r.set k v)
    rw [List.flatMap_cons]
/-- Cells look the same if more blocks are named behind. -/
theorem fd_more {D D' : List Nat} {fds : List (List (Option Nat))} (h : ∀ r ∈ fds, ∀ d, some d ∈ r → d < D.length) : fdCells (D ++ D') fds = fdCells D fds := by
  induction fds with
  | nil => rfl
  | cons r t ih =>
  unfold fdCells at ih ⊢
  rw [List.flatMap_cons, List.flatMap_cons, ih fun x hx => h x (List.mem_cons_of_mem _ hx)]
  refine congrArg (· ++ _) (List.map_congr_left fun x hx => ?_)
  have hr : r ∈ r :: t := List.mem_cons_self ..
  cases x with
  | none => rfl
  | some d =>
    have := h r hr d hx
    show ptr ((D ++ D').getD d 0) = ptr (D.getD d 0)
    rw [List.getD_eq_getElem?_getD, List.getElem?_append_left this, List.getD_eq_getElem?_getD]
theorem nodup_get {F : List Nat} (h : F.Nodup) {i j : Nat} (hi : i < F.length) (hj : j < F.length) (e : F.getD i 0 = F.getD j 0) : i = j := by
  have a : F.getD i 0 = F[i] := by simp [List.getD_eq_getElem?_getD, hi]
  have b : F.getD j 0 = F[j] := by simp [List.getD_eq_getElem?_getD, hj]
  rw [a, b] at e
  exact (List.getElem_inj h).1 e
theorem getD_mem {F : List Nat} {i : Nat} (hi : i < F.length) : F.getD i 0 ∈ F := by
  have a : F.getD i 0 = F[i] := by simp [List.getD_eq_getElem?_getD, hi]
  rw [a]; exact List.getElem_mem hi
theorem getD_app {F G : List Nat} {i : Nat} (hi : i < F.length) : (F ++ G).getD i 0 = F.getD i 0 := by
  rw [List.getD_eq_getElem?_getD, List.getElem?_append_left hi, List.getD_eq_getElem?_getD]
theorem getD_new (F : List Nat) (g : Nat) : (F ++ [g]).getD F.length 0 = g := by
  rw [List.getD_eq_getElem?_getD, List.getElem?_append_right (Nat.le_refl _), Nat.sub_self]; rfl
end Sy
end Go.Proofs.YtjppfhgkanbemacGreatDoor

namespace Go.Proofs.YtjppfhgkanbemacGreatDoor
open Go.RowKit Go.Shelf Go.Sort

/-- Off the blocks X all lies as it lay. -/
structure Fr (X : Nat → Prop) (w w' : World) : Prop where
  os : w'.os = w.os
  tape : w'.tape = w.tape
  output : w'.output = w.output
  size : w.heap.size ≤ w'.heap.size
  block : ∀ k, k < w.heap.size → ¬ X k → w'.heap[k]? = w.heap[k]?
theorem Fr.refl (X : Nat → Prop) (w : World) : Fr X w w := ⟨rfl, rfl, rfl, Nat.le_refl _, fun _ _ _ => rfl⟩
theorem Fr.of {X : Nat → Prop} {w w' : World} (h : Below w.heap.size w w') : Fr X w w' := ⟨h.os, h.tape, h.output, h.size, fun k hk _ => h.block k hk⟩
/-- Y: no block of w's but those of X. -/
def Sub (w : World) (Y X : Nat → Prop) : Prop := ∀ k, k < w.heap.size → Y k → X k
theorem Sub.refl (w : World) (X : Nat → Prop) : Sub w X X := fun _ _ h => h
theorem Fr.trans {X Y : Nat → Prop} {a b c : World} (h : Fr X a b) (k : Fr Y b c) (hs : Sub a Y X) : Fr X a c :=
  ⟨k.os.trans h.os, k.tape.trans h.tape, k.output.trans h.output, Nat.le_trans h.size k.size, fun i hi hx => (k.block i (Nat.lt_of_lt_of_le hi h.size) fun hy => hx (hs i hi hy)).trans (h.block i hi hx)⟩
theorem Sub.trans {a b : World} {X Y Z : Nat → Prop} (h : Sub a Y X) (k : Sub b Z Y) (hab : a.heap.size ≤ b.heap.size) : Sub a Z X := fun i hi hz => h i hi (k i (Nat.lt_of_lt_of_le hi hab) hz)
theorem Fr.set {X : Nat → Prop} (w : World) {p : Addr} (hp : X p.block) (u : Value) : Fr X w (w.setCell p u) :=
  ⟨rfl, rfl, rfl, by simp, fun k _ hx => Below.heap_setCell w p u k fun e => hx (e ▸ hp)⟩
theorem Fr.alloc (X : Nat → Prop) (w : World) (o : Obj) : Fr X w (w.alloc o) := Fr.of ((Below.refl _ w).alloc (Nat.le_refl _) o)
theorem Fr.drew (X : Nat → Prop) (w : World) : Fr X w w.drew := Fr.of (Below.refl _ w).drew
theorem Fr.below {X : Nat → Prop} {w w' : World} (h : Fr X w w') {B : Nat} (hB : B ≤ w.heap.size) (hx : ∀ k, X k → B ≤ k) : Below B w w' :=
  ⟨h.os, h.tape, h.output, h.size, fun k hk => h.block k (by omega) fun hX => by have := hx k hX; omega⟩
theorem Fr.grown {X : Nat → Prop} {w w' : World} {row : Option Nat} (h : w.grownBy w' row) (hr : ∀ k, row = some k → X k) : Fr X w w' :=
  ⟨h.os, h.tape, h.output, h.size, fun k hk hx => h.block k hk fun e => hx (hr k e.symm)⟩
theorem Fr.wide {X Y : Nat → Prop} {w w' : World} (h : Fr Y w w') (hs : Sub w Y X) : Fr X w w' := ⟨h.os, h.tape, h.output, h.size, fun k hk hx => h.block k hk fun hy => hx (hs k hk hy)⟩
theorem Blk.fr {X : Nat → Prop} {w w' : World} {g : Nat} {t : TypeId} {cs : List Value} (h : Blk w g t cs) (hf : Fr X w w') (hg : ¬ X g) : Blk w' g t cs := (hf.block g h.lt hg).trans h
theorem own_fr {X : Nat → Prop} {w w' : World} {base : Nat} {e : TypeId} {size n : Nat} {v : Value} {xs : List Value} (h : w.ownsRow base e size v n xs) (hf : Fr X w w') (hx : ∀ k, v.ownBlock = some k → ¬ X k) : w'.ownsRow base e size v n xs := by
  have hlt := fun k hk => (h.lt k hk).2
  obtain ⟨h0, h1 | ⟨g, cap, cur, hv, hg, hr, hn, hc⟩⟩ := h
  · exact ⟨h0, .inl h1⟩
  · have e : v.ownBlock = some g := by rw [hv]; rfl
    exact ⟨h0, .inr ⟨g, cap, cur, hv, hg, (hf.block g (hlt g e) (hx g e)).trans hr, hn, hc⟩⟩

/-- P holds wherever the blocks off X lie as they do here. -/
def Off (X : Nat → Prop) (w : World) (P : World → Prop) : Prop := ∀ w' : World, w.heap.size ≤ w'.heap.size → (∀ k, k < w.heap.size → ¬ X k → w'.heap[k]? = w.heap[k]?) → P w'
theorem Off.here {X : Nat → Prop} {w : World} {P : World → Prop} (h : Off X w P) : P w := h w (Nat.le_refl _) fun _ _ _ => rfl
theorem Off.on {X Y : Nat → Prop} {w w' : World} {P : World → Prop} (h : Off X w P) (hf : Fr X w w') (hs : Sub w Y X) : Off Y w' P := fun w2 h1 h2 =>
  h w2 (Nat.le_trans hf.size h1) fun k hk hx => (h2 k (Nat.lt_of_lt_of_le hk hf.size) fun hy => hx (hs k hk hy)).trans (hf.block k hk hx)
theorem Off.imp {X : Nat → Prop} {w : World} {P Q : World → Prop} (h : Off X w P) (hpq : ∀ w, P w → Q w) : Off X w Q := fun w' h1 h2 => hpq w' (h w' h1 h2)
theorem Off.always {X : Nat → Prop} {w : World} {P : World → Prop} (h : ∀ w, P w) : Off X w P := fun w' _ _ => h w'
theorem UnFar.off {lo : Nat} {w : World} {A A' : Option Addr} {c c' : Nat} {u : Un} (h : UnFar lo w A A' c c' u) {X : Nat → Prop} (hx : ∀ k, X k → k < lo) : Off X w fun w => UnRd w w.heap.size A A' c c' u :=
  fun w' h1 h2 => h w' h1 fun k hl hk => h2 k hk fun hX => by have := hx k hX; omega
theorem rd_off {w : World} {lo size n : Nat} {A : Option Addr} {xs : List Value} (h : Rd w w.heap.size size A n xs) (hlo : 0 < n → ∀ a, A = some a → lo ≤ a.block) {X : Nat → Prop} (hx : ∀ k, X k → k < lo) : Off X w fun w => Rd w w.heap.size size A n xs :=
  fun w' h1 h2 => rd_far (lo := lo) h hlo h1 fun k hl hk => h2 k hk fun hX => by have := hx k hX; omega
theorem own_off {w : World} {lo : Nat} {e : TypeId} {size n : Nat} {v : Value} {xs : List Value} (h : w.ownsRow lo e size v n xs) {X : Nat → Prop} (hx : ∀ k, X k → k < lo) : ∃ A c, v = .slice A n c ∧ n ≤ c ∧ Off X w fun w => Rd w w.heap.size size A n xs := by
  have hlt := fun k hk => (h.lt k hk).1
  rcases own_shape h with ⟨rfl, rfl⟩ | ⟨g, cap, rfl, hg, hgl, hc⟩
  · have hx0 : xs = [] := by have := h.1; simpa using this
    subst hx0
    exact ⟨none, 0, rfl, Nat.le_refl _, Off.always fun _ => Rd.nil⟩
  · exact ⟨_, cap, rfl, hc, rd_off (lo := lo) (Rd.of_own h) (fun _ a ha => by injection ha with ha; subst ha; exact hg) hx⟩

/-- A call's cells from o on in block b. -/
def Ca.cells (c : Ca) : List Value := [.int .i64 c.kind, .int .i64 c.owner, .int .i64 c.fd, .int .i64 c.n, .int .i64 c.m, .string c.path, .string c.to, .string c.text, .bool c.alone]
def CaAt (w : World) (b o : Nat) (c : Ca) : Prop :=
  b < w.heap.size ∧ w.cell? ⟨b, o, none⟩ = some (.int .i64 c.kind) ∧ w.cell? ⟨b, o + 1, none⟩ = some (.int .i64 c.owner) ∧ w.cell? ⟨b, o + 2, none⟩ = some (.int .i64 c.fd) ∧ w.cell? ⟨b, o + 3, none⟩ = some (.int .i64 c.n) ∧ w.cell? ⟨b, o + 4, none⟩ = some (.int .i64 c.m) ∧
    w.cell? ⟨b, o + 5, none⟩ = some (.string c.path) ∧ w.cell? ⟨b, o + 6, none⟩ = some (.string c.to) ∧ w.cell? ⟨b, o + 7, none⟩ = some (.string c.text) ∧ w.cell? ⟨b, o + 8, none⟩ = some (.bool c.alone)
theorem CaAt.fr {X : Nat → Prop} {w w' : World} {b o : Nat} {c : Ca} (h : CaAt w b o c) (hf : Fr X w w') (hb : ¬ X b) : CaAt w' b o c := by
  obtain ⟨h0, h1, h2, h3, h4, h5, h6, h7, h8, h9⟩ := h
  have key : ∀ i, w'.cell? ⟨b, i, none⟩ = w.cell? ⟨b, i, none⟩ := fun i => World.cell?_of_block (hf.block b h0 hb)
  exact ⟨Nat.lt_of_lt_of_le h0 hf.size, (key _).trans h1, (key _).trans h2, (key _).trans h3, (key _).trans h4, (key _).trans h5, (key _).trans h6, (key _).trans h7, (key _).trans h8, (key _).trans h9⟩
theorem CaAt.below {w w' : World} {b o : Nat} {c : Ca} (h : CaAt w b o c) (hb : Below w.heap.size w w') : CaAt w' b o c := h.fr (X := fun _ => False) (Fr.of hb) id

/-- Where all lies: the box, the files' blocks, the open ones', the list of files; e: other blocks that are written. -/
structure Pl where
  gs : Nat
  F : List Nat
  D : List Nat
  v : Value
  e : Nat → Prop
def Pl.C (p : Pl) (k : Nat) : Prop := k = p.gs ∨ k ∈ p.F ∨ k ∈ p.D ∨ p.v.ownBlock = some k
def Pl.X (p : Pl) (k : Nat) : Prop := p.C k ∨ p.e k
def Pl.f (p : Pl) (i : Nat) : Nat := p.F.getD i 0
def Pl.d (p : Pl) (i : Nat) : Nat := p.D.getD i 0
theorem Pl.cx {p : Pl} {k : Nat} (h : p.C k) : p.X k := .inl h
/-- What lies in the box. -/
def SyBox (w : World) (p : Pl) (s : St) (v : Value) (D : List Nat) : Prop := ∃ AU AL AT cU cL cT, Blk w p.gs 85 (.slice AU s.u.U.length cU :: .slice AL s.u.L.length cL :: .slice AT s.T.length cT :: v :: Sy.fdCells D s.fds) ∧ Off p.X w (fun w => UnRd w w.heap.size AU AL cU cL s.u) ∧ Off p.X w (fun w => EnRd w w.heap.size AT s.T) ∧ s.T.length ≤ cT
def SyOb (w : World) (X : Nat → Prop) (g : Nat) (o : Ob) : Prop := ∃ A c, Blk w g 127 [.string o.p, .string o.t, .slice A o.l.length c] ∧ Off X w (fun w => LkRd w w.heap.size A o.l) ∧ o.l.length ≤ c
def SyDe (w : World) (g : Nat) (F : List Nat) (d : De) : Prop := Blk w g 122 [ptr (F.getD d.o 0), .int .i64 d.fl, .int .i64 d.at_, .int .i64 d.refs]
/-- All as it lies in memory. -/
structure SyAt (w : World) (p : Pl) (s : St) : Prop where
  box : SyBox w p s p.v p.D
  files : w.ownsRow 0 119 1 p.v s.files.length (s.files.map fun i => ptr (p.f i))
  fl : p.F.length = s.obs.length
  dl : p.D.length = s.des.length
  ob : ∀ i, i < s.obs.length → SyOb w p.X (p.f i) (Sy.obAt s i)
  de : ∀ d, d < s.des.length → SyDe w (p.d d) p.F (Sy.deAt s d)
  fn : p.F.Nodup
  dn : p.D.Nodup
  ce : ∀ k, p.C k → ¬ p.e k
  el : ∀ k, p.e k → k < w.heap.size

theorem Blk.ty {w : World} {g : Nat} {t t' : TypeId} {cs cs' : List Value} (h : Blk w g t cs) (k : Blk w g t' cs') : t = t' := by
  unfold Blk at h k
  rw [h] at k
  injection k with k
  injection k
theorem Blk.ne {w : World} {g g' : Nat} {t t' : TypeId} {cs cs' : List Value} (h : Blk w g t cs) (k : Blk w g' t' cs') (ht : t ≠ t') : g ≠ g' := fun e => ht (by subst e; exact h.ty k)
theorem own_noblk {w : World} {base : Nat} {e t : TypeId} {size n : Nat} {v : Value} {xs cs : List Value} {g : Nat} (h : w.ownsRow base e size v n xs) (hg : Blk w g t cs) (ht : t ≠ e) : v.ownBlock ≠ some g := by
  obtain ⟨_, ⟨rfl, _⟩ | ⟨b, cap, cur, rfl, _, hr, _⟩⟩ := h
  · intro e; cases e
  · intro e
    injection e with e
    have e : b = g := e
    subst e
    unfold Blk at hg
    have hr2 := hr.symm.trans hg
    injection hr2 with hr2
    injection hr2 with _ h2
    exact ht h2.symm
namespace SyAt
variable {w w' : World} {p : Pl} {s : St} {Y : Nat → Prop}
theorem f_mem (h : SyAt w p s) {i : Nat} (hi : i < s.obs.length) : p.f i ∈ p.F := Sy.getD_mem (by rw [h.fl]; exact hi)
theorem d_mem (h : SyAt w p s) {d : Nat} (hd : d < s.des.length) : p.d d ∈ p.D := Sy.getD_mem (by rw [h.dl]; exact hd)
theorem mem_f (h : SyAt w p s) {k : Nat} (hk : k ∈ p.F) : ∃ i, i < s.obs.length ∧ p.f i = k := by
  obtain ⟨i, hi, rfl⟩ := List.mem_iff_getElem.1 hk
  refine ⟨i, by rw [← h.fl]; exact hi, ?_⟩
  unfold Pl.f; simp [List.getD_eq_getElem?_getD, hi]
theorem mem_d (h : SyAt w p s) {k : Nat} (hk : k ∈ p.D) : ∃ i, i < s.des.length ∧ p.d i = k := by
  obtain ⟨i, hi, rfl⟩ := List.mem_iff_getElem.1 hk
  refine ⟨i, by rw [← h.dl]; exact hi, ?_⟩
  unfold Pl.d; simp [List.getD_eq_getElem?_getD, hi]
theorem blk (h : SyAt w p s) : ∃ cs, Blk w p.gs 85 cs := by
  obtain ⟨_, _, _, _, _, _, hb, _⟩ := h.box; exact ⟨_, hb⟩
theorem fblk (h : SyAt w p s) {i : Nat} (hi : i < s.obs.length) : ∃ cs, Blk w (p.f i) 127 cs := by
  obtain ⟨_, _, hb, _⟩ := h.ob i hi; exact ⟨_, hb⟩
theorem gs_f (h : SyAt w p s) {i : Nat} (hi : i < s.obs.length) : p.gs ≠ p.f i := by
  obtain ⟨_, a⟩ := h.blk; obtain ⟨_, b⟩ := h.fblk hi; exact a.ne b (by decide)
theorem gs_d (h : SyAt w p s) {i : Nat} (hi : i < s.des.length) : p.gs ≠ p.d i := by
  obtain ⟨_, a⟩ := h.blk; exact a.ne (h.de i hi) (by decide)
theorem f_d (h : SyAt w p s) {i d : Nat} (hi : i < s.obs.length) (hd : d < s.des.length) : p.f i ≠ p.d d := by
  obtain ⟨_, b⟩ := h.fblk hi; exact b.ne (h.de d hd) (by decide)
theorem v_gs (h : SyAt w p s) : p.v.ownBlock ≠ some p.gs := by
  obtain ⟨_, a⟩ := h.blk; exact own_noblk h.files a (by decide)
theorem v_f (h : SyAt w p s) {i : Nat} (hi : i < s.obs.length) : p.v.ownBlock ≠ some (p.f i) := by
  obtain ⟨_, b⟩ := h.fblk hi; exact own_noblk h.files b (by decide)
theorem v_d (h : SyAt w p s) {i : Nat} (hi : i < s.des.length) : p.v.ownBlock ≠ some (p.d i) := own_noblk h.files (h.de i hi) (by decide)
theorem f_inj (h : SyAt w p s) {i j : Nat} (hi : i < s.obs.length) (hj : j < s.obs.length) (e : p.f i = p.f j) : i = j := Sy.nodup_get h.fn (by rw [h.fl]; exact hi) (by rw [h.fl]; exact hj) e
theorem d_inj (h : SyAt w p s) {i j : Nat} (hi : i < s.des.length) (hj : j < s.des.length) (e : p.d i = p.d j) : i = j := Sy.nodup_get h.dn (by rw [h.dl]; exact hi) (by rw [h.dl]; exact hj) e
theorem gs_c (_ : SyAt w p s) : p.C p.gs := .inl rfl
theorem f_c (h : SyAt w p s) {i : Nat} (hi : i < s.obs.length) : p.C (p.f i) := .inr (.inl (h.f_mem hi))
theorem d_c (h : SyAt w p s) {i : Nat} (hi : i < s.des.length) : p.C (p.d i) := .inr (.inr (.inl (h.d_mem hi)))
theorem c_lt (h : SyAt w p s) {k : Nat} (hk : p.C k) : k < w.heap.size := by
  rcases hk with rfl | hk | hk | hk
  · obtain ⟨_, hb⟩ := h.blk; exact hb.lt
  · obtain ⟨i, hi, rfl⟩ := h.mem_f hk
    obtain ⟨_, hf⟩ := h.fblk hi
    exact hf.lt
  · obtain ⟨i, hi, rfl⟩ := h.mem_d hk
    exact Blk.lt (h.de i hi)
  · exact (h.files.lt k hk).2
theorem box_fr (h : SyAt w p s) (hf : Fr Y w w') (hs : Sub w Y p.X) (hn : ¬ Y p.gs) : SyBox w' p s p.v p.D := by
  obtain ⟨AU, AL, AT, cU, cL, cT, hb, h1, h2, h3⟩ := h.box
  have hx := hf.wide hs
  exact ⟨AU, AL, AT, cU, cL, cT, hb.fr hf hn, h1.on hx (Sub.refl _ _), h2.on hx (Sub.refl _ _), h3⟩
theorem ob_fr (h : SyAt w p s) (hf : Fr Y w w') (hs : Sub w Y p.X) {i : Nat} (hi : i < s.obs.length) (hn : ¬ Y (p.f i)) : SyOb w' p.X (p.f i) (Sy.obAt s i) := by
  obtain ⟨A, c, hb, h1, h2⟩ := h.ob i hi
  exact ⟨A, c, hb.fr hf hn, h1.on (hf.wide hs) (Sub.refl _ _), h2⟩
theorem de_fr (h : SyAt w p s) (hf : Fr Y w w') {i : Nat} (hi : i < s.des.length) (hn : ¬ Y (p.d i)) : SyDe w' (p.d i) p.F (Sy.deAt s i) := Blk.fr (h.de i hi) hf hn
theorem files_fr (h : SyAt w p s) (hf : Fr Y w w') (hn : ∀ k, p.v.ownBlock = some k → ¬ Y k) : w'.ownsRow 0 119 1 p.v s.files.length (s.files.map fun i => ptr (p.f i)) := own_fr h.files hf hn
/-- Where nothing of it is written it lies as it lay. -/
theorem fr (h : SyAt w p s) (hf : Fr Y w w') (hY : ∀ k, k < w.heap.size → Y k → p.e k) : SyAt w' p s :=
  have hs : Sub w Y p.X := fun k hk hy => .inr (hY k hk hy)
  have hn : ∀ k, p.C k → ¬ Y k := fun k hk hy => h.ce k hk (hY k (h.c_lt hk) hy)
  ⟨h.box_fr hf hs (hn _ h.gs_c), h.files_fr hf fun k hk => hn k (.inr (.inr (.inr hk))), h.fl, h.dl, fun _ hi => h.ob_fr hf hs hi (hn _ (h.f_c hi)), fun _ hi => h.de_fr hf hi (hn _ (h.d_c hi)), h.fn, h.dn, h.ce, fun _ hk => Nat.lt_of_lt_of_le (h.el _ hk) hf.size⟩
theorem below (h : SyAt w p s) (hb : Below w.heap.size w w') : SyAt w' p s := h.fr (Y := fun _ => False) (Fr.of hb) fun _ _ hy => hy.elim
/-- Other blocks may be written, too: new ones. -/
theorem push (h : SyAt w p s) (hb : Below w.heap.size w w') (e : Nat → Prop) (he : ∀ k, e k → w.heap.size ≤ k ∧ k < w'.heap.size) : SyAt w' { p with e := fun k => p.e k ∨ e k } s := by
  have hf : Fr (fun k => w.heap.size ≤ k) w w' := (Fr.of (X := fun k => w.heap.size ≤ k) hb)
  have hx : ∀ k, k < w.heap.size → Pl.X { p with e := fun k => p.e k ∨ e k } k → p.X k := fun k hk hx => by
    rcases hx with hx | hx | hx
    · exact .inl hx
    · exact .inr hx
    · have := (he k hx).1; omega
  have hoff : ∀ {P : World → Prop}, Off p.X w P → Off (Pl.X { p with e := fun k => p.e k ∨ e k }) w' P := fun {P} h w2 a b => h w2 (Nat.le_trans hb.size a) fun k hk hn => (b k (Nat.lt_of_lt_of_le hk hb.size) fun q => hn (hx k hk q)).trans (hb.block k hk)
  have nf : ∀ k, p.C k → ¬ w.heap.size ≤ k := fun k hk => by have := h.c_lt hk; omega
  refine ⟨?_, own_fr h.files hf fun k hk => nf k (.inr (.inr (.inr hk))), h.fl, h.dl, fun i hi => ?_, fun i hi => Blk.fr (h.de i hi) hf (nf _ (h.d_c hi)), h.fn, h.dn, fun k hk hx => ?_, fun k hk => hk.elim (fun q => Nat.lt_of_lt_of_le (h.el k q) hb.size) fun q => (he k q).2⟩
  · obtain ⟨AU, AL, AT, cU, cL, cT, hb, h1, h2, h3⟩ := h.box
    exact ⟨AU, AL, AT, cU, cL, cT, hb.fr hf (nf _ h.gs_c), hoff h1, hoff h2, h3⟩
  · obtain ⟨A, c, hb, h1, h2⟩ := h.ob i hi
    exact ⟨A, c, hb.fr hf (nf _ (h.f_c hi)), hoff h1, h2⟩
  · rcases hx with hx | hx
    · exact h.ce k hk hx
    · have h1 := (he k hx).1; have h2 := h.c_lt hk; omega
/-- Fewer others. -/
theorem pop (h : SyAt w p s) (e : Nat → Prop) (he : ∀ k, e k → p.e k) : SyAt w { p with e := e } s := by
  have hoff : ∀ {P : World → Prop}, Off p.X w P → Off (Pl.X { p with e := e }) w P := fun {P} h w2 a b => h w2 a fun k hk hn => b k hk fun q => hn (q.imp_right (he k))
  refine ⟨?_, h.files, h.fl, h.dl, fun i hi => ?_, h.de, h.fn, h.dn, fun k hk hx => h.ce k hk (he k hx), fun k hk => h.el k (he k hk)⟩
  · obtain ⟨AU, AL, AT, cU, cL, cT, hb, h1, h2, h3⟩ := h.box
    exact ⟨AU, AL, AT, cU, cL, cT, hb, hoff h1, hoff h2, h3⟩
  · obtain ⟨A, c, hb, h1, h2⟩ := h.ob i hi
    exact ⟨A, c, hb, hoff h1, h2⟩
/-- The union is another one. -/
theorem setU (h : SyAt w p s) (hf : Fr (fun k => k = p.gs) w w') {AU AL AT : Option Addr} {cU cL cT : Nat} {u : Un} {T : List En} (hb : Blk w' p.gs 85 (.slice AU u.U.length cU :: .slice AL u.L.length cL :: .slice AT T.length cT :: p.v :: Sy.fdCells p.D s.fds))
    (h1 : Off p.X w' fun w => UnRd w w.heap.size AU AL cU cL u) (h2 : Off p.X w' fun w => EnRd w w.heap.size AT T) (h3 : T.length ≤ cT) : SyAt w' p { s with u := u, T := T } :=
  have hs : Sub w (fun k => k = p.gs) p.X := fun _ _ e => Pl.cx (e ▸ h.gs_c)
  ⟨⟨AU, AL, AT, cU, cL, cT, hb, h1, h2, h3⟩, h.files_fr hf fun _ hk e => h.v_gs (e ▸ hk), h.fl, h.dl, fun _ hi => h.ob_fr hf hs hi fun e => h.gs_f hi e.symm, fun _ hi => h.de_fr hf hi fun e => h.gs_d hi e.symm, h.fn, h.dn, h.ce, fun _ hk => Nat.lt_of_lt_of_le (h.el _ hk) hf.size⟩
/-- An owner's number leads elsewhere. -/
theorem setFd (h : SyAt w p s) (hn : s.fds.length = 4 ∧ ∀ r ∈ s.fds, r.length = 8) {o k : Nat} (ho : o < 4) (hk : k < 8) (x : Option Nat) : SyAt (w.setCell ⟨p.gs, 4 + (o * 8 + k), none⟩ (fdV p.D x)) p (Sy.setFd s o k x) := by
  have hf : Fr (fun k => k = p.gs) w (w.setCell ⟨p.gs, 4 + (o * 8 + k), none⟩ (fdV p.D x)) := Fr.set (X := fun k => k = p.gs) w rfl _
  have hs : Sub w (fun k => k = p.gs) p.X := fun _ _ e => Pl.cx (e ▸ h.gs_c)
  have hx := hf.wide hs
  refine ⟨?_, h.files_fr hf fun _ hk e => h.v_gs (e ▸ hk), h.fl, h.dl, fun _ hi => h.ob_fr hf hs hi fun e => h.gs_f hi e.symm, fun _ hi => h.de_fr hf hi fun e => h.gs_d hi e.symm, h.fn, h.dn, h.ce, fun _ hk => Nat.lt_of_lt_of_le (h.el _ hk) hf.size⟩
  obtain ⟨AU, AL, AT, cU, cL, cT, hb, h1, h2, h3⟩ := h.box
  have hb2 := hb.set_ (4 + (o * 8 + k)) (fdV p.D x)
  rw [show 4 + (o * 8 + k) = (o * 8 + k) + 1 + 1 + 1 + 1 by omega] at hb2 ⊢
  simp only [List.set_cons_succ] at hb2
  rw [Sy.fd_set x hn.2 (by omega) hk] at hb2
  rw [show (o * 8 + k) + 1 + 1 + 1 + 1 = 4 + (o * 8 + k) by omega] at hb2 ⊢
  exact ⟨AU, AL, AT, cU, cL, cT, hb2, h1.on hx (Sub.refl _ _), h2.on hx (Sub.refl _ _), h3⟩
/-- A file's block is written. -/
theorem setOb (h : SyAt w p s) {i : Nat} (hi : i < s.obs.length) (hf : Fr (fun k => k = p.f i) w w') (f : Ob → Ob) (hb : SyOb w' p.X (p.f i) (f (Sy.obAt s i))) : SyAt w' p (Sy.setOb s i f) := by
  have hs : Sub w (fun k => k = p.f i) p.X := fun _ _ e => Pl.cx (e ▸ h.f_c hi)
  have hl : (s.obs.modify i f).length = s.obs.length := by rw [List.length_modify]
  refine ⟨h.box_fr hf hs (h.gs_f hi), h.files_fr hf fun _ hk e => h.v_f hi (e ▸ hk), h.fl.trans hl.symm, h.dl, fun j hj => ?_, fun _ hd => h.de_fr hf hd fun e => h.f_d hi hd e.symm, h.fn, h.dn, h.ce, fun _ hk => Nat.lt_of_lt_of_le (h.el _ hk) hf.size⟩
  have hj : j < s.obs.length := by rw [← hl]; exact hj
  rcases Decidable.em (j = i) with rfl | hne
  · have e : Sy.obAt (Sy.setOb s j f) j = f (Sy.obAt s j) := by
      unfold Sy.obAt Sy.setOb
      simp only [List.getD_eq_getElem?_getD, List.getElem?_modify_eq]
      rw [List.getElem?_eq_getElem hi]; rfl
    rw [e]; exact hb
  · have e : Sy.obAt (Sy.setOb s i f) j = Sy.obAt s j := by
      unfold Sy.obAt Sy.setOb
      simp [List.getD_eq_getElem?_getD, Ne.symm hne]
    rw [e]; exact h.ob_fr hf hs hj fun q => hne (h.f_inj hj hi q)
/-- An open one's block is written. -/
theorem setDe (h : SyAt w p s) {d : Nat} (hd : d < s.des.length) (hf : Fr (fun k => k = p.d d) w w') (f : De → De) (hb : SyDe w' (p.d d) p.F (f (Sy.deAt s d))) : SyAt w' p (Sy.setDe s d f) := by
  have hs : Sub w (fun k => k = p.d d) p.X := fun _ _ e => Pl.cx (e ▸ h.d_c hd)
  have hl : (s.des.modify d f).length = s.des.length := by rw [List.length_modify]
  refine ⟨h.box_fr hf hs (h.gs_d hd), h.files_fr hf fun _ hk e => h.v_d hd (e ▸ hk), h.fl, h.dl.trans hl.symm, fun _ hi => h.ob_fr hf hs hi (h.f_d hi hd), fun j hj => ?_, h.fn, h.dn, h.ce, fun _ hk => Nat.lt_of_lt_of_le (h.el _ hk) hf.size⟩
  have hj : j < s.des.length := by rw [← hl]; exact hj
  rcases Decidable.em (j = d) with rfl | hne
  · have e : Sy.deAt (Sy.setDe s j f) j = f (Sy.deAt s j) := by
      unfold Sy.deAt Sy.setDe
      simp only [List.getD_eq_getElem?_getD, List.getElem?_modify_eq]
      rw [List.getElem?_eq_getElem hd]; rfl
    rw [e]; exact hb
  · have e : Sy.deAt (Sy.setDe s d f) j = Sy.deAt s j := by
      unfold Sy.deAt Sy.setDe
      simp [List.getD_eq_getElem?_getD, Ne.symm hne]
    rw [e]; exact h.de_fr hf hj fun q => hne (h.d_inj hj hd q)
/-- A new file's block. -/
theorem addOb (h : SyAt w p s) {n : Nat} (hi : Sy.In n s) (pa : ByteArray) : SyAt (w.alloc (.cells #[.string pa, .string ⟨#[]⟩, .slice none 0 0] 127)) { p with F := p.F ++ [w.heap.size] } { s with obs := s.obs ++ [⟨pa, ⟨#[]⟩, []⟩] } := by
  have hf : Fr (fun k => w.heap.size ≤ k) w (w.alloc (.cells #[.string pa, .string ⟨#[]⟩, .slice none 0 0] 127)) := Fr.alloc _ _ _
  have nf : ∀ k, p.C k → ¬ w.heap.size ≤ k := fun k hk => by have := h.c_lt hk; omega
  have hoff : ∀ {P : World → Prop}, Off p.X w P → Off (Pl.X { p with F := p.F ++ [w.heap.size] }) (w.alloc (.cells #[.string pa, .string ⟨#[]⟩, .slice none 0 0] 127)) P := fun {P} q w2 a b => q w2 (Nat.le_trans hf.size a) fun k hk hn => (b k (Nat.lt_of_lt_of_le hk hf.size) fun x => hn (by
    rcases x with (x | x | x) | x
    · exact .inl (.inl x)
    · rcases List.mem_append.1 x with x | x
      · exact .inl (.inr (.inl x))
      · rw [List.mem_singleton] at x; omega
    · exact .inl (.inr (.inr x))
    · exact .inr x)).trans (hf.block k hk (by omega))
  have hsame : ∀ i, i < s.obs.length → Pl.f { p with F := p.F ++ [w.heap.size] } i = p.f i := fun i q => Sy.getD_app (by rw [h.fl]; exact q)
  have hob : ∀ i, i < s.obs.length → Sy.obAt { s with obs := s.obs ++ [⟨pa, ⟨#[]⟩, []⟩] } i = Sy.obAt s i := fun i q => by
    unfold Sy.obAt
    rw [List.getD_eq_getElem?_getD, List.getElem?_append_left q, List.getD_eq_getElem?_getD]
  refine ⟨?_, ?_, ?_, h.dl, fun i q => ?_, fun i q => ?_, ?_, h.dn, fun k hk he => ?_, fun _ hk => Nat.lt_of_lt_of_le (h.el _ hk) hf.size⟩
  · obtain ⟨AU, AL, AT, cU, cL, cT, hb, h1, h2, h3⟩ := h.box
    exact ⟨AU, AL, AT, cU, cL, cT, hb.fr hf (nf _ h.gs_c), hoff h1, hoff h2, h3⟩
  · have h1 := own_fr h.files hf fun k hk => nf k (.inr (.inr (.inr hk)))
    have h2 : (s.files.map fun i => ptr (Pl.f { p with F := p.F ++ [w.heap.size] } i)) = s.files.map fun i => ptr (p.f i) := List.map_congr_left fun i q => by rw [hsame i (hi.fsub i q)]
    show World.ownsRow _ 0 _ 1 p.v s.files.length _
    rw [h2]; exact h1
  · show (p.F ++ [w.heap.size]).length = (s.obs ++ [_]).length
    rw [List.length_append, List.length_append, h.fl]; rfl
  · have q : i < s.obs.length + 1 := by simpa using q
    rcases Nat.lt_or_ge i s.obs.length with q1 | q1
    · rw [hob i q1, hsame i q1]
      obtain ⟨A, c, hb, h1, h2⟩ := h.ob i q1
      exact ⟨A, c, hb.fr hf (nf _ (h.f_c q1)), hoff h1, h2⟩
    · have e : i = s.obs.length := by omega
      subst e
      have e1 : Pl.f { p with F := p.F ++ [w.heap.size] } s.obs.length = w.heap.size := by
        unfold Pl.f; rw [← h.fl]; exact Sy.getD_new _ _
      have e2 : Sy.obAt { s with obs := s.obs ++ [⟨pa, ⟨#[]⟩, []⟩] } s.obs.length = ⟨pa, ⟨#[]⟩, []⟩ := by
        unfold Sy.obAt
        rw [List.getD_eq_getElem?_getD, List.getElem?_append_right (Nat.le_refl _), Nat.sub_self]; rfl
      rw [e1, e2]
      exact ⟨none, 0, Blk.new w _ _, Off.always fun _ => Rd.nil, Nat.le_refl _⟩
  · have h1 : Blk (w.alloc _) (p.d i) _ _ := Blk.fr (h.de i q) hf (nf _ (h.d_c q))
    have h2 : (Sy.deAt s i).o < p.F.length := by rw [h.fl]; exact (hi.deAt q).1
    show Blk _ _ _ [ptr ((p.F ++ [w.heap.size]).getD (Sy.deAt s i).o 0), .int .i64 (Sy.deAt s i).fl, .int .i64 (Sy.deAt s i).at_, .int .i64 (Sy.deAt s i).refs]
    rw [Sy.getD_app h2]
    exact h1
  · refine List.nodup_append.2 ⟨h.fn, List.nodup_cons.2 ⟨List.not_mem_nil, List.nodup_nil⟩, fun a ha b hb e => ?_⟩
    rw [List.mem_singleton] at hb
    have := h.c_lt (.inr (.inl ha)); omega
  · have h1 := h.el k he
    rcases hk with hk | hk | hk
    · exact h.ce k (.inl hk) he
    · rcases List.mem_append.1 hk with x | x
      · exact h.ce k (.inr (.inl x)) he
      · rw [List.mem_singleton] at x; omega
    · exact h.ce k (.inr (.inr hk)) he
/-- A new open one's block. -/
theorem addDe (h : SyAt w p s) {n : Nat} (hi : Sy.In n s) (d : De) : SyAt (w.alloc (.cells #[ptr (p.f d.o), .int .i64 d.fl, .int .i64 d.at_, .int .i64 d.refs] 122)) { p with D := p.D ++ [w.heap.size] } { s with des := s.des ++ [d] } := by
  have hf : Fr (fun k => w.heap.size ≤ k) w (w.alloc (.cells #[ptr (p.f d.o), .int .i64 d.fl, .int .i64 d.at_, .int .i64 d.refs] 122)) := Fr.alloc _ _ _
  have nf : ∀ k, p.C k → ¬ w.heap.size ≤ k := fun k hk => by have := h.c_lt hk; omega
  have hoff : ∀ {P : World → Prop}, Off p.X w P → Off (Pl.X { p with D := p.D ++ [w.heap.size] }) (w.alloc (.cells #[ptr (p.f d.o), .int .i64 d.fl, .int .i64 d.at_, .int .i64 d.refs] 122)) P := fun {P} q w2 a b => q w2 (Nat.le_trans hf.size a) fun k hk hn => (b k (Nat.lt_of_lt_of_le hk hf.size) fun x => hn (by
    rcases x with (x | x | x | x) | x
    · exact .inl (.inl x)
    · exact .inl (.inr (.inl x))
    · rcases List.mem_append.1 x with x | x
      · exact .inl (.inr (.inr (.inl x)))
      · rw [List.mem_singleton] at x; omega
    · exact .inl (.inr (.inr (.inr x)))
    · exact .inr x)).trans (hf.block k hk (by omega))
  have hsame : ∀ i, i < s.des.length → Pl.d { p with D := p.D ++ [w.heap.size] } i = p.d i := fun i q => Sy.getD_app (by rw [h.dl]; exact q)
  have hde : ∀ i, i < s.des.length → Sy.deAt { s with des := s.des ++ [d] } i = Sy.deAt s i := fun i q => by
    unfold Sy.deAt
    rw [List.getD_eq_getElem?_getD, List.getElem?_append_left q, List.getD_eq_getElem?_getD]
  refine ⟨?_, own_fr h.files hf fun k hk => nf k (.inr (.inr (.inr hk))), h.fl, ?_, fun i q => ?_, fun i q => ?_, h.fn, ?_, fun k hk he => ?_, fun _ hk => Nat.lt_of_lt_of_le (h.el _ hk) hf.size⟩
  · obtain ⟨AU, AL, AT, cU, cL, cT, hb, h1, h2, h3⟩ := h.box
    refine ⟨AU, AL, AT, cU, cL, cT, ?_, hoff h1, hoff h2, h3⟩
    show Blk _ _ _ (_ :: _ :: _ :: p.v :: Sy.fdCells (p.D ++ [w.heap.size]) s.fds)
    rw [Sy.fd_more fun r hr x hx => by rw [h.dl]; exact hi.fdd r hr x hx]
    exact hb.fr hf (nf _ h.gs_c)
  · show (p.D ++ [w.heap.size]).length = (s.des ++ [_]).length
    rw [List.length_append, List.length_append, h.dl]; rfl
  · obtain ⟨A, c, hb, h1, h2⟩ := h.ob i q
    exact ⟨A, c, hb.fr hf (nf _ (h.f_c q)), hoff h1, h2⟩
  · have q : i < s.des.length + 1 := by simpa using q
    rcases Nat.lt_or_ge i s.des.length with q1 | q1
    · rw [hde i q1, hsame i q1]
      exact Blk.fr (h.de i q1) hf (nf _ (h.d_c q1))
    · have e : i = s.des.length := by omega
      subst e
      have e1 : Pl.d { p with D := p.D ++ [w.heap.size] } s.des.length = w.heap.size := by
        unfold Pl.d; rw [← h.dl]; exact Sy.getD_new _ _
      have e2 : Sy.deAt { s with des := s.des ++ [d] } s.des.length = d := by
        unfold Sy.deAt
        rw [List.getD_eq_getElem?_getD, List.getElem?_append_right (Nat.le_refl _), Nat.sub_self]; rfl
      rw [e1, e2]
      exact Blk.new w _ _
  · refine List.nodup_append.2 ⟨h.dn, List.nodup_cons.2 ⟨List.not_mem_nil, List.nodup_nil⟩, fun a ha b hb e => ?_⟩
    rw [List.mem_singleton] at hb
    have := h.c_lt (.inr (.inr (.inl ha))); omega
  · have h1 := h.el k he
    rcases hk with hk | hk | hk | hk
    · exact h.ce k (.inl hk) he
    · exact h.ce k (.inr (.inl hk)) he
    · rcases List.mem_append.1 hk with x | x
      · exact h.ce k (.inr (.inr (.inl x))) he
      · rw [List.mem_singleton] at x; omega
    · exact h.ce k (.inr (.inr (.inr hk))) he
/-- Another list of files. -/
theorem setFiles (h : SyAt w p s) (v : Value) (fs : List Nat) (hf : Fr (fun k => k = p.gs ∨ p.v.ownBlock = some k) w w') (hv : ∀ k, v.ownBlock = some k → p.v.ownBlock = some k ∨ w.heap.size ≤ k)
    (hb : ∀ cs, Blk w p.gs 85 cs → Blk w' p.gs 85 (cs.set 3 v)) (ho : w'.ownsRow 0 119 1 v fs.length (fs.map fun i => ptr (p.f i))) : SyAt w' { p with v := v } { s with files := fs } := by
  have hs : Sub w (fun k => k = p.gs ∨ p.v.ownBlock = some k) p.X := fun k _ e => .inl (e.elim (fun e => .inl e) fun e => .inr (.inr (.inr e)))
  have hx := hf.wide hs
  have hoff : ∀ {P : World → Prop}, Off p.X w P → Off (Pl.X { p with v := v }) w' P := fun {P} q => q.on hx fun k hk x => by
    rcases x with (x | x | x | x) | x
    · exact .inl (.inl x)
    · exact .inl (.inr (.inl x))
    · exact .inl (.inr (.inr (.inl x)))
    · rcases hv k x with y | y
      · exact .inl (.inr (.inr (.inr y)))
      · omega
    · exact .inr x
  refine ⟨?_, ho, h.fl, h.dl, fun i q => ?_, fun i q => h.de_fr hf q fun e => e.elim (fun e => h.gs_d q e.symm) fun e => h.v_d q e, h.fn, h.dn, fun k hk he => ?_, fun _ hk => Nat.lt_of_lt_of_le (h.el _ hk) hf.size⟩
  · obtain ⟨AU, AL, AT, cU, cL, cT, hb1, h1, h2, h3⟩ := h.box
    exact ⟨AU, AL, AT, cU, cL, cT, hb _ hb1, hoff h1, hoff h2, h3⟩
  · obtain ⟨A, c, hb, h1, h2⟩ := h.ob i q
    exact ⟨A, c, hb.fr hf fun e => e.elim (fun e => h.gs_f q e.symm) fun e => h.v_f q e, hoff h1, h2⟩
  · rcases hk with hk | hk | hk | hk
    · exact h.ce k (.inl hk) he
    · exact h.ce k (.inr (.inl hk)) he
    · exact h.ce k (.inr (.inr (.inl hk))) he
    · rcases hv k hk with y | y
      · exact h.ce k (.inr (.inr (.inr y))) he
      · have := h.el k he; omega
end SyAt
end Go.Proofs.YtjppfhgkanbemacGreatDoor

namespace Go.Proofs.YtjppfhgkanbemacGreatDoor
open Go.RowKit Go.Shelf Go.Sort

theorem Fr.setCell {X : Nat → Prop} {w w' : World} (h : Fr X w w') {p : Addr} (hp : X p.block) (u : Value) : Fr X w (w'.setCell p u) := h.trans (Fr.set w' hp u) (Sub.refl _ _)
theorem Fr.thenB {X : Nat → Prop} {w w1 w2 : World} (h : Fr X w w1) (hb : Below w1.heap.size w1 w2) : Fr X w w2 := h.trans (Fr.of (X := X) hb) (Sub.refl _ _)
theorem Fr.at_ {g : Nat} {w w' : World} (h : Fr (fun k => k = g) w w') (i : Nat) (u : Value) : Fr (fun k => k = g) w (w'.setCell ⟨g, i, none⟩ u) := Fr.setCell (X := fun k => k = g) h rfl u
theorem Blk.top {w : World} {g : Nat} {t : TypeId} {a b c d : Value} {r : List Value} (h : Blk w g t (a :: b :: c :: d :: r)) :
    w.cell? ⟨g, 0, none⟩ = some a ∧ w.cell? ⟨g, 1, none⟩ = some b ∧ w.cell? ⟨g, 2, none⟩ = some c ∧ w.cell? ⟨g, 3, none⟩ = some d ∧ (∀ i, w.frozen? ⟨g, i, none⟩ = false) ∧ g < w.heap.size :=
  ⟨h.cell 0, h.cell 1, h.cell 2, h.cell 3, h.frozen, h.lt⟩
theorem SyAt.x_lt {w : World} {p : Pl} {s : St} (h : SyAt w p s) {k : Nat} (hk : p.X k) : k < w.heap.size := hk.elim h.c_lt (h.el k)
theorem EnOwn.off {w : World} {lo : Nat} {v : Value} {l : List En} (h : EnOwn w lo v l) {X : Nat → Prop} (hx : ∀ k, X k → k < lo) : ∃ A c, v = .slice A l.length c ∧ l.length ≤ c ∧ Off X w fun w => EnRd w w.heap.size A l := own_off h hx
/-- Set at unions. -/
def SySetRel (p : Pl) (s : St) (r : Un × Int) (w : World) (e : Ending) (w' : World) : Prop :=
  e = .returned (.int .i64 (Sy.set s r).2) ∧ SyAt w' p (Sy.set s r).1 ∧ Fr (fun k => k = p.gs) w w'

set_option maxHeartbeats 2000000 in
set_option maxRecDepth 100000 in
theorem sySet_any (p : Pl) (s : St) (A A' : Option Addr) (c c' : Nat) (r : Un × Int) (w : World) (h : SyAt w p s) (hu : r.2 = 0 → Off p.X w fun w => UnRd w w.heap.size A A' c c' r.1) (hs : r.2 = 0 → UnSm r.1) :
    Calls Tryz.prog 40 #[ptr p.gs, .agg #[.slice A r.1.U.length c, .slice A' r.1.L.length c'], .int .i64 r.2] w (SySetRel p s r w) := by
  obtain ⟨u, err⟩ := r
  dsimp only at hu hs ⊢
  unfold SySetRel
  have HU := Lib.hid hu
  have HS := Lib.hid hs
  have HA := Lib.hid h
  clear hu hs
  have HR0 : Hid (err ≠ 0 → Sy.set s (u, err) = (s, err)) := Lib.hid (fun h0 => by unfold Sy.set; rw [if_pos h0])
  have HR1 : Hid (err = 0 → Sy.set s (u, err) = ({ s with u := u, T := (Tr.seenU u).1 }, (Tr.seenU u).2)) := Lib.hid (fun h0 => by unfold Sy.set; rw [if_neg (by simp [h0])])
  generalize Sy.set s (u, err) = R at *
  have hB1 := (Below.refl w.heap.size w).alloc (Nat.le_refl _) (.cells #[.slice A u.U.length c, .slice A' u.L.length c'] 26)
  have hq1 := Blk.new w 26 [.slice A u.U.length c, .slice A' u.L.length c']
  show Calls Tryz.prog 40 #[.pointer (some ⟨p.gs, 0, none⟩), .agg #[.slice A u.U.length c, .slice A' u.L.length c'], .int .i64 err] w _
  go_enter Tryz.func40, Tryz.ntmps40
  go_upto_region 1 with fail
  generalize w.alloc (.cells #[.slice A u.U.length c, .slice A' u.L.length c'] 26) = w1 at *
  rcases te : (err != 0) with _ | _
  rotate_left
  · have HR := Lib.hid (HR0.out (by simpa using te))
    go_wp2_with fail
    go_ret
    exact ⟨by rw [HR.out]; rfl, by rw [HR.out]; exact HA.out.below hB1, Fr.of hB1⟩
  have he : err = 0 := by simpa using te
  have HR := Lib.hid (HR1.out he)
  have HUO := Lib.hid (HU.out he)
  have HSM := Lib.hid (HS.out he)
  clear HR0 HR1 HU HS te
  subst he
  have cS := fun W h => seenU_any A A' c c' u W h HSM.out
  unfold SeenRel at cS
  generalize Tr.seenU u = sp at cS HR
  obtain ⟨S, se⟩ := sp
  dsimp only at cS HR
  obtain ⟨AU, AL, AT, cU, cL, cT, hbx, _, _, _⟩ := h.box
  have hg1 := hbx.below hB1 hbx.lt
  have hgs : p.gs < w.heap.size := hbx.lt
  clear h
  obtain ⟨g0, g1, g2, g3, gf, gz⟩ := hg1.top
  obtain ⟨q0, q1, qf, qz⟩ := hq1.two
  have hne : ¬ w.heap.size = p.gs := by omega
  have hne2 : ¬ p.gs = w.heap.size := by omega
  go_upto_region 4 with fail
  have hg2 : Blk ((w1.setCell ⟨p.gs, 0, none⟩ (.slice A u.U.length c)).setCell ⟨p.gs, 1, none⟩ (.slice A' u.L.length c')) p.gs 85 (.slice A u.U.length c :: .slice A' u.L.length c' :: .slice AT s.T.length cT :: p.v :: Sy.fdCells p.D s.fds) := (hg1.set_ 0 _).set_ 1 _
  have hq2 := (hq1.far (p := ⟨p.gs, 0, none⟩) hne (.slice A u.U.length c)).far (p := ⟨p.gs, 1, none⟩) hne (.slice A' u.L.length c')
  have hF2 : Fr (fun k => k = p.gs) w ((w1.setCell ⟨p.gs, 0, none⟩ (.slice A u.U.length c)).setCell ⟨p.gs, 1, none⟩ (.slice A' u.L.length c')) := ((Fr.of hB1).at_ 0 _).at_ 1 _
  clear g0 g1 g2 g3 gf gz q0 q1 qf qz hB1 hq1 hg1 hbx
  generalize (w1.setCell ⟨p.gs, 0, none⟩ (.slice A u.U.length c)).setCell ⟨p.gs, 1, none⟩ (.slice A' u.L.length c') = w2 at *
  have hsub : Sub w (fun k => k = p.gs) p.X := fun _ _ e => Pl.cx (e ▸ HA.out.gs_c)
  obtain ⟨q0, q1, qf, qz⟩ := hq2.two
  go_wp2_with fail
  clear q0 q1 qf qz
  refine (cS w2 ((HUO.out.on (hF2.wide hsub) (Sub.refl _ _)).here)).mono ?_
  rintro e w3 ⟨v3, rfl, ho3, hb⟩
  have hF3 := hF2.thenB hb
  have hg3 := hg2.below hb hg2.lt
  obtain ⟨A3, c3, rfl, hc3, hO3⟩ := EnOwn.off ho3 (X := p.X) fun k hk => Nat.lt_of_lt_of_le (HA.out.x_lt hk) hF2.size
  clear hb ho3 hg2 hq2 hF2 cS
  obtain ⟨g0, g1, g2, g3, gf, gz⟩ := hg3.top
  go_wp2_with fail
  go_ret
  have hg4 : Blk (w3.setCell ⟨p.gs, 2, none⟩ (.slice A3 S.length c3)) p.gs 85 (.slice A u.U.length c :: .slice A' u.L.length c' :: .slice A3 S.length c3 :: p.v :: Sy.fdCells p.D s.fds) := hg3.set_ 2 _
  have hF4 : Fr (fun k => k = p.gs) w (w3.setCell ⟨p.gs, 2, none⟩ (.slice A3 S.length c3)) := hF3.at_ 2 _
  refine ⟨by rw [HR.out]; rfl, ?_, hF4⟩
  rw [HR.out]
  exact HA.out.setU hF4 hg4 (HUO.out.on (hF4.wide hsub) (Sub.refl _ _)) (hO3.on (Fr.set w3 (Pl.cx HA.out.gs_c) _) (Sub.refl _ _)) hc3
end Go.Proofs.YtjppfhgkanbemacGreatDoor

namespace Go.Proofs.YtjppfhgkanbemacGreatDoor
open Go.RowKit Go.Shelf Go.Sort

theorem StrRd.nil (w : World) (B : Nat) (A : Option Addr) : StrRd w B A [] := Rd.nil
theorem StrOwn.rd {w : World} {base : Nat} {v : Value} {l : List Pt.Bs} (h : StrOwn w base v l) : ∃ A c, v = .slice A l.length c ∧ l.length ≤ c ∧ (A = none → c = 0) ∧ StrRd w w.heap.size A l := by
  unfold StrOwn at h
  rcases own_shape h with ⟨rfl, h0⟩ | ⟨g, cap, rfl, _, _, hc⟩
  · have e : l = [] := List.length_eq_zero_iff.1 h0
    subst e
    exact ⟨none, 0, rfl, Nat.le_refl _, fun _ => rfl, StrRd.nil _ _ _⟩
  · exact ⟨some ⟨g, 0, none⟩, cap, rfl, hc, (fun q => by cases q), Rd.of_own h⟩

set_option maxHeartbeats 1000000 in
theorem growS_any (n : Nat) (w : World) (hn : n ≤ 1000000) :
    Calls Tryz.prog 154 #[.slice none 0 0, .int .i64 n] w fun e w' => ∃ v, e = .returned v ∧ StrOwn w' w.heap.size v [] ∧ Below w.heap.size w w' := by
  obtain ⟨i0, hi, hz0, hz1, hz2⟩ := info_parts info_str
  go_enter Tryz.func154, Tryz.ntmps154
  have hw : IntKind.i64.wrap ((n : Int) - 0) = n := IntWalk.i64_in _ (by omega)
  have hneg : decide ((n : Int) < 0) = false := decide_eq_false (by omega)
  rcases Nat.eq_zero_or_pos n with h0 | h0
  · subst h0
    go_wp2_with fail
    go_ret
    exact ⟨_, rfl, World.ownsRow_nil _ _ _ _, Below.refl _ _⟩
  · have hpos : decide ((0 : Int) < n) = true := decide_eq_true (by omega)
    have happ := Lib.run_append_nil_zeros (P := Tryz.prog) w 39 3 39 9 i0 (.string ByteArray.empty) .i64 .i64 Tryz.underlying39 Tryz.underlying3 hi hz0 n h0 (by omega) (by omega) (by rw [hz2]; omega)
    generalize hcap : grownCap w n 0 9 = cap at happ
    have hge : n ≤ cap := by rw [← hcap]; exact grownCap_ge w n 0 9
    have hle : cap ≤ maxLen := by rw [← hcap]; exact grownCap_le_maxLen w n 0 9 (by unfold maxLen; omega)
    generalize hZ : (Builtin.zeroCells (Value.string ByteArray.empty).cells n ++ Builtin.zeroCells (Value.string ByteArray.empty).cells (cap - n)) = Z at happ
    have hZs : Z.size = cap := by rw [← hZ]; simp [size_zeroCells, Value.cells]; omega
    clear hcap hZ
    go_wp2_with (at_builtin; refine Lib.wpList_append_run _ rfl _ _ _ _ rfl _ _ rfl rfl _ _ happ ?_)
    go_ret
    refine ⟨_, rfl, ?_, ((Below.refl _ w).drew).alloc (Nat.le_refl _) _⟩
    exact ⟨rfl, .inr ⟨w.heap.size, cap, Z, rfl, Nat.le_refl _, heap_alloc_new w.drew _, Nat.zero_le _, hle, by rw [hZs, Nat.mul_one], rfl⟩⟩
/-- What is put together. -/
def catN (l m : List Pt.Bs) (k : Nat) : List Pt.Bs := if k = 0 then [] else if k = 1 then l else l ++ m

set_option maxHeartbeats 2000000 in
set_option maxRecDepth 100000 in
theorem concat_any (g : Nat) (A A' : Option Addr) (c c' : Nat) (l m : List Pt.Bs) (w : World) (hg : Blk w g 39 [.slice A l.length c, .slice A' m.length c']) (hl : StrRd w w.heap.size A l) (hm : StrRd w w.heap.size A' m) (hA : A = none → c = 0) (hA' : A' = none → c' = 0) (h1 : l.length ≤ 100000) (h2 : m.length ≤ 100000) :
    Calls Tryz.prog 124 #[.slice (some ⟨g, 0, none⟩) 2 2] w fun e w' => ∃ v, e = .returned v ∧ StrOwn w' w.heap.size v (l ++ m) ∧ Below w.heap.size w w' := by
  obtain ⟨i0, hi, hz0, hz1, hz2⟩ := info_parts info_str
  obtain ⟨g0, g1, gf, gz⟩ := hg.two
  have one : ∀ x : List Pt.Bs, ∀ u ∈ x.map Pt.str, u.oneCell' = true := fun x u hu => by
    obtain ⟨y, _, rfl⟩ := List.mem_map.1 hu; rfl
  go_enter Tryz.func124, Tryz.ntmps124
  go_wp2_with fail
  go_loopw [3, 11] (fun z i wr => Hid (w = wr) ∧ ∃ k : Nat, k ≤ 2 ∧ i = .int .i64 k ∧ z = .int .i64 (catN l m k).length) (fun _ i _ => 2 - (intOf i).toNat)
  case atStart => exact ⟨Lib.hid rfl, 0, by omega, rfl, rfl⟩
  case round =>
    obtain ⟨hh, k, hk, rfl, rfl⟩ := hrel
    obtain rfl := hh.out
    obtain h3 | h3 | h3 : k = 0 ∨ k = 1 ∨ k = 2 := by omega
    · subst h3
      have hw0 : IntKind.i64.wrap (l.length : Int) = l.length := IntWalk.i64_in _ (by omega)
      have hw1 : IntKind.i64.wrap (0 + (l.length : Int)) = l.length := by rw [Int.zero_add]; exact hw0
      have hn1 : decide ((l.length : Int) < 0) = false := decide_eq_false (by omega)
      have hc0 : (catN l m 0).length = 0 := rfl
      rw [hc0]
      go_wp2_with fail
      go_roundw
      case rel => exact ⟨by first | exact Lib.hid rfl | exact Lib.hid trivial, 1, by omega, by go_num, rfl⟩
      case measure => simp [intOf]
    · subst h3
      have hw1 : IntKind.i64.wrap ((l.length : Int) + (m.length : Int)) = (l.length + m.length : Nat) := by rw [IntWalk.i64_in ((l.length : Int) + (m.length : Int)) (by omega)]; omega
      have hn1 : decide (((l.length + m.length : Nat) : Int) < 0) = false := decide_eq_false (by omega)
      have hc1 : (catN l m 1).length = l.length := rfl
      rw [hc1]
      go_wp2_with fail
      go_roundw
      case rel => exact ⟨by first | exact Lib.hid rfl | exact Lib.hid trivial, 2, by omega, by go_num, by rw [show catN l m 2 = l ++ m from rfl, List.length_append, Int.natCast_add]⟩
      case measure => simp [intOf]
    · subst h3
      have hc2 : (catN l m 2).length = l.length + m.length := by rw [show catN l m 2 = l ++ m from rfl, List.length_append]
      rw [hc2]
      have cG := growS_any (l.length + m.length) w (by omega)
      clear hc2
      generalize l.length + m.length = nn at cG ⊢
      go_wp2_with fail
      refine cG.mono ?_
      rintro e w1 ⟨v1, rfl, ho1, hb1⟩
      have hg1 := hg.below hb1 hg.lt
      clear g0 g1 gf gz
      go_wp2_with fail
      go_loopw [6, 27] (fun v i wr => ∃ k : Nat, k ≤ 2 ∧ i = .int .i64 k ∧ StrOwn wr w.heap.size v (catN l m k) ∧ Below w.heap.size w wr) (fun _ i _ => 2 - (intOf i).toNat)
      case atStart => exact ⟨0, by omega, rfl, ho1, hb1⟩
      case round =>
        clear ho1 hb1 hg1
        obtain ⟨k, hk, rfl, ho, hb⟩ := hrel
        have hgq := hg.below hb hg.lt
        obtain ⟨g0, g1, gf, gz⟩ := hgq.two
        obtain h3 | h3 | h3 : k = 0 ∨ k = 1 ∨ k = 2 := by omega
        · subst h3
          obtain ⟨v', w', hr, hown, hgr, _⟩ := run_appR (P := Tryz.prog) wr w.heap.size 39 39 9 i0 _ 1 16 Tryz.underlying39 hi hz0 hz1 hz2 rfl (by decide) u6 _ _ ho A l.length c (l.map Pt.str) (Rd.below hl hb) hA (one l) (by unfold maxLen; show 0 + _ ≤ _; omega) (by show (0 + _) * 16 ≤ _; omega) hb.size
          go_wp2_with (at_builtin; refine Lib.wpList_append_run _ rfl _ _ _ _ rfl _ _ rfl rfl _ _ hr ?_)
          go_roundw
          case rel => exact ⟨1, by omega, by go_num, by
            have h := hown
            rw [show (catN l m 0).length + l.length = l.length from Nat.zero_add _] at h
            exact h, hb.grown hgr hb.size fun q hq => own_lo ho hq⟩
          case measure => simp [intOf]
        · subst h3
          obtain ⟨v', w', hr, hown, hgr, _⟩ := run_appR (P := Tryz.prog) wr w.heap.size 39 39 9 i0 _ 1 16 Tryz.underlying39 hi hz0 hz1 hz2 rfl (by decide) u6 _ _ ho A' m.length c' (m.map Pt.str) (Rd.below hm hb) hA' (one m) (by unfold maxLen; show l.length + _ ≤ _; omega) (by show (l.length + _) * 16 ≤ _; omega) hb.size
          go_wp2_with (at_builtin; refine Lib.wpList_append_run _ rfl _ _ _ _ rfl _ _ rfl rfl _ _ hr ?_)
          go_roundw
          case rel => exact ⟨2, by omega, by go_num, by
            show World.ownsRow _ _ _ _ _ (l ++ m).length ((l ++ m).map Pt.str)
            rw [List.length_append, List.map_append]
            exact hown, hb.grown hgr hb.size fun q hq => own_lo ho hq⟩
          case measure => simp [intOf]
        · subst h3
          go_wp2_with fail
          go_ret
          exact ⟨_, rfl, ho, hb⟩
end Go.Proofs.YtjppfhgkanbemacGreatDoor

namespace Go.Proofs.YtjppfhgkanbemacGreatDoor
open Go.RowKit Go.Shelf Go.Sort

/-- What a walk answers. -/
def WalkRel (gw : Nat) (r : Pt.Bs × Int) (w : World) (e : Ending) (w' : World) : Prop :=
  e = .returned (.tuple #[Pt.str r.1, .int .i64 r.2]) ∧ Below gw w w'
theorem ret_walk {r : Pt.Bs × Int} {s : ByteArray} {e : Int} (h : r = (s.data.toList, e)) : Ending.returned (.tuple #[.string s, .int .i64 e]) = .returned (.tuple #[Pt.str r.1, .int .i64 r.2]) := by rw [h]; rfl
theorem StrOwn.off {w : World} {lo : Nat} {v : Value} {l : List Pt.Bs} (h : StrOwn w lo v l) {X : Nat → Prop} (hx : ∀ k, X k → k < lo) : ∃ A c, v = .slice A l.length c ∧ l.length ≤ c ∧ (A = none → c = 0) ∧ Off X w fun w => StrRd w w.heap.size A l := by
  obtain ⟨A, c, e, hc, hA, _⟩ := StrOwn.rd h
  obtain ⟨A', c', e', _, ho⟩ := own_off h hx
  rw [e] at e'
  injection e' with e1 _ e3
  subst e1 e3
  exact ⟨A, c, e, hc, hA, ho⟩
theorem StrRd.drop {w : World} {B b o : Nat} {l : List Pt.Bs} (h : StrRd w B (some ⟨b, o, none⟩) l) (k : Nat) : StrRd w B (some ⟨b, o + k, none⟩) (l.drop k) := by
  refine ⟨by simp, fun hn => ?_⟩
  rw [List.length_drop] at hn
  obtain ⟨b', o', e, hb, hc⟩ := h.2 (by omega)
  cases e
  refine ⟨b, o + k, rfl, hb, fun j u hu => ?_⟩
  rw [List.map_drop] at hu
  rw [Nat.add_assoc]
  exact hc (k + j) u (by rw [← hu, List.getElem?_drop])
theorem str_at (n : Pt.Bs) : ∃ b : ByteArray, b.data.toList = n ∧ Pt.str n = .string b := ⟨⟨n.toArray⟩, rfl, rfl⟩

set_option maxHeartbeats 2000000 in
set_option maxRecDepth 100000 in
theorem walk_any (T : List En) (hT : Tr.Right false T) (hTl : T.length ≤ 1000) (gs : Nat) (AT : Option Addr) (cT : Nat) (fo : Bool) : ∀ (h : Nat), h ≤ 8 → ∀ (gw : Nat) (names : List Pt.Bs) (A : Option Addr) (c : Nat) (at0 : ByteArray) (w : World),
    Blk w gw 145 [.pointer (some ⟨gs, 0, none⟩), .int .i64 (8 - (h : Int))] → gs < gw → w.cell? ⟨gs, 2, none⟩ = some (.slice AT T.length cT) → EnRd w gw AT T → Off (fun k => k = gw) w (fun w => StrRd w w.heap.size A names) → (A = none → c = 0) → names.length ≤ c → at0.size + Sy.tot names ≤ 1000 * (9 - h) →
    Calls Tryz.prog 90 #[.pointer (some ⟨gw, 0, none⟩), .string at0, .slice A names.length c, .bool fo] w (WalkRel gw (Sy.walk T fo h names at0.data.toList) w) := by
  have HS := Lib.hid (Tr.right_sm hT)
  have HR := Lib.hid hT.2.1
  have hTx : ∀ (q : Pt.Bs) (e : En), Tr.get T q = some e → e.k = 3 → e.t.size ≤ 100 := fun q e hq hk => by
    by_cases h0 : q = []
    · subst h0; rw [Tr.get_root] at hq; injection hq with hq; subst hq; cases hk
    · exact Sy.text_le hT h0 hq
  clear hT
  intro h
  induction h using Nat.strongRecOn with
  | _ h ih =>
  intro hh gw names A c at0 w hw hgs hT2 hrT hoN hA hcl hsz
  have IH := Lib.hid ih
  have HON := Lib.hid hoN
  have HA := Lib.hid hA
  have HSZ := Lib.hid hsz
  have HCL := Lib.hid hcl
  clear hcl
  clear ih hoN hA hsz
  obtain ⟨R, hR⟩ : ∃ R, R = Sy.walk T fo h names at0.data.toList := ⟨_, rfl⟩
  have HR0 := Lib.hid hR
  rw [← hR]
  clear hR
  unfold WalkRel
  obtain ⟨z, hz⟩ : ∃ z : Int, z = 8 - (h : Int) := ⟨_, rfl⟩
  rw [← hz] at hw
  have HZ8 := Lib.hid hz
  clear hz
  have hgw := hw.lt
  have hln : names.length ≤ 9000 := by have := HSZ.out; have := Sy.tot_len names; omega
  go_enter Tryz.func90, Tryz.ntmps90
  go_wp2_with fail
  go_loopw [1, 23] (fun a i wr => ∃ (k : Nat) (s : ByteArray), k ≤ names.length ∧ i = .int .i64 k ∧ a = .string s ∧ Hid (R = Sy.walk T fo h (names.drop k) s.data.toList) ∧ Hid (s.size + Sy.tot (names.drop k) ≤ 1000 * (9 - h)) ∧ Below w.heap.size w wr) (fun _ i _ => names.length - (intOf i).toNat)
  case atStart => exact ⟨0, at0, Nat.zero_le _, rfl, rfl, HR0, HSZ, Below.refl _ _⟩
  case round =>
    clear HR0 HSZ
    obtain ⟨k, s, hk, rfl, rfl, HW, HZ, hB⟩ := hrel
    have hwr := hw.below hB hgw
    have hrr : EnRd wr wr.heap.size AT T := (Rd.below hrT (hB.mono (Nat.le_of_lt hgw))).more (Nat.le_trans (Nat.le_of_lt hgw) hB.size)
    have hg2 : wr.cell? ⟨gs, 2, none⟩ = some (.slice AT T.length cT) := (hB.cell (p := ⟨gs, 2, none⟩) (by show gs < w.heap.size; omega)).trans hT2
    by_cases hlt : k < names.length
    · have hrN : StrRd wr wr.heap.size A names := HON.out wr hB.size fun j hj _ => hB.block j hj
      obtain ⟨b, o, hAb, hbb, h0⟩ := StrRd.at_ hrN hlt
      have HD : Hid (names.drop k = names[k] :: names.drop (k + 1)) := Lib.hid (List.drop_eq_getElem_cons hlt)
      obtain ⟨rest, hrest⟩ : ∃ r, r = names.drop (k + 1) := ⟨_, rfl⟩
      have HRE : Hid (rest = [] ↔ k + 1 = names.length) := Lib.hid (by rw [hrest, List.drop_eq_nil_iff]; omega)
      have HRS := Lib.hid hrest
      rw [← hrest] at HD
      clear hrest
      obtain ⟨n, hn, hn2⟩ := str_at names[k]
      rw [hn2] at h0
      clear hn2
      rw [← hn] at HD
      clear hn
      have HW := Lib.hid (HW.out)
      have HZ := Lib.hid (HZ.out)
      rw [HD.out] at HW HZ
      have hz1 : s.size + (n.size + 1) ≤ 9000 := by
        have h1 := HZ.out
        rw [Sy.tot_cons, size_length] at h1
        omega
      obtain ⟨w0, w1, wf, wz⟩ := hwr.two
      subst hAb
      go_wp2_with fail
      clear w0 w1 wf wz
      refine (get_any AT cT T s wr hrr HS.out (by omega) (by omega)).mono ?_
      rintro e w2 ⟨r, rfl, hr, hb⟩
      have HG0 := Lib.hid (hr.2 (.inl HR.out))
      have hB2 := hB.trans (hb.mono hB.size)
      clear hb hr hB hwr hrr hg2 h0
      obtain ⟨y, hy⟩ : ∃ y, y = r.getD En.zero := ⟨_, rfl⟩
      rw [← hy]
      have HY := Lib.hid hy
      clear hy
      obtain ⟨dp, dk, dt, dop⟩ := y
      simp only [En.agg, En.cells]
      have hB3 := hB2.alloc hB2.size (.cells #[.string dp, .int .i64 dk, .string dt, .bool dop] 53)
      have hd3 := Blk.new w2 53 [.string dp, .int .i64 dk, .string dt, .bool dop]
      go_upto_region 5 with fail
      clear hB2
      generalize w2.alloc (.cells #[.string dp, .int .i64 dk, .string dt, .bool dop] 53) = w3 at *
      generalize w2.heap.size = gd at *
      rcases r with _ | d
      · have HF := Lib.hid (HW.out.trans (Sy.walk_bad (Sy.dir_none HG0.out.symm) (by decide)))
        clear HW HZ HD HG0 HY
        go_wp2_with fail
        go_ret2
        exact ⟨by rw [HF.out]; rfl, hB3.mono (Nat.le_of_lt hgw)⟩
      obtain rfl : d = ⟨dp, dk, dt, dop⟩ := HY.out.symm
      clear HY
      obtain ⟨d0, d1, d2, d3, df, dz⟩ := hd3.four
      rcases tk : (dk != 2) with _ | _
      rotate_left
      · have HF := Lib.hid (HW.out.trans (Sy.walk_bad (Sy.dir_not HG0.out.symm (by simpa using tk)) (by decide)))
        clear HW HZ HD HG0
        go_wp2_with fail
        go_ret2
        exact ⟨by rw [HF.out]; rfl, hB3.mono (Nat.le_of_lt hgw)⟩
      have HD0 := Lib.hid (Sy.dir_is HG0.out.symm (show dk = 2 by simpa using tk))
      clear HG0
      rcases tn : (n.toList == [46, 46]) with _ | _
      rotate_left
      · have HF := Lib.hid (HW.out.trans (Sy.walk_up HD0.out (by rw [Lib.toList_data] at tn; simpa using tn)))
        clear HW
        go_wp2_with fail
        refine (cut_any s _ (by omega)).mono ?_
        rintro e w4 ⟨rfl, hD⟩
        have hB4 := hB3.trans (hD.below (B := w.heap.size))
        obtain ⟨ds, hds, hds2⟩ := str_at (Pt.dirOf s.data.toList)
        obtain ⟨ns, _, hns2⟩ := str_at (Pt.nameOf s.data.toList)
        rw [hds2, hns2]
        clear hds2 hns2
        have HL := Lib.hid (Sy.dir_size s.data.toList)
        rw [← hds, size_length, size_length] at HL
        rw [← hds] at HF
        clear hds d0 d1 d2 d3 df dz hd3
        go_wp2_with fail
        go_roundw
        case rel => exact ⟨k + 1, ds, hlt, by go_num, rfl, by rw [← HRS.out]; exact HF, Lib.hid (by
          rw [← HRS.out]
          have h1 := HZ.out
          have h2 := HL.out
          rw [Sy.tot_cons] at h1
          omega), hB4⟩
        case measure => simp [intOf]; omega
      have hnd : ¬ n.data.toList = [46, 46] := by rw [Lib.toList_data] at tn; simpa using tn
      obtain ⟨nx, hnx, hnx2⟩ := str_at (Pt.join s.data.toList n.data.toList)
      have hnz : nx.size ≤ s.size + n.size + 1 := by
        have h1 := Sy.join_size s.data.toList n.data.toList
        rw [← hnx, size_length, size_length, size_length] at h1
        exact h1
      have HNX := Lib.hid hnx
      have cJ := fun W => join_any s n W (by omega) (by omega)
      rw [hnx2] at cJ
      clear hnx hnx2
      go_wp2_with fail
      refine (cJ _).mono ?_
      rintro e w3 ⟨rfl, rfl⟩
      clear cJ d0 d1 d2 d3 df dz hd3 tn tk
      have hwr := hw.below hB3 hgw
      have hrr : EnRd w3 w3.heap.size AT T := (Rd.below hrT (hB3.mono (Nat.le_of_lt hgw))).more (Nat.le_trans (Nat.le_of_lt hgw) hB3.size)
      have hg2 : w3.cell? ⟨gs, 2, none⟩ = some (.slice AT T.length cT) := (hB3.cell (p := ⟨gs, 2, none⟩) (by show gs < w.heap.size; omega)).trans hT2
      obtain ⟨w0, w1, wf, wz⟩ := hwr.two
      go_wp2_with fail
      clear w0 w1 wf wz
      refine (get_any AT cT T nx w3 hrr HS.out (by omega) (by omega)).mono ?_
      rintro e w5 ⟨r2, rfl, hr, hb⟩
      have hG := hr.2 (.inl HR.out)
      rw [HNX.out] at hG
      have hB5 := hB3.trans (hb.mono hB3.size)
      clear hb hr hB3 hwr hrr hg2
      obtain ⟨y, hy⟩ : ∃ y, y = r2.getD En.zero := ⟨_, rfl⟩
      rw [← hy]
      obtain ⟨ok, hok⟩ : ∃ b, b = r2.isSome := ⟨_, rfl⟩
      rw [← hok]
      obtain ⟨last, hlast⟩ : ∃ b, b = decide (k + 1 = names.length) := ⟨_, rfl⟩
      have HRL : Hid (rest = [] ↔ last = true) := Lib.hid (by rw [hlast, decide_eq_true_eq]; exact HRE.out)
      have tl : ((k : Int) == (names.length : Int) - 1) = last := by
        rw [hlast]
        by_cases q : k + 1 = names.length
        · rw [decide_eq_true q]; simp; omega
        · rw [decide_eq_false q]; simp; omega
      have hwl : IntKind.i64.wrap ((names.length : Int) - 1) = (names.length : Int) - 1 := IntWalk.i64_in _ (by omega)
      obtain ⟨ep, ek, et, eo⟩ := y
      obtain ⟨cnd, hcnd⟩ : ∃ b, b = (ok && ek == 3 && (fo || !last)) := ⟨_, rfl⟩
      have HN : Hid ((!ok && !last) = true → R = ([], 6)) := Lib.hid (fun hq => by
        rw [Bool.and_eq_true, Bool.not_eq_true', Bool.not_eq_true'] at hq
        refine HW.out.trans (Sy.walk_gone HD0.out hnd ?_ fun hr => ?_)
        · rw [← hG]
          cases r2 with
          | none => rfl
          | some _ => rw [hok] at hq; cases hq.1
        · have := HRL.out.1 hr; rw [this] at hq; cases hq.2)
      have HX : Hid ((!ok && !last) = false → cnd = false → R = Sy.walk T fo h rest (Pt.join s.data.toList n.data.toList)) := Lib.hid (fun hq hc => by
        cases r2 with
        | none =>
          have hok : ok = false := hok
          rw [hok] at hq
          refine HW.out.trans (Sy.walk_new HD0.out hnd hG.symm (HRL.out.2 ?_))
          simpa using hq
        | some e =>
          have hok : ok = true := hok
          have hy : (⟨ep, ek, et, eo⟩ : En) = e := hy
          subst hy
          refine HW.out.trans (Sy.walk_next HD0.out hnd hG.symm fun hq => ?_)
          rw [hcnd, hok] at hc
          have h1 : (ek == 3) = true := by have := hq.1; simpa using this
          rw [h1] at hc
          rcases hq.2 with h2 | h2
          · rw [h2] at hc; cases hc
          · have h3 : last = false := by
              cases last with
              | false => rfl
              | true => exact absurd (HRL.out.2 rfl) h2
            rw [h3] at hc; simp at hc)
      have HK : Hid (cnd = true → et.size ≤ 100 ∧ R = Sy.linkN T fo h et rest s.data.toList) := Lib.hid (fun hc => by
        rw [hcnd, Bool.and_eq_true, Bool.and_eq_true] at hc
        cases r2 with
        | none => have hok : ok = false := hok; rw [hok] at hc; cases hc.1.1
        | some e =>
          have hy : (⟨ep, ek, et, eo⟩ : En) = e := hy
          subst hy
          have h3 : ek = 3 := by simpa using hc.1.2
          refine ⟨?_, HW.out.trans (Sy.walk_link HD0.out hnd hG.symm ⟨h3, ?_⟩)⟩
          · exact hTx _ _ hG.symm h3
          · rcases Bool.or_eq_true_iff.1 hc.2 with h4 | h4
            · exact .inl h4
            · refine .inr fun h5 => ?_
              rw [HRL.out.1 h5] at h4; cases h4)
      have HRE2 := Lib.hid HRE.out.2
      clear hy hok hlast hG HW HD0 hnd HRE
      have hlz := HZ.out
      simp only [En.agg, En.cells]
      have hB6 := hB5.alloc hB5.size (.cells #[.string ep, .int .i64 ek, .string et, .bool eo] 53)
      have he6 := Blk.new w5 53 [.string ep, .int .i64 ek, .string et, .bool eo]
      go_upto_region 14 with fail
      have hge : w.heap.size ≤ w5.heap.size := hB5.size
      clear hB5
      generalize w5.alloc (.cells #[.string ep, .int .i64 ek, .string et, .bool eo] 53) = w6 at *
      generalize w5.heap.size = ge at *
      go_cut [77] (fun v wx => v = .bool (!ok && !last) ∧ w6 = wx)
      case first =>
        cases ok <;> cases last <;> (go_wp2_with fail; go_meet; case rel => exact ⟨rfl, rfl⟩)
      case rest =>
      obtain ⟨rfl, rfl⟩ := hcut
      rcases tb : (!ok && !last) with _ | _
      rotate_left
      · have HF := Lib.hid (HN.out tb)
        clear HN HX HK HZ HD HRL tl hcnd
        go_wp2_with fail
        go_ret2
        exact ⟨by rw [HF.out]; rfl, hB6.mono (Nat.le_of_lt hgw)⟩
      have HX := Lib.hid (HX.out tb)
      clear HN tl
      obtain ⟨e0, e1, e2, e3, ef, ez⟩ := he6.four
      go_upto_region 16 with fail
      go_cut [90] (fun v wx => v = .bool cnd ∧ w6 = wx)
      case first =>
        clear HX HK HRL
        rcases tk : (ek == 3) with _ | _ <;> cases ok <;> cases fo <;> cases last
        all_goals first | (exact absurd tb (by decide)) | (go_wp2_with fail; go_meet; exact ⟨by rw [hcnd, tk]; rfl, rfl⟩)
      case rest =>
      obtain ⟨rfl, rfl⟩ := hcut
      clear hcnd tb
      cases cnd
      · have HF := Lib.hid (HX.out rfl)
        clear HX HK e0 e1 e2 e3 ef ez
        go_wp2_with fail
        go_roundw
        case rel => exact ⟨k + 1, nx, hlt, by go_num, rfl, by rw [← HRS.out, HNX.out]; exact HF, Lib.hid (by
          rw [← HRS.out]
          rw [Sy.tot_cons, size_length] at hlz
          omega), hB6⟩
        case measure => simp [intOf]; omega
      · obtain ⟨het, hF⟩ := HK.out rfl
        have HF := Lib.hid hF
        clear hF HX HK
        have hw6 := hw.below hB6 hgw
        obtain ⟨w0, w1, wf, wz⟩ := hw6.two
        have hwz : IntKind.i64.wrap (z + 1) = z + 1 := IntWalk.i64_in _ (by have := HZ8.out; omega)
        have hn1 : ¬ gw = ge := by omega
        have hn2 : ¬ ge = gw := by omega
        have hB7 : Below gw w (w6.setCell ⟨gw, 1, none⟩ (.int .i64 (z + 1))) := (hB6.mono (Nat.le_of_lt hgw)).setCell (p := ⟨gw, 1, none⟩) (Nat.le_refl _) _
        have hw7 : Blk (w6.setCell ⟨gw, 1, none⟩ (.int .i64 (z + 1))) gw 145 [.pointer (some ⟨gs, 0, none⟩), .int .i64 (z + 1)] := hw6.set_ 1 _
        have he7 := he6.far (p := ⟨gw, 1, none⟩) hn2 (.int .i64 (z + 1))
        have hN7 : Off (fun k => k = gw) (w6.setCell ⟨gw, 1, none⟩ (.int .i64 (z + 1))) (fun w => StrRd w w.heap.size (some ⟨b, o, none⟩) names) := HON.out.on (((Fr.of (X := fun k => k = gw) hB6)).at_ 1 _) (Sub.refl _ _)
        go_upto_region 18 with fail
        clear e0 e1 e2 e3 ef ez w0 w1 wf wz hw6 he6
        generalize w6.setCell ⟨gw, 1, none⟩ (.int .i64 (z + 1)) = w7 at *
        obtain ⟨e0, e1, e2, e3, ef, ez⟩ := he7.four
        obtain ⟨w0, w1, wf, wz⟩ := hw7.two
        rcases h with _ | h
        · have t8 : decide ((8 : Int) < z + 1) = true := decide_eq_true (by have := HZ8.out; omega)
          go_wp2_with fail
          go_ret2
          exact ⟨by rw [HF.out]; rfl, hB7⟩
        have t8 : decide ((8 : Int) < z + 1) = false := decide_eq_false (by have := HZ8.out; omega)
        have cP := fun W => parse_any et W (by omega)
        unfold Parsed at cP
        have HTP := Lib.hid (Sy.tot_parse et.data.toList)
        have HLB : Hid ((Pt.parse et.data.toList).2 ≠ 0 → R = ([], (Pt.parse et.data.toList).2)) := Lib.hid (fun hx => HF.out.trans (Sy.link_bad rfl hx))
        have HLG : Hid ((Pt.parse et.data.toList).2 = 0 → R = Sy.walk T fo h ((Pt.parse et.data.toList).1 ++ rest) (if Sy.slash et then [] else s.data.toList)) := Lib.hid (fun hp => HF.out.trans (Sy.link_good hp))
        generalize Pt.parse et.data.toList = pp at cP HTP HLB HLG
        obtain ⟨nl, pe⟩ := pp
        dsimp only at cP HTP HLB HLG
        clear HF
        go_wp2_with fail
        clear w0 w1 wf wz e0 e1 e2 e3 ef ez
        refine (cP w7).mono ?_
        rintro e w8 ⟨v8, rfl, ho8, hb⟩
        have hB8 := hB7.trans (hb.mono (Nat.le_of_lt hw7.lt))
        have hw8 := hw7.below hb hw7.lt
        have he8 := he7.below hb he7.lt
        have hN8 := hN7.on (Fr.of (X := fun k => k = gw) hb) (Sub.refl _ _)
        obtain ⟨A8, c8, rfl, hc8, hA8, hO8⟩ := StrOwn.off ho8 (X := fun k => k = gw) (fun q hq => hq ▸ hw7.lt)
        have hnl : nl.length ≤ 81 := Nat.le_trans (Sy.tot_len nl) HTP.out
        clear hb ho8 hB7 hw7 he7 hN7 cP
        rcases tp : (pe != 0) with _ | _
        rotate_left
        · have HF := Lib.hid (HLB.out (by simpa using tp))
          go_wp2_with fail
          go_ret2
          exact ⟨by rw [HF.out]; rfl, hB8⟩
        have HF := Lib.hid (HLG.out (by simpa using tp))
        clear HLB HLG
        obtain rfl : pe = 0 := by simpa using tp
        clear tp
        have cH := fun W => hasPrefix_any et ⟨#[47]⟩ W
        rw [show Lib.hasPrefix et.data.toList (⟨#[47]⟩ : ByteArray).data.toList = Sy.slash et from rfl] at cH
        obtain ⟨e0, e1, e2, e3, ef, ez⟩ := he8.four
        go_wp2_with fail
        refine (cH w8).mono ?_
        rintro e w8 ⟨rfl, rfl⟩
        obtain ⟨fr, hfr⟩ : ∃ fr : ByteArray, fr = bif Sy.slash et then ⟨#[]⟩ else s := ⟨_, rfl⟩
        have hf1 : (if Sy.slash et then [] else s.data.toList) = fr.data.toList := by rw [hfr]; cases Sy.slash et <;> rfl
        have hf2 : fr.size ≤ s.size := by rw [hfr]; cases Sy.slash et; exact Nat.le_refl _; exact Nat.zero_le _
        rw [hf1] at HF
        clear hf1 cH
        go_upto_if 115 with fail
        go_cut [20] (fun v wx => v = .string fr ∧ w8 = wx)
        case first =>
          rcases tsl : Sy.slash et with _ | _
          · rw [tsl] at hfr
            go_wp2_with fail
            go_meet
            case rel => exact ⟨by rw [hfr]; rfl, rfl⟩
          · rw [tsl] at hfr
            go_wp2_with fail
            go_meet
            case rel => exact ⟨by rw [hfr]; rfl, rfl⟩
        case rest =>
        obtain ⟨rfl, rfl⟩ := hcut
        clear hfr e0 e1 e2 e3 ef ez
        obtain ⟨w0, w1, wf, wz⟩ := hw8.two
        have hwk : IntKind.i64.wrap ((k : Int) + 1) = (k : Int) + 1 := IntWalk.i64_in _ (by omega)
        have hcl : names.length ≤ c := HCL.out
        have hrl : names.length - (k + 1) = rest.length := by rw [HRS.out, List.length_drop]
        have hrle : rest.length ≤ names.length := by omega
        have hzz : z + 1 = 8 - (h : Int) := by have := HZ8.out; omega
        obtain ⟨xs, hxs⟩ : ∃ xs, xs = nl ++ rest := ⟨_, rfl⟩
        have HXS := Lib.hid hxs
        rw [← hxs] at HF
        have HZZ := Lib.hid hzz
        clear hzz
        have hsz9 : fr.size + Sy.tot xs ≤ 1000 * (9 - h) := by
          have h1 := HTP.out
          rw [Sy.tot_cons] at hlz
          rw [hxs, Sy.tot_app]
          omega
        clear hxs
        by_cases hck : c = k + 1
        · go_wp2_with fail
          have hm9 : StrRd (w8.alloc (.cells #[.slice A8 nl.length c8, .slice (some ⟨b, o, none⟩) rest.length 0] 39)) (w8.alloc (.cells #[.slice A8 nl.length c8, .slice (some ⟨b, o, none⟩) rest.length 0] 39)).heap.size (some ⟨b, o, none⟩) rest := by
            have hr0 : rest = [] := HRE2.out (by omega)
            rw [hr0]; exact StrRd.nil _ _ _
          have hB9 := hB8.alloc (Nat.le_of_lt hw8.lt) (.cells #[.slice A8 nl.length c8, .slice (some ⟨b, o, none⟩) rest.length 0] 39)
          have hw9 := hw8.alloc (.cells #[.slice A8 nl.length c8, .slice (some ⟨b, o, none⟩) rest.length 0] 39)
          have hO9 := hO8.on (Fr.alloc (fun k => k = gw) w8 (.cells #[.slice A8 nl.length c8, .slice (some ⟨b, o, none⟩) rest.length 0] 39)) (Sub.refl _ _)
          have hk9 := Blk.new w8 39 [.slice A8 nl.length c8, .slice (some ⟨b, o, none⟩) rest.length 0]
          clear hw8 hO8 hN8 hB8
          generalize w8.alloc (.cells #[.slice A8 nl.length c8, .slice (some ⟨b, o, none⟩) rest.length 0] 39) = w9 at *
          have cC := (concat_any w8.heap.size A8 (some ⟨b, o, none⟩) c8 0 nl rest w9 hk9 hO9.here hm9 hA8 (fun q => by cases q) (by omega) (by omega))
          rw [← HXS.out] at cC
          clear hrl hck
          refine cC.mono ?_
          rintro e w10 ⟨v10, rfl, ho10, hb⟩
          have hB10 := hB9.trans (hb.mono (Nat.le_of_lt hw9.lt))
          have hw10 := hw9.below hb hw9.lt
          rw [HZZ.out] at hw10
          obtain ⟨A10, c10, rfl, hc10, hA10, hO10⟩ := StrOwn.off ho10 (X := fun k => k = gw) (fun q hq => hq ▸ hw9.lt)
          clear hb ho10 hB9 hw9 hm9 hO9 hk9
          have cI := IH.out h (by omega) (by omega) gw xs A10 c10 fr w10 hw10 hgs ((hB10.cell (p := ⟨gs, 2, none⟩) hgs).trans hT2) (Rd.below hrT hB10) hO10 hA10 hc10 hsz9
          rw [← HF.out] at cI
          obtain ⟨rs, _, hrs⟩ := str_at R.1
          unfold WalkRel at cI
          rw [hrs] at cI
          go_wp2_with fail
          refine cI.mono ?_
          rintro e w11 ⟨rfl, hb⟩
          go_wp2_with fail
          go_ret2
          exact ⟨by rw [hrs]; rfl, hB10.trans hb⟩
        · go_wp2_with fail
          have hm9 : StrRd (w8.alloc (.cells #[.slice A8 nl.length c8, .slice (some ⟨b, o + (k + 1), none⟩) rest.length (c - (k + 1))] 39)) (w8.alloc (.cells #[.slice A8 nl.length c8, .slice (some ⟨b, o + (k + 1), none⟩) rest.length (c - (k + 1))] 39)).heap.size (some ⟨b, o + (k + 1), none⟩) rest := by
            rw [HRS.out]
            exact StrRd.drop (hN8.on (Fr.alloc (fun k => k = gw) w8 _) (Sub.refl _ _)).here (k + 1)
          have hB9 := hB8.alloc (Nat.le_of_lt hw8.lt) (.cells #[.slice A8 nl.length c8, .slice (some ⟨b, o + (k + 1), none⟩) rest.length (c - (k + 1))] 39)
          have hw9 := hw8.alloc (.cells #[.slice A8 nl.length c8, .slice (some ⟨b, o + (k + 1), none⟩) rest.length (c - (k + 1))] 39)
          have hO9 := hO8.on (Fr.alloc (fun k => k = gw) w8 (.cells #[.slice A8 nl.length c8, .slice (some ⟨b, o + (k + 1), none⟩) rest.length (c - (k + 1))] 39)) (Sub.refl _ _)
          have hk9 := Blk.new w8 39 [.slice A8 nl.length c8, .slice (some ⟨b, o + (k + 1), none⟩) rest.length (c - (k + 1))]
          clear hw8 hO8 hN8 hB8
          generalize w8.alloc (.cells #[.slice A8 nl.length c8, .slice (some ⟨b, o + (k + 1), none⟩) rest.length (c - (k + 1))] 39) = w9 at *
          have cC := (concat_any w8.heap.size A8 (some ⟨b, o + (k + 1), none⟩) c8 (c - (k + 1)) nl rest w9 hk9 hO9.here hm9 hA8 (fun q => by cases q) (by omega) (by omega))
          rw [← HXS.out] at cC
          clear hrl hck
          refine cC.mono ?_
          rintro e w10 ⟨v10, rfl, ho10, hb⟩
          have hB10 := hB9.trans (hb.mono (Nat.le_of_lt hw9.lt))
          have hw10 := hw9.below hb hw9.lt
          rw [HZZ.out] at hw10
          obtain ⟨A10, c10, rfl, hc10, hA10, hO10⟩ := StrOwn.off ho10 (X := fun k => k = gw) (fun q hq => hq ▸ hw9.lt)
          clear hb ho10 hB9 hw9 hm9 hO9 hk9
          have cI := IH.out h (by omega) (by omega) gw xs A10 c10 fr w10 hw10 hgs ((hB10.cell (p := ⟨gs, 2, none⟩) hgs).trans hT2) (Rd.below hrT hB10) hO10 hA10 hc10 hsz9
          rw [← HF.out] at cI
          obtain ⟨rs, _, hrs⟩ := str_at R.1
          unfold WalkRel at cI
          rw [hrs] at cI
          go_wp2_with fail
          refine cI.mono ?_
          rintro e w11 ⟨rfl, hb⟩
          go_wp2_with fail
          go_ret2
          exact ⟨by rw [hrs]; rfl, hB10.trans hb⟩
    · obtain rfl : k = names.length := by omega
      have HF := Lib.hid (HW.out)
      rw [List.drop_length, Sy.walk_end] at HF
      clear HW HZ
      go_wp2_with fail
      go_ret2
      exact ⟨by rw [HF.out]; rfl, hB.mono (Nat.le_of_lt hgw)⟩
end Go.Proofs.YtjppfhgkanbemacGreatDoor

namespace Go.Proofs.YtjppfhgkanbemacGreatDoor
open Go.RowKit Go.Shelf Go.Sort

theorem Blk.three {w : World} {g : Nat} {t : TypeId} {a b c : Value} (h : Blk w g t [a, b, c]) : w.cell? ⟨g, 0, none⟩ = some a ∧ w.cell? ⟨g, 1, none⟩ = some b ∧ w.cell? ⟨g, 2, none⟩ = some c ∧ (∀ i, w.frozen? ⟨g, i, none⟩ = false) ∧ g < w.heap.size := ⟨h.cell 0, h.cell 1, h.cell 2, h.frozen, h.lt⟩
theorem Sy.Ok.tl {s : St} (h : Sy.Ok s) : s.T.length ≤ 80 := by
  have h1 := (Tr.parts (u := s.u) (by rw [h.2])).sl
  rw [h.2] at h1
  exact h1
/-- What stands in the box of what is seen. -/
theorem SyAt.seen {w : World} {p : Pl} {s : St} (h : SyAt w p s) : ∃ AT cT, w.cell? ⟨p.gs, 2, none⟩ = some (.slice AT s.T.length cT) ∧ EnRd w w.heap.size AT s.T ∧ s.T.length ≤ cT ∧ p.gs < w.heap.size := by
  obtain ⟨AU, AL, AT, cU, cL, cT, hb, _, h2, h3⟩ := h.box
  exact ⟨AT, cT, hb.cell 2, h2.here, h3, hb.lt⟩
/-- What Find answers. -/
def FindSy (r : Pt.Bs × Int) (w : World) (e : Ending) (w' : World) : Prop := e = .returned (.tuple #[Pt.str r.1, .int .i64 r.2]) ∧ Below w.heap.size w w'

set_option maxHeartbeats 2000000 in
set_option maxRecDepth 100000 in
theorem syFind_any (p : Pl) (s : St) (pa : ByteArray) (fo : Bool) (w : World) (h : SyAt w p s) (hk : Sy.Ok s) (hp : pa.size ≤ 140737488355328) :
    Calls Tryz.prog 68 #[.pointer (some ⟨p.gs, 0, none⟩), .string pa, .bool fo] w (FindSy (Sy.find s.T pa.data.toList fo) w) := by
  have HK := Lib.hid hk
  have HA := Lib.hid h
  have cP := parse_any pa w hp
  unfold Parsed at cP
  unfold FindSy
  clear h hk
  have HTP := Lib.hid (Sy.tot_parse pa.data.toList)
  obtain ⟨R, hR⟩ : ∃ R, R = Sy.find s.T pa.data.toList fo := ⟨_, rfl⟩
  rw [← hR]
  unfold Sy.find at hR
  have HR := Lib.hid hR
  clear hR
  generalize Pt.parse pa.data.toList = pp at cP HTP HR
  obtain ⟨nl, pe⟩ := pp
  dsimp only at cP HTP HR
  go_enter Tryz.func68, Tryz.ntmps68
  go_wp2_with fail
  refine cP.mono ?_
  rintro e w1 ⟨v1, rfl, ho1, hB1⟩
  have hA1 := HA.out.below hB1
  rcases tp : (pe != 0) with _ | _
  rotate_left
  · have hpe : pe ≠ 0 := by simpa using tp
    have HF : Hid (R = ([], pe)) := Lib.hid (by rw [HR.out, if_pos hpe])
    clear HR cP
    go_wp2_with fail
    go_ret2
    exact ⟨by rw [HF.out]; rfl, hB1⟩
  obtain rfl : pe = 0 := by simpa using tp
  have HR := Lib.hid (HR.out.trans (if_neg (by decide)))
  clear tp cP
  have hnl : nl.length ≤ 81 := Nat.le_trans (Sy.tot_len nl) HTP.out
  obtain ⟨AT, cT, g2, hrT, hcT, hgs⟩ := hA1.seen
  have hB2 := hB1.alloc hB1.size (.cells #[.pointer (some ⟨p.gs, 0, none⟩), .int .i64 0] 145)
  have hw2 : Blk (w1.alloc (.cells #[.pointer (some ⟨p.gs, 0, none⟩), .int .i64 0] 145)) w1.heap.size 145 [.pointer (some ⟨p.gs, 0, none⟩), .int .i64 (8 - ((8 : Nat) : Int))] := Blk.new w1 145 [.pointer (some ⟨p.gs, 0, none⟩), .int .i64 0]
  have hb2 : Below w1.heap.size w1 (w1.alloc (.cells #[.pointer (some ⟨p.gs, 0, none⟩), .int .i64 0] 145)) := (Below.refl _ w1).alloc (Nat.le_refl _) _
  obtain ⟨A1, c1, rfl, hc1, hA0, hO1⟩ := StrOwn.off ho1 (X := fun k => k = w1.heap.size ∧ k < w.heap.size) (fun q hq => hq.2)
  have hO2 : Off (fun k => k = w1.heap.size) (w1.alloc (.cells #[.pointer (some ⟨p.gs, 0, none⟩), .int .i64 0] 145)) (fun w => StrRd w w.heap.size A1 nl) := fun w' a b => hO1 w' (Nat.le_trans hb2.size a) fun k hk _ => (b k (Nat.lt_of_lt_of_le hk hb2.size) (by show ¬ k = w1.heap.size; omega)).trans (hb2.block k hk)
  have cW := walk_any s.T (HK.out.right) (by have := HK.out.tl; omega) p.gs AT cT fo 8 (Nat.le_refl _) w1.heap.size nl A1 c1 ⟨#[]⟩ _ hw2 hgs ((hb2.cell (p := ⟨p.gs, 2, none⟩) hgs).trans g2) (Rd.below hrT hb2) hO2 hA0 hc1 (by have := HTP.out; show 0 + _ ≤ _; omega)
  unfold WalkRel at cW
  rw [show (⟨#[]⟩ : ByteArray).data.toList = [] from rfl] at cW
  generalize Sy.walk s.T fo 8 nl [] = r at cW HR
  obtain ⟨ra, re⟩ := r
  dsimp only at cW HR
  obtain ⟨rs, hrs1, hrs⟩ := str_at ra
  rw [hrs] at cW
  have HL : Hid (rs.size = ra.length) := Lib.hid (by rw [← hrs1, size_length])
  clear g2 hrT hO1 hO2 hw2
  go_wp2_with fail
  refine cW.mono ?_
  rintro e w3 ⟨rfl, hb3⟩
  have hB3 := hB1.trans ((hb2.trans hb3).mono hB1.size)
  clear hB2 hb2 hb3 cW
  rcases tr : (re == 0) with _ | _
  · have HF : Hid (R = (ra, re)) := Lib.hid (by rw [HR.out, if_neg (fun q => by have h1 := q.1; rw [h1] at tr; cases tr)])
    go_wp2_with fail
    go_ret2
    exact ⟨by rw [HF.out, hrs]; rfl, hB3⟩
  · obtain rfl : re = 0 := by simpa using tr
    rcases tl : decide ((80 : Int) < (rs.size : Int)) with _ | _
    · have HF : Hid (R = (ra, 0)) := Lib.hid (by
        rw [HR.out, if_neg (fun q => by
          have h1 := q.2
          rw [← HL.out] at h1
          have h2 := of_decide_eq_false tl
          omega)])
      go_wp2_with fail
      go_ret2
      exact ⟨by rw [HF.out, hrs]; rfl, hB3⟩
    · have HF : Hid (R = ([], 4)) := Lib.hid (by
        rw [HR.out, if_pos ⟨rfl, by
          rw [← HL.out]
          have h2 := of_decide_eq_true tl
          omega⟩])
      go_wp2_with fail
      go_ret2
      exact ⟨by rw [HF.out]; rfl, hB3⟩
end Go.Proofs.YtjppfhgkanbemacGreatDoor

namespace Go.Proofs.YtjppfhgkanbemacGreatDoor
open Go.RowKit Go.Shelf Go.Sort

abbrev Pl.plus (p : Pl) (g : Nat) : Pl := { p with e := fun k => p.e k ∨ k = g }
/-- What a call answers: the answer; all lies anew. -/
def SyAns (p : Pl) (r : St × An) (w : World) (e : Ending) (w' : World) : Prop :=
  ∃ p' v, e = .returned (.agg #[.int .i64 r.2.err, .int .i64 r.2.n, .string r.2.text, v]) ∧ (∃ A c, v = .slice A r.2.names.length c ∧ Off p'.X w' fun w => StrRd w w.heap.size A r.2.names) ∧ SyAt w' p' r.1 ∧ p'.gs = p.gs ∧ p'.e = p.e ∧ Fr p.C w w' ∧ Sub w p'.C p.C
theorem SyAt.plus {w : World} {p : Pl} {s : St} (h : SyAt w p s) (o : Obj) : SyAt (w.alloc o) (p.plus w.heap.size) s :=
  h.push ((Below.refl _ w).alloc (Nat.le_refl _) o) (fun k => k = w.heap.size) fun k hk => ⟨Nat.le_of_eq hk.symm, by rw [hk, World.size_alloc]; omega⟩
theorem Fr.off {X : Nat → Prop} {w w' : World} (h : Fr X w w') {p : Addr} (hp : w.heap.size ≤ p.block) (u : Value) : Fr X w (w'.setCell p u) :=
  h.trans (Y := fun k => k = p.block) (Fr.set (X := fun k => k = p.block) w' rfl u) fun k hk e => by have e : k = p.block := e; omega
theorem SyAt.late {w : World} {p : Pl} {s : St} {g : Nat} (h : SyAt w (p.plus g) s) (i : Nat) (u : Value) : SyAt (w.setCell ⟨g, i, none⟩ u) (p.plus g) s :=
  h.fr (Y := fun k => k = g) (Fr.set (X := fun k => k = g) w rfl u) fun _ _ e => .inr e
theorem ans_end {p p' : Pl} {s' : St} {a : An} {w wk : World} {ga : Nat} (hga : w.heap.size ≤ ga) (hA : SyAt wk (p'.plus ga) s') (he : p'.e = p.e) (hgs : p'.gs = p.gs) (hF : Fr p.C w wk) (hS : Sub w p'.C p.C) (hn : a.names = []) :
    SyAns p (s', a) w (.returned (.agg #[.int .i64 a.err, .int .i64 a.n, .string a.text, .slice none 0 0])) ((((wk.setCell ⟨ga, 0, none⟩ (.int .i64 a.err)).setCell ⟨ga, 1, none⟩ (.int .i64 a.n)).setCell ⟨ga, 2, none⟩ (.string a.text)).setCell ⟨ga, 3, none⟩ (.slice none 0 0)) := by
  have h1 := (((hA.late 0 (.int .i64 a.err)).late 1 (.int .i64 a.n)).late 2 (.string a.text)).late 3 (.slice none 0 0)
  exact ⟨p', _, rfl, ⟨none, 0, by rw [hn]; rfl, by rw [hn]; exact Off.always fun _ => Rd.nil⟩, h1.pop p'.e fun _ q => .inl q, hgs, he,
    (((hF.off (p := ⟨ga, 0, none⟩) hga _).off (p := ⟨ga, 1, none⟩) hga _).off (p := ⟨ga, 2, none⟩) hga _).off (p := ⟨ga, 3, none⟩) hga _, hS⟩
theorem Blk.frC {p : Pl} {s : St} {w w' : World} {g : Nat} {t : TypeId} {cs : List Value} (h : Blk w g t cs) (hA : SyAt w (p.plus g) s) (hf : Fr p.C w w') : Blk w' g t cs := h.fr hf fun hc => hA.ce g hc (.inr rfl)
/-- The bits of what a file is opened for. -/
theorem bit_tab : ∀ m : Fin 64, ∀ k : Fin 6, (bits .and .i64 ((m.1 : Nat) : Int) ((2 ^ k.1 : Nat) : Int) == 0) = !Sy.bit ((m.1 : Nat) : Int) k.1 := by decide +kernel
theorem bit_is {n : Int} (h0 : 0 ≤ n) (h1 : n ≤ 63) (k : Fin 6) : (bits .and .i64 n ((2 ^ k.1 : Nat) : Int) == 0) = !Sy.bit n k.1 := by
  obtain ⟨m, rfl⟩ : ∃ m : Nat, n = m := ⟨n.toNat, by omega⟩
  exact bit_tab ⟨m, by omega⟩ k
theorem bit_ne {n : Int} (h0 : 0 ≤ n) (h1 : n ≤ 63) (k : Fin 6) : (bits .and .i64 n ((2 ^ k.1 : Nat) : Int) != 0) = Sy.bit n k.1 := by
  show (!(bits .and .i64 n ((2 ^ k.1 : Nat) : Int) == 0)) = _
  rw [bit_is h0 h1 k, Bool.not_not]
end Go.Proofs.YtjppfhgkanbemacGreatDoor

namespace Go.Proofs.YtjppfhgkanbemacGreatDoor
open Go.RowKit Go.Shelf Go.Sort

theorem Off.less {X Y : Nat → Prop} {w : World} {P : World → Prop} (h : Off X w P) (hs : ∀ k, Y k → X k) : Off Y w P := fun w2 a b => h w2 a fun k hk hn => b k hk fun y => hn (hs k y)
/-- The four cells of an answer's box written. -/
def ansSet (w : World) (ga : Nat) (e n : Int) (t : ByteArray) (v : Value) : World := (((w.setCell ⟨ga, 0, none⟩ (.int .i64 e)).setCell ⟨ga, 1, none⟩ (.int .i64 n)).setCell ⟨ga, 2, none⟩ (.string t)).setCell ⟨ga, 3, none⟩ v
theorem ans_pass {p : Pl} {r : St × An} {w w1 w2 : World} {ga : Nat} {e : Ending} (hga : w.heap.size ≤ ga) (hF : Fr p.C w w1) (h : SyAns (p.plus ga) r w1 e w2) :
    ∃ A c, e = .returned (.agg #[.int .i64 r.2.err, .int .i64 r.2.n, .string r.2.text, .slice A r.2.names.length c]) ∧ Fr p.C w1 w2 ∧
      SyAns p r w (.returned (.agg #[.int .i64 r.2.err, .int .i64 r.2.n, .string r.2.text, .slice A r.2.names.length c])) (ansSet w2 ga r.2.err r.2.n r.2.text (.slice A r.2.names.length c)) := by
  obtain ⟨p', v, he, ⟨A, c, hv, hO⟩, hA, hgs, hpe, hf, hs⟩ := h
  subst hv
  have hp' : p' = ({ p' with e := p.e } : Pl).plus ga := by
    obtain ⟨a, b, c, d, e'⟩ := p'
    dsimp only at hpe
    subst hpe
    rfl
  have hA2 : SyAt w2 (({ p' with e := p.e } : Pl).plus ga) r.1 := hp' ▸ hA
  have h1 := (((hA2.late 0 (.int .i64 r.2.err)).late 1 (.int .i64 r.2.n)).late 2 (.string r.2.text)).late 3 (.slice A r.2.names.length c)
  have hf1 : Fr (fun k => k = ga) w2 (ansSet w2 ga r.2.err r.2.n r.2.text (.slice A r.2.names.length c)) := ((((Fr.refl (fun k => k = ga) w2).at_ 0 _).at_ 1 _).at_ 2 _).at_ 3 _
  have hF3 : Fr p.C w w2 := hF.trans hf (Sub.refl _ _)
  refine ⟨A, c, he, hf, { p' with e := p.e }, _, rfl, ⟨A, c, rfl, ?_⟩, h1.pop p.e fun _ q => .inl q, hgs, rfl, ?_, fun k hk q => ?_⟩
  · refine ((hO.on (Y := p'.X) (hf1.wide fun k hk q => ?_) (Sub.refl _ _))).less fun k q => ?_
    · rw [hp']; exact .inr (.inr q)
    · rw [hp']; exact q.imp_right .inl
  · exact (((hF3.off (p := ⟨ga, 0, none⟩) hga _).off (p := ⟨ga, 1, none⟩) hga _).off (p := ⟨ga, 2, none⟩) hga _).off (p := ⟨ga, 3, none⟩) hga _
  · exact hs k (Nat.lt_of_lt_of_le hk hF.size) q
theorem ans_endN {p p' : Pl} {s' : St} {a : An} {v : Value} {w wk : World} {ga : Nat} (hga : w.heap.size ≤ ga) (hA : SyAt wk (p'.plus ga) s') (he : p'.e = p.e) (hgs : p'.gs = p.gs) (hF : Fr p.C w wk) (hS : Sub w p'.C p.C) (hv : ∃ A c, v = .slice A a.names.length c ∧ Off (p'.plus ga).X wk fun w => StrRd w w.heap.size A a.names) :
    SyAns p (s', a) w (.returned (.agg #[.int .i64 a.err, .int .i64 a.n, .string a.text, v])) (ansSet wk ga a.err a.n a.text v) := by
  have h1 := (((hA.late 0 (.int .i64 a.err)).late 1 (.int .i64 a.n)).late 2 (.string a.text)).late 3 v
  obtain ⟨A, c, hv1, hO⟩ := hv
  have hf1 : Fr (fun k => k = ga) wk (ansSet wk ga a.err a.n a.text v) := ((((Fr.refl (fun k => k = ga) wk).at_ 0 _).at_ 1 _).at_ 2 _).at_ 3 _
  refine ⟨p', v, rfl, ⟨A, c, hv1, ?_⟩, h1.pop p'.e fun _ q => .inl q, hgs, he, ?_, hS⟩
  · exact ((hO.on (Y := (p'.plus ga).X) (hf1.wide fun k hk q => .inr (.inr q)) (Sub.refl _ _))).less fun k q => q.imp_right .inl
  · exact (((hF.off (p := ⟨ga, 0, none⟩) hga _).off (p := ⟨ga, 1, none⟩) hga _).off (p := ⟨ga, 2, none⟩) hga _).off (p := ⟨ga, 3, none⟩) hga _
theorem str_bytes (l : Pt.Bs) : Pt.str l = .string (Sy.bytesOf l) := rfl
theorem data_bytes (l : Pt.Bs) : (Sy.bytesOf l).data.toList = l := rfl
theorem CaAt.lt {w : World} {b o : Nat} {c : Ca} (h : CaAt w b o c) : b < w.heap.size := h.1
theorem find_len {T : List En} {q : Pt.Bs} {fo : Bool} : (Sy.find T q fo).2 = 0 → (Sy.bytesOf (Sy.find T q fo).1).size ≤ 80 := fun h => Sy.find_le h
/-- A call's texts are not too long. -/
def CaSm (c : Ca) : Prop := c.path.size ≤ 1048576 ∧ c.to.size ≤ 1048576 ∧ c.text.size ≤ 1048576
theorem Fr.sameC {p : Pl} {g : Nat} {w w' : World} (h : Fr (p.plus g).C w w') : Fr p.C w w' := h
end Go.Proofs.YtjppfhgkanbemacGreatDoor

namespace Go.Proofs.YtjppfhgkanbemacGreatDoor
open Go.RowKit Go.Shelf Go.Sort

theorem run_nil_ptr {P : Program} (w : World) {t te : TypeId} (p : Option Addr) (hp : P.underlying t = some (.pointer te)) : (binOp .eql t (.pointer none) (.pointer p)).run P w = .ok (.bool p.isNone) w := by
  have h : ∀ d : Nat, (Op.equalIn (d + 1) t (.pointer none) (.pointer p)).run P w = .ok p.isNone w := fun d => by
    simp [Op.equalIn, run_underlying hp]
  simp only [binOp]
  simp [Op.equal, Op.maxDepth, h 9999]
theorem run_ptr_ptr {P : Program} (w : World) {t te : TypeId} {j : TypeInfo} (hp : P.underlying t = some (.pointer te)) (hte : P.info? te = some j) (hj : j.size ≠ 0) {g g' : Nat} {t1 t2 : TypeId} {cs cs' : List Value} (h1 : Blk w g t1 cs) (h2 : Blk w g' t2 cs') :
    (binOp .eql t (.pointer (some ⟨g, 0, none⟩)) (.pointer (some ⟨g', 0, none⟩))).run P w = .ok (.bool (g == g')) w := by
  have hs : (sameAddr (⟨g, 0, none⟩ : Addr) ⟨g', 0, none⟩).run P w = .ok (g == g') w := by
    rcases Decidable.em (g = g') with rfl | hne
    · rw [run_sameAddr_same]; simp
    · rw [run_sameAddr_other (a := ⟨g, 0, none⟩) (b := ⟨g', 0, none⟩) (P := P) (w := w) (fun e => hne (congrArg Addr.block e)) h1 h2]
      have : (g == g') = false := by simp [hne]
      rw [this]
  have h : ∀ d : Nat, (Op.equalIn (d + 1) t (.pointer (some ⟨g, 0, none⟩)) (.pointer (some ⟨g', 0, none⟩))).run P w = .ok (g == g') w := fun d => by
    simp [Op.equalIn, run_underlying hp, sizeOf, typeInfo, hte, hj, hs]
  simp only [binOp]
  simp [Op.equal, Op.maxDepth, h 9999]
theorem info_file : (Tryz.prog.info? 127).map (fun i => (i.zero, i.size, i.bytes)) = some (some (.agg #[.string ⟨#[]⟩, .string ⟨#[]⟩, .slice none 0 0]), 3, 56) := by kernel_rfl
theorem info_pf : (Tryz.prog.info? 119).map (fun i => (i.zero, i.size, i.bytes)) = some (some (.pointer none), 1, 8) := by kernel_rfl
theorem eq_file (w : World) {g g' : Nat} {t1 t2 : TypeId} {cs cs' : List Value} (h1 : Blk w g t1 cs) (h2 : Blk w g' t2 cs') : (binOp .eql 119 (.pointer (some ⟨g, 0, none⟩)) (.pointer (some ⟨g', 0, none⟩))).run Tryz.prog w = .ok (.bool (g == g')) w := by
  obtain ⟨i0, hi, _, hz, _⟩ := info_parts info_file
  exact run_ptr_ptr w Tryz.underlying119 hi (by omega) h1 h2
end Go.Proofs.YtjppfhgkanbemacGreatDoor

namespace Go.Proofs.YtjppfhgkanbemacGreatDoor
open Go.RowKit Go.Shelf Go.Sort

/-- A place, or below 0: none. -/
def idxV : Option Nat → Int
  | some k => k
  | none => -1
theorem find_none {r : List (Option Nat)} (h : ∀ j, (hj : j < r.length) → r[j] ≠ none) : r.findIdx? (fun x => x.isNone) = none := by
  rw [List.findIdx?_eq_none_iff]
  intro x hx
  obtain ⟨j, hj, rfl⟩ := List.mem_iff_getElem.1 hx
  have := h j hj
  cases hq : r[j] with
  | none => exact absurd hq this
  | some _ => rfl
theorem find_some {r : List (Option Nat)} {k : Nat} (hk : k < r.length) (h : ∀ j, (hj : j < r.length) → j < k → r[j] ≠ none) (he : r[k] = none) : r.findIdx? (fun x => x.isNone) = some k := by
  rw [List.findIdx?_eq_some_iff_getElem]
  refine ⟨hk, by rw [he]; rfl, fun j hj => ?_⟩
  have := h j (by omega) hj
  cases hq : r[j] with
  | none => exact absurd hq this
  | some _ => simp

set_option maxHeartbeats 1000000 in
set_option maxRecDepth 100000 in
theorem index_any (g off : Nat) (D : List Nat) (r : List (Option Nat)) (w : World) (hg : g < w.heap.size) (hr : r.length = 8) (hc : ∀ k, (hk : k < r.length) → w.cell? ⟨g, off + k, none⟩ = some (fdV D r[k])) :
    Calls Tryz.prog 88 #[.slice (some ⟨g, off, none⟩) 8 8, .pointer none] w fun e w' => e = .returned (.int .i64 (idxV (r.findIdx? fun x => x.isNone))) ∧ w' = w := by
  have HC := Lib.hid hc
  clear hc
  have hnil := fun (W : World) (p : Option Addr) => run_nil_ptr (P := Tryz.prog) W p Tryz.underlying81
  go_enter Tryz.func88, Tryz.ntmps88
  go_wp2_with fail
  go_loopw [8] (fun i wr => Hid (wr = w) ∧ ∃ k : Nat, k ≤ 8 ∧ i = .int .i64 k ∧ Hid (∀ j, (hj : j < r.length) → j < k → r[j] ≠ none)) (fun i _ => 8 - (intOf i).toNat)
  case atStart => exact ⟨Lib.hid rfl, 0, by omega, rfl, Lib.hid fun j _ h => absurd h (Nat.not_lt_zero j)⟩
  case round =>
    obtain ⟨hh, k, hk, rfl, HN⟩ := hrel
    have hh := hh.out
    by_cases hlt : k < 8
    · have h0 : wr.cell? ⟨g, off + k, none⟩ = some (fdV D r[k]) := by rw [hh]; exact HC.out k (by omega)
      have HI := Lib.hid (find_some (r := r) (k := k) (by omega) HN.out)
      have hgr : g < wr.heap.size := by rw [hh]; exact hg
      obtain ⟨x, hx⟩ : ∃ x, x = r[k] := ⟨_, rfl⟩
      have HX := Lib.hid hx
      rw [← hx] at h0 HI
      clear hx
      have HH := Lib.hid hh
      clear hh
      cases x with
      | none =>
        simp only [fdV] at h0
        have HF := Lib.hid (HI.out rfl)
        go_wp2_with fail
        go_ret
        exact ⟨by rw [HF.out]; rfl, HH.out⟩
      | some d =>
        simp only [fdV, ptr] at h0
        obtain ⟨ad, had⟩ : ∃ ad : Addr, ad = ⟨D.getD d 0, 0, none⟩ := ⟨_, rfl⟩
        rw [← had] at h0
        clear had
        go_wp2_with fail
        go_roundw
        case rel => exact ⟨HH, k + 1, by omega, by go_num, Lib.hid fun j hj hjk => by
          rcases Nat.lt_or_ge j k with q | q
          · exact HN.out j hj q
          · have e : j = k := by omega
            subst e
            rw [← HX.out]; exact fun q => by cases q⟩
        case measure => simp [intOf]; omega
    · have HF := Lib.hid (find_none (r := r) fun j hj => HN.out j hj (by omega))
      have HH := Lib.hid hh
      clear hh
      go_wp2_with fail
      go_ret
      exact ⟨by rw [HF.out]; rfl, HH.out⟩
/-- An owner's numbers lie there. -/
theorem SyAt.fds {w : World} {p : Pl} {s : St} (h : SyAt w p s) {n : Nat} (hi : Sy.In n s) {o k : Nat} (ho : o < 4) (hk : k < 8) : w.cell? ⟨p.gs, 4 + (o * 8 + k), none⟩ = some (fdV p.D (Sy.fdAt s o k)) := by
  obtain ⟨_, _, _, _, _, _, hb, _⟩ := h.box
  rw [hb.cell, show 4 + (o * 8 + k) = (o * 8 + k) + 1 + 1 + 1 + 1 by omega]
  exact Sy.fd_get hi.fdr (by rw [hi.fdl]; exact ho) hk

set_option maxHeartbeats 1000000 in
set_option maxRecDepth 100000 in
theorem free_any' (p : Pl) (s : St) (n o : Nat) (w : World) (h : SyAt w p s) (hi : Sy.In n s) (ho : o < 4) :
    Calls Tryz.prog 67 #[.pointer (some ⟨p.gs, 0, none⟩), .int .i64 o] w fun e w' => e = .returned (.int .i64 (idxV (Sy.free s o))) ∧ w' = w := by
  have hgs : p.gs < w.heap.size := h.c_lt h.gs_c
  have hr : (s.fds.getD o []).length = 8 := by
    have h1 : o < s.fds.length := by rw [hi.fdl]; exact ho
    rw [List.getD_eq_getElem?_getD, List.getElem?_eq_getElem h1]
    exact hi.fdr _ (List.getElem_mem h1)
  have cI := index_any p.gs (4 + o * 8) p.D (s.fds.getD o []) w hgs hr (fun k hk => by
    have h1 := h.fds hi ho (show k < 8 by omega)
    rw [Nat.add_assoc, h1]
    unfold Sy.fdAt
    rw [List.getD_eq_getElem?_getD, List.getElem?_eq_getElem hk]; rfl)
  obtain ⟨R, hR⟩ : ∃ R, R = Sy.free s o := ⟨_, rfl⟩
  rw [← hR]
  unfold Sy.free at hR
  rw [← hR] at cI
  clear hR
  go_enter Tryz.func67, Tryz.ntmps67
  go_wp2_with fail

  refine cI.mono ?_
  rintro e w' ⟨rfl, rfl⟩
  go_wp2_with fail
  go_ret
  exact ⟨rfl, rfl⟩
end Go.Proofs.YtjppfhgkanbemacGreatDoor

namespace Go.Proofs.YtjppfhgkanbemacGreatDoor
open Go.RowKit Go.Shelf Go.Sort

theorem Sy.textOf_empty {s : St} {i : Nat} (h : (Sy.obAt s i).p.data.toList = []) : Sy.textOf s i = (Sy.obAt s i).t := if_pos h
theorem Sy.textOf_get {s : St} {i : Nat} (h : ¬ (Sy.obAt s i).p.data.toList = []) : Sy.textOf s i = ((Tr.get s.T (Sy.obAt s i).p.data.toList).getD En.zero).t := by
  unfold Sy.textOf
  rw [if_neg (show ¬ (Sy.obAt s i).P = [] from h)]
  show (match Tr.get s.T (Sy.obAt s i).p.data.toList with | some e => e.t | none => Sy.noE) = _
  cases Tr.get s.T (Sy.obAt s i).p.data.toList <;> rfl

set_option maxHeartbeats 1000000 in
set_option maxRecDepth 100000 in
theorem text_any (p : Pl) (s : St) (n i : Nat) (w : World) (h : SyAt w p s) (hi : Sy.In n s) (hn : n ≤ 1000) (hk : Sy.Ok s) (hl : i < s.obs.length) :
    Calls Tryz.prog 97 #[.pointer (some ⟨p.gs, 0, none⟩), .pointer (some ⟨p.f i, 0, none⟩)] w fun e w' => e = .returned (.string (Sy.textOf s i)) ∧ Below w.heap.size w w' := by
  obtain ⟨AT, cT, g2, hrT, hcT, hgs⟩ := h.seen
  obtain ⟨A, c, hf, _, _⟩ := h.ob i hl
  have hgb := h.gs_f hl
  have hsz : (Sy.obAt s i).p.size ≤ 80 * (n + 1) := (hi.obAt i).1
  have H1 := Lib.hid (Sy.textOf_empty (s := s) (i := i))
  have H2 := Lib.hid (Sy.textOf_get (s := s) (i := i))
  have HT := Lib.hid hk.right
  have htl := hk.tl
  obtain ⟨R, hR⟩ : ∃ R, R = Sy.textOf s i := ⟨_, rfl⟩
  rw [← hR] at H1 H2
  rw [← hR]
  clear hR hi h hk
  generalize Sy.obAt s i = o at *
  obtain ⟨pa, t, l⟩ := o
  dsimp only at hf hsz H1 H2
  obtain ⟨f0, f1, f2, ff, fz⟩ := hf.three
  generalize p.f i = gf at *
  generalize p.gs = gs at *
  go_enter Tryz.func97, Tryz.ntmps97
  rcases empty_cases pa with ⟨hE, e1, e2⟩ | ⟨hE, e1, e2⟩
  · have HF := Lib.hid (H1.out hE)
    go_wp2_with fail
    go_ret
    exact ⟨by rw [HF.out]; rfl, Below.refl _ _⟩
  · have HF := Lib.hid (H2.out hE)
    have cG := fun W h => get_any AT cT s.T pa W h (Tr.right_sm HT.out) (by omega) (by omega)
    clear H1 H2
    have hR : ∀ W, Below w.heap.size w W → EnRd W W.heap.size AT s.T := fun W q => (Rd.below hrT q).more q.size
    have hbd : Below w.heap.size w w.drew := (Below.refl _ w).drew
    have hba : Below w.heap.size w (w.alloc (.cells #[.string ⟨#[]⟩, .int .i64 0, .string ⟨#[]⟩, .bool false] 53)).drew := ((Below.refl _ w).alloc (Nat.le_refl _) _).drew
    have hz : Blk (w.alloc (.cells #[.string ⟨#[]⟩, .int .i64 0, .string ⟨#[]⟩, .bool false] 53)).drew w.heap.size 53 [.string ⟨#[]⟩, .int .i64 0, .string ⟨#[]⟩, .bool false] := Blk.new w _ _
    have hn1 : ¬ w.heap.size = gs := by omega
    have hn2 : ¬ w.heap.size = gf := by omega
    have hn3 : ¬ gs = w.heap.size := by omega
    have hn4 : ¬ gf = w.heap.size := by omega
    go_upto_region 3 with fail
    go_region_held3 (fun W => W.cell? ⟨gs, 2, none⟩ = some (.slice AT s.T.length cT) ∧ W.cell? ⟨gf, 0, none⟩ = some (.string pa))
      (first | exact ⟨g2, f0⟩ | exact hS6 | exact hS7 | go_keep)
      (first | (go_at_call 23; refine (cG w.drew (hR _ hbd)).mono ?_; rintro e w6 ⟨r, rfl, hr, hb6⟩; obtain ⟨y, hy⟩ : ∃ y, y = r.getD En.zero := ⟨_, rfl⟩; rw [← hy]; obtain ⟨yp, yk, yt, yo⟩ := y; simp only [En.agg, En.cells]; have hb6' : Below w.heap.size w w6 := hbd.trans (hb6.mono hbd.size); have hS6 : w6.cell? ⟨gs, 2, none⟩ = some (.slice AT s.T.length cT) ∧ w6.cell? ⟨gf, 0, none⟩ = some (.string pa) := ⟨(hb6'.cell (p := ⟨gs, 2, none⟩) hgs).trans g2, (hb6'.cell (p := ⟨gf, 0, none⟩) fz).trans f0⟩) | (go_at_call 23; refine (cG (w.alloc (.cells #[.string ⟨#[]⟩, .int .i64 0, .string ⟨#[]⟩, .bool false] 53)).drew (hR _ hba)).mono ?_; rintro e w6 ⟨r, rfl, hr, hb6⟩; obtain ⟨y, hy⟩ : ∃ y, y = r.getD En.zero := ⟨_, rfl⟩; rw [← hy]; obtain ⟨yp, yk, yt, yo⟩ := y; simp only [En.agg, En.cells]; have hb6' : Below w.heap.size w w6 := hba.trans (hb6.mono hba.size); have hS6 : w6.cell? ⟨gs, 2, none⟩ = some (.slice AT s.T.length cT) ∧ w6.cell? ⟨gf, 0, none⟩ = some (.string pa) := ⟨(hb6'.cell (p := ⟨gs, 2, none⟩) hgs).trans g2, (hb6'.cell (p := ⟨gf, 0, none⟩) fz).trans f0⟩; obtain ⟨z0, z1, z2, z3, zf, zz⟩ := (hz.below hb6 hz.lt).four))
    all_goals
      have HFF : Hid (R = yt) := Lib.hid (by rw [HF.out, ← hr.2 (.inl HT.out.2.1), ← hy])
      clear hy hr HF
      go_wp2_with fail
      go_ret
      refine ⟨by rw [HFF.out]; rfl, ?_⟩
      first | exact hb6'.alloc hb6'.size _ | exact (((hb6'.setCell (p := ⟨w.heap.size, 0, none⟩) (Nat.le_refl _) _).setCell (p := ⟨w.heap.size, 1, none⟩) (Nat.le_refl _) _).setCell (p := ⟨w.heap.size, 2, none⟩) (Nat.le_refl _) _).setCell (p := ⟨w.heap.size, 3, none⟩) (Nat.le_refl _) _
end Go.Proofs.YtjppfhgkanbemacGreatDoor
