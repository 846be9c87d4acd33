/-
  slices.SortFunc over a row of the call's own: what the shelf's contract says, in the words of ownsRow: the row holds a sorted permutation; nothing else has turned.
-/
import Derived.Test.YtjppfhgkanbemacGreatDoorMA
import Derived.Shelf.SlSortCmp.NoneTotal
namespace Go.Proofs.YtjppfhgkanbemacGreatDoor
open Go.Shelf Go.RowKit Go.Lib Go.Sort
section
variable {α : Type} [Inhabited α] {enc : α → List Value} {k : Nat}

theorem flat_get (hk : ∀ x, (enc x).length = k) (l : List α) : ∀ t, t < l.length * k → (l.flatMap enc)[t]? = some ((enc l.toArray[t / k]!)[t % k]!) := by
  induction l with
  | nil => intro t h; simp at h
  | cons x r ih =>
    intro t h
    have k0 : 0 < k := by
      rcases Nat.eq_zero_or_pos k with h0 | h0
      · subst h0; simp at h
      · exact h0
    rw [List.flatMap_cons]
    by_cases h1 : t < k
    · rw [List.getElem?_append_left (by rw [hk]; exact h1), Nat.div_eq_of_lt h1, Nat.mod_eq_of_lt h1]
      have : t < (enc x).length := by rw [hk]; exact h1
      simp [this]
    · rw [List.getElem?_append_right (by rw [hk]; omega), hk, ih (t - k) (by simp only [List.length_cons, Nat.add_mul, Nat.one_mul] at h; omega)]
      have e1 : t / k = (t - k) / k + 1 := by
        rw [Nat.div_eq_sub_div k0 (by omega)]
      have e2 : t % k = (t - k) % k := by rw [Nat.mod_eq_sub_mod (by omega)]
      rw [e1, e2]
      simp

omit [Inhabited α] in
theorem flat_length (hk : ∀ x, (enc x).length = k) (l : List α) : (l.flatMap enc).length = l.length * k := by
  induction l with
  | nil => simp
  | cons x r ih => rw [List.flatMap_cons, List.length_append, ih, hk, List.length_cons, Nat.add_mul, Nat.one_mul, Nat.add_comm]

theorem flatK_list (hk : ∀ x, (enc x).length = k) (l : List α) : (flatK enc k l.toArray).toList = l.flatMap enc := by
  apply List.ext_getElem?
  intro t
  by_cases ht : t < l.length * k
  · rw [flat_get hk l t ht]
    simp [flatK, ht]
  · rw [List.getElem?_eq_none (l := (flatK enc k l.toArray).toList) (by simp; omega), List.getElem?_eq_none (by rw [flat_length hk]; omega)]

theorem holdsK_own {w : World} {base e g n cap : Nat} {l : List α} (hk : ∀ x, (enc x).length = k) (h : w.ownsRow base e k (.slice (some ⟨g, 0, none⟩) n cap) n (l.flatMap enc)) : HoldsK enc k w g 0 l.toArray := by
  intro j hj
  have hl : (flatK enc k l.toArray).toList = l.flatMap enc := flatK_list hk l
  obtain ⟨_, h2 | ⟨g', c', cur, hv, _, hh, _, _, hs, ht⟩⟩ := h
  · cases h2.1
  · injection hv with hv
    injection hv with hv
    injection hv with hv
    subst hv
    have hjs : j < n * k := by
      have := congrArg List.length ht
      rw [flat_length hk, List.length_take] at this
      simp at hj
      omega
    constructor
    · rw [World.cell?]
      simp only [hh]
      have : cur[j]? = (l.flatMap enc)[j]? := by rw [← ht, List.getElem?_take, if_pos hjs]; simp
      simp only [Nat.zero_add, this, ← hl]
      rw [getElem!_pos _ j hj]
      simp
    · simp [World.frozen?, hh]

theorem own_sorted {w : World} {base e g n cap nq : Nat} {l : List α} {d' : Array α} {os : Array Obj} (hk : ∀ x, (enc x).length = k) (h : w.ownsRow base e k (.slice (some ⟨g, 0, none⟩) n cap) n (l.flatMap enc)) (hd : d'.size = n) :
    (sortWorldK enc k w g 0 nq d' os).ownsRow base e k (.slice (some ⟨g, 0, none⟩) n cap) n (d'.toList.flatMap enc) ∧ w.grownBy (sortWorldK enc k w g 0 nq d' os) (some g) := by
  have hF : (flatK enc k d').toList = d'.toList.flatMap enc := by have := flatK_list hk d'.toList; simpa using this
  have hlen : (d'.toList.flatMap enc).length = n * k := by rw [flat_length hk]; simp [hd]
  obtain ⟨hx, h2 | ⟨g', c', cur, hv, hb, hh, hnc, hcm, hs, ht⟩⟩ := h
  · cases h2.1
  · injection hv with hv hv2 hv3
    injection hv with hv
    injection hv with hv
    subst hv hv3
    have hg : g < w.heap.size := by
      rcases Nat.lt_or_ge g w.heap.size with h0 | h0
      · exact h0
      · rw [Array.getElem?_eq_none h0] at hh; cases hh
    have hhp : ∀ i : Nat, (sortWorldK enc k w g 0 nq d' os).heap[i]? = (w.heap.modify g (onCells (putCells id 0 (flatK enc k d'))) ++ os)[i]? := fun _ => rfl
    have hnk : n * k ≤ cur.size := by rw [hs]; exact Nat.mul_le_mul_right _ hnc
    refine ⟨⟨hlen, .inr ⟨g, cap, putCells id 0 (flatK enc k d') cur, rfl, hb, ?_, hnc, hcm, by simp [putCells, hs], ?_⟩⟩, ⟨rfl, rfl, rfl, ?_, fun i hi hne => ?_⟩⟩
    · rw [hhp, Array.getElem?_append_left (by simpa using hg), Array.getElem?_modify, if_pos rfl, hh]
      rfl
    · apply List.ext_getElem?
      intro j
      rw [List.getElem?_take, ← hF]
      by_cases hj : j < n * k
      · rw [if_pos hj]
        have hj2 : j < (flatK enc k d').size := by simp [hd]; exact hj
        have hj3 : j < cur.size := by omega
        simp only [putCells, Array.getElem?_toList, Array.getElem?_mapIdx, Array.getElem?_eq_getElem hj3, Array.getElem?_eq_getElem hj2, Option.map_some]
        rw [if_pos ⟨Nat.zero_le _, by omega⟩]
        simp only [Nat.sub_zero, id]
        rw [getElem!_pos _ j hj2]
      · rw [if_neg hj, List.getElem?_eq_none (by simp [hd]; omega)]
    · show w.heap.size ≤ (w.heap.modify g _ ++ os).size
      simp
    · rw [hhp, Array.getElem?_append_left (by simpa using hi), Array.getElem?_modify, if_neg (fun he => hne (by rw [he]))]
end

/-- w' is W with draws and new blocks. -/
def Gr (W w' : World) : Prop := ∃ q os', w' = grow (W.drewN q) os'
theorem Gr.refl (W : World) : Gr W W := ⟨0, #[], by rw [grow_empty]; rfl⟩
theorem Gr.alloc {W w' : World} (h : Gr W w') (o : Obj) : Gr W (w'.alloc o) := by
  obtain ⟨q, os, rfl⟩ := h
  exact ⟨q, os ++ #[o], by rw [alloc_eq_grow, grow_grow]⟩
theorem Gr.drewN {W w' : World} (h : Gr W w') (n : Nat) : Gr W (w'.drewN n) := by
  obtain ⟨q, os, rfl⟩ := h
  exact ⟨q + n, os, by simp only [grow, World.drewN, Nat.add_assoc]⟩
theorem Gr.drew {W w' : World} (h : Gr W w') : Gr W w'.drew := h.drewN 1

section
variable {P : Program} {ρ : Ren} {α : Type} [Inhabited α]
/-- THE SORT, over a row of the call's own. -/
theorem sort_own (L : SlLaysF0.n6 P ρ) (k : Nat) (aE : ∀ w, (isAgg (ρ.t 24)).run P w = .ok true w) (zE : ∀ w, (Go.sizeOf (ρ.t 24)).run P w = .ok k w) (enc : α → List Value) (hk : ∀ x, (enc x).length = k) (h1 : ∀ x, ∀ v ∈ enc x, v.oneCell' = true)
    (cf : α → α → Int) (hO : SWO (ltOf cf)) (f : Nat) (cb : Array Value) (base e g n cap : Nat) (l : List α) (w : World) (eg : ∀ args w, (callFunc f args).run P w = .ok (.enter f args) w)
    (hcmp : ∀ (W : World) (x y : α), Calls P f (#[.agg (enc x).toArray, .agg (enc y).toArray] ++ cb) W fun e w' => e = .returned (.int .i64 (cf x y)) ∧ Gr W w')
    (h : w.ownsRow base e k (.slice (some ⟨g, 0, none⟩) n cap) n (l.flatMap enc)) (hn : l.length = n) (hsz : n < 4611686018427387904) :
    Calls P (ρ.f 6) #[.slice (some ⟨g, 0, none⟩) n cap, .func (.func f) #[] cb] w fun en w' => en = .returned (.tuple #[]) ∧
      ∃ l' : List α, l'.Perm l ∧ (l'.Pairwise fun x y => ltOf cf y x = false) ∧ w'.ownsRow base e k (.slice (some ⟨g, 0, none⟩) n cap) n (l'.flatMap enc) ∧ w.grownBy w' (some g) := by
  have hg : g < w.heap.size := by have := h.lt g rfl; exact this.2
  have hs : l.toArray.size = n := by simpa using hn
  have c := AnyQ.slices_SortFunc L k aE zE enc hk h1 cf hO f cb g 0 cap l.toArray w eg (fun m os dk _ x y => hcmp _ x y) (holdsK_own hk h) hg (by rw [hs]; exact hsz)
  rw [hs] at c
  refine c.mono ?_
  rintro en w' ⟨rfl, d', nq, os, ⟨hd, _, hp⟩, hsrt, rfl⟩
  have hd' : d'.size = n := hd.trans hs
  obtain ⟨o1, o2⟩ := own_sorted (nq := nq) (os := os) hk h hd'
  refine ⟨rfl, d'.toList, ?_, ?_, o1, o2⟩
  · have e1 : d'.extract 0 n = d' := by rw [← hd']; simp
    have e2 : l.toArray.extract 0 n = l.toArray := by rw [← hs]; simp
    rw [e1, e2] at hp
    simpa using hp
  · rw [List.pairwise_iff_getElem]
    intro i j hi hj hij
    have := hsrt i j (Nat.zero_le _) hij (by simpa [hd'] using hj)
    rw [getElem!_pos d' j (by simpa using hj), getElem!_pos d' i (by simpa using hi)] at this
    simpa using this
end
end Go.Proofs.YtjppfhgkanbemacGreatDoor
