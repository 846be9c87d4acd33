/-
  Calls in a row of the call's own; answers kept in a row of the call's own.
-/
import Derived.Test.YtjppfhgkanbemacGreatDoorSyTopA
import Derived.Test.YtjppfhgkanbemacGreatDoorSyLow
namespace Go.Proofs.YtjppfhgkanbemacGreatDoor
open Go.RowKit Go.Shelf Go.Sort

theorem info_ca : (Tryz.prog.info? 50).map (fun i => (i.zero, i.size, i.bytes)) = some (some (.agg #[.int .i64 0, .int .i64 0, .int .i64 0, .int .i64 0, .int .i64 0, .string ⟨#[]⟩, .string ⟨#[]⟩, .string ⟨#[]⟩, .bool false]), 9, 96) := by kernel_rfl
/-- A row of calls of the call's own. -/
theorem cas_own {w : World} {base : Nat} {A : Option Addr} {c : Nat} {l : List Ca} (h : w.ownsRow base 50 9 (.slice A l.length c) l.length (l.flatMap Ca.cells)) : CasRd w A l := fun k hk => by
  obtain ⟨b, o, e, hb, hc⟩ := (Rd.of_own h).2 (by omega)
  have key : ∀ j, (hj : j < 9) → w.cell? ⟨b, o + k * 9 + j, none⟩ = l[k].cells[j]? := fun j hj => by
    have h1 := cells_at l k hk j hj
    have hj2 : j < l[k].cells.length := hj
    rw [List.getElem?_eq_getElem hj2] at h1 ⊢
    rw [Nat.add_assoc]
    exact hc _ _ h1
  exact ⟨b, o, e, hb, key 0 (by omega), key 1 (by omega), key 2 (by omega), key 3 (by omega), key 4 (by omega), key 5 (by omega), key 6 (by omega), key 7 (by omega), key 8 (by omega)⟩
theorem rd_ans {w : World} {v : Value} {l : List An} (h : AnsRd w v l) {w' : World} (hb : Below w.heap.size w w') : AnsRd w' v l := by
  obtain ⟨A, c, vs, hv, h1, h2, h3⟩ := h
  exact ⟨A, c, vs, hv, h1, (Rd.below h2 hb).more hb.size, fun k hk => by
    obtain ⟨Ak, ck, e1, e2⟩ := h3 k hk
    exact ⟨Ak, ck, e1, (Rd.below e2 hb).more hb.size⟩⟩
/-- Answers kept in a row of the call's own; their names lie in the world w3. -/
def Wants (w3 w : World) (base : Nat) (v : Value) (l : List An) : Prop :=
  ∃ vs : List Value, vs.length = l.length ∧ w.ownsRow base 41 4 v l.length (anCells l vs) ∧ ∀ k (h : k < l.length), ∃ A c, vs[k]? = some (.slice A l[k].names.length c) ∧ StrRd w3 w3.heap.size A l[k].names
theorem Wants.nil (w3 w : World) (base : Nat) : Wants w3 w base (.slice none 0 0) [] := ⟨[], rfl, World.ownsRow_nil _ _ _ _, fun k h => absurd h (Nat.not_lt_zero k)⟩
theorem Wants.snoc {w3 w : World} {base n : Nat} {v : Value} {l : List An} {a : An} {A : Option Addr} {c : Nat} {vs : List Value} (h1 : vs.length = l.length) (h2 : ∀ k (h : k < l.length), ∃ A c, vs[k]? = some (.slice A l[k].names.length c) ∧ StrRd w3 w3.heap.size A l[k].names)
    (ha : StrRd w3 w3.heap.size A a.names) (ho : w.ownsRow base 41 4 v n (anCells l vs ++ [.int .i64 a.err, .int .i64 a.n, .string a.text, .slice A a.names.length c])) (hn : n = l.length + 1) : Wants w3 w base v (l ++ [a]) := by
  refine ⟨vs ++ [.slice A a.names.length c], by simp [h1], ?_, fun k hk => ?_⟩
  · rw [an_snoc h1, List.length_append]
    subst hn
    exact ho
  · rw [List.length_append] at hk
    by_cases e : k < l.length
    · obtain ⟨Ak, ck, e1, e2⟩ := h2 k e
      rw [List.getElem_append_left e]
      exact ⟨Ak, ck, by rw [List.getElem?_append_left (by omega)]; exact e1, e2⟩
    · have ek : k = l.length := by simp at hk; omega
      subst ek
      rw [List.getElem_append_right (Nat.le_refl _)]
      simp only [Nat.sub_self, List.getElem_cons_zero]
      exact ⟨A, c, by rw [List.getElem?_append_right (by omega), h1, Nat.sub_self]; rfl, ha⟩
theorem Wants.rd {w3 w : World} {base : Nat} {v : Value} {l : List An} (h : Wants w3 w base v l) (hb : Below w3.heap.size w3 w) : AnsRd w v l := by
  obtain ⟨vs, h1, h2, h3⟩ := h
  have key : ∀ A c, v = .slice A l.length c → Rd w w.heap.size 4 A l.length (anCells l vs) → AnsRd w v l := fun A c hv hr => ⟨A, c, vs, hv, h1, hr, fun k hk => by
    obtain ⟨Ak, ck, e1, e2⟩ := h3 k hk
    exact ⟨Ak, ck, e1, (Rd.below e2 hb).more hb.size⟩⟩
  rcases own_shape h2 with ⟨hv, h0⟩ | ⟨g, cap, hv, _, _, _⟩
  · have e : l = [] := List.length_eq_zero_iff.1 h0
    subst e
    exact key none 0 hv Rd.nil
  · subst hv
    exact key _ _ rfl (Rd.of_own h2)
end Go.Proofs.YtjppfhgkanbemacGreatDoor
