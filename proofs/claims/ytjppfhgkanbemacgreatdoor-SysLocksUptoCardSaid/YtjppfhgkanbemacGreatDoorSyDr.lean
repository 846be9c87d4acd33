/-
  Two rows of the call's own. (Printed by wip/gensydr.py.)
-/
import Derived.Test.YtjppfhgkanbemacGreatDoorSyCas
namespace Go.Proofs.YtjppfhgkanbemacGreatDoor
open Go.RowKit Go.Shelf Go.Sort

theorem own_types {w : World} {base base' : Nat} {e e' : TypeId} {size size' n n' : Nat} {v v' : Value} {xs xs' : List Value} (h : w.ownsRow base e size v n xs) (h' : w.ownsRow base' e' size' v' n' xs') (hne : e ≠ e') : ∀ q, v.ownBlock = some q → v'.ownBlock ≠ some q := by
  obtain ⟨_, ⟨rfl, _⟩ | ⟨g, cap, cur, rfl, _, hr, _⟩⟩ := h
  · intro q hq; cases hq
  · obtain ⟨_, ⟨rfl, _⟩ | ⟨g', cap', cur', rfl, _, hr', _⟩⟩ := h'
    · intro q _ hq; cases hq
    · intro q hq hq'
      have e1 : g = q := Option.some.inj hq
      have e2 : g' = q := Option.some.inj hq'
      subst e1
      subst e2
      rw [hr] at hr'
      injection hr' with hr'
      injection hr' with _ h2 _
      exact hne h2
theorem own_other {w w' : World} {base base' : Nat} {e e' : TypeId} {size size' n n' : Nat} {v v' : Value} {xs xs' : List Value} (h : w.ownsRow base e size v n xs) (h' : w.ownsRow base' e' size' v' n' xs') (hne : e ≠ e') (hg : w.grownBy w' v'.ownBlock) : w'.ownsRow base e size v n xs :=
  own_fr h (X := fun k => v'.ownBlock = some k) (Fr.grown hg fun _ hk => hk) fun k hk q => own_types h h' hne k hk q
theorem Wants.below {w3 w w' : World} {base : Nat} {v : Value} {l : List An} (h : Wants w3 w base v l) {B : Nat} (hb : Below B w w') (hB : w.heap.size ≤ B) : Wants w3 w' base v l := by
  obtain ⟨vs, h1, h2, h3⟩ := h
  exact ⟨vs, h1, own_below h2 hb hB, h3⟩
theorem ca_ne_an : 50 ≠ 41 := by decide
end Go.Proofs.YtjppfhgkanbemacGreatDoor
