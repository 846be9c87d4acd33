/-
  The walk of tracelaw5.alive: it answers true.
-/
import Derived.Test.YtjppfhgkanbemaaLkTake
import Derived.Test.YtjppfhgkanbemaaLkLeave
namespace Go.Proofs.Ytjppfhgkanbemaa
open Go.RowKit

theorem alive_take {m : List Lk} {err : Int} (h : TakeRel [] ⟨1, 5, 9, true⟩ m err) : m = [⟨1, 5, 9, true⟩] ∧ err = 0 := by
  rcases h with ⟨h, _⟩ | ⟨_, h, _⟩ | ⟨_, _, h, _⟩ | ⟨_, _, _, l', hp, _, h⟩
  · exact absurd (by decide) h
  · exact absurd (by decide) h
  · exact absurd h (by decide)
  · have e : l' = [⟨1, 5, 9, true⟩] := List.perm_singleton.1 hp
    subst e
    rcases h with ⟨h, _⟩ | ⟨_, rfl, rfl⟩
    · exact absurd h (by decide)
    · exact ⟨rfl, rfl⟩
theorem alive_held {m : List Lk} {err : Int} (h : TakeRel [⟨1, 5, 9, true⟩] ⟨2, 8, 12, false⟩ m err) : err = 13 := by
  rcases h with ⟨h, _⟩ | ⟨_, h, _⟩ | ⟨_, _, _, _, h⟩ | ⟨_, _, h, _⟩
  · exact absurd (by decide) h
  · exact absurd (by decide) h
  · exact h
  · exact absurd h (by decide)
theorem alive_free {m : List Lk} {err : Int} (h : FreeRel [⟨1, 5, 9, true⟩] ⟨1, 6, 7, false⟩ m err) : m = [⟨1, 5, 6, true⟩, ⟨1, 7, 9, true⟩] ∧ err = 0 := by
  rcases h with ⟨h, _⟩ | ⟨_, h, _⟩ | ⟨_, _, h⟩
  · exact absurd (by decide) h
  · exact absurd (by decide) h
  · rcases h with ⟨h, _⟩ | ⟨_, rfl, rfl⟩
    · exact absurd h (by decide)
    · exact ⟨rfl, rfl⟩

theorem own_nonnil {w : World} {base : Nat} {v : Value} {x : Lk} {l : List Lk} (h : LkOwn w base v (x :: l)) : ∃ g cap, v = .slice (some ⟨g, 0, none⟩) (l.length + 1) cap ∧ base ≤ g ∧ g < w.heap.size ∧ l.length + 1 ≤ cap := by
  rcases own_shape h with ⟨_, h0⟩ | h
  · cases h0
  · exact h

set_option maxHeartbeats 1600000 in
theorem alive_any (w : World) : Calls Try.prog 17 #[] w fun e w' => e = .returned (.bool true) ∧ Below w.heap.size w w' := by
  go_enter Try.func17, Try.ntmps17
  go_wp2_with fail
  refine (take_any none 0 [] ⟨1, 5, 9, true⟩ w Rd.nil (by decide) (by decide)).mono ?_
  rintro e w1 ⟨v, m, err, rfl, hr, ho, hB1⟩
  obtain ⟨rfl, rfl⟩ := alive_take hr
  obtain ⟨g, cap, rfl, hg, hz, hcap⟩ := own_nonnil ho
  have hl1 : LkRd w1 w1.heap.size (some ⟨g, 0, none⟩) [⟨1, 5, 9, true⟩] := Rd.of_own ho
  clear hr ho
  go_wp2_with fail
  refine (take_any (some ⟨g, 0, none⟩) cap [⟨1, 5, 9, true⟩] ⟨2, 8, 12, false⟩ w1 hl1 hcap (by decide)).mono ?_
  rintro e w2 ⟨v2, m2, err2, rfl, hr, _, hb⟩
  obtain rfl := alive_held hr
  have hl2 := (hl1.below hb).more hb.size
  have hB2 := hB1.trans (hb.mono hB1.size)
  clear hr hb hl1 hB1
  go_wp2_with fail
  refine (free_any (some ⟨g, 0, none⟩) cap [⟨1, 5, 9, true⟩] ⟨1, 6, 7, false⟩ w2 hl2 hcap (by decide)).mono ?_
  rintro e w3 ⟨v3, m3, err3, rfl, hr, ho, hb⟩
  obtain ⟨rfl, rfl⟩ := alive_free hr
  obtain ⟨g3, cap3, rfl, _, _, hcap3⟩ := own_nonnil ho
  have hl3 : LkRd w3 w3.heap.size (some ⟨g3, 0, none⟩) [⟨1, 5, 6, true⟩, ⟨1, 7, 9, true⟩] := Rd.of_own ho
  have hB3 := hB2.trans (hb.mono hB2.size)
  clear hr hb ho hl2 hB2
  go_wp2_with fail
  refine (leaveL_any (some ⟨g3, 0, none⟩) cap3 [⟨1, 5, 6, true⟩, ⟨1, 7, 9, true⟩] 1 w3 hl3 (by decide)).mono ?_
  rintro e w4 ⟨v4, rfl, ho, hb⟩
  have hB4 := hB3.trans (hb.mono hB3.size)
  have e4 : Lk.leave [⟨1, 5, 6, true⟩, ⟨1, 7, 9, true⟩] 1 = [] := rfl
  rw [e4] at ho
  rcases own_shape ho with ⟨rfl, _⟩ | ⟨g4, cap4, rfl, _⟩
  · go_wp2_with fail
    go_ret
    exact ⟨rfl, hB4⟩
  · go_wp2_with fail
    go_ret
    exact ⟨rfl, hB4⟩

end Go.Proofs.Ytjppfhgkanbemaa
