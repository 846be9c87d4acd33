/-
  The walk of tracelaw5.LockByte's closure: how a byte of an owner's is.
-/
import Derived.Test.YtjppfhgkanbemaaLkCut
namespace Go.Proofs.Ytjppfhgkanbemaa
open Go.RowKit

namespace Lk
def howAt (o k : Int) (y : Lk) : Bool := y.o == o && decide (y.f ≤ k) && decide (k < y.t)
def way (a : Bool) : Int := bif a then 2 else 1
def how (l : List Lk) (o k : Int) : Int := match l.find? (howAt o k) with
  | some y => way y.a
  | none => 0
theorem how_found {l : List Lk} {k : Nat} {o at_ : Int} {y : Lk} (hk : k < l.length) (hy : l[k] = y) (hno : ∀ y ∈ l.take k, howAt o at_ y = false) (hc : howAt o at_ y = true) : how l o at_ = way y.a := by
  have e : l.find? (howAt o at_) = (l.take k ++ l[k] :: l.drop (k + 1)).find? (howAt o at_) := by
    rw [← List.drop_eq_getElem_cons hk, List.take_append_drop]
  unfold how
  rw [e, List.find?_append, List.find?_eq_none.2 (fun y hy => by simp [hno y hy]), Option.none_or, List.find?_cons, hy, hc]
theorem how_none {l : List Lk} {k : Nat} {o at_ : Int} (hk : l.length ≤ k) (hno : ∀ y ∈ l.take k, howAt o at_ y = false) : how l o at_ = 0 := by
  rw [List.take_of_length_le hk] at hno
  unfold how
  rw [List.find?_eq_none.2 (fun y hy => by simp [hno y hy])]
theorem how_next {l : List Lk} {k : Nat} {o at_ : Int} {y : Lk} (hk : k < l.length) (hy : l[k] = y) (hno : ∀ y ∈ l.take k, howAt o at_ y = false) (hc : howAt o at_ y = false) : ∀ y ∈ l.take (k + 1), howAt o at_ y = false := by
  intro z hz
  rw [List.take_succ_eq_append_getElem hk, List.mem_append] at hz
  rcases hz with hz | hz
  · exact hno z hz
  · rw [List.mem_singleton.1 hz, hy]; exact hc
end Lk

set_option maxHeartbeats 1600000 in
set_option maxRecDepth 100000 in
theorem how_any (A : Option Addr) (c go ga : Nat) (l : List Lk) (ow k1 : Int) (w : World) (hl : LkRd w w.heap.size A l) (hn : l.length ≤ 9223372036854775807)
    (hgo : Blk w go 3 [.int .i64 ow]) (hga : Blk w ga 3 [.int .i64 k1]) :
    Calls Try.prog 18 #[.slice A l.length c, .pointer (some ⟨go, 0, none⟩), .pointer (some ⟨ga, 0, none⟩)] w fun e w' => e = .returned (.int .i64 (Lk.how l ow k1)) ∧ Below w.heap.size w w' := by
  have hgoz := hgo.lt
  have hgaz := hga.lt
  go_enter Try.func18, Try.ntmps18
  go_wp2_with fail
  go_loopw [9] (fun i wr => ∃ k : Nat, k ≤ l.length ∧ i = .int .i64 k ∧ (∀ y ∈ l.take k, Lk.howAt ow k1 y = false) ∧ Below w.heap.size w wr) (fun i _ => l.length - (intOf i).toNat)
  case atStart => exact ⟨0, Nat.zero_le _, rfl, by simp, Below.refl _ _⟩
  case round =>
    obtain ⟨k, hk, rfl, hno, hB0⟩ := hrel
    by_cases hlt : k < l.length
    · obtain ⟨bl, ol, rfl, hbl, hat⟩ := (LkRd.at_ (hl.below hB0) hlt)
      obtain ⟨h0, h1, h2, h3⟩ := hat
      generalize hyk : l[k] = y at h0 h1 h2 h3
      obtain ⟨yo, yf, yt, ya⟩ := y
      have Hyk := Lib.hid hyk
      clear hyk
      dsimp only at h0 h1 h2 h3
      have ho0 := hgo.below hB0 hgoz
      have ha0 := hga.below hB0 hgaz
      obtain ⟨po0, pof, poz⟩ := ho0.one
      obtain ⟨pa0, paf, paz⟩ := ha0.one
      rcases t0 : (yo == ow) with _ | _
      · have Hf : Hid (Lk.howAt ow k1 ⟨yo, yf, yt, ya⟩ = false) := Lib.hid (by unfold Lk.howAt; simp [t0])
        go_wp2_with fail
        go_roundw
        case rel => exact ⟨k + 1, hlt, by go_num, Lk.how_next hlt Hyk.out hno Hf.out, hB0.alloc hB0.size _⟩
        case measure => simp [intOf]; omega
      · rcases t1 : decide (yf ≤ k1) with _ | _
        · have Hf : Hid (Lk.howAt ow k1 ⟨yo, yf, yt, ya⟩ = false) := Lib.hid (by unfold Lk.howAt; simp [t1])
          go_wp2_with fail
          go_roundw
          case rel => exact ⟨k + 1, hlt, by go_num, Lk.how_next hlt Hyk.out hno Hf.out, hB0.alloc hB0.size _⟩
          case measure => simp [intOf]; omega
        · rcases t2 : decide (k1 < yt) with _ | _
          · have Hf : Hid (Lk.howAt ow k1 ⟨yo, yf, yt, ya⟩ = false) := Lib.hid (by unfold Lk.howAt; simp [t2])
            go_wp2_with fail
            go_roundw
            case rel => exact ⟨k + 1, hlt, by go_num, Lk.how_next hlt Hyk.out hno Hf.out, hB0.alloc hB0.size _⟩
            case measure => simp [intOf]; omega
          · have Hf : Hid (Lk.howAt ow k1 ⟨yo, yf, yt, ya⟩ = true) := Lib.hid (by unfold Lk.howAt; simp [t0, t1, t2])
            have He := Lib.hid (Lk.how_found hlt Hyk.out hno Hf.out)
            rcases ya with _ | _
            · go_wp2_with fail
              go_ret
              exact ⟨by rw [He.out]; rfl, hB0.alloc hB0.size _⟩
            · go_wp2_with fail
              go_ret
              exact ⟨by rw [He.out]; rfl, hB0.alloc hB0.size _⟩
    · have He := Lib.hid (Lk.how_none (Nat.le_of_not_lt hlt) hno)
      go_wp2_with fail
      go_ret
      exact ⟨by rw [He.out] <;> rfl, hB0⟩

end Go.Proofs.Ytjppfhgkanbemaa
