/-
  The walks of package lock, the first part: clash, Meets. Each returns what its plain function gives.
-/
import Derived.Test.YtjppfhgkanbemacGreatDoorProg
import Derived.Test.YtjppfhgkanbemacGreatDoorMA
import Derived.Test.YtjppfhgkanbemacGreatDoorLkPure
import Derived.WalkKit
import Derived.WalkSpells
import Derived.WalkLawsBesides
import Derived.Deep.QuietTactic
import Derived.BigQuiet
import Derived.Outline
namespace Go.Proofs.YtjppfhgkanbemacGreatDoor
open Go.RowKit

def Lk.cells (x : Lk) : List Value := [.int .i64 x.o, .int .i64 x.f, .int .i64 x.t, .bool x.a]
def Lk.agg (x : Lk) : Value := .agg x.cells.toArray
def Lk.flat (l : List Lk) : List Value := l.flatMap Lk.cells

/-- A lock's four cells at an address. -/
def LkAt (w : World) (b i : Nat) (x : Lk) : Prop :=
  w.cell? ⟨b, i, none⟩ = some (.int .i64 x.o) ∧ w.cell? ⟨b, i + 1, none⟩ = some (.int .i64 x.f) ∧ w.cell? ⟨b, i + 2, none⟩ = some (.int .i64 x.t) ∧ w.cell? ⟨b, i + 3, none⟩ = some (.bool x.a)

theorem LkAt.below {w w' : World} {B b i : Nat} {x : Lk} (h : LkAt w b i x) (hB : Below B w w') (hb : b < B) : LkAt w' b i x :=
  ⟨(hB.cell hb).trans h.1, (hB.cell hb).trans h.2.1, (hB.cell hb).trans h.2.2.1, (hB.cell hb).trans h.2.2.2⟩

set_option maxHeartbeats 800000 in
theorem clash_any (b c i j : Nat) (x y : Lk) (w : World) (hx : LkAt w b i x) (hy : LkAt w c j y) :
    Calls Tryz.prog 48 #[.pointer (some ⟨b, i, none⟩), .pointer (some ⟨c, j, none⟩)] w fun e w' => e = .returned (.bool (Lk.clash x y)) ∧ ∃ n, w' = w.drewN n := by
  obtain ⟨xo, xf, xt, xa⟩ := x
  obtain ⟨yo, yf, yt, ya⟩ := y
  obtain ⟨h0, h1, h2, h3⟩ := hx
  obtain ⟨g0, g1, g2, g3⟩ := hy
  dsimp only at h0 h1 h2 h3 g0 g1 g2 g3
  go_enter Tryz.func48, Tryz.ntmps48
  go_wp2
  refine wp_region_quiet_lit (by kernel_rfl) (by kernel_rfl) ?_
  repeat (any_goals (first | go_big_quiet_step (fail) | quiet_step (fail) | (refine wpQuiet_step (fun K hK => ?_); go_simp; split <;> (refine hK _ ?_; clear hK K))))
  all_goals (refine wpQuiet_nil ?_; intro _ hw'; obtain ⟨nq, hw''⟩ := hw'; subst hw'')
  all_goals go_wp2
  all_goals go_ret
  all_goals refine ⟨?_, _, rfl⟩
  all_goals (simp_all [Lk.clash, bne] <;> omega)


theorem flat_at (l : List Lk) (k : Nat) (hk : k < l.length) :
    (Lk.flat l)[k * 4 + 0]? = some (.int .i64 l[k].o) ∧ (Lk.flat l)[k * 4 + 1]? = some (.int .i64 l[k].f) ∧ (Lk.flat l)[k * 4 + 2]? = some (.int .i64 l[k].t) ∧ (Lk.flat l)[k * 4 + 3]? = some (.bool l[k].a) := by
  induction l generalizing k with
  | nil => simp at hk
  | cons x r ih =>
    have e : Lk.flat (x :: r) = [.int .i64 x.o, .int .i64 x.f, .int .i64 x.t, .bool x.a] ++ Lk.flat r := rfl
    rw [e]
    cases k with
    | zero => simp
    | succ k =>
      have h := ih k (by simpa using hk)
      have e2 : ∀ j, ([Value.int .i64 x.o, .int .i64 x.f, .int .i64 x.t, .bool x.a] ++ Lk.flat r)[(k + 1) * 4 + j]? = (Lk.flat r)[k * 4 + j]? := fun j => by
        rw [List.getElem?_append_right (by simp; omega)]
        congr 1
        simp
        omega
      simpa only [e2, List.getElem_cons_succ] using h

/-- A slice of locks. -/
def LkRd (w : World) (B : Nat) (A : Option Addr) (l : List Lk) : Prop := Rd w B 4 A l.length (Lk.flat l)

theorem LkRd.at_ {w : World} {B : Nat} {A : Option Addr} {l : List Lk} (h : LkRd w B A l) {k : Nat} (hk : k < l.length) :
    ∃ b o, A = some ⟨b, o, none⟩ ∧ b < B ∧ LkAt w b (o + k * 4) l[k] := by
  obtain ⟨b, o, e, hb, hc⟩ := h.2 (by omega)
  obtain ⟨f0, f1, f2, f3⟩ := flat_at l k hk
  exact ⟨b, o, e, hb, hc _ _ f0, hc _ _ f1, hc _ _ f2, hc _ _ f3⟩

set_option maxHeartbeats 800000 in
theorem meets_any (A : Option Addr) (c : Nat) (l : List Lk) (x : Lk) (w : World) (hl : LkRd w w.heap.size A l) (hn : l.length ≤ 9223372036854775807) :
    Calls Tryz.prog 27 #[.slice A l.length c, x.agg] w fun e w' => e = .returned (.tuple #[((Lk.meets l x).getD Lk.zero).agg, .bool (Lk.meets l x).isSome]) ∧ Below w.heap.size w w' := by
  obtain ⟨xo, xf, xt, xa⟩ := x
  simp only [Lk.agg, Lk.cells]
  go_enter Tryz.func27, Tryz.ntmps27
  go_wp2
  go_loopw [10] (fun i wr => ∃ k : Nat, k ≤ l.length ∧ i = .int .i64 k ∧ (∀ y ∈ l.take k, Lk.clash y ⟨xo, xf, xt, xa⟩ = false) ∧ Below w.heap.size w wr ∧
      Blk wr w.heap.size 58 [.int .i64 xo, .int .i64 xf, .int .i64 xt, .bool xa] ∧ Blk wr (w.heap.size + 1) 58 [.int .i64 0, .int .i64 0, .int .i64 0, .bool false])
    (fun i _ => l.length - (intOf i).toNat)
  case atStart => exact ⟨0, Nat.zero_le _, rfl, by simp, ((Below.refl _ _).alloc (Nat.le_refl _) _).alloc (by simp) _, (Blk.new w 58 [.int .i64 xo, .int .i64 xf, .int .i64 xt, .bool xa]).alloc _, by have h := Blk.new (w.alloc (.cells #[.int .i64 xo, .int .i64 xf, .int .i64 xt, .bool xa] 58)) 58 [.int .i64 0, .int .i64 0, .int .i64 0, .bool false]; rw [World.size_alloc] at h; exact h⟩
  case round =>
    obtain ⟨k, hk, rfl, hno, hB, hbx, hbr⟩ := hrel
    obtain ⟨r0, r1, r2, r3, rf, rz⟩ := hbr.four
    obtain ⟨x0, x1, x2, x3, _, xz⟩ := hbx.four
    by_cases hlt : k < l.length
    · obtain ⟨b, o, rfl, hb, hat⟩ := (LkRd.at_ (hl.below hB) hlt)
      obtain ⟨h0, h1, h2, h3⟩ := hat
      go_wp2_with fail
      refine (clash_any _ _ _ _ l[k] ⟨xo, xf, xt, xa⟩ _ ⟨by go_simp, by go_simp, by go_simp, by go_simp⟩ ⟨by go_simp, by go_simp, by go_simp, by go_simp⟩).mono ?_
      rintro e w' ⟨rfl, n1, rfl⟩
      by_cases hcl : Lk.clash l[k] ⟨xo, xf, xt, xa⟩ = true
      · go_wp2_with fail
        have hm : Lk.meets l ⟨xo, xf, xt, xa⟩ = some l[k] := Lk.meets_found hlt hno hcl
        refine bodyPost_ret (v := .tuple #[l[k].agg, .bool true]) ?_ rfl ⟨by rw [hm]; rfl, ?_⟩
        · simp [results, Tryz.results27, go_sem, r0, r1, r2, r3, rz, Lk.agg, Lk.cells]
        · exact below_drewN (((((hB.alloc hB.size _).setCell (by simp) _).setCell (by simp) _).setCell (by simp) _).setCell (by simp) _) _
      · go_wp2_with fail
        go_roundw
        case rel => exact ⟨k + 1, hlt, by go_num, Lk.meets_next hlt hno hcl, below_drewN (hB.alloc hB.size _) _, (hbx.alloc _).drewN _, (hbr.alloc _).drewN _⟩
        case measure => simp [intOf]; omega
    · go_wp2_with fail
      have hm : Lk.meets l ⟨xo, xf, xt, xa⟩ = none := Lk.meets_none (by omega) hno
      refine bodyPost_ret (v := .tuple #[Lk.zero.agg, .bool false]) ?_ rfl ⟨by rw [hm]; rfl, ?_⟩
      · simp [results, Tryz.results27, go_sem, r0, r1, r2, r3, Lk.zero, Lk.agg, Lk.cells]
      · exact (((hB.setCell (by simp) _).setCell (by simp) _).setCell (by simp) _).setCell (by simp) _

end Go.Proofs.YtjppfhgkanbemacGreatDoor
