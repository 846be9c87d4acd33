/-
  An open file struck from the list; whether a file is open.
  Whether a file is open.
  Lock, and Free. (Printed by wip/gensylocks.py.)
  Close. (Printed by wip/gensyclose.py.)
-/
import Derived.Test.YtjppfhgkanbemacGreatDoorSC
import Derived.Test.YtjppfhgkanbemacGreatDoorLB
import Derived.Test.YtjppfhgkanbemacGreatDoorSB
import Derived.Deep.MidRow
import Derived.Deep.AppendLies
namespace Go.Proofs.YtjppfhgkanbemacGreatDoor
open Go.RowKit Go.Shelf Go.Sort

/-- A file's block. -/
abbrev FBlk (w : World) (g : Nat) : Prop := ∃ cs, Blk w g 127 cs
theorem FBlk.keep {w w' : World} {g : Nat} {row : Option Nat} (h : FBlk w g) (hg : w.grownBy w' row) (hr : some g ≠ row) : FBlk w' g := by
  obtain ⟨cs, h⟩ := h; exact ⟨cs, h.grown hg hr⟩
set_option maxHeartbeats 1000000 in
theorem close1_any (gb gd gi x : Nat) (w : World) (hb : w.cell? ⟨gb, 0, none⟩ = some (ptr gd)) (_ : gb < w.heap.size) (hd : w.cell? ⟨gd, 0, none⟩ = some (ptr gi)) (_ : gd < w.heap.size) (h1 : FBlk w x) (h2 : FBlk w gi) :
    Calls Tryz.prog 103 #[ptr x, .pointer (some ⟨gb, 0, none⟩)] w fun e w' => e = .returned (.bool (x == gi)) ∧ w' = w := by
  obtain ⟨_, h1⟩ := h1
  obtain ⟨_, h2⟩ := h2
  have he := eq_file w h1 h2
  unfold ptr at *
  clear h1 h2
  go_enter Tryz.func103, Tryz.ntmps103
  go_wp2_with fail
  go_ret
  exact ⟨rfl, rfl⟩

set_option maxHeartbeats 1000000 in
theorem indexF_any (A : Option Addr) (c gb gd gi : Nat) (l : List Nat) (w : World) (hl : Rd w w.heap.size 1 A l.length (l.map ptr)) (hbig : l.length ≤ 1000000) (hb : w.cell? ⟨gb, 0, none⟩ = some (ptr gd)) (hgb : gb < w.heap.size) (hd : w.cell? ⟨gd, 0, none⟩ = some (ptr gi)) (hgd : gd < w.heap.size) (h1 : ∀ x ∈ l, FBlk w x) (h2 : FBlk w gi) :
    Calls Tryz.prog 137 #[.slice A l.length c, .func (.func 103) #[] #[.pointer (some ⟨gb, 0, none⟩)]] w fun e w' => ∃ i : Int, e = .returned (.int .i64 i) ∧ IdxRel (fun x : Nat => x == gi) l i ∧ w' = w := by
  have HL := Lib.hid hl
  have HC := Lib.hid (fun x hx => close1_any gb gd gi x w hb hgb hd hgd (h1 x hx) h2)
  clear hb hgb hd hgd h1 h2 hl
  go_enter Tryz.func137, Tryz.ntmps137
  go_wp2
  go_loopw [8] (fun i wr => Hid (wr = w) ∧ ∃ k : Nat, k ≤ l.length ∧ i = .int .i64 k ∧ Hid (∀ x ∈ l.take k, (x == gi) = false)) (fun i _ => l.length - (intOf i).toNat)
  case atStart => exact ⟨Lib.hid rfl, 0, Nat.zero_le _, rfl, Lib.hid (by simp)⟩
  case round =>
    obtain ⟨hh, k, hk, rfl, hno⟩ := hrel
    obtain rfl := hh.out
    clear hh
    by_cases hlt : k < l.length
    · obtain ⟨b, o, rfl, hbb, hcc⟩ := HL.out.2 (by omega)
      have h0 := hcc k (ptr l[k]) (by rw [List.getElem?_map, List.getElem?_eq_getElem hlt]; rfl)
      clear hcc
      have c1 := HC.out l[k] (List.getElem_mem hlt)
      have Hst : Hid ((l[k] == gi) = false → ∀ x ∈ l.take (k + 1), (x == gi) = false) := Lib.hid (by
        intro h x hx
        rw [List.take_succ_eq_append_getElem hlt, List.mem_append] at hx
        rcases hx with hx | hx
        · exact hno.out x hx
        · simp at hx; rw [hx]; exact h)
      have Hfd : Hid ((l[k] == gi) = true → IdxRel (fun x : Nat => x == gi) l k) := Lib.hid fun h => .inr ⟨k, rfl, hlt, h, hno.out⟩
      obtain ⟨y, hy⟩ : ∃ y, y = l[k] := ⟨_, rfl⟩
      rw [← hy] at h0 c1 Hst Hfd
      clear hy
      unfold ptr at h0 c1
      go_wp2_with fail
      refine c1.mono ?_
      rintro e w1 ⟨rfl, rfl⟩
      rcases hc : (y == gi) with _ | _
      · go_wp2_with fail
        go_roundw
        case rel => exact ⟨by first | exact Lib.hid rfl | exact Lib.hid trivial, k + 1, hlt, by go_num, Lib.hid (Hst.out hc)⟩
        case measure => simp [intOf]; omega
      · go_wp2_with fail
        go_ret
        exact ⟨_, rfl, Hfd.out hc, rfl⟩
    · go_wp2_with fail
      go_ret
      refine ⟨_, rfl, .inl ⟨rfl, ?_⟩, rfl⟩
      have := hno.out
      rw [List.take_of_length_le (by omega)] at this
      exact this

theorem idx_noneF {l : List Nat} {gi : Nat} (h : ∀ x ∈ l, (x == gi) = false) : l.filter (fun x => !(x == gi)) = l := by
  rw [List.filter_eq_self]
  intro x hx
  simp only [h x hx]
  rfl
theorem zero_pf : ∀ w, (zeroValue 119).run Tryz.prog w = .ok (.pointer none) w := fun w => by kernel_rfl

set_option maxHeartbeats 1600000 in
theorem deleteF_any (base g cap gb gd gi : Nat) (l : List Nat) (w : World) (ho : w.ownsRow base 119 1 (.slice (some ⟨g, 0, none⟩) l.length cap) l.length (l.map ptr)) (hbig : l.length ≤ 1000000) (hb : w.cell? ⟨gb, 0, none⟩ = some (ptr gd)) (hgb : gb < w.heap.size) (hd : w.cell? ⟨gd, 0, none⟩ = some (ptr gi)) (hgd : gd < w.heap.size) (h1 : ∀ x ∈ l, FBlk w x) (h2 : FBlk w gi) (hne : gb ≠ g) (hne2 : gd ≠ g) :
    Calls Tryz.prog 102 #[.slice (some ⟨g, 0, none⟩) l.length cap, .func (.func 103) #[] #[.pointer (some ⟨gb, 0, none⟩)]] w fun e w' => ∃ v, e = .returned v ∧ w'.ownsRow base 119 1 v (l.filter fun x => !(x == gi)).length ((l.filter fun x => !(x == gi)).map ptr) ∧ (v.ownBlock = some g) ∧ w.grownBy w' (some g) := by
  have hl : Rd w w.heap.size 1 (some ⟨g, 0, none⟩) l.length (l.map ptr) := Rd.of_own ho
  have hcap : l.length ≤ cap := by
    rcases own_shape ho with ⟨h, _⟩ | ⟨g', c', h, _, _, hc⟩
    · cases h
    · injection h with _ _ h; rw [h]; exact hc
  have hF : ∀ wr : World, w.grownBy wr (some g) → ∀ x ∈ l, Calls Tryz.prog 103 #[ptr x, .pointer (some ⟨gb, 0, none⟩)] wr fun e w' => e = .returned (.bool (x == gi)) ∧ w' = wr := fun wr hg x hx => by
    have k1 : ∀ y, FBlk w y → some y ≠ some g := fun y hy e => by
      injection e with e
      subst e
      obtain ⟨cs, hy⟩ := hy
      exact own_noblk ho hy (by decide) rfl
    have e1 : wr.cell? ⟨gb, 0, none⟩ = w.cell? ⟨gb, 0, none⟩ := World.cell?_of_block (hg.block gb hgb (by intro e; injection e with e; exact hne e))
    have e2 : wr.cell? ⟨gd, 0, none⟩ = w.cell? ⟨gd, 0, none⟩ := World.cell?_of_block (hg.block gd hgd (by intro e; injection e with e; exact hne2 e))
    exact close1_any gb gd gi x wr (e1.trans hb) (Nat.lt_of_lt_of_le hgb hg.size) (e2.trans hd) (Nat.lt_of_lt_of_le hgd hg.size) ((h1 x hx).keep hg (k1 x (h1 x hx))) (h2.keep hg (k1 gi h2))
  have HF := Lib.hid hF
  have cI := indexF_any _ cap gb gd gi l w hl hbig hb hgb hd hgd h1 h2
  have hgz : ∀ wr : World, w.grownBy wr (some g) → g < wr.heap.size := fun wr hg => by
    rcases own_shape ho with ⟨hh, _⟩ | ⟨g', c', hh, _, hz, _⟩
    · cases hh
    · injection hh with hh; injection hh with hh; injection hh with hh; rw [hh]; exact Nat.lt_of_lt_of_le hz hg.size
  clear hF hb hgb hd hgd h1 h2 hl
  go_enter Tryz.func102, Tryz.ntmps102
  go_wp2_with fail
  refine cI.mono ?_
  rintro e w1 ⟨i, rfl, hi, hw1⟩
  have hg1 : w.grownBy w1 (some g) := by rw [hw1]; exact World.grownBy.refl w _
  have ho1 : w1.ownsRow base 119 1 (.slice (some ⟨g, 0, none⟩) l.length cap) l.length (l.map ptr) := by rw [hw1]; exact ho
  clear hw1 ho cI
  rcases hi with ⟨rfl, hno⟩ | ⟨k, rfl, hk, hp, hno⟩
  · have Hn := Lib.hid (idx_noneF hno)
    clear hno
    go_wp2_with fail
    go_ret
    exact ⟨_, rfl, by rw [Hn.out]; exact ho1, rfl, hg1⟩
  · have Hd := Lib.hid (DelInv.start (p := (fun x : Nat => x == gi)) hk hp hno)
    clear hp hno
    have hk1 : ((k : Int) == -1) = false := by simp
    go_wp2_with fail
    go_loopw [5, 6] (fun vi vj wr => ∃ (i j : Nat) (r : List Nat), vi = .int .i64 i ∧ vj = .int .i64 j ∧ j ≤ l.length ∧ i < l.length ∧ Hid (DelInv (fun x : Nat => x == gi) l r i j) ∧ wr.ownsRow base 119 1 (.slice (some ⟨g, 0, none⟩) l.length cap) l.length (r.map ptr) ∧ w.grownBy wr (some g)) (fun _ j _ => l.length - (intOf j).toNat)
    case atStart => exact ⟨k, k + 1, l, rfl, by go_num, hk, hk, Hd, ho1, hg1⟩
    case round =>
      clear Hd ho1 hg1 hk1 hk
      obtain ⟨i, j, r, rfl, rfl, hjl, hil, Hd, hor, hgr⟩ := hrel
      by_cases hj : j < l.length
      · have hrl : j < r.length := by rw [Hd.out.len]; exact hj
        have Hr := Lib.hid (Hd.out.at_ hj)
        have h0 : wr.cell? ⟨g, j, none⟩ = some (ptr r[j]) := (hor.cellAt j (by omega)).trans (by rw [List.getElem?_map, List.getElem?_eq_getElem hrl]; rfl)
        have c1 := HF.out wr hgr r[j] (by rw [Hr.out]; exact List.getElem_mem hj)
        generalize hy : r[j] = y at *
        have Hl := Lib.hid (Hr.out.symm)
        clear hy Hr
        have hgw := hgz wr hgr
        unfold ptr at h0 c1
        go_wp2_with fail
        refine c1.mono ?_
        rintro e w3 ⟨rfl, rfl⟩
        rcases hc : (y == gi) with _ | _
        · have hq : i < (r.map ptr).length := by rw [List.length_map, Hd.out.len]; exact hil
          have c0 : ∃ u, w3.cell? ⟨g, i, none⟩ = some u := ⟨_, (hor.cellAt i (by omega)).trans (List.getElem?_eq_getElem hq)⟩
          obtain ⟨u0, c0⟩ := c0
          have fz : w3.frozen? ⟨g, i, none⟩ = false := hor.frozenAt i
          clear hq
          go_wp2_with fail
          go_roundw
          case rel =>
            obtain ⟨o1, g1⟩ := hor.stored i (.pointer (some ⟨y, 0, none⟩))
            have hd := Hd.out.keep hj Hl.out hc
            exact ⟨i + 1, j + 1, _, by go_num, by go_num, by omega, by have := hd.lt; omega, Lib.hid hd, by rw [List.map_set]; exact o1, grown_trans_row hgr g1⟩
          case measure => simp [intOf]; omega
        · go_wp2_with fail
          go_roundw
          case rel => exact ⟨i, j + 1, r, rfl, by go_num, by omega, hil, Lib.hid (Hd.out.skip hj Hl.out hc), hor, hgr⟩
          case measure => simp [intOf]; omega
      · have ej : j = l.length := by omega
        subst ej
        have hic : i ≤ cap := by omega
        obtain ⟨w9, hrun, ho9, hg9⟩ := run_clear_own (P := Tryz.prog) (size := 1) 80 0 (.pointer none) Tryz.underlying80 zero_pf rfl (by simp [Value.cells, Value.oneCell']) hor i (cap - i) (some ⟨g, i, none⟩) (by omega) (fun _ => by rw [Nat.mul_one])
        go_wp2_with fail
        go_ret
        refine ⟨_, rfl, ?_, rfl, grown_trans_row hgr hg9⟩
        rw [Nat.mul_one, ← List.map_take] at ho9
        have hd := Hd.out.done
        have hli : (l.filter fun x => !(x == gi)).length = i := by
          rw [← hd, List.length_take, Hd.out.len]
          omega
        rw [hli, ← hd]
        exact ho9
end Go.Proofs.YtjppfhgkanbemacGreatDoor

namespace Go.Proofs.YtjppfhgkanbemacGreatDoor
open Go.RowKit Go.Shelf Go.Sort

theorem run_ptr_nil {P : Program} (w : World) {t te : TypeId} (p : Option Addr) (hp : P.underlying t = some (.pointer te)) : (binOp .eql t (.pointer p) (.pointer none)).run P w = .ok (.bool p.isNone) w := by
  have h : ∀ d : Nat, (Op.equalIn (d + 1) t (.pointer p) (.pointer none)).run P w = .ok p.isNone w := fun d => by
    cases p <;> simp [Op.equalIn, run_underlying hp]
  simp only [binOp]
  simp [Op.equal, Op.maxDepth, h 9999]
theorem run_ptr_nilne {P : Program} (w : World) {t te : TypeId} (p : Option Addr) (hp : P.underlying t = some (.pointer te)) : (binOp .neq t (.pointer p) (.pointer none)).run P w = .ok (.bool (!p.isNone)) w := by
  have h : ∀ d : Nat, (Op.equalIn (d + 1) t (.pointer p) (.pointer none)).run P w = .ok p.isNone w := fun d => by
    cases p <;> simp [Op.equalIn, run_underlying hp]
  simp only [binOp]
  simp [Op.equal, Op.maxDepth, h 9999]
/-- Whether a number leads to a file. -/
def leads (s : St) (i : Nat) (x : Option Nat) : Bool := match x with
  | some d => (Sy.deAt s d).o == i
  | none => false
theorem used_def (s : St) (i : Nat) : Sy.used s i = s.fds.any fun r => r.any (leads s i) := rfl

set_option maxHeartbeats 1000000 in
theorem used1_any (p : Pl) (s : St) (n gb i : Nat) (x : Option Nat) (w : World) (h : SyAt w p s) (hi : Sy.In n s) (hx : ∀ d, x = some d → d < s.des.length) (hl : i < s.obs.length) (hb : w.cell? ⟨gb, 0, none⟩ = some (ptr (p.f i))) (_ : gb < w.heap.size) :
    Calls Tryz.prog 136 #[fdV p.D x, .pointer (some ⟨gb, 0, none⟩)] w fun e w' => e = .returned (.bool (leads s i x)) ∧ Below w.heap.size w w' := by
  have hnil := fun (W : World) (p : Option Addr) => run_ptr_nilne (P := Tryz.prog) W p Tryz.underlying81
  cases x with
  | none =>
    have hr : leads s i none = false := rfl
    rw [hr]
    unfold fdV ptr at *
    clear hb
    go_enter Tryz.func136, Tryz.ntmps136
    go_upto_region 1 with fail
    refine wp_region_quiet_lit (by kernel_rfl) (by kernel_rfl) ?_
    repeat (first | go_big_quiet_step (fail) | quiet_step (fail))
    refine wpQuiet_nil ?_
    intro w2 hw'
    obtain ⟨nq, hw''⟩ := hw'
    go_wp2_with fail
    go_ret
    exact ⟨rfl, by rw [hw'']; exact below_drewN (Below.refl _ _) nq⟩
  | some d =>
    have hd := hx d rfl
    have hD := h.de d hd
    have ho := (hi.deAt hd).1
    obtain ⟨_, h1⟩ := h.fblk ho
    obtain ⟨_, h2⟩ := h.fblk hl
    have HE : Hid ((p.f (Sy.deAt s d).o == p.f i) = leads s i (some d)) := Lib.hid (by
      show _ = ((Sy.deAt s d).o == i)
      by_cases q : (Sy.deAt s d).o = i
      · rw [q]; simp
      · have q2 : p.f (Sy.deAt s d).o ≠ p.f i := fun e => q (h.f_inj ho hl e)
        rw [beq_eq_false_iff_ne.2 q, beq_eq_false_iff_ne.2 q2])
    have heq : ∀ W : World, W.heap = w.heap → (binOp .eql 119 (.pointer (some ⟨p.f (Sy.deAt s d).o, 0, none⟩)) (.pointer (some ⟨p.f i, 0, none⟩))).run Tryz.prog W = .ok (.bool (p.f (Sy.deAt s d).o == p.f i)) W := fun W hW => eq_file W (by unfold Blk at h1 ⊢; rw [hW]; exact h1) (by unfold Blk at h2 ⊢; rw [hW]; exact h2)
    have he := heq w rfl
    have he1 := fun n => heq (w.drewN n) rfl
    clear heq h1 h2 h hi hx ho hl
    unfold SyDe at hD
    obtain ⟨d0, d1, d2, d3, df, dz⟩ := hD.four
    obtain ⟨R, hR⟩ : ∃ R, R = leads s i (some d) := ⟨_, rfl⟩
    rw [← hR] at HE ⊢
    clear hR hD
    unfold Pl.f Pl.d fdV ptr at *
    change Calls Tryz.prog 136 #[.pointer (some ⟨p.D.getD d 0, 0, none⟩), .pointer (some ⟨gb, 0, none⟩)] w _
    generalize p.F.getD (Sy.deAt s d).o 0 = ga at *
    generalize p.F.getD i 0 = gc at *
    generalize p.D.getD d 0 = gd at *
    generalize Sy.deAt s d = de at *
    go_enter Tryz.func136, Tryz.ntmps136
    go_upto_region 1 with fail
    refine wp_region_quiet_lit (by kernel_rfl) (by kernel_rfl) ?_
    repeat (first | go_big_quiet_step (fail) | quiet_step (fail))
    refine wpQuiet_nil ?_
    intro w2 hw'
    obtain ⟨nq, hw''⟩ := hw'
    go_wp2_with fail
    go_ret
    exact ⟨by rw [HE.out]; rfl, by rw [hw'']; exact below_drewN (Below.refl _ _) nq⟩

/-- No place of which p is true, or the first. -/
theorem idx_any {α : Type} {p : α → Bool} {l : List α} {i : Int} (h : IdxRel p l i) : decide (0 ≤ i) = l.any p := by
  rcases h with ⟨rfl, h⟩ | ⟨k, rfl, hk, h, _⟩
  · rw [show l.any p = false from by rw [List.any_eq_false]; intro x hx; simp [h x hx]]; rfl
  · rw [show l.any p = true from List.any_eq_true.2 ⟨_, List.getElem_mem hk, h⟩]
    exact decide_eq_true (by omega)

set_option maxHeartbeats 1000000 in
theorem indexH_any (p : Pl) (s : St) (n gb g i : Nat) (r : List (Option Nat)) (w : World) (h : SyAt w p s) (hi : Sy.In n s) (hr : r.length = 8) (hx : ∀ d, some d ∈ r → d < s.des.length) (hl : i < s.obs.length) (hg : g < w.heap.size) (hc : ∀ k, (hk : k < r.length) → w.cell? ⟨g, k, none⟩ = some (fdV p.D r[k])) (hb : w.cell? ⟨gb, 0, none⟩ = some (ptr (p.f i))) (hgb : gb < w.heap.size) :
    Calls Tryz.prog 158 #[.slice (some ⟨g, 0, none⟩) 8 8, .func (.func 136) #[] #[.pointer (some ⟨gb, 0, none⟩)]] w fun e w' => ∃ j : Int, e = .returned (.int .i64 j) ∧ IdxRel (leads s i) r j ∧ Below w.heap.size w w' := by
  have HC := Lib.hid (fun (wr : World) (hB : Below w.heap.size w wr) (k : Nat) (hk : k < r.length) => (⟨(hB.cell (p := ⟨g, k, none⟩) hg).trans (hc k hk), used1_any p s n gb i r[k] wr (h.below hB) hi (fun d hd => hx d (hd ▸ List.getElem_mem hk)) hl ((hB.cell (p := ⟨gb, 0, none⟩) hgb).trans hb) (Nat.lt_of_lt_of_le hgb hB.size)⟩ : wr.cell? ⟨g, k, none⟩ = some (fdV p.D r[k]) ∧ Calls Tryz.prog 136 #[fdV p.D r[k], .pointer (some ⟨gb, 0, none⟩)] wr fun e w' => e = .returned (.bool (leads s i r[k])) ∧ Below wr.heap.size wr w'))
  clear hb hgb hx h hi hl hc
  go_enter Tryz.func158, Tryz.ntmps158
  go_wp2
  go_loopw [8] (fun j wr => ∃ k : Nat, k ≤ 8 ∧ j = .int .i64 k ∧ Hid (∀ x ∈ r.take k, leads s i x = false) ∧ Below w.heap.size w wr) (fun j _ => 8 - (intOf j).toNat)
  case atStart => exact ⟨0, Nat.zero_le _, rfl, Lib.hid (by simp), Below.refl _ _⟩
  case round =>
    obtain ⟨k, hk, rfl, hno, hB⟩ := hrel
    by_cases hlt : k < 8
    · have hkr : k < r.length := by omega
      obtain ⟨h0, c1⟩ := HC.out wr hB k hkr
      have Hst : Hid (leads s i r[k] = false → ∀ x ∈ r.take (k + 1), leads s i x = false) := Lib.hid (by
        intro h x hx
        rw [List.take_succ_eq_append_getElem hkr, List.mem_append] at hx
        rcases hx with hx | hx
        · exact hno.out x hx
        · simp at hx; rw [hx]; exact h)
      have Hfd : Hid (leads s i r[k] = true → IdxRel (leads s i) r k) := Lib.hid fun h => .inr ⟨k, rfl, hkr, h, hno.out⟩
      obtain ⟨y, hy⟩ : ∃ y, y = r[k] := ⟨_, rfl⟩
      rw [← hy] at h0 c1 Hst Hfd
      clear hy
      obtain ⟨ad, had⟩ : ∃ ad, fdV p.D y = .pointer ad := by cases y <;> exact ⟨_, rfl⟩
      rw [had] at h0 c1
      clear had
      have hgr := Nat.lt_of_lt_of_le hg hB.size
      go_wp2_with fail
      refine c1.mono ?_
      rintro e w1 ⟨rfl, hb1⟩
      have hB1 := hB.trans (hb1.mono hB.size)
      rcases hcc : leads s i y with _ | _
      · go_wp2_with fail
        go_roundw
        case rel => exact ⟨k + 1, hlt, by go_num, Lib.hid (Hst.out hcc), hB1⟩
        case measure => simp [intOf]; omega
      · go_wp2_with fail
        go_ret
        exact ⟨_, rfl, Hfd.out hcc, hB1⟩
    · go_wp2_with fail
      go_ret
      refine ⟨_, rfl, .inl ⟨rfl, ?_⟩, hB⟩
      have := hno.out
      rw [List.take_of_length_le (by omega)] at this
      exact this
theorem containsH_any (p : Pl) (s : St) (n gb g i : Nat) (r : List (Option Nat)) (w : World) (h : SyAt w p s) (hi : Sy.In n s) (hr : r.length = 8) (hx : ∀ d, some d ∈ r → d < s.des.length) (hl : i < s.obs.length) (hg : g < w.heap.size) (hc : ∀ k, (hk : k < r.length) → w.cell? ⟨g, k, none⟩ = some (fdV p.D r[k])) (hb : w.cell? ⟨gb, 0, none⟩ = some (ptr (p.f i))) (hgb : gb < w.heap.size) :
    Calls Tryz.prog 135 #[.slice (some ⟨g, 0, none⟩) 8 8, .func (.func 136) #[] #[.pointer (some ⟨gb, 0, none⟩)]] w fun e w' => e = .returned (.bool (r.any (leads s i))) ∧ Below w.heap.size w w' := by
  have cI := indexH_any p s n gb g i r w h hi hr hx hl hg hc hb hgb
  clear h hi hr hx hl hg hc hb hgb
  go_enter Tryz.func135, Tryz.ntmps135
  go_wp2_with fail
  refine cI.mono ?_
  rintro e w1 ⟨j, rfl, hj, hb⟩
  have hD := Lib.hid (idx_any hj)
  clear hj
  go_wp2_with fail
  go_ret
  exact ⟨by rw [← hD.out]; rfl, hb⟩
theorem idx8_0 (c0 c1 c2 c3 c4 c5 c6 c7 c8 c9 c10 c11 c12 c13 c14 c15 c16 c17 c18 c19 c20 c21 c22 c23 c24 c25 c26 c27 c28 c29 c30 c31 : Value) (W : World) : (Instr.index 83 (.agg #[c0, c1, c2, c3, c4, c5, c6, c7, c8, c9, c10, c11, c12, c13, c14, c15, c16, c17, c18, c19, c20, c21, c22, c23, c24, c25, c26, c27, c28, c29, c30, c31]) (.int .i64 0)).run Tryz.prog W = .ok (.agg #[c0, c1, c2, c3, c4, c5, c6, c7]) W := by kernel_rfl
theorem idx8_1 (c0 c1 c2 c3 c4 c5 c6 c7 c8 c9 c10 c11 c12 c13 c14 c15 c16 c17 c18 c19 c20 c21 c22 c23 c24 c25 c26 c27 c28 c29 c30 c31 : Value) (W : World) : (Instr.index 83 (.agg #[c0, c1, c2, c3, c4, c5, c6, c7, c8, c9, c10, c11, c12, c13, c14, c15, c16, c17, c18, c19, c20, c21, c22, c23, c24, c25, c26, c27, c28, c29, c30, c31]) (.int .i64 1)).run Tryz.prog W = .ok (.agg #[c8, c9, c10, c11, c12, c13, c14, c15]) W := by kernel_rfl
theorem idx8_2 (c0 c1 c2 c3 c4 c5 c6 c7 c8 c9 c10 c11 c12 c13 c14 c15 c16 c17 c18 c19 c20 c21 c22 c23 c24 c25 c26 c27 c28 c29 c30 c31 : Value) (W : World) : (Instr.index 83 (.agg #[c0, c1, c2, c3, c4, c5, c6, c7, c8, c9, c10, c11, c12, c13, c14, c15, c16, c17, c18, c19, c20, c21, c22, c23, c24, c25, c26, c27, c28, c29, c30, c31]) (.int .i64 2)).run Tryz.prog W = .ok (.agg #[c16, c17, c18, c19, c20, c21, c22, c23]) W := by kernel_rfl
theorem idx8_3 (c0 c1 c2 c3 c4 c5 c6 c7 c8 c9 c10 c11 c12 c13 c14 c15 c16 c17 c18 c19 c20 c21 c22 c23 c24 c25 c26 c27 c28 c29 c30 c31 : Value) (W : World) : (Instr.index 83 (.agg #[c0, c1, c2, c3, c4, c5, c6, c7, c8, c9, c10, c11, c12, c13, c14, c15, c16, c17, c18, c19, c20, c21, c22, c23, c24, c25, c26, c27, c28, c29, c30, c31]) (.int .i64 3)).run Tryz.prog W = .ok (.agg #[c24, c25, c26, c27, c28, c29, c30, c31]) W := by kernel_rfl
/-- A row out of the owners' numbers. -/
theorem idx8 {D : List Nat} {fds : List (List (Option Nat))} (hl : fds.length = 4) (hr : ∀ r ∈ fds, r.length = 8) {k : Nat} (hk : k < 4) : ∃ a0 a1 a2 a3 a4 a5 a6 a7 : Option Addr,
    (fds.getD k []).map (fdV D) = [.pointer a0, .pointer a1, .pointer a2, .pointer a3, .pointer a4, .pointer a5, .pointer a6, .pointer a7] ∧
    ∀ W, (Instr.index 83 (.agg (Sy.fdCells D fds).toArray) (.int .i64 k)).run Tryz.prog W = .ok (.agg #[.pointer a0, .pointer a1, .pointer a2, .pointer a3, .pointer a4, .pointer a5, .pointer a6, .pointer a7]) W := by
  have one : ∀ r : List (Option Nat), r.length = 8 → ∃ a0 a1 a2 a3 a4 a5 a6 a7 : Option Addr, r.map (fdV D) = [.pointer a0, .pointer a1, .pointer a2, .pointer a3, .pointer a4, .pointer a5, .pointer a6, .pointer a7] := fun r h => by
    have ad : ∀ x, ∃ a, fdV D x = .pointer a := fun x => by cases x <;> exact ⟨_, rfl⟩
    match r, h with
    | [x0, x1, x2, x3, x4, x5, x6, x7], _ =>
      obtain ⟨a0, h0⟩ := ad x0; obtain ⟨a1, h1⟩ := ad x1; obtain ⟨a2, h2⟩ := ad x2; obtain ⟨a3, h3⟩ := ad x3
      obtain ⟨a4, h4⟩ := ad x4; obtain ⟨a5, h5⟩ := ad x5; obtain ⟨a6, h6⟩ := ad x6; obtain ⟨a7, h7⟩ := ad x7
      exact ⟨a0, a1, a2, a3, a4, a5, a6, a7, by simp [h0, h1, h2, h3, h4, h5, h6, h7]⟩
  match fds, hl with
  | [r0, r1, r2, r3], _ =>
    obtain ⟨a0, a1, a2, a3, a4, a5, a6, a7, ha⟩ := one r0 (hr _ (by simp))
    obtain ⟨b0, b1, b2, b3, b4, b5, b6, b7, hb⟩ := one r1 (hr _ (by simp))
    obtain ⟨c0, c1, c2, c3, c4, c5, c6, c7, hc⟩ := one r2 (hr _ (by simp))
    obtain ⟨d0, d1, d2, d3, d4, d5, d6, d7, hd⟩ := one r3 (hr _ (by simp))
    have e : (Sy.fdCells D [r0, r1, r2, r3]).toArray = #[.pointer a0, .pointer a1, .pointer a2, .pointer a3, .pointer a4, .pointer a5, .pointer a6, .pointer a7, .pointer b0, .pointer b1, .pointer b2, .pointer b3, .pointer b4, .pointer b5, .pointer b6, .pointer b7, .pointer c0, .pointer c1, .pointer c2, .pointer c3, .pointer c4, .pointer c5, .pointer c6, .pointer c7, .pointer d0, .pointer d1, .pointer d2, .pointer d3, .pointer d4, .pointer d5, .pointer d6, .pointer d7] := by
      unfold Sy.fdCells
      simp [ha, hb, hc, hd]
    rw [e]
    obtain h | h | h | h : k = 0 ∨ k = 1 ∨ k = 2 ∨ k = 3 := by omega
    · subst h; exact ⟨a0, a1, a2, a3, a4, a5, a6, a7, ha, fun W => idx8_0 _ _ _ _ _ _ _ _ _ _ _ _ _ _ _ _ _ _ _ _ _ _ _ _ _ _ _ _ _ _ _ _ W⟩
    · subst h; exact ⟨b0, b1, b2, b3, b4, b5, b6, b7, hb, fun W => idx8_1 _ _ _ _ _ _ _ _ _ _ _ _ _ _ _ _ _ _ _ _ _ _ _ _ _ _ _ _ _ _ _ _ W⟩
    · subst h; exact ⟨c0, c1, c2, c3, c4, c5, c6, c7, hc, fun W => idx8_2 _ _ _ _ _ _ _ _ _ _ _ _ _ _ _ _ _ _ _ _ _ _ _ _ _ _ _ _ _ _ _ _ W⟩
    · subst h; exact ⟨d0, d1, d2, d3, d4, d5, d6, d7, hd, fun W => idx8_3 _ _ _ _ _ _ _ _ _ _ _ _ _ _ _ _ _ _ _ _ _ _ _ _ _ _ _ _ _ _ _ _ W⟩
theorem any_take {α : Type} {p : α → Bool} {l : List α} {k : Nat} (hk : k < l.length) (h : (l.take k).any p = false) : (l.take (k + 1)).any p = p l[k] := by
  rw [List.take_succ_eq_append_getElem hk, List.any_append, h, Bool.false_or]; simp
theorem any_hit {α : Type} {p : α → Bool} {l : List α} {k : Nat} (hk : k < l.length) (h : p l[k] = true) : l.any p = true := List.any_eq_true.2 ⟨_, List.getElem_mem hk, h⟩

set_option maxHeartbeats 2000000 in
set_option maxRecDepth 100000 in
theorem used_any (p : Pl) (s : St) (n i : Nat) (w : World) (h : SyAt w p s) (hi : Sy.In n s) (hl : i < s.obs.length) :
    Calls Tryz.prog 101 #[.pointer (some ⟨p.gs, 0, none⟩), ptr (p.f i)] w fun e w' => e = .returned (.bool (Sy.used s i)) ∧ Below w.heap.size w w' := by
  have hA := Lib.hid h
  have HI := Lib.hid hi
  rw [used_def]
  have hB1 := (Below.refl w.heap.size w).alloc (Nat.le_refl _) (.cells #[ptr (p.f i)] 119)
  have hz1 := Blk.new w 119 [ptr (p.f i)]
  unfold ptr at hB1 hz1 ⊢
  have hgs : p.gs < w.heap.size := h.c_lt h.gs_c
  have hld : Hid (∀ W, Below w.heap.size w W → World.rangeAt W p.gs 4 (Sy.fdCells p.D s.fds)) := Lib.hid fun W hW j v hv => by
    obtain ⟨AU, AL, AT, cU, cL, cT, hb, _⟩ := (h.below hW).box
    rw [hb.cell (4 + j), show 4 + j = j + 1 + 1 + 1 + 1 by omega]
    exact hv
  have HINF : Hid ((Tryz.prog.info? 83).map (·.size) = some (Sy.fdCells p.D s.fds).length) := Lib.hid (by rw [Sy.fd_len hi.fdr, hi.fdl]; kernel_rfl)
  have HIX := Lib.hid (fun k (hk : k < 4) => idx8 (D := p.D) hi.fdl hi.fdr hk)
  have HLEN := Lib.hid hi.fdl
  clear h hi
  obtain ⟨CL, hC⟩ : ∃ C, C = Sy.fdCells p.D s.fds := ⟨_, rfl⟩
  rw [← hC] at hld HIX HINF
  clear hC
  obtain ⟨C, hC⟩ : ∃ C, C = CL.toArray := ⟨_, rfl⟩
  rw [← hC] at HIX
  have HC := Lib.hid hC
  clear hC
  go_enter Tryz.func101, Tryz.ntmps101
  go_upto_region 1 with fail
  generalize w.alloc (.cells #[.pointer (some ⟨p.f i, 0, none⟩)] 119) = w1 at *
  go_wp2_with ((refine wpList_load_mid rfl 83 _ rfl p.gs 4 rfl CL _ (hld.out w1 hB1) Tryz.underlying83 rfl HINF.out ?_); rw [← HC.out])
  go_loopw [11] (fun j wr => ∃ k : Nat, k ≤ 4 ∧ j = .int .i64 k ∧ Hid ((s.fds.take k).any (fun r => r.any (leads s i)) = false) ∧ Below w.heap.size w wr ∧ Blk wr w.heap.size 119 [.pointer (some ⟨p.f i, 0, none⟩)]) (fun j _ => 4 - (intOf j).toNat)
  case atStart => exact ⟨0, Nat.zero_le _, rfl, Lib.hid (by simp), hB1, hz1⟩
  case round =>
    clear hB1 hz1
    obtain ⟨k, hk, rfl, hno, hB, hz⟩ := hrel
    by_cases hlt : k < 4
    · obtain ⟨a0, a1, a2, a3, a4, a5, a6, a7, hrow, hix⟩ := HIX.out k hlt
      have hkf : k < s.fds.length := by rw [HLEN.out]; exact hlt
      have hgk : s.fds.getD k [] = s.fds[k] := by rw [List.getD_eq_getElem?_getD, List.getElem?_eq_getElem hkf]; rfl
      rw [hgk] at hrow
      have Hst : Hid ((s.fds[k].any (leads s i)) = false → (s.fds.take (k + 1)).any (fun r => r.any (leads s i)) = false) := Lib.hid fun h => (any_take hkf hno.out).trans h
      have Hfd : Hid ((s.fds[k].any (leads s i)) = true → s.fds.any (fun r => r.any (leads s i)) = true) := Lib.hid fun h => any_hit (p := fun r => r.any (leads s i)) hkf h
      have hr8 : s.fds[k].length = 8 := HI.out.fdr _ (List.getElem_mem hkf)
      have hrd : ∀ d, some d ∈ s.fds[k] → d < s.des.length := fun d hd => HI.out.fdd _ (List.getElem_mem hkf) d hd
      have HCC : Hid (∀ W g, Below w.heap.size w W → Blk W g 82 [.pointer a0, .pointer a1, .pointer a2, .pointer a3, .pointer a4, .pointer a5, .pointer a6, .pointer a7] → Blk W w.heap.size 119 [.pointer (some ⟨p.f i, 0, none⟩)] → Calls Tryz.prog 135 #[.slice (some ⟨g, 0, none⟩) 8 8, .func (.func 136) #[] #[.pointer (some ⟨w.heap.size, 0, none⟩)]] W fun e w' => e = .returned (.bool (s.fds[k].any (leads s i))) ∧ Below W.heap.size W w') := Lib.hid fun W g hW hg hzW =>
        containsH_any p s n w.heap.size g i s.fds[k] W (hA.out.below hW) HI.out hr8 hrd hl hg.lt (fun j hj => by
          rw [hg.cell j, ← hrow, List.getElem?_map, List.getElem?_eq_getElem hj]; rfl) (hzW.cell 0) hzW.lt
      obtain ⟨R, hR⟩ : ∃ R, R = s.fds[k].any (leads s i) := ⟨_, rfl⟩
      rw [← hR] at HCC Hst Hfd
      clear hR hrow hr8 hrd hgk hld
      go_upto_region 4 with fail
      have hB2 := hB.alloc hB.size (.cells #[.pointer a0, .pointer a1, .pointer a2, .pointer a3, .pointer a4, .pointer a5, .pointer a6, .pointer a7] 82)
      have hg2 := Blk.new wr 82 [.pointer a0, .pointer a1, .pointer a2, .pointer a3, .pointer a4, .pointer a5, .pointer a6, .pointer a7]
      have hz2 := hz.alloc (.cells #[.pointer a0, .pointer a1, .pointer a2, .pointer a3, .pointer a4, .pointer a5, .pointer a6, .pointer a7] 82)
      generalize wr.alloc (.cells #[.pointer a0, .pointer a1, .pointer a2, .pointer a3, .pointer a4, .pointer a5, .pointer a6, .pointer a7] 82) = w2 at *
      have c1 := HCC.out w2 wr.heap.size hB2 hg2 hz2
      clear hix HCC hB hz
      go_wp2_with fail
      refine c1.mono ?_
      rintro e w3 ⟨rfl, hb⟩
      have hB3 := hB2.trans (hb.mono hB2.size)
      have hz3 := hz2.below hb hz2.lt
      cases R
      · have HS := Lib.hid (Hst.out rfl)
        go_wp2_with fail
        go_roundw
        case rel => exact ⟨k + 1, by omega, by go_num, HS, hB3, hz3⟩
        case measure => simp [intOf]; omega
      · have HS := Lib.hid (Hfd.out rfl)
        go_wp2_with fail
        go_ret
        exact ⟨by rw [HS.out]; rfl, hB3⟩
    · have hno := hno.out
      rw [List.take_of_length_le (by rw [HLEN.out]; omega)] at hno
      have HNO := Lib.hid hno
      clear hno
      go_wp2_with fail
      go_ret
      exact ⟨by rw [HNO.out]; rfl, hB⟩
end Go.Proofs.YtjppfhgkanbemacGreatDoor

namespace Go.Proofs.YtjppfhgkanbemacGreatDoor
open Go.RowKit Go.Shelf Go.Sort

theorem LkOwn.off {w : World} {lo : Nat} {v : Value} {l : List Lk} (h : LkOwn w lo v l) {X : Nat → Prop} (hx : ∀ k, X k → k < lo) : ∃ A c, v = .slice A l.length c ∧ l.length ≤ c ∧ Off X w fun w => LkRd w w.heap.size A l := own_off h hx

set_option maxHeartbeats 2000000 in
set_option maxRecDepth 100000 in
theorem locks_any (p : Pl) (s : St) (n i b o : Nat) (c : Ca) (w : World) (h : SyAt w p s) (hi : Sy.In n s) (hl : i < s.obs.length) (hc : CaAt w b o c) :
    Calls Tryz.prog 77 #[.pointer (some ⟨p.gs, 0, none⟩), .pointer (some ⟨b, o, none⟩), .pointer (some ⟨p.f i, 0, none⟩)] w (SyAns p (Sy.callLock s c i) w) := by
  have hA := Lib.hid h
  obtain ⟨A, cp, hf, hfo, hfc⟩ := h.ob i hl
  have HFO := Lib.hid hfo
  clear hfo
  have hln := (hi.obAt i).2.2
  obtain ⟨R, hR⟩ : ∃ R, R = Sy.callLock s c i := ⟨_, rfl⟩
  rw [← hR]
  unfold Sy.callLock at hR
  dsimp only at hR
  have HR := Lib.hid hR
  clear hR hi h
  obtain ⟨ob, hob⟩ : ∃ ob, ob = Sy.obAt s i := ⟨_, rfl⟩
  rw [← hob] at HR hf HFO hfc hln
  have HOB := Lib.hid hob
  clear hob
  obtain ⟨pa, t, l⟩ := ob
  dsimp only at hf HFO hfc hln HR
  have hA0 := hA.out.plus (.cells #[.int .i64 0, .int .i64 0, .string ⟨#[]⟩, .slice none 0 0] 41)
  have hB0 := (Below.refl w.heap.size w).alloc (Nat.le_refl _) (.cells #[.int .i64 0, .int .i64 0, .string ⟨#[]⟩, .slice none 0 0] 41)
  have hz0 := Blk.new w 41 [.int .i64 0, .int .i64 0, .string ⟨#[]⟩, .slice none 0 0]
  have hc0 := hc.below hB0
  have hf0 := hf.alloc (.cells #[.int .i64 0, .int .i64 0, .string ⟨#[]⟩, .slice none 0 0] 41)
  have hx1 : ¬ w.heap.size = p.f i := fun e => by have := hf.lt; omega
  have hcw : ¬ b = w.heap.size := fun e => by have := hc.1; omega
  go_enter Tryz.func77, Tryz.ntmps77
  go_upto_region 1 with fail
  generalize w.alloc (.cells #[.int .i64 0, .int .i64 0, .string ⟨#[]⟩, .slice none 0 0] 41) = w0 at *
  have HC0 := Lib.hid hc0
  obtain ⟨hcb, c0, c1, c2, c3, c4, c5, c6, c7, c8⟩ := HC0.out
  have hB1 := (hB0.alloc hB0.size (.cells #[.int .i64 c.owner, .int .i64 c.n, .int .i64 c.m, .bool c.alone] 58)).drew
  have hA1 := hA0.below (((Below.refl _ w0).alloc (Nat.le_refl _) (.cells #[.int .i64 c.owner, .int .i64 c.n, .int .i64 c.m, .bool c.alone] 58)).drew)
  have hz1 := (hz0.alloc (.cells #[.int .i64 c.owner, .int .i64 c.n, .int .i64 c.m, .bool c.alone] 58)).drew
  have hf1 := (hf0.alloc (.cells #[.int .i64 c.owner, .int .i64 c.n, .int .i64 c.m, .bool c.alone] 58)).drew
  have HC1 := Lib.hid (HC0.out.below (((Below.refl _ w0).alloc (Nat.le_refl _) (.cells #[.int .i64 c.owner, .int .i64 c.n, .int .i64 c.m, .bool c.alone] 58)).drew))
  have hl1 : Blk (w0.alloc (.cells #[.int .i64 c.owner, .int .i64 c.n, .int .i64 c.m, .bool c.alone] 58)).drew w0.heap.size 58 [.int .i64 c.owner, .int .i64 c.n, .int .i64 c.m, .bool c.alone] := Blk.new _ _ _
  have hxl : w.heap.size < w0.heap.size := hz0.lt
  go_region_held3 (fun W => W.cell? ⟨b, o + 1, none⟩ = some (.int .i64 c.owner) ∧ W.cell? ⟨b, o + 3, none⟩ = some (.int .i64 c.n) ∧ W.cell? ⟨b, o + 4, none⟩ = some (.int .i64 c.m) ∧ W.cell? ⟨b, o + 8, none⟩ = some (.bool c.alone)) (first | go_keep | exact ⟨c1, c3, c4, c8⟩) (fail)
  clear hcb c0 c1 c2 c3 c4 c5 c6 c7 c8
  generalize (w0.alloc (.cells #[.int .i64 c.owner, .int .i64 c.n, .int .i64 c.m, .bool c.alone] 58)).drew = w1 at *
  generalize w0.heap.size = gl at *
  clear hA0 hB0 hz0 hf0 hc0 HC0 hf
  obtain ⟨gf, hgf⟩ : ∃ gf, gf = p.f i := ⟨_, rfl⟩
  have HGF := Lib.hid hgf
  rw [← hgf] at hx1 hf1 ⊢
  clear hgf
  obtain ⟨hcb, c0, c1, c2, c3, c4, c5, c6, c7, c8⟩ := HC1.out
  obtain ⟨l0, l1, l2, l3, lf, lz⟩ := hl1.four
  obtain ⟨z0, z1, z2, z3, zf, zz⟩ := hz1.four
  obtain ⟨f0, f1, f2, ff, fz⟩ := hf1.three
  have HFO1 : Hid (Off (p.plus w.heap.size).X w1 (fun w => LkRd w w.heap.size A l)) := Lib.hid (by
    obtain ⟨A', c', hb', ho', _⟩ := hA1.ob i hl
    rw [← HOB.out] at hb' ho'
    rw [show Pl.f (p.plus w.heap.size) i = gf from HGF.out.symm] at hb'
    have e2 := (hb'.cell 2).symm.trans (hf1.cell 2)
    injection e2 with e2
    injection e2 with e2
    rw [← e2]; exact ho')
  have hrd : ∀ W, Below w1.heap.size w1 W → LkRd W W.heap.size A l := fun W q => (HFO1.out.on (Fr.of (X := (p.plus w.heap.size).X) q) (Sub.refl _ _)).here
  have hbd : Below w1.heap.size w1 w1.drew := (Below.refl _ w1).drew
  have S6 : ∀ w6, Below w1.heap.size w1 w6 → (w6.cell? ⟨gf, 2, none⟩ = some (.slice A l.length cp) ∧ w6.cell? ⟨gl, 0, none⟩ = some (.int .i64 c.owner) ∧ w6.cell? ⟨gl, 1, none⟩ = some (.int .i64 c.n) ∧ w6.cell? ⟨gl, 2, none⟩ = some (.int .i64 c.m) ∧ w6.cell? ⟨gl, 3, none⟩ = some (.bool c.alone)) := fun w6 hb => ⟨(hb.cell (p := ⟨gf, 2, none⟩) fz).trans f2, (hb.cell (p := ⟨gl, 0, none⟩) lz).trans l0, (hb.cell (p := ⟨gl, 1, none⟩) lz).trans l1, (hb.cell (p := ⟨gl, 2, none⟩) lz).trans l2, (hb.cell (p := ⟨gl, 3, none⟩) lz).trans l3⟩
  rcases t15 : (c.kind == 15) with _ | _
  · have HR := Lib.hid HR.out
    have hq15 : ¬ c.kind = 15 := by simpa using t15
    rw [if_neg hq15] at HR
    have cT := fun W q => take_any A cp l ⟨c.owner, c.n, c.m, c.alone⟩ W (hrd W q) hfc (by omega)
    dsimp only at cT
    go_upto_region 5 with fail
    go_region_held3 (fun W => W.cell? ⟨gf, 2, none⟩ = some (.slice A l.length cp) ∧ W.cell? ⟨gl, 0, none⟩ = some (.int .i64 c.owner) ∧ W.cell? ⟨gl, 1, none⟩ = some (.int .i64 c.n) ∧ W.cell? ⟨gl, 2, none⟩ = some (.int .i64 c.m) ∧ W.cell? ⟨gl, 3, none⟩ = some (.bool c.alone)) (first | exact ⟨f2, l0, l1, l2, l3⟩ | exact hS6 | go_keep) (first | (go_at_call 104; refine (cT w1.drew hbd).mono ?_; rintro e w6 ⟨v6, m, err, rfl, hrel, ho6, hb6⟩; have hb6' : Below w1.heap.size w1 w6 := hbd.trans hb6; have hS6 := S6 w6 hb6'; obtain ⟨A6, cq, rfl, hcq, hO6⟩ := LkOwn.off ho6 (X := (p.plus w.heap.size).X) (fun k hk => hA1.x_lt hk)))
    all_goals
      have HIS := Lib.hid (take_is hrel)
      clear hrel cT
      have hA6 := hA1.below hb6'
      have hz6 := hz1.below hb6' zz
      have hf6 := hf1.below hb6' fz
      have hF6 : Fr p.C w w6 := (Fr.of hB1 : Fr p.C w w1).thenB hb6'
      clear z0 z1 z2 z3 zf zz f0 f1 f2 ff fz l0 l1 l2 l3 lf lz hS6 hcb c0 c1 c2 c3 c4 c5 c6 c7 c8
      obtain ⟨z0, z1, z2, z3, zf, zz⟩ := hz6.four
      obtain ⟨f0, f1, f2, ff, fz⟩ := hf6.three
      have HR := Lib.hid HR.out
      rw [HIS.out] at HR
      rcases te : (err == 0) with _ | _
      · have HF : Hid (R = (s, .no err)) := Lib.hid (by rw [HR.out, if_neg (by simpa using te)])
        clear HR
        go_wp2_with fail
        refine bodyPost_ret (v := .agg #[.int .i64 err, .int .i64 0, .string ⟨#[]⟩, .slice none 0 0]) ?_ rfl ?_
        · simp [results, Tryz.results77, go_sem, z0, z1, z2, z3]
        rw [HF.out]
        exact ans_end (a := (.no err)) (Nat.le_refl _) hA6 rfl rfl hF6 (Sub.refl _ _) rfl
      · obtain rfl : err = 0 := by simpa using te
        have HF : Hid (R = (Sy.setOb s i (fun o => { o with l := m }), .no 0)) := Lib.hid (by rw [HR.out, if_pos rfl])
        clear te
        clear HR
        have hf9 : Fr (fun k => k = gf) w6 (w6.setCell ⟨gf, 2, none⟩ (.slice A6 m.length cq)) := (Fr.refl (fun k => k = gf) w6).at_ 2 _
        have hA7 := hA6.setOb (i := i) hl (by rw [show Pl.f (p.plus w.heap.size) i = gf from HGF.out.symm]; exact hf9) (fun o => { o with l := m }) (by
          rw [show Pl.f (p.plus w.heap.size) i = gf from HGF.out.symm]
          obtain ⟨A', c', hb', _, _⟩ := hA6.ob i hl
          rw [show Pl.f (p.plus w.heap.size) i = gf from HGF.out.symm] at hb'
          exact ⟨A6, cq, hb'.set_ 2 _, hO6.on (hf9.wide (X := (p.plus w.heap.size).X) fun _ _ e => by rw [e, HGF.out]; exact Pl.cx (hA1.f_c hl)) (Sub.refl _ _), hcq⟩)
        have hz7 := hz6.far (p := ⟨gf, 2, none⟩) hx1 (.slice A6 m.length cq)
        have hF7 : Fr p.C w (w6.setCell ⟨gf, 2, none⟩ (.slice A6 m.length cq)) := hF6.setCell (p := ⟨gf, 2, none⟩) (by show p.C gf; rw [HGF.out]; exact hA.out.f_c hl) _
        have hx2 : ¬ gf = w.heap.size := fun e => hx1 e.symm
        go_upto_region 8 with fail
        clear z0 z1 z2 z3 zf zz f0 f1 f2 ff fz
        generalize w6.setCell ⟨gf, 2, none⟩ (.slice A6 m.length cq) = w7 at *
        obtain ⟨z0, z1, z2, z3, zf, zz⟩ := hz7.four
        go_wp2_with fail
        refine bodyPost_ret (v := .agg #[.int .i64 0, .int .i64 0, .string ⟨#[]⟩, .slice none 0 0]) ?_ rfl ?_
        · simp [results, Tryz.results77, go_sem, z0, z1, z2, z3]
        rw [HF.out]
        exact ans_end (a := (.no 0)) (Nat.le_refl _) hA7 rfl rfl hF7 (Sub.refl _ _) rfl
  · have HR := Lib.hid HR.out
    have hq15 : c.kind = 15 := by simpa using t15
    rw [if_pos hq15] at HR
    have cT := fun W q => free_any A cp l ⟨c.owner, c.n, c.m, c.alone⟩ W (hrd W q) hfc (by omega)
    dsimp only at cT
    go_upto_region 5 with fail
    go_region_held3 (fun W => W.cell? ⟨gf, 2, none⟩ = some (.slice A l.length cp) ∧ W.cell? ⟨gl, 0, none⟩ = some (.int .i64 c.owner) ∧ W.cell? ⟨gl, 1, none⟩ = some (.int .i64 c.n) ∧ W.cell? ⟨gl, 2, none⟩ = some (.int .i64 c.m) ∧ W.cell? ⟨gl, 3, none⟩ = some (.bool c.alone)) (first | exact ⟨f2, l0, l1, l2, l3⟩ | exact hS6 | go_keep) (first | (go_at_call 105; refine (cT w1.drew hbd).mono ?_; rintro e w6 ⟨v6, m, err, rfl, hrel, ho6, hb6⟩; have hb6' : Below w1.heap.size w1 w6 := hbd.trans hb6; have hS6 := S6 w6 hb6'; obtain ⟨A6, cq, rfl, hcq, hO6⟩ := LkOwn.off ho6 (X := (p.plus w.heap.size).X) (fun k hk => hA1.x_lt hk)))
    all_goals
      have HIS := Lib.hid (free_is hrel)
      clear hrel cT
      have hA6 := hA1.below hb6'
      have hz6 := hz1.below hb6' zz
      have hf6 := hf1.below hb6' fz
      have hF6 : Fr p.C w w6 := (Fr.of hB1 : Fr p.C w w1).thenB hb6'
      clear z0 z1 z2 z3 zf zz f0 f1 f2 ff fz l0 l1 l2 l3 lf lz hS6 hcb c0 c1 c2 c3 c4 c5 c6 c7 c8
      obtain ⟨z0, z1, z2, z3, zf, zz⟩ := hz6.four
      obtain ⟨f0, f1, f2, ff, fz⟩ := hf6.three
      have HR := Lib.hid HR.out
      rw [HIS.out] at HR
      rcases te : (err == 0) with _ | _
      · have HF : Hid (R = (s, .no err)) := Lib.hid (by rw [HR.out, if_neg (by simpa using te)])
        clear HR
        go_wp2_with fail
        refine bodyPost_ret (v := .agg #[.int .i64 err, .int .i64 0, .string ⟨#[]⟩, .slice none 0 0]) ?_ rfl ?_
        · simp [results, Tryz.results77, go_sem, z0, z1, z2, z3]
        rw [HF.out]
        exact ans_end (a := (.no err)) (Nat.le_refl _) hA6 rfl rfl hF6 (Sub.refl _ _) rfl
      · obtain rfl : err = 0 := by simpa using te
        have HF : Hid (R = (Sy.setOb s i (fun o => { o with l := m }), .no 0)) := Lib.hid (by rw [HR.out, if_pos rfl])
        clear te
        clear HR
        have hf9 : Fr (fun k => k = gf) w6 (w6.setCell ⟨gf, 2, none⟩ (.slice A6 m.length cq)) := (Fr.refl (fun k => k = gf) w6).at_ 2 _
        have hA7 := hA6.setOb (i := i) hl (by rw [show Pl.f (p.plus w.heap.size) i = gf from HGF.out.symm]; exact hf9) (fun o => { o with l := m }) (by
          rw [show Pl.f (p.plus w.heap.size) i = gf from HGF.out.symm]
          obtain ⟨A', c', hb', _, _⟩ := hA6.ob i hl
          rw [show Pl.f (p.plus w.heap.size) i = gf from HGF.out.symm] at hb'
          exact ⟨A6, cq, hb'.set_ 2 _, hO6.on (hf9.wide (X := (p.plus w.heap.size).X) fun _ _ e => by rw [e, HGF.out]; exact Pl.cx (hA1.f_c hl)) (Sub.refl _ _), hcq⟩)
        have hz7 := hz6.far (p := ⟨gf, 2, none⟩) hx1 (.slice A6 m.length cq)
        have hF7 : Fr p.C w (w6.setCell ⟨gf, 2, none⟩ (.slice A6 m.length cq)) := hF6.setCell (p := ⟨gf, 2, none⟩) (by show p.C gf; rw [HGF.out]; exact hA.out.f_c hl) _
        have hx2 : ¬ gf = w.heap.size := fun e => hx1 e.symm
        go_upto_region 8 with fail
        clear z0 z1 z2 z3 zf zz f0 f1 f2 ff fz
        generalize w6.setCell ⟨gf, 2, none⟩ (.slice A6 m.length cq) = w7 at *
        obtain ⟨z0, z1, z2, z3, zf, zz⟩ := hz7.four
        go_wp2_with fail
        refine bodyPost_ret (v := .agg #[.int .i64 0, .int .i64 0, .string ⟨#[]⟩, .slice none 0 0]) ?_ rfl ?_
        · simp [results, Tryz.results77, go_sem, z0, z1, z2, z3]
        rw [HF.out]
        exact ans_end (a := (.no 0)) (Nat.le_refl _) hA7 rfl rfl hF7 (Sub.refl _ _) rfl
end Go.Proofs.YtjppfhgkanbemacGreatDoor

namespace Go.Proofs.YtjppfhgkanbemacGreatDoor
open Go.RowKit Go.Shelf Go.Sort

theorem Sy.closed_in {n : Nat} {s : St} (h : Sy.In n s) (o k d : Nat) : Sy.In (n + 1) (Sy.setDe (Sy.setOb (Sy.setFd s o k none) (Sy.deAt s d).o fun x => { x with l := Lk.leave x.l o }) d fun x => { x with refs := x.refs - 1 }) := by
  have h1 := (h.more (Nat.le_succ n)).setFd o k none (fun _ h => nomatch h)
  have h2 := h1.setOb (Sy.deAt s d).o (f := fun x => { x with l := Lk.leave x.l o }) fun x hx => ⟨hx.1, hx.2.1, Nat.le_trans (Sy.leave_le _ _) hx.2.2⟩
  refine h2.des (List.length_modify ..) fun x hx => ?_
  rcases Sy.mem_mod hx with h4 | ⟨y, h4, rfl⟩
  · exact h2.de x h4
  · have hl : (Sy.setOb (Sy.setFd s o k none) (Sy.deAt s d).o fun x => { x with l := Lk.leave x.l o }).obs.length = s.obs.length := List.length_modify ..
    obtain ⟨e1, e2, e3, e4, e5, e6⟩ := h.de y h4
    exact ⟨by rw [hl]; exact e1, e2, e3, by show -((n + 1 : Nat) : Int) ≤ y.refs - 1; omega, by show y.refs - 1 ≤ ((n + 1 : Nat) : Int); omega, e6⟩
theorem Sy.setDe_at {s : St} {d : Nat} (hd : d < s.des.length) (f : De → De) : Sy.deAt (Sy.setDe s d f) d = f (Sy.deAt s d) := by
  unfold Sy.deAt Sy.setDe
  simp only [List.getD_eq_getElem?_getD, List.getElem?_modify_eq]
  rw [List.getElem?_eq_getElem hd]; rfl
theorem filter_files {f : Nat → Nat} {l : List Nat} {i : Nat} (h : ∀ j ∈ l, f j = f i → j = i) : (l.map f).filter (fun x => !(x == f i)) = (l.filter fun j => j != i).map f := by
  induction l with
  | nil => rfl
  | cons a t ih =>
    have ih := ih fun j hj => h j (List.mem_cons_of_mem _ hj)
    by_cases e : a = i
    · subst e; simp [ih]
    · have e2 : f a ≠ f i := fun q => e (h a (List.mem_cons_self ..) q)
      have e3 : (f a == f i) = false := by simp [e2]
      have e4 : (a != i) = true := by simp [e]
      rw [List.map_cons, List.filter_cons, e3, List.filter_cons, e4, ih]
      rfl
set_option maxHeartbeats 1000000 in
theorem deleteF_nil (gb : Nat) (w : World) :
    Calls Tryz.prog 102 #[.slice none 0 0, .func (.func 103) #[] #[.pointer (some ⟨gb, 0, none⟩)]] w fun e w' => e = .returned (.slice none 0 0) ∧ w' = w := by
  have cI : Calls Tryz.prog 137 #[.slice none 0 0, .func (.func 103) #[] #[.pointer (some ⟨gb, 0, none⟩)]] w fun e w' => e = .returned (.int .i64 (-1)) ∧ w' = w := by
    go_enter Tryz.func137, Tryz.ntmps137
    go_wp2
    go_loopw [8] (fun i wr => Hid (wr = w) ∧ i = .int .i64 0) (fun i _ => 0)
    case atStart => exact ⟨Lib.hid rfl, rfl⟩
    case round =>
      obtain ⟨hh, rfl⟩ := hrel
      have HH := Lib.hid hh.out
      clear hh
      go_wp2_with fail
      go_ret
      exact ⟨rfl, HH.out⟩
  go_enter Tryz.func102, Tryz.ntmps102
  go_wp2_with fail
  refine cI.mono ?_
  rintro e w1 ⟨rfl, rfl⟩
  go_wp2_with fail
  go_ret
  exact ⟨rfl, rfl⟩

set_option maxHeartbeats 2000000 in
set_option maxRecDepth 100000 in
theorem callClose_any (p : Pl) (s : St) (n o k d : Nat) (w : World) (h : SyAt w p s) (hi : Sy.In n s) (hn : n ≤ 999) (ho : o < 4) (hk : k < 8) (hd : Sy.fdAt s o k = some d) :
    Calls Tryz.prog 76 #[.pointer (some ⟨p.gs, 0, none⟩), .int .i64 o, .int .i64 k] w (SyAns p (Sy.callClose s o k d) w) := by
  have hA := Lib.hid h
  have HI := Lib.hid hi
  have HI3 := Lib.hid (Sy.closed_in hi o k d)
  have hdl : d < s.des.length := hi.fdAt hd
  have hfd := h.fds hi ho hk
  rw [hd, show fdV p.D (some d) = .pointer (some ⟨p.d d, 0, none⟩) from rfl, ← Nat.add_assoc] at hfd
  obtain ⟨hdo, hda, hda2, hr1, hr2, _⟩ := hi.deAt hdl
  obtain ⟨R, hR⟩ : ∃ R, R = Sy.callClose s o k d := ⟨_, rfl⟩
  rw [← hR]
  unfold Sy.callClose at hR
  dsimp only at hR
  rw [Sy.setDe_at (show d < (Sy.setOb (Sy.setFd s o k none) (Sy.deAt s d).o fun x => { x with l := Lk.leave x.l o }).des.length from hdl)] at hR
  have hdd : Sy.deAt (Sy.setOb (Sy.setFd s o k none) (Sy.deAt s d).o fun x => { x with l := Lk.leave x.l o }) d = Sy.deAt s d := rfl
  rw [hdd] at hR
  have HR := Lib.hid hR
  clear hR hdd hd
  have hD := h.de d hdl
  unfold SyDe at hD
  have hob := h.ob (Sy.deAt s d).o hdo
  have hll := (hi.obAt (Sy.deAt s d).o).2.2
  have hgd := h.gs_d hdl
  have hgf := h.gs_f hdo
  have hfd2 := h.f_d hdo hdl
  have hlt1 := h.c_lt h.gs_c
  have hlt2 := h.c_lt (h.d_c hdl)
  have hlt3 := h.c_lt (h.f_c hdo)
  have HDI := Lib.hid (rfl : Sy.deAt s d = Sy.deAt s d)
  generalize hde : Sy.deAt s d = de at *
  have HDE := Lib.hid hde
  clear hde HDI
  obtain ⟨i, fl, at_, refs⟩ := de
  dsimp only at *
  obtain ⟨A, cp, hF, hFO, hFC⟩ := hob
  have HFO := Lib.hid hFO
  clear hFO
  obtain ⟨lks, hlks⟩ : ∃ l, l = (Sy.obAt s i).l := ⟨_, rfl⟩
  have HLK := Lib.hid hlks
  rw [← hlks] at hF HFO hFC hll
  clear hlks
  generalize (Sy.obAt s i).p = opa at *
  generalize (Sy.obAt s i).t = ota at *
  have hA0 := hA.out.plus (.cells #[.int .i64 0, .int .i64 0, .string ⟨#[]⟩, .slice none 0 0] 41)
  have hB0 := (Below.refl w.heap.size w).alloc (Nat.le_refl _) (.cells #[.int .i64 0, .int .i64 0, .string ⟨#[]⟩, .slice none 0 0] 41)
  have hz0 := Blk.new w 41 [.int .i64 0, .int .i64 0, .string ⟨#[]⟩, .slice none 0 0]
  have hD := hD.alloc (.cells #[.int .i64 0, .int .i64 0, .string ⟨#[]⟩, .slice none 0 0] 41)
  have hF := hF.alloc (.cells #[.int .i64 0, .int .i64 0, .string ⟨#[]⟩, .slice none 0 0] 41)
  have hfd : (w.alloc (.cells #[.int .i64 0, .int .i64 0, .string ⟨#[]⟩, .slice none 0 0] 41)).cell? ⟨p.gs, 4 + o * 8 + k, none⟩ = some (.pointer (some ⟨p.d d, 0, none⟩)) := (World.cell?_alloc_lt w (.cells #[.int .i64 0, .int .i64 0, .string ⟨#[]⟩, .slice none 0 0] 41) ⟨p.gs, 4 + o * 8 + k, none⟩ hlt1).trans hfd
  have hbx : ∃ cs, Blk (w.alloc (.cells #[.int .i64 0, .int .i64 0, .string ⟨#[]⟩, .slice none 0 0] 41)) p.gs 85 cs := hA0.blk
  have hgz : ∀ q, (w.alloc (.cells #[.int .i64 0, .int .i64 0, .string ⟨#[]⟩, .slice none 0 0] 41)).frozen? ⟨p.gs, q, none⟩ = false := by obtain ⟨cs, hb⟩ := hbx; exact hb.frozen
  have hg1 : p.gs < (w.alloc (.cells #[.int .i64 0, .int .i64 0, .string ⟨#[]⟩, .slice none 0 0] 41)).heap.size := by rw [World.size_alloc]; omega
  have hw0 : w.heap.size < (w.alloc (.cells #[.int .i64 0, .int .i64 0, .string ⟨#[]⟩, .slice none 0 0] 41)).heap.size := by rw [World.size_alloc]; omega
  clear hbx h hi
  go_enter Tryz.func76, Tryz.ntmps76
  go_upto_region 1 with fail
  generalize w.alloc (.cells #[.int .i64 0, .int .i64 0, .string ⟨#[]⟩, .slice none 0 0] 41) = w0 at *
  go_upto_region 2 with fail
  have hA1 := hA0.below ((Below.refl _ w0).alloc (Nat.le_refl _) (.cells #[.pointer (some ⟨p.d d, 0, none⟩)] 81))
  have hB1 := hB0.alloc hB0.size (.cells #[.pointer (some ⟨p.d d, 0, none⟩)] 81)
  have hz1 := hz0.alloc (.cells #[.pointer (some ⟨p.d d, 0, none⟩)] 81)
  have hD1 := hD.alloc (.cells #[.pointer (some ⟨p.d d, 0, none⟩)] 81)
  have hF1 := hF.alloc (.cells #[.pointer (some ⟨p.d d, 0, none⟩)] 81)
  have hh1 := Blk.new w0 81 [.pointer (some ⟨p.d d, 0, none⟩)]
  obtain ⟨gh, hgh⟩ : ∃ gh, gh = w0.heap.size := ⟨_, rfl⟩
  have hgh1 : w.heap.size < gh := by omega
  have hfd1 : (w0.alloc (.cells #[.pointer (some ⟨p.d d, 0, none⟩)] 81)).cell? ⟨p.gs, 4 + o * 8 + k, none⟩ = some (.pointer (some ⟨p.d d, 0, none⟩)) := (World.cell?_alloc_lt w0 (.cells #[.pointer (some ⟨p.d d, 0, none⟩)] 81) ⟨p.gs, 4 + o * 8 + k, none⟩ hg1).trans hfd
  have hgz1 : ∀ q, (w0.alloc (.cells #[.pointer (some ⟨p.d d, 0, none⟩)] 81)).frozen? ⟨p.gs, q, none⟩ = false := by obtain ⟨cs, hb⟩ := hA1.blk; exact hb.frozen
  have hgl1 : p.gs < (w0.alloc (.cells #[.pointer (some ⟨p.d d, 0, none⟩)] 81)).heap.size := by rw [World.size_alloc]; omega
  rw [← hgh] at hh1 ⊢
  clear hgh hfd hgz
  generalize w0.alloc (.cells #[.pointer (some ⟨p.d d, 0, none⟩)] 81) = w1 at *
  clear hA0 hB0 hz0 hD hF hg1 hw0
  go_upto_region 3 with fail
  clear hfd1 hgz1 hgl1
  have hA2 := hA1.setFd (o := o) (k := k) ⟨HI.out.fdl, HI.out.fdr⟩ ho hk none
  rw [show fdV (p.plus w.heap.size).D none = .pointer none from rfl, ← Nat.add_assoc] at hA2
  have hF2 : Fr p.C w (w1.setCell ⟨p.gs, 4 + o * 8 + k, none⟩ (.pointer none)) := Fr.setCell (Fr.of hB1) (p := ⟨p.gs, 4 + o * 8 + k, none⟩) (.inl rfl) _
  have hz2 := hz1.far (p := ⟨p.gs, 4 + o * 8 + k, none⟩) (show w.heap.size ≠ p.gs by omega) (.pointer none)
  have hD2 := hD1.far (p := ⟨p.gs, 4 + o * 8 + k, none⟩) (Ne.symm hgd) (.pointer none)
  have hf2 := hF1.far (p := ⟨p.gs, 4 + o * 8 + k, none⟩) (Ne.symm hgf) (.pointer none)
  have hh2 := hh1.far (p := ⟨p.gs, 4 + o * 8 + k, none⟩) (show gh ≠ p.gs by omega) (.pointer none)
  have hsz2 : w1.heap.size = (w1.setCell ⟨p.gs, 4 + o * 8 + k, none⟩ (.pointer none)).heap.size := by simp
  generalize w1.setCell ⟨p.gs, 4 + o * 8 + k, none⟩ (.pointer none) = w2 at *
  clear hA1 hB1 hz1 hD1 hF1 hh1 hsz2
  obtain ⟨s1, hs1⟩ : ∃ s1, s1 = Sy.setFd s o k none := ⟨_, rfl⟩
  have hl1 : i < s1.obs.length := by rw [hs1]; exact hdo
  have hl2 : d < s1.des.length := by rw [hs1]; exact hdl
  have HO1 : Hid (Sy.obAt s1 i = Sy.obAt s i) := Lib.hid (by rw [hs1]; rfl)
  have HD1 : Hid (Sy.deAt s1 d = ⟨i, fl, at_, refs⟩) := Lib.hid (by rw [hs1]; exact HDE.out)
  rw [← hs1] at hA2 HR HI3
  clear hs1
  obtain ⟨gf, hgf9⟩ : ∃ gf, gf = p.f i := ⟨_, rfl⟩
  obtain ⟨gd, hgd9⟩ : ∃ gd, gd = p.d d := ⟨_, rfl⟩
  have HGF := Lib.hid hgf9
  have HGD := Lib.hid hgd9
  rw [show ptr (p.F.getD i 0) = .pointer (some ⟨p.f i, 0, none⟩) from rfl] at hD2
  rw [← hgf9] at hf2 hfd2 hgf hlt3 hD2
  rw [← hgd9] at hD2 hh2 hfd2 hgd hlt2
  clear hgf9 hgd9
  obtain ⟨q0, qf, qz⟩ := hh2.one
  obtain ⟨d0, d1, d2, d3, df, dz⟩ := hD2.four
  obtain ⟨f0, f1, f2, ff, fz⟩ := hf2.three
  have hbd : Below w2.heap.size w2 w2.drew := (Below.refl _ w2).drew
  have HFO2 : Hid (Off (p.plus w.heap.size).X w2 (fun w => LkRd w w.heap.size A lks)) := Lib.hid (by
    obtain ⟨A', c', hb', ho', _⟩ := hA2.ob i hl1
    rw [HO1.out, ← HLK.out] at hb' ho'
    have e1 : Pl.f (p.plus w.heap.size) i = gf := HGF.out.symm
    rw [e1] at hb'
    have e2 := (hb'.cell 2).symm.trans (hf2.cell 2)
    injection e2 with e2
    injection e2 with e2
    rw [← e2]; exact ho')
  have cL := fun W (q : Below w2.heap.size w2 W) => leaveL_any A cp lks o W (((HFO2.out.on (Fr.of (X := (p.plus w.heap.size).X) q) (Sub.refl _ _))).here) (by omega)
  have S6 : ∀ w6, Below w2.heap.size w2 w6 → (w6.cell? ⟨gh, 0, none⟩ = some (.pointer (some ⟨gd, 0, none⟩)) ∧ w6.cell? ⟨gd, 0, none⟩ = some (.pointer (some ⟨gf, 0, none⟩))) := fun w6 hb => ⟨(hb.cell (p := ⟨gh, 0, none⟩) qz).trans q0, (hb.cell (p := ⟨gd, 0, none⟩) dz).trans d0⟩
  have hfh : gf ≠ gh := by omega
  go_cut [] (fun wx => SyAt wx (p.plus w.heap.size) (Sy.setOb s1 i fun x => { x with l := Lk.leave x.l o }) ∧ Blk wx w.heap.size 41 [.int .i64 0, .int .i64 0, .string ⟨#[]⟩, .slice none 0 0] ∧ Blk wx gd 122 [.pointer (some ⟨gf, 0, none⟩), .int .i64 fl, .int .i64 at_, .int .i64 refs] ∧ Blk wx gh 81 [.pointer (some ⟨gd, 0, none⟩)] ∧ Fr p.C w wx)
  case first =>
    go_region_law (first | (go_simp; go_at_call 100; refine (cL w2.drew hbd).mono ?_; rintro e w6 ⟨v6, rfl, ho6, hb6⟩; have hb6' : Below w2.heap.size w2 w6 := hbd.trans hb6; have hS6 := S6 w6 hb6'; obtain ⟨A6, c6, rfl, hc6, hO6⟩ := LkOwn.off ho6 (X := (p.plus w.heap.size).X) (fun k hk => hA2.x_lt hk); have hf6 := hf2.below hb6' fz; have ff6 := hf6.frozen; have fz6 := hf6.lt; have f26 := hf6.cell 2))
    all_goals
      have hA6 := hA2.below hb6'
      have hz6 := hz2.below hb6' hz2.lt
      have hD6 := hD2.below hb6' dz
      have hh6 := hh2.below hb6' qz
      have hF6 := hF2.thenB hb6'
      have hf9 : Fr (fun k => k = gf) w6 (w6.setCell ⟨gf, 2, none⟩ (.slice A6 (Lk.leave lks o).length c6)) := (Fr.refl (fun k => k = gf) w6).at_ 2 _
      have hA7 := hA6.setOb hl1 (by rw [show Pl.f (p.plus w.heap.size) i = gf from HGF.out.symm]; exact hf9) (fun x => { x with l := Lk.leave x.l o }) (by
        rw [HO1.out]
        rw [show Pl.f (p.plus w.heap.size) i = gf from HGF.out.symm]
        obtain ⟨A', c', hb', _, _⟩ := hA6.ob i hl1
        rw [HO1.out, show Pl.f (p.plus w.heap.size) i = gf from HGF.out.symm] at hb'
        refine ⟨A6, c6, ?_, ?_, by show (Lk.leave (Sy.obAt s i).l o).length ≤ c6; rw [← HLK.out]; exact hc6⟩
        · have h1 := hb'.set_ 2 (.slice A6 (Lk.leave lks o).length c6)
          rw [HLK.out] at h1 ⊢
          exact h1
        · show Off _ _ fun w => LkRd w w.heap.size A6 (Lk.leave (Sy.obAt s i).l o)
          rw [← HLK.out]
          exact hO6.on (hf9.wide (X := (p.plus w.heap.size).X) fun _ _ e => by rw [e, HGF.out]; exact Pl.cx (hA2.f_c hl1)) (Sub.refl _ _))
      have hz7 := hz6.far (p := ⟨gf, 2, none⟩) (show w.heap.size ≠ gf by omega) (.slice A6 (Lk.leave lks o).length c6)
      have hD7 := hD6.far (p := ⟨gf, 2, none⟩) (Ne.symm hfd2) (.slice A6 (Lk.leave lks o).length c6)
      have hh7 := hh6.far (p := ⟨gf, 2, none⟩) (show gh ≠ gf by omega) (.slice A6 (Lk.leave lks o).length c6)
      have hF7 : Fr p.C w (w6.setCell ⟨gf, 2, none⟩ (.slice A6 (Lk.leave lks o).length c6)) := hF6.setCell (p := ⟨gf, 2, none⟩) (by show p.C gf; rw [HGF.out]; exact hA.out.f_c hdo) _
      go_wp2_with fail
      go_meet
      case rel => exact ⟨hA7, hz7, hD7, hh7, hF7⟩
  case rest =>
    obtain ⟨hA7, hz7, hD7, hh7, hF7⟩ := hcut
    generalize wc = w7 at *
    clear q0 qf qz d0 d1 d2 d3 df dz f0 f1 f2 ff fz S6 cL HFO2 hbd hA2 hz2 hD2 hf2 hh2 hF2
    have hl7 : d < (Sy.setOb s1 i fun x => { x with l := Lk.leave x.l o }).des.length := hl2
    obtain ⟨q0, qf, qz⟩ := hh7.one
    obtain ⟨d0, d1, d2, d3, df, dz⟩ := hD7.four
    have hwr : IntKind.i64.wrap (refs - 1) = refs - 1 := IntWalk.i64_in _ (by omega)
    go_upto_region 5 with fail
    have hf9 : Fr (fun k => k = gd) w7 (w7.setCell ⟨gd, 3, none⟩ (.int .i64 (refs - 1))) := (Fr.refl (fun k => k = gd) w7).at_ 3 _
    have hA8 := hA7.setDe hl7 (by rw [show Pl.d (p.plus w.heap.size) d = gd from HGD.out.symm]; exact hf9) (fun x => { x with refs := x.refs - 1 }) (by
      rw [show Sy.deAt (Sy.setOb s1 i fun x => { x with l := Lk.leave x.l o }) d = ⟨i, fl, at_, refs⟩ from HD1.out, show Pl.d (p.plus w.heap.size) d = gd from HGD.out.symm]
      have h1 := hD7.set_ 3 (.int .i64 (refs - 1))
      rw [HGF.out] at h1
      exact h1)
    have hz8 := hz7.far (p := ⟨gd, 3, none⟩) (show w.heap.size ≠ gd by omega) (.int .i64 (refs - 1))
    have hD8 := hD7.set_ 3 (.int .i64 (refs - 1))
    have hh8 := hh7.far (p := ⟨gd, 3, none⟩) (show gh ≠ gd by omega) (.int .i64 (refs - 1))
    have hF8 : Fr p.C w (w7.setCell ⟨gd, 3, none⟩ (.int .i64 (refs - 1))) := hF7.setCell (p := ⟨gd, 3, none⟩) (by show p.C gd; rw [HGD.out]; exact hA.out.d_c hdl) _
    rw [show ([.pointer (some ⟨gf, 0, none⟩), .int .i64 fl, .int .i64 at_, .int .i64 refs] : List Value).set 3 (.int .i64 (refs - 1)) = [.pointer (some ⟨gf, 0, none⟩), .int .i64 fl, .int .i64 at_, .int .i64 (refs - 1)] from rfl] at hD8
    generalize w7.setCell ⟨gd, 3, none⟩ (.int .i64 (refs - 1)) = w8 at *
    clear hA7 hz7 hD7 hh7 hF7 hf9 q0 qf qz d0 d1 d2 d3 df dz hwr
    obtain ⟨q0, qf, qz⟩ := hh8.one
    obtain ⟨d0, d1, d2, d3, df, dz⟩ := hD8.four
    obtain ⟨z0, z1, z2, z3, zf, zz⟩ := hz8.four
    obtain ⟨s3, hs3⟩ : ∃ s3, s3 = Sy.setDe (Sy.setOb s1 i fun x => { x with l := Lk.leave x.l o }) d fun x => { x with refs := x.refs - 1 } := ⟨_, rfl⟩
    have hl3 : i < s3.obs.length := by rw [hs3]; show i < (List.modify _ _ _).length; rw [List.length_modify]; exact hl1
    rw [← hs3] at hA8 HR HI3
    clear hs3
    rcases t0 : (refs - 1 == 0) with _ | _
    · have HF : Hid (R = (s3, .ok)) := Lib.hid (by rw [HR.out, if_neg (fun q => by have := q.1; simp [this] at t0)])
      clear HR
      go_wp2_with fail
      refine bodyPost_ret (v := .agg #[.int .i64 0, .int .i64 0, .string ⟨#[]⟩, .slice none 0 0]) ?_ rfl ?_
      · simp [results, Tryz.results76, go_sem, z0, z1, z2, z3]
      rw [HF.out]
      exact ans_end (a := .ok) (Nat.le_refl _) hA8 rfl rfl hF8 (Sub.refl _ _) rfl
    · have hr0 : refs - 1 = 0 := by simpa using t0
      have cU := used_any (p.plus w.heap.size) s3 (n + 1) i w8 hA8 HI3.out hl3
      rw [show ptr (Pl.f (p.plus w.heap.size) i) = .pointer (some ⟨gf, 0, none⟩) from by rw [HGF.out]; rfl] at cU
      obtain ⟨us, hus⟩ : ∃ us, us = Sy.used s3 i := ⟨_, rfl⟩
      rw [← hus] at cU
      have HUS := Lib.hid hus
      clear hus
      go_wp2_with fail
      refine cU.mono ?_
      rintro e w9 ⟨rfl, hb⟩
      have hA9 := hA8.below hb
      have hz9 := hz8.below hb hz8.lt
      have hh9 := hh8.below hb hh8.lt
      have hD9 := hD8.below hb hD8.lt
      have hF9 := hF8.thenB hb
      clear hA8 hz8 hh8 hD8 hF8 hb q0 qf qz d0 d1 d2 d3 df dz z0 z1 z2 z3 zf zz
      obtain ⟨q0, qf, qz⟩ := hh9.one
      obtain ⟨d0, d1, d2, d3, df, dz⟩ := hD9.four
      obtain ⟨z0, z1, z2, z3, zf, zz⟩ := hz9.four
      cases us
      rotate_left
      · have HF : Hid (R = (s3, .ok)) := Lib.hid (by rw [HR.out, if_neg (fun q => by have := q.2; rw [← HUS.out] at this; cases this)])
        clear HR
        go_wp2_with fail
        refine bodyPost_ret (v := .agg #[.int .i64 0, .int .i64 0, .string ⟨#[]⟩, .slice none 0 0]) ?_ rfl ?_
        · simp [results, Tryz.results76, go_sem, z0, z1, z2, z3]
        rw [HF.out]
        exact ans_end (a := .ok) (Nat.le_refl _) hA9 rfl rfl hF9 (Sub.refl _ _) rfl
      · have HF : Hid (R = ({ s3 with files := s3.files.filter fun j => j != i }, .ok)) := Lib.hid (by rw [HR.out, if_pos ⟨hr0, HUS.out.symm⟩])
        clear HR
        have hgz9 : ∀ q, w9.frozen? ⟨p.gs, q, none⟩ = false := by obtain ⟨cs, hb⟩ := hA9.blk; exact hb.frozen
        have hgl9 := hA9.c_lt hA9.gs_c
        obtain ⟨v, hvv⟩ : ∃ v, v = p.v := ⟨_, rfl⟩
        have HV := Lib.hid hvv
        have g3 : w9.cell? ⟨p.gs, 3, none⟩ = some v := by rw [hvv]; exact hA9.v_cell
        clear hvv
        have hDEL : Calls Tryz.prog 102 #[v, .func (.func 103) #[] #[.pointer (some ⟨gh, 0, none⟩)]] w9 fun e w' => ∃ v', e = .returned v' ∧ w'.ownsRow 0 119 1 v' (s3.files.filter fun j => j != i).length ((s3.files.filter fun j => j != i).map fun j => ptr (p.f j)) ∧ (∀ k, v'.ownBlock = some k → p.v.ownBlock = some k) ∧ w9.grownBy w' p.v.ownBlock := by
          have hfl := hA9.files
          rcases own_shape hA9.files with ⟨hv0, h0⟩ | ⟨g, cap, hv0, _, hgg, hcc⟩
          · have hv0 : p.v = .slice none 0 0 := hv0
            rw [HV.out, hv0]
            refine (deleteF_nil gh w9).mono ?_
            rintro e w' ⟨rfl, rfl⟩
            have h9 : s3.files = [] := List.length_eq_zero_iff.1 h0
            rw [h9]
            exact ⟨_, rfl, World.ownsRow_nil _ _ _ _, (fun _ q => by cases q), World.grownBy.refl _ _⟩
          · have hv0 : p.v = .slice (some ⟨g, 0, none⟩) s3.files.length cap := hv0
            have hvg : p.v.ownBlock = some g := by rw [hv0]; rfl
            have hne1 : gh ≠ g := fun e => own_noblk hA9.files hh9 (by decide) (by rw [e]; exact hvg)
            have hne2 : gd ≠ g := fun e => own_noblk hA9.files hD9 (by decide) (by rw [e]; exact hvg)
            rw [show (p.plus w.heap.size).v = p.v from rfl, hv0] at hfl
            have hml : (s3.files.map fun j => ptr (Pl.f (p.plus w.heap.size) j)) = (s3.files.map fun j => p.f j).map ptr := by rw [List.map_map]; rfl
            rw [hml] at hfl
            have hlen : (s3.files.map fun j => p.f j).length = s3.files.length := List.length_map ..
            rw [← hlen] at hfl
            have hall : ∀ x ∈ (s3.files.map fun j => p.f j), FBlk w9 x := fun x hx => by
              obtain ⟨j, hj, rfl⟩ := List.mem_map.1 hx
              exact hA9.fblk (HI3.out.fsub j hj)
            have hgi : FBlk w9 gf := by have := hA9.fblk hl3; rw [show Pl.f (p.plus w.heap.size) i = gf from HGF.out.symm] at this; exact this
            have hfz := HI3.out.fl
            have c1 := deleteF_any 0 g cap gh gd gf (s3.files.map fun j => p.f j) w9 hfl (by omega) (hh9.cell 0) hh9.lt (hD9.cell 0) hD9.lt hall hgi hne1 hne2
            rw [HV.out, hv0]
            rw [hlen] at c1
            refine c1.mono ?_
            rintro e w' ⟨v', rfl, ho', hvo, hgr⟩
            have hinj : ∀ j ∈ s3.files, p.f j = p.f i → j = i := fun j hj e => hA9.f_inj (HI3.out.fsub j hj) hl3 e
            have hflt := filter_files hinj
            rw [← HGF.out] at hflt
            rw [hflt, List.length_map, List.map_map] at ho'
            exact ⟨v', rfl, ho', fun k hk => by rw [hvo] at hk; exact hk, hgr⟩
        have hzv : some w.heap.size ≠ p.v.ownBlock := fun e => own_noblk hA9.files hz9 (by decide) e.symm
        go_wp2_with fail
        refine hDEL.mono ?_
        rintro e w10 ⟨v', rfl, ho', hvo, hgr⟩
        obtain ⟨A9, c9, rfl⟩ := own_slice ho'
        obtain ⟨nf, hnf⟩ : ∃ nf, nf = (s3.files.filter fun j => j != i).length := ⟨_, rfl⟩
        rw [← hnf] at ho' hvo ⊢
        have HNF := Lib.hid hnf
        clear hnf
        have hz10 := hz9.grown hgr hzv
        have hgv : some p.gs ≠ p.v.ownBlock := fun e => hA9.v_gs e.symm
        obtain ⟨csb, hbb9⟩ := hA9.blk
        have hbb10 := Blk.grown hbb9 hgr hgv
        have hgz10 : ∀ q, w10.frozen? ⟨p.gs, q, none⟩ = false := hbb10.frozen
        have hgl10 : p.gs < w10.heap.size := hbb10.lt
        have g10 : w10.cell? ⟨p.gs, 3, none⟩ = some v := (World.cell?_of_block (hgr.block p.gs hgl9 hgv)).trans g3
        have hq1 : Fr (fun k => k = p.gs ∨ p.v.ownBlock = some k) w9 (w10.setCell ⟨p.gs, 3, none⟩ (.slice A9 nf c9)) := (Fr.grown (X := fun k => k = p.gs ∨ p.v.ownBlock = some k) hgr fun k hk => .inr hk).setCell (p := ⟨p.gs, 3, none⟩) (.inl rfl) (.slice A9 nf c9)
        have hA11 := hA9.setFiles (.slice A9 nf c9) (s3.files.filter fun j => j != i) hq1 (fun k hk => .inl (hvo k hk)) (fun cs hb => (Blk.grown hb hgr hgv).set_ 3 (.slice A9 nf c9)) (HNF.out ▸ ownsRow_setCell_other ho' (fun e => hA9.v_gs (hvo _ e)) (.slice A9 nf c9))
        have hF11 : Fr p.C w (w10.setCell ⟨p.gs, 3, none⟩ (.slice A9 nf c9)) := hF9.trans hq1 fun k _ q => q.elim (fun e => .inl e) fun e => .inr (.inr (.inr e))
        have hz11 := hz10.far (p := ⟨p.gs, 3, none⟩) (show w.heap.size ≠ p.gs by omega) (.slice A9 nf c9)
        clear q0 qf qz d0 d1 d2 d3 df dz z0 z1 z2 z3 zf zz g3 hgz9 hgl9
        go_upto_region 7 with fail
        generalize w10.setCell ⟨p.gs, 3, none⟩ (.slice A9 nf c9) = w11 at *
        clear g10 hgz10 hgl10
        obtain ⟨z0, z1, z2, z3, zf, zz⟩ := hz11.four
        go_wp2_with fail
        refine bodyPost_ret (v := .agg #[.int .i64 0, .int .i64 0, .string ⟨#[]⟩, .slice none 0 0]) ?_ rfl ?_
        · simp [results, Tryz.results76, go_sem, z0, z1, z2, z3]
        rw [HF.out]
        exact ans_end (p := p) (p' := { p with v := .slice A9 nf c9 }) (a := .ok) (Nat.le_refl _) hA11 rfl rfl hF11 (fun k _ q => by
          rcases q with q | q | q | q
          · exact .inl q
          · exact .inr (.inl q)
          · exact .inr (.inr (.inl q))
          · exact .inr (.inr (.inr (hvo k q)))) rfl
end Go.Proofs.YtjppfhgkanbemacGreatDoor
