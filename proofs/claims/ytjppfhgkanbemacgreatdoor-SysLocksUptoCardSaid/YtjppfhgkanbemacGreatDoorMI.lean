/-
  A union in memory; its layers in a row.
  union.Wrong. (Printed by wip/genunwrong.py.)
  union.Seen. (Printed by wip/genunseen.py.)
  union.Look. (Printed by wip/genunlook.py.)
  A change in memory; union.begin. (Printed by wip/genunbegin.py.)
-/
import Derived.Test.YtjppfhgkanbemacGreatDoorMG
import Derived.Test.YtjppfhgkanbemacGreatDoorMB
import Derived.Deep.CutBlock
import Derived.Deep.DeepCutAuto
import Derived.BigRegion
namespace Go.Proofs.YtjppfhgkanbemacGreatDoor
open Go.RowKit Go.Shelf Go.Sort

/-- A union's two slices read as its layers. -/
structure UnRd (w : World) (B : Nat) (A A' : Option Addr) (c c' : Nat) (u : Un) : Prop where
  up : EnRd w B A u.U
  cap : u.U.length ≤ c
  low : TsRd w B A' u.L
  nil : A' = none → c' = 0
theorem UnRd.below {w w' : World} {B : Nat} {A A' : Option Addr} {c c' : Nat} {u : Un} (h : UnRd w B A A' c c' u) (hb : Below B w w') : UnRd w' B A A' c c' u := ⟨Rd.below h.up hb, h.cap, h.low.below hb, h.nil⟩
theorem UnRd.more {w : World} {B B' : Nat} {A A' : Option Addr} {c c' : Nat} {u : Un} (h : UnRd w B A A' c c' u) (hB : B ≤ B') : UnRd w B' A A' c c' u := ⟨Rd.more h.up hB, h.cap, h.low.more hB, h.nil⟩
/-- All is small enough. -/
def UnSm (u : Un) : Prop := Sms u.all ∧ u.L.length ≤ 2000000 ∧ ∀ l ∈ u.all, l.length ≤ 2000000
/-- A union's cells. -/
def unV (A A' : Option Addr) (c c' : Nat) (u : Un) : List Value := [.slice A u.U.length c, .slice A' u.L.length c']

theorem own_lit1 (w : World) (base : Nat) (v : Value) (hb : base ≤ w.heap.size) (_ : v.oneCell' = true) : (w.alloc (.cells #[v] 23)).ownsRow base 23 1 (.slice (some ⟨w.heap.size, 0, none⟩) 1 1) 1 [v] :=
  ⟨rfl, .inr ⟨w.heap.size, 1, #[v], rfl, hb, heap_alloc_new w _, Nat.le_refl _, by decide, rfl, rfl⟩⟩
theorem ts_lit1 {w : World} {base : Nat} {A : Option Addr} {c : Nat} {l : List En} (hb : base ≤ w.heap.size) (hl : EnRd w base A l) (hc : l.length ≤ c) : TsOwn (w.alloc (.cells #[.slice A l.length c] 23)) base (.slice (some ⟨w.heap.size, 0, none⟩) 1 1) [l] :=
  ⟨[.slice A l.length c], own_lit1 w base _ hb rfl, fun k hk => by
    obtain rfl : k = 0 := by simpa using hk
    exact ⟨A, c, rfl, hc, Rd.alloc hl hb _⟩⟩

set_option maxHeartbeats 1000000 in
/-- All layers of a union. -/
theorem all_any (g : Nat) (A A' : Option Addr) (c c' : Nat) (u : Un) (w : World) (hg : Blk w g 26 (unV A A' c c' u)) (hu : UnRd w w.heap.size A A' c c' u) (hs : UnSm u) :
    Calls Tryz.prog 38 #[.pointer (some ⟨g, 0, none⟩)] w fun e w' => ∃ v, e = .returned v ∧ TsOwn w' w.heap.size v u.all ∧ Below w.heap.size w w' := by
  obtain ⟨l, ls⟩ := u
  obtain ⟨h1, h2, h3, h4⟩ := hu
  have hz := hs.2.1
  unfold unV at hg
  dsimp only at hg h1 h2 h3 h4 hz
  obtain ⟨g0, g1, gf, gz⟩ := hg.two
  obtain ⟨ws, hrd, hws⟩ := h3
  have hown1 : TsOwn (w.alloc (.cells #[.slice A l.length c] 23)).drew w.heap.size (.slice (some ⟨w.heap.size, 0, none⟩) 1 1) [l] := ts_lit1 (Nat.le_refl _) h1 h2
  have hrd1 : Rd (w.alloc (.cells #[.slice A l.length c] 23)).drew w.heap.size 1 A' ls.length ws := Rd.alloc hrd (Nat.le_refl _) _
  have hws1 : ∀ k (h : k < ls.length), ∃ Ak ck, ws[k]? = some (.slice Ak ls[k].length ck) ∧ ls[k].length ≤ ck ∧ EnRd (w.alloc (.cells #[.slice A l.length c] 23)).drew w.heap.size Ak ls[k] := fun k hk => by
    obtain ⟨Ak, ck, f1, f2, f3⟩ := hws k hk
    exact ⟨Ak, ck, f1, f2, Rd.alloc f3 (Nat.le_refl _) _⟩
  have hB1 : Below w.heap.size w (w.alloc (.cells #[.slice A l.length c] 23)).drew := ((Below.refl _ w).alloc (Nat.le_refl _) _).drew
  have hsz1 := hB1.size
  have hq1 : Blk (w.alloc (.cells #[.slice A l.length c] 23)).drew g 26 [.slice A l.length c, .slice A' ls.length c'] := hg.alloc _
  have keep1 : (w.alloc (.cells #[.slice A l.length c] 23)).drew.cell? ⟨g, 0, none⟩ = some (.slice A l.length c) ∧ (w.alloc (.cells #[.slice A l.length c] 23)).drew.cell? ⟨g, 1, none⟩ = some (.slice A' ls.length c') := ⟨hq1.cell 0, hq1.cell 1⟩
  have keep4 : ∀ w4, (w.alloc (.cells #[.slice A l.length c] 23)).drew.grownBy w4 (Value.slice (some ⟨w.heap.size, 0, none⟩) 1 1).ownBlock → w4.cell? ⟨g, 0, none⟩ = some (.slice A l.length c) ∧ w4.cell? ⟨g, 1, none⟩ = some (.slice A' ls.length c') := fun w4 h =>
    have h2 := hq1.grown h (by show some g ≠ some w.heap.size; intro e; injection e with e; omega)
    ⟨h2.cell 0, h2.cell 1⟩
  go_enter Tryz.func38, Tryz.ntmps38
  go_upto_region 1 with fail
  go_region_held3 (fun W => W.cell? ⟨g, 0, none⟩ = some (.slice A l.length c) ∧ W.cell? ⟨g, 1, none⟩ = some (.slice A' ls.length c'))
    (first | exact ⟨g0, g1⟩ | exact keep1 | exact keep4 w4 hg4 | go_keep)
    ((refine step_appTs (w := (w.alloc (.cells #[.slice A l.length c] 23)).drew) (v := .slice (some ⟨w.heap.size, 0, none⟩) 1 1) (base := w.heap.size) (ls := [l]) (ms := ls) (A := A') (c := c') (ws := ws) _ rfl _ _ rfl rfl hown1 ls.length rfl rfl hrd1 hws1 h4 (by simp only [List.length_cons, List.length_nil]; omega) hsz1 rfl ?_
      intro v4 w4 own4 hg4))
  go_wp2_with fail
  go_ret
  exact ⟨_, rfl, own4, hB1.grown hg4 hB1.size (fun q e' => by obtain ⟨vs, h1, _⟩ := hown1; exact (h1.lt q e').1)⟩
end Go.Proofs.YtjppfhgkanbemacGreatDoor

namespace Go.Proofs.YtjppfhgkanbemacGreatDoor
open Go.RowKit Go.Shelf Go.Sort

theorem wrongLs_at {ls : List (List En)} {k : Nat} (i : Nat) (hk : k < ls.length) {e : Int} (h0 : ∀ l ∈ ls.take k, (Tr.wrong l true).1 = 0) (he : (Tr.wrong ls[k] true).1 = e) (hne : e ≠ 0) : Tr.wrongLs ls i = (e, ((i + k : Nat) : Int)) := by
  induction ls generalizing k i with
  | nil => simp at hk
  | cons x r ih =>
    cases k with
    | zero =>
      have he : (Tr.wrong x true).1 = e := he
      unfold Tr.wrongLs
      rw [he, if_pos hne]; rfl
    | succ k =>
      have h1 := h0 x (by simp)
      unfold Tr.wrongLs
      rw [h1, if_neg (by decide), ih (i + 1) (k := k) (by simpa using hk) (fun l hl => h0 l (by simp [hl])) he]
      congr 2
      omega
theorem ret_wrongU {p : Int × Int} {e a : Int} (h : p = (e, a)) : Ending.returned (.agg #[.int .i64 e, .int .i64 a]) = .returned (.agg #[.int .i64 p.1, .int .i64 p.2]) := by rw [h]

set_option maxHeartbeats 4000000 in
set_option maxRecDepth 100000 in
theorem wrongU_any (A A' : Option Addr) (c c' : Nat) (u : Un) (w : World) (hu : UnRd w w.heap.size A A' c c' u) (hs : UnSm u) :
    Calls Tryz.prog 36 #[.agg #[.slice A u.U.length c, .slice A' u.L.length c']] w fun e w' => e = .returned (.agg #[.int .i64 (Tr.wrongU u).1, .int .i64 (Tr.wrongU u).2]) ∧ Below w.heap.size w w' := by
  have HS := Lib.hid hs
  have hn := hs.2.1
  clear hs
  obtain ⟨p, hp⟩ : ∃ p, p = Tr.wrongU u := ⟨_, rfl⟩
  have HP := Lib.hid hp.symm
  rw [← hp]
  clear hp
  obtain ⟨l, ls⟩ := u
  dsimp only at hn ⊢
  have HU := Lib.hid hu
  clear hu
  have hB0 := ((Below.refl w.heap.size w).alloc (Nat.le_refl _) (.cells #[.slice A l.length c, .slice A' ls.length c'] 26))
  have hB1 := hB0.alloc hB0.size (.cells #[.int .i64 0, .int .i64 0] 46)
  have hq1 := (Blk.new w 26 [.slice A l.length c, .slice A' ls.length c']).alloc (.cells #[.int .i64 0, .int .i64 0] 46)
  have hf1 := Blk.new (w.alloc (.cells #[.slice A l.length c, .slice A' ls.length c'] 26)) 46 [.int .i64 0, .int .i64 0]
  have hlt : w.heap.size < w.heap.size + 1 := Nat.lt_succ_self _
  clear hB0
  go_enter Tryz.func36, Tryz.ntmps36
  go_upto_region 1 with fail
  simp only [World.size_alloc] at hf1
  generalize (w.alloc (.cells #[.slice A l.length c, .slice A' ls.length c'] 26)).alloc (.cells #[.int .i64 0, .int .i64 0] 46) = w1 at *
  generalize w.heap.size + 1 = gf at *
  by_cases t4 : 4 < ls.length
  · have HO : Hid (p = (5, 0)) := Lib.hid (by rw [← HP.out]; unfold Tr.wrongU; rw [if_pos t4])
    obtain ⟨q0, q1, qf, qz⟩ := hq1.two
    obtain ⟨f0, f1, ff, fz⟩ := hf1.two
    go_wp2_with fail
    refine bodyPost_ret (v := .agg #[.int .i64 5, .int .i64 0]) ?_ rfl ⟨ret_wrongU HO.out, ?_⟩
    · simp [results, Tryz.results36, go_sem, f0, f1]
    · exact (hB1.setCell (by simp; omega) _).setCell (by simp; omega) _
  have HP4 : Hid (p = if (Tr.wrongLs (l :: ls) 0).1 ≠ 0 then Tr.wrongLs (l :: ls) 0 else ((Tr.mergeL (l :: ls)).2, 0)) := Lib.hid (by rw [← HP.out]; unfold Tr.wrongU; rw [if_neg t4]; rfl)
  have HM5 : Hid (Tr.merge (l :: ls) = Tr.mergeL (l :: ls)) := Lib.hid (by unfold Tr.merge; rw [if_neg (by rw [List.length_cons]; omega)])
  clear HP
  have hall := fun W hb hq => all_any w.heap.size A A' c c' ⟨l, ls⟩ W hq ((HU.out.below hb).more hb.size) HS.out
  obtain ⟨q0, q1, qf, qz⟩ := hq1.two
  go_wp2_with fail
  clear q0 q1 qf qz
  refine (hall w1 hB1 hq1).mono ?_
  rintro e w2 ⟨v2, rfl, ho2, hb2⟩
  obtain ⟨A2, c2, rfl, hc2, hr2⟩ := ho2.rd hb2.size
  have hB2 := hB1.trans (hb2.mono hB1.size)
  have hq2 := hq1.below hb2 hq1.lt
  have hf2 := hf1.below hb2 hf1.lt
  clear hb2 hB1 hq1 hf1 ho2
  have HAL : Hid ((⟨l, ls⟩ : Un).all = l :: ls) := Lib.hid rfl
  rw [HAL.out] at hr2
  have hlen : (⟨l, ls⟩ : Un).all.length = ls.length + 1 := rfl
  have hlen2 : (l :: ls).length = ls.length + 1 := rfl
  rw [hlen] at *
  have HSM : Hid (Sms (l :: ls)) := Lib.hid HS.out.1
  go_wp2_with fail
  generalize l :: ls = al at *
  go_loopw [15] (fun i wr => ∃ k : Nat, k ≤ al.length ∧ i = .int .i64 k ∧ Hid (∀ x ∈ al.take k, (Tr.wrong x true).1 = 0) ∧ Blk wr w.heap.size 26 [.slice A l.length c, .slice A' ls.length c'] ∧ Blk wr gf 46 [.int .i64 0, .int .i64 0] ∧ Below w2.heap.size w2 wr) (fun i _ => al.length - (intOf i).toNat)
  case atStart => exact ⟨0, Nat.zero_le _, rfl, Lib.hid (fun x hx => by simp at hx), hq2, hf2, Below.refl _ _⟩
  case round =>
    obtain ⟨k, hk, rfl, HK, hq3, hf3, hb3⟩ := hrel
    have hB3 := hB2.trans (hb3.mono hB2.size)
    clear hq2 hf2
    by_cases hlt2 : k < al.length
    · have hki : (k : Int) < (ls.length : Int) + 1 := by omega
      obtain ⟨b, o, Ak, ck, rfl, hbk, hc1, hcl, hrd⟩ := (hr2.below hb3).at_ hlt2
      have hsm := Lib.hid (HSM.out _ (List.getElem_mem hlt2))
      have HE := Lib.hid (fun e => wrongLs_at (ls := al) (k := k) 0 hlt2 (e := e) HK.out)
      have HN : Hid ((Tr.wrong al[k] true).1 = 0 → ∀ x ∈ al.take (k + 1), (Tr.wrong x true).1 = 0) := Lib.hid (fun h x hx => by
        rw [List.take_succ_eq_append_getElem hlt2, List.mem_append, List.mem_singleton] at hx
        rcases hx with hx | rfl
        · exact HK.out x hx
        · exact h)
      generalize al[k] = x at hc1 hcl hrd hsm HE HN
      have cW := wrongL_any Ak ck x wr (Rd.more hrd hb3.size) hcl hsm.out.1 hsm.out.2
      generalize Tr.wrong x true = q at cW HE HN
      obtain ⟨qe, qa⟩ := q
      dsimp only at cW HE HN
      go_wp2_with fail
      refine cW.mono ?_
      rintro e w4 ⟨rfl, hb4⟩
      have hb4' := (hb3.trans (hb4.mono hb3.size)).alloc (hb3.trans (hb4.mono hb3.size)).size (.cells #[.int .i64 qe, .int .i64 qa] 46)
      have hB4 := hB2.trans (hb4'.mono hB2.size)
      have hq4 := (hq3.below hb4 hq3.lt).alloc (.cells #[.int .i64 qe, .int .i64 qa] 46)
      have hf4 := (hf3.below hb4 hf3.lt).alloc (.cells #[.int .i64 qe, .int .i64 qa] 46)
      have hx4 := Blk.new w4 46 [.int .i64 qe, .int .i64 qa]
      have hgx : gf < w4.heap.size := (hf3.below hb4 hf3.lt).lt
      clear cW hb4 hq3 hf3 hB3 hb3
      rcases te : (qe != 0) with _ | _
      · have HN2 := Lib.hid (HN.out (by simpa using te))
        go_wp2_with fail
        go_roundw
        case rel => exact ⟨k + 1, by omega, by go_num, HN2, hq4, hf4, hb4'⟩
        case measure => simp [intOf]; omega
      · have hqe : qe ≠ 0 := by simpa using te
        have HO : Hid (p = (qe, (k : Int))) := Lib.hid (by
          have h := HE.out qe rfl hqe
          rw [HP4.out, h, if_pos hqe]; simp)
        clear hqe
        go_upto_region 8 with fail
        generalize w4.alloc (.cells #[.int .i64 qe, .int .i64 qa] 46) = w5 at *
        generalize w4.heap.size = gx at *
        obtain ⟨f0, f1, ff, fz⟩ := hf4.two
        obtain ⟨x0, x1, xf, xz⟩ := hx4.two
        go_wp2_with fail
        refine bodyPost_ret (v := .agg #[.int .i64 qe, .int .i64 k]) ?_ rfl ⟨ret_wrongU HO.out, ?_⟩
        · simp [results, Tryz.results36, go_sem, f0, f1]
        · exact (hB4.setCell (by simp; omega) _).setCell (by simp; omega) _
    · obtain rfl : k = al.length := by omega
      have hki : ¬ ((al.length : Nat) : Int) < (ls.length : Int) + 1 := by omega
      have HZ : Hid (p = ((Tr.merge al).2, 0)) := Lib.hid (by
        rw [HP4.out, if_neg, HM5.out]
        have := (Tr.wrongLs_zero (ls := al) 0).2 (fun x hx => HK.out x (by rw [List.take_length]; exact hx))
        simp [this])
      clear HP4 HM5
      go_wp2_with fail
      refine (hall wr hB3 hq3).mono ?_
      rintro e w4 ⟨v4, rfl, ho4, hb4⟩
      obtain ⟨A4, c4, rfl, hc4, hr4⟩ := ho4.rd hb4.size
      have hB4 := hB3.trans (hb4.mono hB3.size)
      have hf4 := hf3.below hb4 hf3.lt
      clear hb4 ho4 hB3 hb3 hq3 hf3
      rw [HAL.out] at hr4
      have cM := merge_any A4 c4 al w4 hr4 HSM.out
      unfold MergeRel at cM
      generalize Tr.merge al = m at cM HZ
      obtain ⟨ml, me⟩ := m
      dsimp only at cM HZ
      rw [hlen2] at cM
      go_wp2_with fail
      refine cM.mono ?_
      rintro e w5 ⟨v5, rfl, ho5, hb5⟩
      have hB5 := hB4.trans (hb5.mono hB4.size)
      have hf5 := hf4.below hb5 hf4.lt
      clear cM ho5 hb5 hB4 hf4
      obtain ⟨f0, f1, ff, fz⟩ := hf5.two
      rcases te : (me != 0) with _ | _
      · have he0 : me = 0 := by simpa using te
        subst he0
        go_wp2_with fail
        refine bodyPost_ret (v := .agg #[.int .i64 0, .int .i64 0]) ?_ rfl ⟨ret_wrongU HZ.out, ?_⟩
        · simp [results, Tryz.results36, go_sem, f0, f1]
        · exact (hB5.setCell (by simp; omega) _).setCell (by simp; omega) _
      · go_wp2_with fail
        refine bodyPost_ret (v := .agg #[.int .i64 me, .int .i64 0]) ?_ rfl ⟨ret_wrongU HZ.out, ?_⟩
        · simp [results, Tryz.results36, go_sem, f0, f1]
        · exact (hB5.setCell (by simp; omega) _).setCell (by simp; omega) _
end Go.Proofs.YtjppfhgkanbemacGreatDoor

namespace Go.Proofs.YtjppfhgkanbemacGreatDoor
open Go.RowKit Go.Shelf Go.Sort

theorem ret_seen {p : List En × Int} {m : List En} {e : Int} {v : Value} (h : p = (m, e)) : Ending.returned (.tuple #[v, .int .i64 e]) = .returned (.tuple #[v, .int .i64 p.2]) := by rw [h]
/-- What Seen answers. -/
def SeenRel (u : Un) (w : World) (e : Ending) (w' : World) : Prop :=
  ∃ v, e = .returned (.tuple #[v, .int .i64 (Tr.seenU u).2]) ∧ EnOwn w' w.heap.size v (Tr.seenU u).1 ∧ Below w.heap.size w w'

set_option maxHeartbeats 4000000 in
set_option maxRecDepth 100000 in
theorem seenU_any (A A' : Option Addr) (c c' : Nat) (u : Un) (w : World) (hu : UnRd w w.heap.size A A' c c' u) (hs : UnSm u) :
    Calls Tryz.prog 14 #[.agg #[.slice A u.U.length c, .slice A' u.L.length c']] w (SeenRel u w) := by
  have HS := Lib.hid hs
  clear hs
  unfold SeenRel
  obtain ⟨p, hp⟩ : ∃ p, p = Tr.seenU u := ⟨_, rfl⟩
  have HP := Lib.hid hp
  rw [← hp]
  clear hp
  obtain ⟨l, ls⟩ := u
  dsimp only at *
  have HU := Lib.hid hu
  clear hu
  have cW := fun W h => wrongU_any A A' c c' ⟨l, ls⟩ W h HS.out
  dsimp only at cW
  have HT := Lib.hid (fun h : Tr.Fine ⟨l, ls⟩ => h.1)
  have HF := Lib.hid (Tr.fine_iff ⟨l, ls⟩).1
  have HE := Lib.hid (fun h : (Tr.wrongU ⟨l, ls⟩).1 ≠ 0 => (show Tr.seenU ⟨l, ls⟩ = ([], (Tr.wrongU ⟨l, ls⟩).1) by unfold Tr.seenU; rw [if_pos h]))
  generalize hq : Tr.wrongU ⟨l, ls⟩ = q at cW HF HE
  clear hq
  obtain ⟨qe, qa⟩ := q
  dsimp only at cW HF HE
  have hB1 := ((Below.refl w.heap.size w).alloc (Nat.le_refl _) (.cells #[.slice A l.length c, .slice A' ls.length c'] 26))
  have hq1 := (Blk.new w 26 [.slice A l.length c, .slice A' ls.length c'])
  go_enter Tryz.func14, Tryz.ntmps14
  go_upto_region 1 with fail
  generalize w.alloc (.cells #[.slice A l.length c, .slice A' ls.length c'] 26) = w1 at *
  obtain ⟨q0, q1, qf, qz⟩ := hq1.two
  go_wp2_with fail
  clear q0 q1 qf qz
  refine (cW w1 ((HU.out.below hB1).more hB1.size)).mono ?_
  rintro e w2 ⟨rfl, hb2⟩
  have hB2 := (hB1.trans (hb2.mono hB1.size)).alloc (hB1.trans (hb2.mono hB1.size)).size (.cells #[.int .i64 qe, .int .i64 qa] 46)
  have hq2 := (hq1.below hb2 hq1.lt).alloc (.cells #[.int .i64 qe, .int .i64 qa] 46)
  have hx2 := Blk.new w2 46 [.int .i64 qe, .int .i64 qa]
  clear cW hb2 hB1 hq1
  rcases te : (qe != 0) with _ | _
  rotate_left
  · have HO : Hid (p = ([], qe)) := Lib.hid (by rw [HP.out]; exact HE.out (by simpa using te))
    go_upto_region 3 with fail
    generalize w2.alloc (.cells #[.int .i64 qe, .int .i64 qa] 46) = w3 at *
    generalize w2.heap.size = gx at *
    obtain ⟨x0, x1, xf, xz⟩ := hx2.two
    go_quiet (fail)
    go_wp2_with fail
    go_ret2
    exact ⟨_, ret_seen HO.out, by rw [HO.out]; exact EnOwn.nil _ _, below_drewN hB2 _⟩
  have hqe : qe = 0 := by simpa using te
  have HFI := Lib.hid (HF.out hqe)
  have HM : Hid (p = Tr.merge (l :: ls)) := Lib.hid (by
    rw [HP.out, Tr.seenU_fine HFI.out]
    unfold Tr.merge
    rw [if_neg (by have h := HFI.out.1; have h : ls.length ≤ 4 := h; rw [List.length_cons]; omega)]; rfl)
  clear hqe
  go_upto_region 4 with fail
  generalize w2.alloc (.cells #[.int .i64 qe, .int .i64 qa] 46) = w3 at *
  go_wp2_with fail
  refine (all_any w.heap.size A A' c c' ⟨l, ls⟩ w3 hq2 ((HU.out.below hB2).more hB2.size) HS.out).mono ?_
  rintro e w4 ⟨v4, rfl, ho4, hb4⟩
  obtain ⟨A4, c4, rfl, hc4, hr4⟩ := ho4.rd hb4.size
  have hB4 := hB2.trans (hb4.mono hB2.size)
  clear hb4 ho4
  have HAL : Hid ((⟨l, ls⟩ : Un).all = l :: ls) := Lib.hid rfl
  rw [HAL.out] at hr4
  have hlen : (⟨l, ls⟩ : Un).all.length = ls.length + 1 := rfl
  have hlen2 : (l :: ls).length = ls.length + 1 := rfl
  have cM := merge_any A4 c4 (l :: ls) w4 hr4 HS.out.1
  unfold MergeRel at cM
  rw [← HM.out, hlen2] at cM
  rw [hlen] at *
  go_wp2_with fail
  refine cM.mono ?_
  rintro e w5 ⟨v5, rfl, ho5, hb5⟩
  have hB5 := hB4.trans (hb5.mono hB4.size)
  go_wp2_with fail
  go_ret2
  exact ⟨_, rfl, own_base ho5 hB4.size, hB5⟩
end Go.Proofs.YtjppfhgkanbemacGreatDoor

namespace Go.Proofs.YtjppfhgkanbemacGreatDoor
open Go.RowKit Go.Shelf Go.Sort

def Tr.lookP : Option (En × Nat) → En × Int × Int
  | some (e, k) => (e, (k : Int), 0)
  | none => (En.zero, 0, 6)
/-- What Look answers, in plain words. -/
def Tr.lookU (u : Un) (p : Pt.Bs) : En × Int × Int :=
  if (Tr.wrongU u).1 ≠ 0 then (En.zero, 0, (Tr.wrongU u).1) else if Pt.clean p = false then (En.zero, 0, 7) else Tr.lookP (Tr.lookLs u.all p 0)
theorem look_go {ls : List (List En)} {p : Pt.Bs} {k : Nat} (i : Nat) (hk : k < ls.length) : Tr.lookLs (ls.drop k) p (i + k) = match Tr.get ls[k] p with
    | some y => if y.k = 4 then none else some (y.clear, i + k)
    | none => if Tr.hides ls[k] p then none else Tr.lookLs (ls.drop (k + 1)) p (i + (k + 1)) := by
  rw [List.drop_eq_getElem_cons hk, Tr.lookLs]; rfl
def LookRel (u : Un) (p : Pt.Bs) (w : World) (e : Ending) (w' : World) : Prop :=
  e = .returned (.tuple #[(Tr.lookU u p).1.agg, .int .i64 (Tr.lookU u p).2.1, .int .i64 (Tr.lookU u p).2.2]) ∧ Below w.heap.size w w'
theorem ret_look {r : En × Int × Int} {x : En} {k e : Int} (h : r = (x, k, e)) : Ending.returned (.tuple #[.agg #[.string x.p, .int .i64 x.k, .string x.t, .bool x.o], .int .i64 k, .int .i64 e]) = .returned (.tuple #[r.1.agg, .int .i64 r.2.1, .int .i64 r.2.2]) := by rw [h]; rfl
theorem ret_look0 {r : En × Int × Int} {e : Int} (h : r = (En.zero, 0, e)) : Ending.returned (.tuple #[.agg #[.string ⟨#[]⟩, .int .i64 0, .string ⟨#[]⟩, .bool false], .int .i64 0, .int .i64 e]) = .returned (.tuple #[r.1.agg, .int .i64 r.2.1, .int .i64 r.2.2]) := by rw [h]; rfl

end Go.Proofs.YtjppfhgkanbemacGreatDoor

namespace Go.Proofs.YtjppfhgkanbemacGreatDoor
open Go.RowKit Go.Shelf Go.Sort

/-- What lay below B lies as it lay, but for block g. -/
structure BelowX (B g : Nat) (w w' : World) : Prop where
  os : w'.os = w.os
  tape : w'.tape = w.tape
  output : w'.output = w.output
  size : w.heap.size ≤ w'.heap.size
  block : ∀ k, k < B → k ≠ g → w'.heap[k]? = w.heap[k]?
theorem BelowX.refl (B g : Nat) (w : World) : BelowX B g w w := ⟨rfl, rfl, rfl, Nat.le_refl _, fun _ _ _ => rfl⟩
theorem BelowX.trans {B g : Nat} {a b c : World} (h : BelowX B g a b) (k : BelowX B g b c) : BelowX B g a c :=
  ⟨k.os.trans h.os, k.tape.trans h.tape, k.output.trans h.output, Nat.le_trans h.size k.size, fun i hi hg => (k.block i hi hg).trans (h.block i hi hg)⟩
theorem BelowX.of {B B' g : Nat} {w w' : World} (h : Below B' w w') (hB : B ≤ B') : BelowX B g w w' := ⟨h.os, h.tape, h.output, h.size, fun k hk _ => h.block k (by omega)⟩
theorem BelowX.grown {B g : Nat} {w w' : World} {row : Option Nat} (h : w.grownBy w' row) (hB : B ≤ w.heap.size) (hr : ∀ k, row = some k → B ≤ k) : BelowX B g w w' := BelowX.of ((Below.refl B w).grown h hB hr) (Nat.le_refl _)
theorem BelowX.set {B g : Nat} (w : World) (i : Nat) (u : Value) : BelowX B g w (w.setCell ⟨g, i, none⟩ u) :=
  ⟨rfl, rfl, rfl, by simp, fun k _ hg => Below.heap_setCell w ⟨g, i, none⟩ u k hg⟩
theorem BelowX.below {B B' g : Nat} {w w' : World} (h : BelowX B g w w') (hB : B' ≤ B) (hg : B' ≤ g) : Below B' w w' := ⟨h.os, h.tape, h.output, h.size, fun k hk => h.block k (by omega) (by omega)⟩
theorem Blk.keepX {w w' : World} {B g k : Nat} {t : TypeId} {cs : List Value} (h : Blk w k t cs) (hb : BelowX B g w w') (hk : k < B) (hg : k ≠ g) : Blk w' k t cs := (hb.block k hk hg).trans h

/-- A slice of entries below a bound, in no block of this number. -/
def Kp (w : World) (base g : Nat) (v : Value) (l : List En) : Prop := ∃ A c, v = .slice A l.length c ∧ l.length ≤ c ∧ EnRd w base A l ∧ ∀ a, A = some a → a.block ≠ g
theorem Kp.keep {w w' : World} {base g : Nat} {v : Value} {l : List En} (h : Kp w base g v l) (hb : BelowX base g w w') : Kp w' base g v l := by
  obtain ⟨A, c, h1, h2, h3, h4⟩ := h
  refine ⟨A, c, h1, h2, ⟨h3.1, fun hn => ?_⟩, h4⟩
  obtain ⟨b, o, e, hlt, hc⟩ := h3.2 hn
  refine ⟨b, o, e, hlt, fun j u hu => ?_⟩
  have hne : b ≠ g := h4 _ e
  exact (World.cell?_of_block (a := ⟨b, o + j, none⟩) (hb.block b hlt hne)).trans (hc j u hu)
theorem Kp.of_own {w : World} {base g : Nat} {v : Value} {l : List En} (h : EnOwn w (g + 1) v l) (hb : w.heap.size ≤ base) : Kp w base g v l := by
  obtain ⟨A, c, rfl, hc, hr⟩ := h.rd
  refine ⟨A, c, rfl, hc, Rd.more hr hb, fun a ha => ?_⟩
  subst ha
  have := (World.ownsRow.lt h a.block rfl).1
  omega
theorem Kp.more {w : World} {base base' g : Nat} {v : Value} {l : List En} (h : Kp w base g v l) (hb : base ≤ base') : Kp w base' g v l := by
  obtain ⟨A, c, h1, h2, h3, h4⟩ := h
  exact ⟨A, c, h1, h2, Rd.more h3 hb, h4⟩
theorem Kp.nil (w : World) (base g : Nat) : Kp w base g (.slice none 0 0) [] := ⟨none, 0, rfl, Nat.le_refl _, Rd.nil, fun _ h => nomatch h⟩

/-- A row of the call's own, where a cell of another block is set. -/
theorem own_far {w : World} {base g : Nat} {e : TypeId} {size n : Nat} {v : Value} {xs : List Value} (h : w.ownsRow base e size v n xs) (hg : some g ≠ v.ownBlock) (i : Nat) (u : Value) : (w.setCell ⟨g, i, none⟩ u).ownsRow base e size v n xs := by
  obtain ⟨hx, h1 | ⟨g', cap, cur, hv, hb, hr, hn, hc⟩⟩ := h
  · exact ⟨hx, .inl h1⟩
  · refine ⟨hx, .inr ⟨g', cap, cur, hv, hb, ?_, hn, hc⟩⟩
    have hne : g' ≠ g := fun e => hg (by rw [hv, e]; rfl)
    exact (Below.heap_setCell w ⟨g, i, none⟩ u g' hne).trans hr
/-- A change: its four cells, the row of its own, what it only reads. -/
structure Chg (w : World) (gc base : Nat) (err : Int) (U B S : List En) : Prop where
  ex : ∃ vU vB vS, Blk w gc 150 [vU, vB, vS, .int .i64 err] ∧ EnOwn w base vU U ∧ Kp w base gc vB B ∧ Kp w base gc vS S
  lt : gc < base
  size : base ≤ w.heap.size
theorem Tr.merge_low {u : Un} (h : Tr.Fine u) : Tr.merge u.L = (Tr.belowU u, 0) := by
  have h1 := h.1
  have h2 := (Tr.fine_parts h).2.2.2.2.2.2.1
  unfold Tr.merge
  rw [if_neg (by omega)]
  unfold Tr.belowU
  rw [← h2]

def BeginRel (u : Un) (w : World) (e : Ending) (w' : World) : Prop :=
  ∃ gc base B, e = .returned (.pointer (some ⟨gc, 0, none⟩)) ∧ Chg w' gc base (Tr.seenU u).2 u.U B (Tr.seenU u).1 ∧ ((Tr.seenU u).2 = 0 → B = Tr.belowU u) ∧ w.heap.size ≤ gc ∧ Below w.heap.size w w'

set_option maxHeartbeats 4000000 in
set_option maxRecDepth 100000 in
theorem begin_any (gu : Nat) (A A' : Option Addr) (c c' : Nat) (u : Un) (w : World) (hq : Blk w gu 26 [.slice A u.U.length c, .slice A' u.L.length c']) (hu : UnRd w w.heap.size A A' c c' u) (hs : UnSm u) :
    Calls Tryz.prog 91 #[.pointer (some ⟨gu, 0, none⟩)] w (BeginRel u w) := by
  have HS := Lib.hid hs
  have HLN := Lib.hid (hs.2.2 u.U (by simp [Un.all]))
  clear hs
  unfold BeginRel
  have cS := fun W h => seenU_any A A' c c' u W h HS.out
  unfold SeenRel at cS
  have HF := Lib.hid (fun h : (Tr.seenU u).2 = 0 => Tr.merge_low (Tr.seenU_zero.1 h))
  generalize Tr.seenU u = p at cS HF
  obtain ⟨sl, se⟩ := p
  dsimp only at *
  have HU := Lib.hid hu
  clear hu
  obtain ⟨l, ls⟩ := u
  dsimp only at *
  have hB1 := ((Below.refl w.heap.size w).alloc (Nat.le_refl _) (.cells #[.slice none 0 0, .slice none 0 0, .slice none 0 0, .int .i64 0] 150))
  have hq1 := hq.alloc (.cells #[.slice none 0 0, .slice none 0 0, .slice none 0 0, .int .i64 0] 150)
  have hc1 := Blk.new w 150 [.slice none 0 0, .slice none 0 0, .slice none 0 0, .int .i64 0]
  have hgu := hq.lt
  go_enter Tryz.func91, Tryz.ntmps91
  go_upto_region 2 with fail
  clear hq
  generalize hw1 : w.alloc (.cells #[.slice none 0 0, .slice none 0 0, .slice none 0 0, .int .i64 0] 150) = w1 at *
  have hgc : w.heap.size ≤ w.heap.size := Nat.le_refl _
  generalize hgcn : w.heap.size = gc at hgu hc1
  have hnz : gu ≠ gc := by omega
  have hsz1 : w1.heap.size = gc + 1 := by rw [← hw1]; simp [hgcn]
  obtain ⟨q0, q1, qf, qz⟩ := hq1.two
  go_wp2_with fail
  clear q0 q1 qf qz
  refine (cS w1 ((HU.out.below hB1).more hB1.size)).mono ?_
  rintro e w2 ⟨v2, rfl, ho2, hb2⟩
  have hB2 := hB1.trans (hb2.mono hB1.size)
  have hq2 := hq1.below hb2 hq1.lt
  have hc2 := hc1.below hb2 hc1.lt
  rw [hsz1] at ho2
  have hk2 := Kp.of_own ho2 (Nat.le_refl _)
  obtain ⟨A2, c2, hv2, _, _⟩ := EnOwn.rd ho2
  subst hv2
  clear hb2 hB1 hq1 hc1 cS ho2 hw1 hsz1
  have hB3 := (hB2.setCell (p := ⟨gc, 2, none⟩) (by show w.heap.size ≤ gc; omega) (.slice A2 sl.length c2)).setCell (p := ⟨gc, 3, none⟩) (by show w.heap.size ≤ gc; omega) (.int .i64 se)
  have hq3 := (hq2.far (p := ⟨gc, 2, none⟩) hnz (.slice A2 sl.length c2)).far (p := ⟨gc, 3, none⟩) hnz (.int .i64 se)
  have hc3 : Blk ((w2.setCell ⟨gc, 2, none⟩ (.slice A2 sl.length c2)).setCell ⟨gc, 3, none⟩ (.int .i64 se)) gc 150 [.slice none 0 0, .slice none 0 0, (.slice A2 sl.length c2), .int .i64 se] := (hc2.set_ 2 (.slice A2 sl.length c2)).set_ 3 (.int .i64 se)
  have hk3 := (hk2.keep (BelowX.set _ 2 (.slice A2 sl.length c2))).keep (BelowX.set _ 3 (.int .i64 se))
  have hs3 : w2.heap.size ≤ ((w2.setCell ⟨gc, 2, none⟩ (.slice A2 sl.length c2)).setCell ⟨gc, 3, none⟩ (.int .i64 se)).heap.size := by simp
  obtain ⟨x0, x1, x2, x3, xf, xz⟩ := hc2.four
  go_upto_region 3 with fail
  clear x0 x1 x2 x3 xf xz hB2 hq2 hc2 hk2
  generalize (w2.setCell ⟨gc, 2, none⟩ (.slice A2 sl.length c2)).setCell ⟨gc, 3, none⟩ (.int .i64 se) = w3 at *
  have hk3 := hk3.more hs3
  clear hs3
  obtain ⟨x0, x1, x2, x3, xf, xz⟩ := hc3.four
  rcases te : (se == 0) with _ | _
  · have hse : se ≠ 0 := by simpa using te
    obtain ⟨q0, q1, qf, qz⟩ := hq3.two
    go_wp2_with fail
    clear q0 q1 qf qz x0 x1 x2 x3 xf xz
    refine (eclone_any A c l w3 ((HU.out.below hB3).more hB3.size).up HLN.out).mono ?_
    rintro e w6 ⟨v6, rfl, ho6, hb6⟩
    have hB6 := (hB3.trans (hb6.mono hB3.size)).setCell (p := ⟨gc, 0, none⟩) (by show w.heap.size ≤ gc; omega) v6
    have hc6 := hc3.below hb6 hc3.lt
    have hc7 : Blk (w6.setCell ⟨gc, 0, none⟩ v6) gc 150 [v6, .slice none 0 0, (.slice A2 sl.length c2), .int .i64 se] := hc6.set_ 0 v6
    obtain ⟨A6, c6, hv6, _, _⟩ := EnOwn.rd ho6
    subst hv6
    have hgl : gc < w3.heap.size := hc3.lt
    have ho7 : EnOwn (w6.setCell ⟨gc, 0, none⟩ (.slice A6 l.length c6)) w3.heap.size (.slice A6 l.length c6) l := own_far ho6 (fun e => by have := (World.ownsRow.lt ho6 gc e.symm).1; omega) 0 (.slice A6 l.length c6)
    obtain ⟨x0, x1, x2, x3, xf, xz⟩ := hc6.four
    go_wp2_with fail
    go_ret
    refine ⟨gc, w3.heap.size, [], rfl, ⟨⟨(.slice A6 l.length c6), .slice none 0 0, (.slice A2 sl.length c2), hc7, ho7, (Kp.nil _ _ _), (hk3.keep (BelowX.of hb6 (Nat.le_refl _))).keep (BelowX.set _ 0 (.slice A6 l.length c6))⟩, hgl, by simp; exact hb6.size⟩, fun h => absurd h hse, Nat.le_of_eq (by first | rfl | exact hgcn), by first | exact hB6 | exact hgcn ▸ hB6⟩
  · have hse : se = 0 := by simpa using te
    have HM := Lib.hid (HF.out hse)
    clear HF te
    subst hse
    obtain ⟨q0, q1, qf, qz⟩ := hq3.two
    go_wp2_with fail
    clear q0 q1 qf qz x0 x1 x2 x3 xf xz
    have cM := merge_any A' c' ls w3 ((HU.out.below hB3).more hB3.size).low (fun x hx => HS.out.1 x (by simp [Un.all, hx]))
    unfold MergeRel at cM
    rw [HM.out] at cM
    dsimp only at cM
    refine cM.mono ?_
    rintro e w4 ⟨v4, rfl, ho4, hb4⟩
    have hB4 := hB3.trans (hb4.mono hB3.size)
    have hq4 := hq3.below hb4 hq3.lt
    have hc4 := hc3.below hb4 hc3.lt
    have hk4 := (hk3.keep (BelowX.of hb4 (Nat.le_refl _))).more hb4.size
    have hm4 := Kp.of_own (own_base ho4 (show gc + 1 ≤ w3.heap.size from hc3.lt)) (Nat.le_refl _)
    obtain ⟨A4, c4, hv4, _, _⟩ := EnOwn.rd ho4
    subst hv4
    clear hb4 hB3 hq3 hc3 hk3 cM ho4
    have hB5 := (hB4.setCell (p := ⟨gc, 1, none⟩) (by show w.heap.size ≤ gc; omega) (.slice A4 (Tr.belowU ⟨l, ls⟩).length c4)).setCell (p := ⟨gc, 3, none⟩) (by show w.heap.size ≤ gc; omega) (.int .i64 0)
    have hq5 := (hq4.far (p := ⟨gc, 1, none⟩) hnz (.slice A4 (Tr.belowU ⟨l, ls⟩).length c4)).far (p := ⟨gc, 3, none⟩) hnz (.int .i64 0)
    have hc5 : Blk ((w4.setCell ⟨gc, 1, none⟩ (.slice A4 (Tr.belowU ⟨l, ls⟩).length c4)).setCell ⟨gc, 3, none⟩ (.int .i64 0)) gc 150 [.slice none 0 0, (.slice A4 (Tr.belowU ⟨l, ls⟩).length c4), (.slice A2 sl.length c2), .int .i64 0] := (hc4.set_ 1 (.slice A4 (Tr.belowU ⟨l, ls⟩).length c4)).set_ 3 (.int .i64 0)
    have hk5 := (hk4.keep (BelowX.set _ 1 (.slice A4 (Tr.belowU ⟨l, ls⟩).length c4))).keep (BelowX.set _ 3 (.int .i64 0))
    have hm5 := (hm4.keep (BelowX.set _ 1 (.slice A4 (Tr.belowU ⟨l, ls⟩).length c4))).keep (BelowX.set _ 3 (.int .i64 0))
    have hs5 : w4.heap.size ≤ ((w4.setCell ⟨gc, 1, none⟩ (.slice A4 (Tr.belowU ⟨l, ls⟩).length c4)).setCell ⟨gc, 3, none⟩ (.int .i64 0)).heap.size := by simp
    obtain ⟨x0, x1, x2, x3, xf, xz⟩ := hc4.four
    go_upto_region 5 with fail
    clear x0 x1 x2 x3 xf xz hB4 hq4 hc4 hk4 hm4
    generalize (w4.setCell ⟨gc, 1, none⟩ (.slice A4 (Tr.belowU ⟨l, ls⟩).length c4)).setCell ⟨gc, 3, none⟩ (.int .i64 0) = w5 at *
    have hk5 := hk5.more hs5
    have hm5 := hm5.more hs5
    clear hs5
    obtain ⟨x0, x1, x2, x3, xf, xz⟩ := hc5.four
    obtain ⟨q0, q1, qf, qz⟩ := hq5.two
    go_wp2_with fail
    clear q0 q1 qf qz x0 x1 x2 x3 xf xz
    refine (eclone_any A c l w5 ((HU.out.below hB5).more hB5.size).up HLN.out).mono ?_
    rintro e w6 ⟨v6, rfl, ho6, hb6⟩
    have hB6 := (hB5.trans (hb6.mono hB5.size)).setCell (p := ⟨gc, 0, none⟩) (by show w.heap.size ≤ gc; omega) v6
    have hc6 := hc5.below hb6 hc5.lt
    have hc7 : Blk (w6.setCell ⟨gc, 0, none⟩ v6) gc 150 [v6, (.slice A4 (Tr.belowU ⟨l, ls⟩).length c4), (.slice A2 sl.length c2), .int .i64 0] := hc6.set_ 0 v6
    obtain ⟨A6, c6, hv6, _, _⟩ := EnOwn.rd ho6
    subst hv6
    have hgl : gc < w5.heap.size := hc5.lt
    have ho7 : EnOwn (w6.setCell ⟨gc, 0, none⟩ (.slice A6 l.length c6)) w5.heap.size (.slice A6 l.length c6) l := own_far ho6 (fun e => by have := (World.ownsRow.lt ho6 gc e.symm).1; omega) 0 (.slice A6 l.length c6)
    obtain ⟨x0, x1, x2, x3, xf, xz⟩ := hc6.four
    go_wp2_with fail
    go_ret
    refine ⟨gc, rfl, w5.heap.size, Tr.belowU ⟨l, ls⟩, ⟨⟨(.slice A6 l.length c6), (.slice A4 (Tr.belowU ⟨l, ls⟩).length c4), (.slice A2 sl.length c2), hc7, ho7, (((hm5.keep (BelowX.of hb6 (Nat.le_refl _))).keep (BelowX.set _ 0 (.slice A6 l.length c6)))), (hk5.keep (BelowX.of hb6 (Nat.le_refl _))).keep (BelowX.set _ 0 (.slice A6 l.length c6))⟩, hgl, by simp; exact hb6.size⟩, rfl, Nat.le_of_eq (by first | rfl | exact hgcn), by first | exact hB6 | exact hgcn ▸ hB6⟩
end Go.Proofs.YtjppfhgkanbemacGreatDoor
