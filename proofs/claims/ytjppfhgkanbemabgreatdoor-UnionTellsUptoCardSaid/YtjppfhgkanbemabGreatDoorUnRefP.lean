/-
  The document's PutUnion, RemoveUnion, MoveUnion. (Printed by wip/genunrefp.py.)
-/
import Derived.Test.YtjppfhgkanbemabGreatDoorUnRefA
import Derived.Test.YtjppfhgkanbemabGreatDoorUnRefS
import Derived.Test.YtjppfhgkanbemabGreatDoorTrRefM
namespace Go.Proofs.YtjppfhgkanbemabGreatDoor
open Go.RowKit Go.Shelf Go.Sort

/-- A union reads off wherever the blocks below N, and those from lo on, lie as they do here. -/
def UnFar2 (N lo : Nat) (w : World) (A A' : Option Addr) (c c' : Nat) (u : Un) : Prop :=
  ∀ w' : World, w.heap.size ≤ w'.heap.size → (∀ k, (k < N ∨ lo ≤ k) → k < w.heap.size → w'.heap[k]? = w.heap[k]?) → UnRd w' w'.heap.size A A' c c' u
theorem UnFar2.here {N lo : Nat} {w : World} {A A' : Option Addr} {c c' : Nat} {u : Un} (h : UnFar2 N lo w A A' c c' u) : UnRd w w.heap.size A A' c c' u := h w (Nat.le_refl _) fun _ _ _ => rfl
theorem UnFar2.on {N lo : Nat} {w w' : World} {A A' : Option Addr} {c c' : Nat} {u : Un} (h : UnFar2 N lo w A A' c c' u) (hs : w.heap.size ≤ w'.heap.size) (hk : ∀ k, (k < N ∨ lo ≤ k) → k < w.heap.size → w'.heap[k]? = w.heap[k]?) : UnFar2 N lo w' A A' c c' u := fun w2 hs2 hk2 => h w2 (Nat.le_trans hs hs2) fun k h1 h2 => (hk2 k h1 (Nat.lt_of_lt_of_le h2 hs)).trans (hk k h1 h2)
theorem UnFar2.below {N lo : Nat} {w w' : World} {A A' : Option Addr} {c c' : Nat} {u : Un} (h : UnFar2 N lo w A A' c c' u) (hb : Below w.heap.size w w') : UnFar2 N lo w' A A' c c' u := h.on hb.size fun k _ hk => hb.block k hk
theorem UnFar2.set {N lo : Nat} {w : World} {A A' : Option Addr} {c c' : Nat} {u : Un} (h : UnFar2 N lo w A A' c c' u) {p : Addr} (hp : N ≤ p.block) (hp2 : p.block < lo) (x : Value) : UnFar2 N lo (w.setCell p x) A A' c c' u := h.on (by simp) fun k h1 _ => Below.heap_setCell w p x k (by omega)
theorem UnFar2.zero (N lo : Nat) (w : World) : UnFar2 N lo w none none 0 0 Un.zero := fun _ _ _ => ⟨Rd.nil, Nat.le_refl _, TsRd.nil _ _ _, fun _ => rfl⟩
theorem unRd_keep {w w' : World} {N : Nat} {A A' : Option Addr} {c c' : Nat} {u : Un} (h : UnRd w N A A' c c' u) (hk : ∀ k, k < N → w'.heap[k]? = w.heap[k]?) : UnRd w' N A A' c c' u := by
  have key : ∀ p : Addr, p.block < N → w'.cell? p = w.cell? p := fun p hp => World.cell?_of_block (hk p.block hp)
  refine ⟨Rd.keep h.up key, h.cap, ?_, h.nil⟩
  obtain ⟨vs, h1, h2⟩ := h.low
  refine ⟨vs, h1.keep key, fun k hk' => ?_⟩
  obtain ⟨Ak, ck, f1, f2, f3⟩ := h2 k hk'
  exact ⟨Ak, ck, f1, f2, Rd.keep f3 key⟩
theorem un_far2 {w : World} {N lo : Nat} {A A' AV : Option Addr} {c c' cV : Nat} {u : Un} {V : List En} (h1 : UnRd w N A A' c c' u) (hN : N ≤ w.heap.size) (h2 : EnOwn w lo (.slice AV V.length cV) V) : UnFar2 N lo w AV A' cV c' ⟨V, u.L⟩ := fun w' hs hk => by
  have h3 := (unRd_keep h1 (w' := w') fun k hk' => hk k (.inl hk') (by omega)).more (B' := w'.heap.size) (by omega)
  obtain ⟨Aq, cq, hq, hc, hr⟩ := EnOwn.rd h2
  injection hq with q1 q2 q3
  subst q1 q3
  refine ⟨rd_far (lo := lo) hr (fun _ a ha => ?_) hs (fun k h4 h5 => hk k (.inr h4) h5), hc, h3.low, h3.nil⟩
  subst ha
  exact (World.ownsRow.lt h2 a.block rfl).1
theorem un_far_self {w : World} {N lo : Nat} {A A' : Option Addr} {c c' : Nat} {u : Un} (h1 : UnRd w N A A' c c' u) (hN : N ≤ w.heap.size) : UnFar2 N lo w A A' c c' u := fun w' hs hk =>
  (unRd_keep h1 (w' := w') fun k hk' => hk k (.inl hk') (by omega)).more (by omega)
/-- What a change of the document's answers. -/
def RefUnRes (N : Nat) (r : Un × Int) (w : World) (e : Ending) (w' : World) : Prop :=
  ∃ A A' c c', e = .returned (.tuple #[.agg #[.slice A r.1.U.length c, .slice A' r.1.L.length c'], .int .i64 r.2]) ∧ UnFar2 N w.heap.size w' A A' c c' r.1 ∧ Below w.heap.size w w'
theorem RefUnRes.none {N : Nat} {w w' : World} {e : Int} (h : Below w.heap.size w w') : RefUnRes N (Un.zero, e) w (.returned (.tuple #[.agg #[.slice none 0 0, .slice none 0 0], .int .i64 e])) w' :=
  ⟨_, _, _, _, rfl, UnFar2.zero N _ w', h⟩
theorem fin_no {u : Un} {V : List En} (h : 80 < V.length) : Tr.fin u V = (Un.zero, 5) := by unfold Tr.fin; rw [if_pos h]
theorem fin_ok {u : Un} {V : List En} (h : ¬ 80 < V.length) : Tr.fin u V = (⟨V, u.L⟩, 0) := by unfold Tr.fin; rw [if_neg h]

set_option maxHeartbeats 4000000 in
set_option maxRecDepth 100000 in
theorem refPutU_any (N : Nat) (A A' : Option Addr) (c c' : Nat) (u : Un) (xp : ByteArray) (xk : Int) (xt : ByteArray) (xo : Bool) (w : World) (hu : UnRd w N A A' c c' u) (hN : N ≤ w.heap.size) (hs : UnSm u) (hxp : xp.size < 4294967281) (hxt : xt.size < 4294967281) :
    Calls Tryz.prog 21 #[.agg #[.slice A u.U.length c, .slice A' u.L.length c'], .agg #[.string xp, .int .i64 xk, .string xt, .bool xo]] w (RefUnRes N (Tr.putU u ⟨xp, xk, xt, xo⟩) w) := by
  have HS := Lib.hid hs
  have HUN := Lib.hid hu
  have HU : Hid (UnRd w w.heap.size A A' c c' u) := Lib.hid (hu.more hN)
  clear hs hu
  obtain ⟨R, hR⟩ : ∃ R, R = Tr.putU u ⟨xp, xk, xt, xo⟩ := ⟨_, rfl⟩
  rw [← hR]
  have HPT := Lib.hid (Tr.parts (u := u))
  have HPB : Hid ((Tr.seenU u).2 ≠ 0 → R = (Un.zero, (Tr.seenU u).2)) := Lib.hid (fun h => hR.trans (Tr.putU_bad rfl h))
  have HPN : Hid ((Tr.seenU u).2 = 0 → (Tr.put (Tr.seenU u).1 ⟨xp, xk, xt, xo⟩).2 ≠ 0 → R = (Un.zero, (Tr.put (Tr.seenU u).1 ⟨xp, xk, xt, xo⟩).2)) := Lib.hid (fun h h2 => hR.trans (Tr.putU_no h rfl h2))
  have HPO : Hid ((Tr.seenU u).2 = 0 → (Tr.put (Tr.seenU u).1 ⟨xp, xk, xt, xo⟩).2 = 0 → R = Tr.fin u (Tr.setP u.U ⟨xp, xk, xt, xo⟩) ∧ (⟨xp, xk, xt, xo⟩ : En).P ≠ [] ∧ xp.size ≤ 80) := Lib.hid (fun h h2 => ⟨hR.trans (Tr.putU_ok h h2), Tr.put_fit h2⟩)
  clear hR
  have hB0 := ((Below.refl w.heap.size w).alloc (Nat.le_refl _) (.cells #[.slice A u.U.length c, .slice A' u.L.length c'] 33))
  have hq0 := Blk.new w 33 [.slice A u.U.length c, .slice A' u.L.length c']
  have hB0 := hB0.alloc hB0.size (.cells #[.string xp, .int .i64 xk, .string xt, .bool xo] 45)
  have hq0 := hq0.alloc (.cells #[.string xp, .int .i64 xk, .string xt, .bool xo] 45)
  have hx0 := Blk.new (w.alloc (.cells #[.slice A u.U.length c, .slice A' u.L.length c'] 33)) 45 [.string xp, .int .i64 xk, .string xt, .bool xo]
  have hB0 := hB0.alloc hB0.size (.cells #[.slice none 0 0, .slice none 0 0] 33)
  have hq0 := hq0.alloc (.cells #[.slice none 0 0, .slice none 0 0] 33)
  have hx0 := hx0.alloc (.cells #[.slice none 0 0, .slice none 0 0] 33)
  have hz0 := Blk.new ((w.alloc (.cells #[.slice A u.U.length c, .slice A' u.L.length c'] 33)).alloc (.cells #[.string xp, .int .i64 xk, .string xt, .bool xo] 45)) 33 [.slice none 0 0, .slice none 0 0]
  have hsz0 : (((w.alloc (.cells #[.slice A u.U.length c, .slice A' u.L.length c'] 33)).alloc (.cells #[.string xp, .int .i64 xk, .string xt, .bool xo] 45)).alloc (.cells #[.slice none 0 0, .slice none 0 0] 33)).heap.size = w.heap.size + 3 := by simp only [World.size_alloc]
  simp only [World.size_alloc] at hz0 hx0
  go_enter Tryz.func21, Tryz.ntmps21
  go_upto_region 1 with fail
  generalize (((w.alloc (.cells #[.slice A u.U.length c, .slice A' u.L.length c'] 33)).alloc (.cells #[.string xp, .int .i64 xk, .string xt, .bool xo] 45)).alloc (.cells #[.slice none 0 0, .slice none 0 0] 33)) = w0 at *
  have cS := fun W h => refSeenU_any A A' c c' u W h HS.out
  unfold SeenRel at cS
  have HML := Lib.hid (fun h : (Tr.seenU u).2 = 0 => Tr.merge_low (Tr.seenU_zero.1 h))
  obtain ⟨T, hT⟩ : ∃ T, T = Tr.seenU u := ⟨_, rfl⟩
  rw [← hT] at HPT HPB HPN HPO HML
  simp only [← hT] at cS
  clear hT
  obtain ⟨S, se⟩ := T
  dsimp only at cS HPT HPB HPN HPO HML
  obtain ⟨q0, q1, qf, qz⟩ := hq0.two
  go_wp2_with fail
  clear q0 q1 qf qz
  refine (cS w0 ((HU.out.below hB0).more hB0.size)).mono ?_
  rintro e w4 ⟨v4, rfl, ho4, hb⟩
  have hB4 := hB0.trans (hb.mono hB0.size)
  have hq4 := hq0.below hb hq0.lt
  have hz4 := hz0.below hb hz0.lt
  have hx4 := hx0.below hb hx0.lt
  clear hb hB0 hq0 hz0 hx0 cS
  obtain ⟨AS, cS, rfl, hcS, hrS⟩ := EnOwn.rd ho4
  clear ho4
  rcases te : (se != 0) with _ | _
  rotate_left
  · have HF := Lib.hid (HPB.out (by simpa using te))
    obtain ⟨z0, z1, zf, zz⟩ := hz4.two
    go_wp2_with fail
    refine bodyPost_ret (v := .tuple #[.agg #[.slice none 0 0, .slice none 0 0], .int .i64 se]) ?_ rfl ?_
    · simp [results, Tryz.results21, go_sem, z0, z1]
    rw [HF.out]
    exact RefUnRes.none ((hB4.setCell (p := ⟨w.heap.size + 1 + 1, 0, none⟩) (by show w.heap.size ≤ w.heap.size + 1 + 1; omega) (.slice none 0 0)).setCell (p := ⟨w.heap.size + 1 + 1, 1, none⟩) (by show w.heap.size ≤ w.heap.size + 1 + 1; omega) (.slice none 0 0))
  have hse : se = 0 := by simpa using te
  have HP := Lib.hid (HPT.out hse)
  have HN := Lib.hid (HPN.out hse)
  have HO := Lib.hid (HPO.out hse)
  have HMM := Lib.hid (HML.out hse)
  clear HPT HPN HPO HPB HML te
  subst hse
  obtain ⟨e0, e1, e2, e3, ef, ez⟩ := hx4.four
  go_wp2_with fail
  clear e0 e1 e2 e3 ef ez
  refine (refPut_any AS cS S xp xk xt xo w4 hrS hcS (Tr.right_sm HP.out.sr) hxp hxt (by have := HP.out.sl; omega)).mono ?_
  rintro e w5 ⟨v5, rfl, _, hb⟩
  have hB5 := hB4.trans (hb.mono hB4.size)
  have hq5 := hq4.below hb hq4.lt
  have hz5 := hz4.below hb hz4.lt
  have hx5 := hx4.below hb hx4.lt
  clear hb hB4 hq4 hz4 hx4 hrS
  generalize (Tr.put S ⟨xp, xk, xt, xo⟩).2 = pe at *
  rcases tp : (pe != 0) with _ | _
  rotate_left
  · have HF := Lib.hid (HN.out (by simpa using tp))
    obtain ⟨z0, z1, zf, zz⟩ := hz5.two
    go_wp2_with fail
    refine bodyPost_ret (v := .tuple #[.agg #[.slice none 0 0, .slice none 0 0], .int .i64 pe]) ?_ rfl ?_
    · simp [results, Tryz.results21, go_sem, z0, z1]
    rw [HF.out]
    exact RefUnRes.none ((hB5.setCell (p := ⟨w.heap.size + 1 + 1, 0, none⟩) (by show w.heap.size ≤ w.heap.size + 1 + 1; omega) (.slice none 0 0)).setCell (p := ⟨w.heap.size + 1 + 1, 1, none⟩) (by show w.heap.size ≤ w.heap.size + 1 + 1; omega) (.slice none 0 0))
  have HF := Lib.hid (HO.out (by simpa using tp)).1
  have hfit := (HO.out (by simpa using tp)).2
  clear HN HO
  have hul := HP.out.ul
  have HOK0 : Hid (Tr.Ok u.U 80) := Lib.hid ⟨HP.out.ur.2.1, fun y hy => Tr.right_ne HP.out.ur hy, Tr.right_sm HP.out.ur, HP.out.ul⟩
  have hfit2 := hfit.2
  have hqz := hq5.lt
  have hn1 : ¬ w.heap.size = w.heap.size + 1 + 1 := by omega
  have hn2 : ¬ w.heap.size + 1 + 1 = w.heap.size := by omega
  have hrU : EnRd w5 w5.heap.size A u.U := ((HU.out.below hB5).more hB5.size).up
  obtain ⟨q0, q1, qf, qz⟩ := hq5.two
  obtain ⟨e0, e1, e2, e3, ef, ez⟩ := hx5.four
  obtain ⟨z0, z1, zf, zz⟩ := hz5.two
  obtain ⟨V, hV⟩ : ∃ V, V = Tr.setP u.U ⟨xp, xk, xt, xo⟩ := ⟨_, rfl⟩
  rw [← hV] at HF
  have cDn := fun AV cV W => done_any A A' AV c c' cV u V W
  by_cases h80 : 80 < V.length
  · have HRR := Lib.hid (HF.out.trans (fin_no h80))
    simp only [if_pos h80] at cDn
    clear HF h80
    go_wp2_with fail
    go_region_held3 (fun W => W.cell? ⟨w.heap.size, 0, none⟩ = some (.slice A u.U.length c) ∧ W.cell? ⟨w.heap.size, 1, none⟩ = some (.slice A' u.L.length c') ∧ W.cell? ⟨w.heap.size + 1, 0, none⟩ = some (.string xp) ∧ W.cell? ⟨w.heap.size + 1, 1, none⟩ = some (.int .i64 xk) ∧ W.cell? ⟨w.heap.size + 1, 2, none⟩ = some (.string xt) ∧ W.cell? ⟨w.heap.size + 1, 3, none⟩ = some (.bool xo))
      (first | exact ⟨q0, q1, e0, e1, e2, e3⟩ | exact hS6 | exact hS7 | go_keep)
      (first | (go_at_call 50; refine (refSet_any xp.size A c u.U ⟨xp, xk, xt, xo⟩ _ (by exact hrU) (HOK0.out.more (by omega)) (by omega) hfit.1 (Nat.le_of_eq (size_length xp)) hxp hxt).mono ?_; rintro e w6 ⟨v6, rfl, ho6, hb6⟩; obtain ⟨A6, c6, hv6, _, _⟩ := EnOwn.rd ho6; subst hv6; rw [← hV] at ho6; have hb6' : Below w5.heap.size w5 w6 := ((Below.refl _ w5).drew).trans hb6; have hS6 : w6.cell? ⟨w.heap.size, 0, none⟩ = some (.slice A u.U.length c) ∧ w6.cell? ⟨w.heap.size, 1, none⟩ = some (.slice A' u.L.length c') ∧ w6.cell? ⟨w.heap.size + 1, 0, none⟩ = some (.string xp) ∧ w6.cell? ⟨w.heap.size + 1, 1, none⟩ = some (.int .i64 xk) ∧ w6.cell? ⟨w.heap.size + 1, 2, none⟩ = some (.string xt) ∧ w6.cell? ⟨w.heap.size + 1, 3, none⟩ = some (.bool xo) := ⟨(hb6'.cell (p := ⟨w.heap.size, 0, none⟩) hq5.lt).trans q0, (hb6'.cell (p := ⟨w.heap.size, 1, none⟩) hq5.lt).trans q1, (hb6'.cell (p := ⟨w.heap.size + 1, 0, none⟩) hx5.lt).trans e0, (hb6'.cell (p := ⟨w.heap.size + 1, 1, none⟩) hx5.lt).trans e1, (hb6'.cell (p := ⟨w.heap.size + 1, 2, none⟩) hx5.lt).trans e2, (hb6'.cell (p := ⟨w.heap.size + 1, 3, none⟩) hx5.lt).trans e3⟩) | (go_at_call 49; (try rw [← hV]); refine (cDn A6 c6 w6).mono ?_; rintro e w7 ⟨rfl, hb7⟩; have hb7' : Below w5.heap.size w5 w7 := hb6'.trans (hb7.mono hb6'.size); have hS7 : w7.cell? ⟨w.heap.size, 0, none⟩ = some (.slice A u.U.length c) ∧ w7.cell? ⟨w.heap.size, 1, none⟩ = some (.slice A' u.L.length c') ∧ w7.cell? ⟨w.heap.size + 1, 0, none⟩ = some (.string xp) ∧ w7.cell? ⟨w.heap.size + 1, 1, none⟩ = some (.int .i64 xk) ∧ w7.cell? ⟨w.heap.size + 1, 2, none⟩ = some (.string xt) ∧ w7.cell? ⟨w.heap.size + 1, 3, none⟩ = some (.bool xo) := ⟨(hb7'.cell (p := ⟨w.heap.size, 0, none⟩) hq5.lt).trans q0, (hb7'.cell (p := ⟨w.heap.size, 1, none⟩) hq5.lt).trans q1, (hb7'.cell (p := ⟨w.heap.size + 1, 0, none⟩) hx5.lt).trans e0, (hb7'.cell (p := ⟨w.heap.size + 1, 1, none⟩) hx5.lt).trans e1, (hb7'.cell (p := ⟨w.heap.size + 1, 2, none⟩) hx5.lt).trans e2, (hb7'.cell (p := ⟨w.heap.size + 1, 3, none⟩) hx5.lt).trans e3⟩; obtain ⟨z0, z1, zf, zz⟩ := (hz5.below hb7' hz5.lt).two))
    all_goals
      have hz7 := hz5.below hb7' hz5.lt
      have hB7 := hB5.trans (hb7'.mono hB5.size)
      obtain ⟨z0, z1, zf, zz⟩ := hz7.two
      go_wp2_with fail
      refine bodyPost_ret (v := .tuple #[.agg #[.slice none 0 0, .slice none 0 0], .int .i64 5]) ?_ rfl ?_
      · simp [results, Tryz.results21, go_sem, z0, z1]
      rw [HRR.out]
      exact RefUnRes.none ((hB7.setCell (p := ⟨w.heap.size + 1 + 1, 0, none⟩) (by show w.heap.size ≤ w.heap.size + 1 + 1; omega) (.slice none 0 0)).setCell (p := ⟨w.heap.size + 1 + 1, 1, none⟩) (by show w.heap.size ≤ w.heap.size + 1 + 1; omega) (.slice none 0 0))
  · have HRR := Lib.hid (HF.out.trans (fin_ok h80))
    simp only [if_neg h80] at cDn
    clear HF h80
    go_wp2_with fail
    go_region_held3 (fun W => W.cell? ⟨w.heap.size, 0, none⟩ = some (.slice A u.U.length c) ∧ W.cell? ⟨w.heap.size, 1, none⟩ = some (.slice A' u.L.length c') ∧ W.cell? ⟨w.heap.size + 1, 0, none⟩ = some (.string xp) ∧ W.cell? ⟨w.heap.size + 1, 1, none⟩ = some (.int .i64 xk) ∧ W.cell? ⟨w.heap.size + 1, 2, none⟩ = some (.string xt) ∧ W.cell? ⟨w.heap.size + 1, 3, none⟩ = some (.bool xo))
      (first | exact ⟨q0, q1, e0, e1, e2, e3⟩ | exact hS6 | exact hS7 | go_keep)
      (first | (go_at_call 50; refine (refSet_any xp.size A c u.U ⟨xp, xk, xt, xo⟩ _ (by exact hrU) (HOK0.out.more (by omega)) (by omega) hfit.1 (Nat.le_of_eq (size_length xp)) hxp hxt).mono ?_; rintro e w6 ⟨v6, rfl, ho6, hb6⟩; obtain ⟨A6, c6, hv6, _, _⟩ := EnOwn.rd ho6; subst hv6; rw [← hV] at ho6; have hb6' : Below w5.heap.size w5 w6 := ((Below.refl _ w5).drew).trans hb6; have hS6 : w6.cell? ⟨w.heap.size, 0, none⟩ = some (.slice A u.U.length c) ∧ w6.cell? ⟨w.heap.size, 1, none⟩ = some (.slice A' u.L.length c') ∧ w6.cell? ⟨w.heap.size + 1, 0, none⟩ = some (.string xp) ∧ w6.cell? ⟨w.heap.size + 1, 1, none⟩ = some (.int .i64 xk) ∧ w6.cell? ⟨w.heap.size + 1, 2, none⟩ = some (.string xt) ∧ w6.cell? ⟨w.heap.size + 1, 3, none⟩ = some (.bool xo) := ⟨(hb6'.cell (p := ⟨w.heap.size, 0, none⟩) hq5.lt).trans q0, (hb6'.cell (p := ⟨w.heap.size, 1, none⟩) hq5.lt).trans q1, (hb6'.cell (p := ⟨w.heap.size + 1, 0, none⟩) hx5.lt).trans e0, (hb6'.cell (p := ⟨w.heap.size + 1, 1, none⟩) hx5.lt).trans e1, (hb6'.cell (p := ⟨w.heap.size + 1, 2, none⟩) hx5.lt).trans e2, (hb6'.cell (p := ⟨w.heap.size + 1, 3, none⟩) hx5.lt).trans e3⟩) | (go_at_call 49; (try rw [← hV]); refine (cDn A6 c6 w6).mono ?_; rintro e w7 ⟨rfl, hb7⟩; have hb7' : Below w5.heap.size w5 w7 := hb6'.trans (hb7.mono hb6'.size); have hS7 : w7.cell? ⟨w.heap.size, 0, none⟩ = some (.slice A u.U.length c) ∧ w7.cell? ⟨w.heap.size, 1, none⟩ = some (.slice A' u.L.length c') ∧ w7.cell? ⟨w.heap.size + 1, 0, none⟩ = some (.string xp) ∧ w7.cell? ⟨w.heap.size + 1, 1, none⟩ = some (.int .i64 xk) ∧ w7.cell? ⟨w.heap.size + 1, 2, none⟩ = some (.string xt) ∧ w7.cell? ⟨w.heap.size + 1, 3, none⟩ = some (.bool xo) := ⟨(hb7'.cell (p := ⟨w.heap.size, 0, none⟩) hq5.lt).trans q0, (hb7'.cell (p := ⟨w.heap.size, 1, none⟩) hq5.lt).trans q1, (hb7'.cell (p := ⟨w.heap.size + 1, 0, none⟩) hx5.lt).trans e0, (hb7'.cell (p := ⟨w.heap.size + 1, 1, none⟩) hx5.lt).trans e1, (hb7'.cell (p := ⟨w.heap.size + 1, 2, none⟩) hx5.lt).trans e2, (hb7'.cell (p := ⟨w.heap.size + 1, 3, none⟩) hx5.lt).trans e3⟩; obtain ⟨z0, z1, zf, zz⟩ := (hz5.below hb7' hz5.lt).two))
    all_goals
      have hz7 := hz5.below hb7' hz5.lt
      have hB7 := hB5.trans (hb7'.mono hB5.size)
      obtain ⟨z0, z1, zf, zz⟩ := hz7.two
      go_wp2_with fail
      have hgz : w.heap.size + 1 + 1 < w5.heap.size := hz5.lt
      have ho7 : EnOwn w7 w5.heap.size (.slice A6 V.length c6) V := own_below ho6 hb7 (Nat.le_refl _)
      have hne : some (w.heap.size + 1 + 1) ≠ (Value.slice A6 V.length c6).ownBlock := own_ne ho7 (.inl hgz)
      refine bodyPost_ret (v := .tuple #[.agg #[.slice A6 V.length c6, .slice A' u.L.length c'], .int .i64 0]) ?_ rfl ?_
      · simp [results, Tryz.results21, go_sem, z0, z1, hV]
      rw [HRR.out, ← hV]
      have hB9 := ((hB7.setCell (p := ⟨w.heap.size + 1 + 1, 0, none⟩) (by show w.heap.size ≤ w.heap.size + 1 + 1; omega) (.slice A6 V.length c6)).setCell (p := ⟨w.heap.size + 1 + 1, 1, none⟩) (by show w.heap.size ≤ w.heap.size + 1 + 1; omega) (.slice A' u.L.length c'))
      exact ⟨_, _, _, _, rfl, un_far2 (HUN.out.below (hB9.mono hN)) (Nat.le_trans hN hB9.size) (own_base (own_far (own_far ho7 hne 0 _) hne 1 _) hB5.size), hB9⟩

set_option maxHeartbeats 4000000 in
set_option maxRecDepth 100000 in
theorem refRemU_any (N : Nat) (A A' : Option Addr) (c c' : Nat) (u : Un) (s : ByteArray) (w : World) (hu : UnRd w N A A' c c' u) (hN : N ≤ w.heap.size) (hs : UnSm u) (hsz : s.size < 4294967281) :
    Calls Tryz.prog 24 #[.agg #[.slice A u.U.length c, .slice A' u.L.length c'], .string s] w (RefUnRes N (Tr.removeU u s.data.toList) w) := by
  have HS := Lib.hid hs
  have HUN := Lib.hid hu
  have HU : Hid (UnRd w w.heap.size A A' c c' u) := Lib.hid (hu.more hN)
  clear hs hu
  obtain ⟨R, hR⟩ : ∃ R, R = Tr.removeU u s.data.toList := ⟨_, rfl⟩
  rw [← hR]
  have HPT := Lib.hid (Tr.parts (u := u))
  have HPB : Hid ((Tr.seenU u).2 ≠ 0 → R = (Un.zero, (Tr.seenU u).2)) := Lib.hid (fun h => hR.trans (Tr.remU_bad rfl h))
  have HPN : Hid ((Tr.seenU u).2 = 0 → (Tr.remove (Tr.seenU u).1 s.data.toList).2 ≠ 0 → R = (Un.zero, (Tr.remove (Tr.seenU u).1 s.data.toList).2)) := Lib.hid (fun h h2 => hR.trans (Tr.remU_no h rfl h2))
  have HPO : Hid ((Tr.seenU u).2 = 0 → (Tr.remove (Tr.seenU u).1 s.data.toList).2 = 0 → R = Tr.fin u (Tr.dropE (Tr.belowU u) u.U s.data.toList) ∧ s.data.toList ≠ [] ∧ s.size ≤ 80) := Lib.hid (fun h h2 => ⟨hR.trans (Tr.remU_ok h h2), Tr.rem_fit h2⟩)
  clear hR
  have hB0 := ((Below.refl w.heap.size w).alloc (Nat.le_refl _) (.cells #[.slice A u.U.length c, .slice A' u.L.length c'] 33))
  have hq0 := Blk.new w 33 [.slice A u.U.length c, .slice A' u.L.length c']
  have hB0 := hB0.alloc hB0.size (.cells #[.slice none 0 0, .slice none 0 0] 33)
  have hq0 := hq0.alloc (.cells #[.slice none 0 0, .slice none 0 0] 33)
  have hz0 := Blk.new (w.alloc (.cells #[.slice A u.U.length c, .slice A' u.L.length c'] 33)) 33 [.slice none 0 0, .slice none 0 0]
  have hsz0 : ((w.alloc (.cells #[.slice A u.U.length c, .slice A' u.L.length c'] 33)).alloc (.cells #[.slice none 0 0, .slice none 0 0] 33)).heap.size = w.heap.size + 2 := by simp only [World.size_alloc]
  simp only [World.size_alloc] at hz0
  go_enter Tryz.func24, Tryz.ntmps24
  go_upto_region 1 with fail
  generalize ((w.alloc (.cells #[.slice A u.U.length c, .slice A' u.L.length c'] 33)).alloc (.cells #[.slice none 0 0, .slice none 0 0] 33)) = w0 at *
  have cS := fun W h => refSeenU_any A A' c c' u W h HS.out
  unfold SeenRel at cS
  have HML := Lib.hid (fun h : (Tr.seenU u).2 = 0 => Tr.merge_low (Tr.seenU_zero.1 h))
  obtain ⟨T, hT⟩ : ∃ T, T = Tr.seenU u := ⟨_, rfl⟩
  rw [← hT] at HPT HPB HPN HPO HML
  simp only [← hT] at cS
  clear hT
  obtain ⟨S, se⟩ := T
  dsimp only at cS HPT HPB HPN HPO HML
  obtain ⟨q0, q1, qf, qz⟩ := hq0.two
  go_wp2_with fail
  clear q0 q1 qf qz
  refine (cS w0 ((HU.out.below hB0).more hB0.size)).mono ?_
  rintro e w4 ⟨v4, rfl, ho4, hb⟩
  have hB4 := hB0.trans (hb.mono hB0.size)
  have hq4 := hq0.below hb hq0.lt
  have hz4 := hz0.below hb hz0.lt
  clear hb hB0 hq0 hz0 cS
  obtain ⟨AS, cS, rfl, hcS, hrS⟩ := EnOwn.rd ho4
  clear ho4
  rcases te : (se != 0) with _ | _
  rotate_left
  · have HF := Lib.hid (HPB.out (by simpa using te))
    obtain ⟨z0, z1, zf, zz⟩ := hz4.two
    go_wp2_with fail
    refine bodyPost_ret (v := .tuple #[.agg #[.slice none 0 0, .slice none 0 0], .int .i64 se]) ?_ rfl ?_
    · simp [results, Tryz.results24, go_sem, z0, z1]
    rw [HF.out]
    exact RefUnRes.none ((hB4.setCell (p := ⟨w.heap.size + 1, 0, none⟩) (by show w.heap.size ≤ w.heap.size + 1; omega) (.slice none 0 0)).setCell (p := ⟨w.heap.size + 1, 1, none⟩) (by show w.heap.size ≤ w.heap.size + 1; omega) (.slice none 0 0))
  have hse : se = 0 := by simpa using te
  have HP := Lib.hid (HPT.out hse)
  have HN := Lib.hid (HPN.out hse)
  have HO := Lib.hid (HPO.out hse)
  have HMM := Lib.hid (HML.out hse)
  clear HPT HPN HPO HPB HML te
  subst hse
  go_wp2_with fail
  refine (refRemove_any AS cS S s w4 hrS hcS (Tr.right_sm HP.out.sr) hsz (by have := HP.out.sl; omega)).mono ?_
  rintro e w5 ⟨v5, rfl, _, hb⟩
  have hB5 := hB4.trans (hb.mono hB4.size)
  have hq5 := hq4.below hb hq4.lt
  have hz5 := hz4.below hb hz4.lt
  clear hb hB4 hq4 hz4 hrS
  generalize (Tr.remove S s.data.toList).2 = pe at *
  rcases tp : (pe != 0) with _ | _
  rotate_left
  · have HF := Lib.hid (HN.out (by simpa using tp))
    obtain ⟨z0, z1, zf, zz⟩ := hz5.two
    go_wp2_with fail
    refine bodyPost_ret (v := .tuple #[.agg #[.slice none 0 0, .slice none 0 0], .int .i64 pe]) ?_ rfl ?_
    · simp [results, Tryz.results24, go_sem, z0, z1]
    rw [HF.out]
    exact RefUnRes.none ((hB5.setCell (p := ⟨w.heap.size + 1, 0, none⟩) (by show w.heap.size ≤ w.heap.size + 1; omega) (.slice none 0 0)).setCell (p := ⟨w.heap.size + 1, 1, none⟩) (by show w.heap.size ≤ w.heap.size + 1; omega) (.slice none 0 0))
  have HF := Lib.hid (HO.out (by simpa using tp)).1
  have hfit := (HO.out (by simpa using tp)).2
  clear HN HO
  have hul := HP.out.ul
  have HOK0 : Hid (Tr.Ok u.U 80) := Lib.hid ⟨HP.out.ur.2.1, fun y hy => Tr.right_ne HP.out.ur hy, Tr.right_sm HP.out.ur, HP.out.ul⟩
  have hfit2 := hfit.2
  obtain ⟨q0, q1, qf, qz⟩ := hq5.two
  have cM := refMerge_any A' c' u.L w5 ((HU.out.below hB5).more hB5.size).low (fun l hl => HS.out.1 l (List.mem_cons_of_mem _ hl))
  unfold MergeRel at cM
  rw [HMM.out] at cM
  dsimp only at cM
  go_wp2_with fail
  clear q0 q1 qf qz
  refine cM.mono ?_
  rintro e w8 ⟨vB, rfl, hoB, hb⟩
  have hB8 := hB5.trans (hb.mono hB5.size)
  have hq8 := hq5.below hb hq5.lt
  have hz8 := hz5.below hb hz5.lt
  clear hb hB5 hq5 hz5 cM
  obtain ⟨AB, cB, rfl, hcB, hrB⟩ := EnOwn.rd hoB
  clear hoB
  have hqz := hq8.lt
  have hn1 : ¬ w.heap.size = w.heap.size + 1 := by omega
  have hn2 : ¬ w.heap.size + 1 = w.heap.size := by omega
  have hrU : EnRd w8 w8.heap.size A u.U := ((HU.out.below hB8).more hB8.size).up
  obtain ⟨q0, q1, qf, qz⟩ := hq8.two
  obtain ⟨z0, z1, zf, zz⟩ := hz8.two
  obtain ⟨V, hV⟩ : ∃ V, V = Tr.dropE (Tr.belowU u) u.U s.data.toList := ⟨_, rfl⟩
  rw [← hV] at HF
  have cDn := fun AV cV W => done_any A A' AV c c' cV u V W
  by_cases h80 : 80 < V.length
  · have HRR := Lib.hid (HF.out.trans (fin_no h80))
    simp only [if_pos h80] at cDn
    clear HF h80
    go_wp2_with fail
    go_region_held3 (fun W => W.cell? ⟨w.heap.size, 0, none⟩ = some (.slice A u.U.length c) ∧ W.cell? ⟨w.heap.size, 1, none⟩ = some (.slice A' u.L.length c'))
      (first | exact ⟨q0, q1⟩ | exact hS6 | exact hS7 | go_keep)
      (first | (go_at_call 54; refine (refDrop_any A AB c cB u.U (Tr.belowU u) s _ (by exact hrU) (by exact hrB) (HOK0.out.more (by omega)) (by have := HP.out.bl; omega) hfit.1 hfit2).mono ?_; rintro e w6 ⟨v6, rfl, ho6, hb6⟩; obtain ⟨A6, c6, hv6, _, _⟩ := EnOwn.rd ho6; subst hv6; rw [← hV] at ho6; have hb6' : Below w8.heap.size w8 w6 := ((Below.refl _ w8).drew).trans hb6; have hS6 : w6.cell? ⟨w.heap.size, 0, none⟩ = some (.slice A u.U.length c) ∧ w6.cell? ⟨w.heap.size, 1, none⟩ = some (.slice A' u.L.length c') := ⟨(hb6'.cell (p := ⟨w.heap.size, 0, none⟩) hq8.lt).trans q0, (hb6'.cell (p := ⟨w.heap.size, 1, none⟩) hq8.lt).trans q1⟩) | (go_at_call 49; (try rw [← hV]); refine (cDn A6 c6 w6).mono ?_; rintro e w7 ⟨rfl, hb7⟩; have hb7' : Below w8.heap.size w8 w7 := hb6'.trans (hb7.mono hb6'.size); have hS7 : w7.cell? ⟨w.heap.size, 0, none⟩ = some (.slice A u.U.length c) ∧ w7.cell? ⟨w.heap.size, 1, none⟩ = some (.slice A' u.L.length c') := ⟨(hb7'.cell (p := ⟨w.heap.size, 0, none⟩) hq8.lt).trans q0, (hb7'.cell (p := ⟨w.heap.size, 1, none⟩) hq8.lt).trans q1⟩; obtain ⟨z0, z1, zf, zz⟩ := (hz8.below hb7' hz8.lt).two))
    all_goals
      have hz7 := hz8.below hb7' hz8.lt
      have hB7 := hB8.trans (hb7'.mono hB8.size)
      obtain ⟨z0, z1, zf, zz⟩ := hz7.two
      go_wp2_with fail
      refine bodyPost_ret (v := .tuple #[.agg #[.slice none 0 0, .slice none 0 0], .int .i64 5]) ?_ rfl ?_
      · simp [results, Tryz.results24, go_sem, z0, z1]
      rw [HRR.out]
      exact RefUnRes.none ((hB7.setCell (p := ⟨w.heap.size + 1, 0, none⟩) (by show w.heap.size ≤ w.heap.size + 1; omega) (.slice none 0 0)).setCell (p := ⟨w.heap.size + 1, 1, none⟩) (by show w.heap.size ≤ w.heap.size + 1; omega) (.slice none 0 0))
  · have HRR := Lib.hid (HF.out.trans (fin_ok h80))
    simp only [if_neg h80] at cDn
    clear HF h80
    go_wp2_with fail
    go_region_held3 (fun W => W.cell? ⟨w.heap.size, 0, none⟩ = some (.slice A u.U.length c) ∧ W.cell? ⟨w.heap.size, 1, none⟩ = some (.slice A' u.L.length c'))
      (first | exact ⟨q0, q1⟩ | exact hS6 | exact hS7 | go_keep)
      (first | (go_at_call 54; refine (refDrop_any A AB c cB u.U (Tr.belowU u) s _ (by exact hrU) (by exact hrB) (HOK0.out.more (by omega)) (by have := HP.out.bl; omega) hfit.1 hfit2).mono ?_; rintro e w6 ⟨v6, rfl, ho6, hb6⟩; obtain ⟨A6, c6, hv6, _, _⟩ := EnOwn.rd ho6; subst hv6; rw [← hV] at ho6; have hb6' : Below w8.heap.size w8 w6 := ((Below.refl _ w8).drew).trans hb6; have hS6 : w6.cell? ⟨w.heap.size, 0, none⟩ = some (.slice A u.U.length c) ∧ w6.cell? ⟨w.heap.size, 1, none⟩ = some (.slice A' u.L.length c') := ⟨(hb6'.cell (p := ⟨w.heap.size, 0, none⟩) hq8.lt).trans q0, (hb6'.cell (p := ⟨w.heap.size, 1, none⟩) hq8.lt).trans q1⟩) | (go_at_call 49; (try rw [← hV]); refine (cDn A6 c6 w6).mono ?_; rintro e w7 ⟨rfl, hb7⟩; have hb7' : Below w8.heap.size w8 w7 := hb6'.trans (hb7.mono hb6'.size); have hS7 : w7.cell? ⟨w.heap.size, 0, none⟩ = some (.slice A u.U.length c) ∧ w7.cell? ⟨w.heap.size, 1, none⟩ = some (.slice A' u.L.length c') := ⟨(hb7'.cell (p := ⟨w.heap.size, 0, none⟩) hq8.lt).trans q0, (hb7'.cell (p := ⟨w.heap.size, 1, none⟩) hq8.lt).trans q1⟩; obtain ⟨z0, z1, zf, zz⟩ := (hz8.below hb7' hz8.lt).two))
    all_goals
      have hz7 := hz8.below hb7' hz8.lt
      have hB7 := hB8.trans (hb7'.mono hB8.size)
      obtain ⟨z0, z1, zf, zz⟩ := hz7.two
      go_wp2_with fail
      have hgz : w.heap.size + 1 < w8.heap.size := hz8.lt
      have ho7 : EnOwn w7 w8.heap.size (.slice A6 V.length c6) V := own_below ho6 hb7 (Nat.le_refl _)
      have hne : some (w.heap.size + 1) ≠ (Value.slice A6 V.length c6).ownBlock := own_ne ho7 (.inl hgz)
      refine bodyPost_ret (v := .tuple #[.agg #[.slice A6 V.length c6, .slice A' u.L.length c'], .int .i64 0]) ?_ rfl ?_
      · simp [results, Tryz.results24, go_sem, z0, z1, hV]
      rw [HRR.out, ← hV]
      have hB9 := ((hB7.setCell (p := ⟨w.heap.size + 1, 0, none⟩) (by show w.heap.size ≤ w.heap.size + 1; omega) (.slice A6 V.length c6)).setCell (p := ⟨w.heap.size + 1, 1, none⟩) (by show w.heap.size ≤ w.heap.size + 1; omega) (.slice A' u.L.length c'))
      exact ⟨_, _, _, _, rfl, un_far2 (HUN.out.below (hB9.mono hN)) (Nat.le_trans hN hB9.size) (own_base (own_far (own_far ho7 hne 0 _) hne 1 _) hB8.size), hB9⟩
end Go.Proofs.YtjppfhgkanbemabGreatDoor
