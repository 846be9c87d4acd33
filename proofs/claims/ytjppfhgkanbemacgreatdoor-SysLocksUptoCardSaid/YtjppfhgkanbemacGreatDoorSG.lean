/-
  What is done with an open file. (Printed by wip/gensyuse.py.)
  Open. (Printed by wip/gensyopen.py.)
  A call answered. (Printed by wip/gensycall.py.)
-/
import Derived.Test.YtjppfhgkanbemacGreatDoorSF
import Derived.Test.YtjppfhgkanbemacGreatDoorSC
import Derived.Test.YtjppfhgkanbemacGreatDoorSB
import Derived.Test.YtjppfhgkanbemacGreatDoorSE
namespace Go.Proofs.YtjppfhgkanbemacGreatDoor
open Go.RowKit Go.Shelf Go.Sort

theorem Sy.free_lt {n : Nat} {s : St} (h : Sy.In n s) {o k : Nat} (ho : o < 4) (hf : Sy.free s o = some k) : k < 8 := by
  unfold Sy.free at hf
  rw [List.findIdx?_eq_some_iff_getElem] at hf
  obtain ⟨hk, _⟩ := hf
  have h1 : o < s.fds.length := by rw [h.fdl]; exact ho
  have h2 := h.fdr _ (List.getElem_mem h1)
  rw [List.getD_eq_getElem?_getD, List.getElem?_eq_getElem h1] at hk
  have h3 : s.fds[o].length = 8 := h2
  simp only [Option.getD_some] at hk
  omega
theorem Sy.dup_in {n : Nat} {s : St} (h : Sy.In n s) (o k : Nat) {d : Nat} (hd : d < s.des.length) : Sy.In (n + 1) (Sy.setFd s o k (some d)) := (h.more (Nat.le_succ n)).setFd o k (some d) (fun x hx => by injection hx with hx; omega)

set_option maxHeartbeats 2000000 in
set_option maxRecDepth 100000 in
theorem use_any (p : Pl) (s : St) (n b o : Nat) (c : Ca) (w : World) (h : SyAt w p s) (hi : Sy.In n s) (hn : n ≤ 999) (hk : Sy.Ok s) (hc : CaAt w b o c) (hcb2 : ¬ p.C b) (hcs : CaSm c) (ho0 : 0 ≤ c.owner) (ho4 : c.owner < 4) :
    Calls Tryz.prog 56 #[.pointer (some ⟨p.gs, 0, none⟩), .pointer (some ⟨b, o, none⟩)] w (SyAns p (Sy.use s c) w) := by
  have hA := Lib.hid h
  have HI := Lib.hid hi
  have HK := Lib.hid hk
  have HCS := Lib.hid hcs
  have hgs0 : p.gs < w.heap.size := h.c_lt h.gs_c
  obtain ⟨om, hom⟩ : ∃ m : Nat, c.owner = m := ⟨c.owner.toNat, by omega⟩
  have hom4 : om < 4 := by omega
  obtain ⟨R, hR⟩ : ∃ R, R = Sy.use s c := ⟨_, rfl⟩
  rw [← hR]
  unfold Sy.use at hR
  rw [hom, Int.toNat_natCast] at hR
  have HR := Lib.hid hR
  clear hR h hi hk hcs
  have hA0 := hA.out.plus (.cells #[.int .i64 0, .int .i64 0, .string ⟨#[]⟩, .slice none 0 0] 41)
  have hB0 := (Below.refl w.heap.size w).alloc (Nat.le_refl _) (.cells #[.int .i64 0, .int .i64 0, .string ⟨#[]⟩, .slice none 0 0] 41)
  have hz0 := Blk.new w 41 [.int .i64 0, .int .i64 0, .string ⟨#[]⟩, .slice none 0 0]
  have hc0 := hc.below hB0
  have hcw : ¬ b = w.heap.size := fun e => by have := hc.1; omega
  go_enter Tryz.func56, Tryz.ntmps56
  go_upto_region 1 with fail
  generalize w.alloc (.cells #[.int .i64 0, .int .i64 0, .string ⟨#[]⟩, .slice none 0 0] 41) = w0 at *
  have HC0 := Lib.hid hc0
  obtain ⟨z0, z1, z2, z3, zf, zz⟩ := hz0.four
  obtain ⟨hcb, c0, c1, c2, c3, c4, c5, c6, c7, c8⟩ := HC0.out
  rw [hom] at c1
  have HOM := Lib.hid hom
  clear hom
  by_cases hf0 : c.fd < 0 ∨ 8 ≤ c.fd
  · have HF := Lib.hid (HR.out.trans (if_pos hf0))
    have tn : decide (c.fd < 0) = true ∨ (decide (c.fd < 0) = false ∧ decide (8 ≤ c.fd) = true) := by
      rcases Decidable.em (c.fd < 0) with q | q
      · exact .inl (decide_eq_true q)
      · exact .inr ⟨decide_eq_false q, decide_eq_true (hf0.resolve_left q)⟩
    clear HR hf0
    rcases tn with tn | ⟨tn, tm⟩
    all_goals
      refine wp_region_quiet_lit (by kernel_rfl) (by kernel_rfl) ?_
      repeat (first | go_big_quiet_step (fail) | quiet_step (fail))
      refine wpQuiet_nil ?_
      intro w1 hw'
      obtain ⟨nq, hw''⟩ := hw'
      have hA1 : SyAt w1 (p.plus w.heap.size) s := by rw [hw'']; exact hA0.below (below_drewN (Below.refl _ _) nq)
      have hB1 : Below w.heap.size w w1 := by rw [hw'']; exact below_drewN hB0 nq
      have hz1 := hz0.drewN nq
      rw [← hw''] at hz1
      have HC1 : Hid (CaAt w1 b o c) := Lib.hid (by rw [hw'']; exact HC0.out.below (below_drewN (Below.refl _ _) nq))
      clear hw''
      clear z0 z1 z2 z3 zf zz
      obtain ⟨z0, z1, z2, z3, zf, zz⟩ := hz1.four
      go_wp2_with fail
      refine bodyPost_ret (v := .agg #[.int .i64 6, .int .i64 0, .string ⟨#[]⟩, .slice none 0 0]) ?_ rfl ?_
      · simp [results, Tryz.results56, go_sem, z0, z1, z2, z3]
      rw [HF.out]
      exact ans_end (a := (.no 6)) (Nat.le_refl _) hA1 rfl rfl (Fr.of hB1) (Sub.refl _ _) rfl
  have HR := Lib.hid (HR.out.trans (if_neg hf0))
  obtain ⟨km, hkm⟩ : ∃ m : Nat, c.fd = m := ⟨c.fd.toNat, by omega⟩
  have hk8 : km < 8 := by omega
  rw [hkm] at c2
  have HR := Lib.hid HR.out
  rw [hkm, Int.toNat_natCast] at HR
  have HKM := Lib.hid hkm
  clear hkm
  have tn : decide ((km : Int) < 0) = false := decide_eq_false (by omega)
  have tm : decide (8 ≤ (km : Int)) = false := decide_eq_false (by omega)
  have ib1 : (0 : Int) ≤ (om : Int) := Int.natCast_nonneg _
  have ib2 : (om : Int) < 4 := by omega
  have ib3 : (0 : Int) ≤ (km : Int) := Int.natCast_nonneg _
  have ib4 : (km : Int) < 8 := by omega
  have hfd := hA0.fds HI.out hom4 hk8
  rw [← Nat.add_assoc] at hfd
  have hgz : p.gs < w0.heap.size := hA0.c_lt hA0.gs_c
  have hnil := fun (W : World) (p : Option Addr) => run_ptr_nil (P := Tryz.prog) W p Tryz.underlying81
  clear hf0
  obtain ⟨fo, hfo⟩ : ∃ x, x = Sy.fdAt s om km := ⟨_, rfl⟩
  rw [← hfo] at hfd HR
  rw [show (Pl.D (p.plus w.heap.size)) = p.D from rfl, show (Pl.gs (p.plus w.heap.size)) = p.gs from rfl] at hfd
  cases fo with
  | none =>
    clear hfo
    have HF : Hid (R = (s, .no 6)) := Lib.hid HR.out
    rw [show fdV p.D none = .pointer none from rfl] at hfd
    refine wp_region_quiet_lit (by kernel_rfl) (by kernel_rfl) ?_
    repeat (first | go_big_quiet_step (fail) | quiet_step (fail))
    refine wpQuiet_nil ?_
    intro w1 hw'
    obtain ⟨nq, hw''⟩ := hw'
    have hA1 : SyAt w1 (p.plus w.heap.size) s := by rw [hw'']; exact hA0.below (below_drewN (Below.refl _ _) nq)
    have hB1 : Below w.heap.size w w1 := by rw [hw'']; exact below_drewN hB0 nq
    have hz1 := hz0.drewN nq
    rw [← hw''] at hz1
    have HC1 : Hid (CaAt w1 b o c) := Lib.hid (by rw [hw'']; exact HC0.out.below (below_drewN (Below.refl _ _) nq))
    clear hw''
    clear z0 z1 z2 z3 zf zz
    obtain ⟨z0, z1, z2, z3, zf, zz⟩ := hz1.four
    go_wp2_with fail
    refine bodyPost_ret (v := .agg #[.int .i64 6, .int .i64 0, .string ⟨#[]⟩, .slice none 0 0]) ?_ rfl ?_
    · simp [results, Tryz.results56, go_sem, z0, z1, z2, z3]
    rw [HF.out]
    exact ans_end (a := (.no 6)) (Nat.le_refl _) hA1 rfl rfl (Fr.of hB1) (Sub.refl _ _) rfl
  | some d =>
    rw [show fdV p.D (some d) = .pointer (some ⟨p.d d, 0, none⟩) from rfl] at hfd
    have HFD := Lib.hid hfo.symm
    clear hfo
    have hdl : d < s.des.length := HI.out.fdAt HFD.out
    refine wp_region_quiet_lit (by kernel_rfl) (by kernel_rfl) ?_
    repeat (first | go_big_quiet_step (fail) | quiet_step (fail))
    refine wpQuiet_nil ?_
    intro w1 hw'
    obtain ⟨nq, hw''⟩ := hw'
    have hA1 : SyAt w1 (p.plus w.heap.size) s := by rw [hw'']; exact hA0.below (below_drewN (Below.refl _ _) nq)
    have hB1 : Below w.heap.size w w1 := by rw [hw'']; exact below_drewN hB0 nq
    have hz1 := hz0.drewN nq
    rw [← hw''] at hz1
    have HC1 : Hid (CaAt w1 b o c) := Lib.hid (by rw [hw'']; exact HC0.out.below (below_drewN (Below.refl _ _) nq))
    clear z0 z1 z2 z3 zf zz
    have hfd1 : w1.cell? ⟨p.gs, 4 + om * 8 + km, none⟩ = some (.pointer (some ⟨p.d d, 0, none⟩)) := by rw [hw'']; exact hfd
    have hgz1 := hA1.c_lt hA1.gs_c
    obtain ⟨z0, z1, z2, z3, zf, zz⟩ := hz1.four
    clear hcb c0 c1 c2 c3 c4 c5 c6 c7 c8 hw'' hfd hgz hA0 hB0 hz0 HC0
    obtain ⟨hcb, c0, c1, c2, c3, c4, c5, c6, c7, c8⟩ := HC1.out
    rw [HOM.out] at c1
    rw [HKM.out] at c2
    go_upto_region 3 with fail
    refine wp_region_quiet_lit (by kernel_rfl) (by kernel_rfl) ?_
    repeat (first | go_big_quiet_step (fail) | quiet_step (fail))
    refine wpQuiet_nil ?_
    intro w2 hw'
    obtain ⟨nq, hw''⟩ := hw'
    have hA2 : SyAt w2 (p.plus w.heap.size) s := by rw [hw'']; exact hA1.below (below_drewN (Below.refl _ _) nq)
    have hB2 : Below w.heap.size w w2 := by rw [hw'']; exact below_drewN hB1 nq
    have hz2 := hz1.drewN nq
    rw [← hw''] at hz2
    have HC2 : Hid (CaAt w2 b o c) := Lib.hid (by rw [hw'']; exact HC1.out.below (below_drewN (Below.refl _ _) nq))
    clear z0 z1 z2 z3 zf zz hcb c0 c1 c2 c3 c4 c5 c6 c7 c8 hw'' hfd1 hgz1 hA1 hB1 hz1 HC1 hnil tn tm
    obtain ⟨z0, z1, z2, z3, zf, zz⟩ := hz2.four
    obtain ⟨hcb, c0, c1, c2, c3, c4, c5, c6, c7, c8⟩ := HC2.out
    rw [HOM.out] at c1
    rw [HKM.out] at c2
    go_upto_region 4 with fail
    have HR : Hid (R = if c.kind = 2 then Sy.callClose s om km d else if c.kind = 13 then Sy.callDup s om d else if c.kind = 5 then Sy.callSeek s d c.n else if c.kind = 14 ∨ c.kind = 15 then Sy.callLock s c (Sy.deAt s d).o else if c.kind = 3 then Sy.callRead s c d else Sy.callWrite s c d) := Lib.hid HR.out
    rcases t2 : (c.kind == 2) with _ | _
    rotate_left
    · -- Close
      have HF := Lib.hid (HR.out.trans (if_pos (by simpa using t2)))
      have cC := fun W q => callClose_any (p.plus w.heap.size) s n om km d W q HI.out hn hom4 hk8 HFD.out
      generalize Sy.callClose s om km d = r at cC HF
      clear HR
      go_upto_region 6 with fail
      have hz2d := hz2.drew
      have hA2d := hA2.below (Below.refl _ w2).drew
      have HC2d := Lib.hid (HC2.out.below (Below.refl _ w2).drew)
      have hcw2 : ¬ w.heap.size = b := fun e => hcw e.symm
      go_region_held3 (fun W => W.cell? ⟨b, o + 1, none⟩ = some (.int .i64 om) ∧ W.cell? ⟨b, o + 2, none⟩ = some (.int .i64 km)) (first | exact ⟨c1, c2⟩ | exact hS7 | go_keep) (first | (go_at_call 76; refine (cC w2.drew hA2d).mono ?_; intro e w6 hS; obtain ⟨Aq, cq, rfl, hF6, hfin⟩ := ans_pass (Nat.le_refl _) ((Fr.of hB2 : Fr p.C w w2).thenB (Below.refl _ w2).drew) hS; obtain ⟨z0, z1, z2, z3, zf, zz⟩ := (hz2d.frC hA2d hF6).four; have hS7 : w6.cell? ⟨b, o + 1, none⟩ = some (.int .i64 om) ∧ w6.cell? ⟨b, o + 2, none⟩ = some (.int .i64 km) := by (obtain ⟨_, _, q1, q2, _⟩ := HC2d.out.fr hF6 hcb2; rw [HOM.out] at q1; rw [HKM.out] at q2; exact ⟨q1, q2⟩)))
      all_goals
        go_wp2_with fail
        refine bodyPost_ret (v := .agg #[.int .i64 r.2.err, .int .i64 r.2.n, .string r.2.text, .slice Aq r.2.names.length cq]) ?_ rfl ?_
        · simp [results, Tryz.results56, go_sem, z0, z1, z2, z3]
        rw [HF.out]
        exact hfin
    have HR := Lib.hid (HR.out.trans (if_neg (by simpa using t2)))
    rcases t13 : (c.kind == 13) with _ | _
    rotate_left
    · -- Dup
      have HR := Lib.hid (HR.out.trans (if_pos (by simpa using t13)))
      unfold Sy.callDup at HR
      have cFr := free_any' (p.plus w.heap.size) s n om w2 hA2 HI.out hom4
      have HLT := Lib.hid (fun k => Sy.free_lt (k := k) HI.out hom4)
      generalize Sy.free s om = fr at cFr HR HLT
      have hD : Blk w2 (p.d d) 122 [ptr (p.F.getD (Sy.deAt s d).o 0), .int .i64 (Sy.deAt s d).fl, .int .i64 (Sy.deAt s d).at_, .int .i64 (Sy.deAt s d).refs] := hA2.de d hdl
      have hdb := (HI.out.deAt hdl).2.2.2
      go_wp2_with fail
      refine cFr.mono ?_
      rintro e w2 ⟨rfl, rfl⟩
      cases fr with
      | none =>
        have HF : Hid (R = (s, .no 5)) := Lib.hid HR.out
        have tl : decide (idxV none < 0) = true := rfl
        simp only [idxV] at tl ⊢
        go_wp2_with fail
        refine bodyPost_ret (v := .agg #[.int .i64 5, .int .i64 0, .string ⟨#[]⟩, .slice none 0 0]) ?_ rfl ?_
        · simp [results, Tryz.results56, go_sem, z0, z1, z2, z3]
        rw [HF.out]
        exact ans_end (a := (.no 5)) (Nat.le_refl _) hA2 rfl rfl (Fr.of hB2) (Sub.refl _ _) rfl
      | some k =>
        have hk9 := HLT.out k rfl
        have HF : Hid (R = (Sy.setDe (Sy.setFd s om k (some d)) d (fun x => { x with refs := x.refs + 1 }), .num k)) := Lib.hid HR.out
        have tl : decide (((k : Nat) : Int) < 0) = false := decide_eq_false (by omega)
        have ic1 : (0 : Int) ≤ (k : Int) := Int.natCast_nonneg _
        have ic2 : (k : Int) < 8 := by omega
        have hbg : p.gs ≠ b := fun e => hcb2 (.inl e.symm)
        have hbg2 : b ≠ p.gs := fun e => hcb2 (.inl e)
        simp only [idxV]
        have hA3 := hA2.setFd (o := om) (k := k) ⟨HI.out.fdl, HI.out.fdr⟩ hom4 hk9 (some d)
        rw [show fdV (p.plus w.heap.size).D (some d) = .pointer (some ⟨p.d d, 0, none⟩) from rfl, ← Nat.add_assoc, show (p.plus w.heap.size).gs = p.gs from rfl] at hA3
        have hz3 := hz2.far (p := ⟨p.gs, 4 + om * 8 + k, none⟩) (show w.heap.size ≠ p.gs by omega) (.pointer (some ⟨p.d d, 0, none⟩))
        have hD3 := Blk.far hD (p := ⟨p.gs, 4 + om * 8 + k, none⟩) (fun e => hA2.gs_d hdl e.symm) (.pointer (some ⟨p.d d, 0, none⟩))
        have hF3 : Fr p.C w (w2.setCell ⟨p.gs, 4 + om * 8 + k, none⟩ (.pointer (some ⟨p.d d, 0, none⟩))) := Fr.setCell (Fr.of hB2) (p := ⟨p.gs, 4 + om * 8 + k, none⟩) (.inl rfl) _
        have hcf : w2.cell? ⟨p.gs, 4 + om * 8 + k, none⟩ = some (fdV p.D (Sy.fdAt s om k)) := by have := hA2.fds HI.out hom4 hk9; rw [← Nat.add_assoc] at this; exact this
        have hgz2 : ∀ q, w2.frozen? ⟨p.gs, q, none⟩ = false := by obtain ⟨cs, hb⟩ := hA2.blk; exact hb.frozen
        go_upto_region 11 with fail
        go_region_held3 (fun W => W.cell? ⟨b, o + 1, none⟩ = some (.int .i64 om)) (first | go_keep | exact c1) (fail)
        all_goals
          have hA3 := hA3.below (Below.refl _ _).drew
          have hz3 := hz3.drew
          have hD3 := Blk.drew hD3
          have hF3 := hF3.thenB (Below.refl _ _).drew
          generalize (w2.setCell ⟨p.gs, 4 + om * 8 + k, none⟩ (.pointer (some ⟨p.d d, 0, none⟩))).drew = w3 at *
          clear z0 z1 z2 z3 zf zz hcb c0 c1 c2 c3 c4 c5 c6 c7 c8 hcf hgz2
          have hD3' : Blk w3 (p.d d) 122 [ptr (p.F.getD (Sy.deAt s d).o 0), .int .i64 (Sy.deAt s d).fl, .int .i64 (Sy.deAt s d).at_, .int .i64 (Sy.deAt s d).refs] := hD3
          clear hD hD3
          generalize hdd : Sy.deAt s d = de at *
          obtain ⟨di, dfl, dat, drf⟩ := de
          dsimp only at hD3' hdb
          obtain ⟨d0, d1, d2, d3, df, dz⟩ := hD3'.four
          have hwr : IntKind.i64.wrap (drf + 1) = drf + 1 := IntWalk.i64_in _ (by omega)
          have HDD := Lib.hid hdd
          clear hdd
          go_upto_region 13 with fail
          have hf9 : Fr (fun k => k = p.d d) w3 (w3.setCell ⟨p.d d, 3, none⟩ (.int .i64 (drf + 1))) := (Fr.refl (fun k => k = p.d d) w3).at_ 3 _
          have hA4 := hA3.setDe (d := d) hdl hf9 (fun x => { x with refs := x.refs + 1 }) (by
            rw [show Sy.deAt (Sy.setFd s om k (some d)) d = ⟨di, dfl, dat, drf⟩ from HDD.out]
            exact hD3'.set_ 3 _)
          have hz4 := hz3.far (p := ⟨p.d d, 3, none⟩) (fun e => by have h1 := hA.out.c_lt (hA.out.d_c hdl); have e : w.heap.size = p.d d := e; omega) (.int .i64 (drf + 1))
          have hF4 : Fr p.C w (w3.setCell ⟨p.d d, 3, none⟩ (.int .i64 (drf + 1))) := hF3.setCell (p := ⟨p.d d, 3, none⟩) (hA.out.d_c hdl) _
          generalize w3.setCell ⟨p.d d, 3, none⟩ (.int .i64 (drf + 1)) = w4 at *
          clear d0 d1 d2 d3 df dz
          obtain ⟨z0, z1, z2, z3, zf, zz⟩ := hz4.four
          go_wp2_with fail
          refine bodyPost_ret (v := .agg #[.int .i64 0, .int .i64 k, .string ⟨#[]⟩, .slice none 0 0]) ?_ rfl ?_
          · simp [results, Tryz.results56, go_sem, z0, z1, z2, z3]
          rw [HF.out]
          exact ans_end (a := ⟨0, ((k : Nat) : Int), ⟨#[]⟩, []⟩) (Nat.le_refl _) hA4 rfl rfl hF4 (Sub.refl _ _) rfl
    have HR := Lib.hid (HR.out.trans (if_neg (by simpa using t13)))
    rcases t5 : (c.kind == 5) with _ | _
    rotate_left
    · -- Seek
      have HR := Lib.hid (HR.out.trans (if_pos (by simpa using t5)))
      unfold Sy.callSeek at HR
      by_cases hr : c.n < 0 ∨ 1000 < c.n
      · have HF := Lib.hid (HR.out.trans (if_pos hr))
        have tn : decide (c.n < 0) = true ∨ (decide (c.n < 0) = false ∧ decide (1000 < c.n) = true) := by
          rcases Decidable.em (c.n < 0) with q | q
          · exact .inl (decide_eq_true q)
          · exact .inr ⟨decide_eq_false q, decide_eq_true (hr.resolve_left q)⟩
        clear HR hr
        rcases tn with tn | ⟨tn, tm⟩
        all_goals
          go_wp2_with fail
          refine bodyPost_ret (v := .agg #[.int .i64 3, .int .i64 0, .string ⟨#[]⟩, .slice none 0 0]) ?_ rfl ?_
          · simp [results, Tryz.results56, go_sem, z0, z1, z2, z3]
          rw [HF.out]
          exact ans_end (a := (.no 3)) (Nat.le_refl _) hA2 rfl rfl (Fr.of hB2) (Sub.refl _ _) rfl
      have HF := Lib.hid (HR.out.trans (if_neg hr))
      have tn : decide (c.n < 0) = false := decide_eq_false fun q => hr (.inl q)
      have tm : decide (1000 < c.n) = false := decide_eq_false fun q => hr (.inr q)
      clear hr HR
      have hD : Blk w2 (p.d d) 122 [ptr (p.F.getD (Sy.deAt s d).o 0), .int .i64 (Sy.deAt s d).fl, .int .i64 (Sy.deAt s d).at_, .int .i64 (Sy.deAt s d).refs] := hA2.de d hdl
      obtain ⟨d0, d1, d2, d3, df, dz⟩ := Blk.four hD
      go_upto_region 18 with fail
      have hf9 : Fr (fun k => k = p.d d) w2 (w2.setCell ⟨p.d d, 2, none⟩ (.int .i64 c.n)) := (Fr.refl (fun k => k = p.d d) w2).at_ 2 _
      have hA4 := hA2.setDe (d := d) hdl hf9 (fun x => { x with at_ := c.n }) (Blk.set_ hD 2 _)
      have hz4 := hz2.far (p := ⟨p.d d, 2, none⟩) (fun e => by have h1 := hA.out.c_lt (hA.out.d_c hdl); have e : w.heap.size = p.d d := e; omega) (.int .i64 c.n)
      have hF4 : Fr p.C w (w2.setCell ⟨p.d d, 2, none⟩ (.int .i64 c.n)) := Fr.setCell (Fr.of hB2) (p := ⟨p.d d, 2, none⟩) (hA.out.d_c hdl) _
      clear d0 d1 d2 d3 df dz z0 z1 z2 z3 zf zz hcb c0 c1 c2 c3 c4 c5 c6 c7 c8
      generalize w2.setCell ⟨p.d d, 2, none⟩ (.int .i64 c.n) = w4 at *
      obtain ⟨z0, z1, z2, z3, zf, zz⟩ := hz4.four
      go_wp2_with fail
      refine bodyPost_ret (v := .agg #[.int .i64 0, .int .i64 0, .string ⟨#[]⟩, .slice none 0 0]) ?_ rfl ?_
      · simp [results, Tryz.results56, go_sem, z0, z1, z2, z3]
      rw [HF.out]
      exact ans_end (a := .ok) (Nat.le_refl _) hA4 rfl rfl hF4 (Sub.refl _ _) rfl
    have HR := Lib.hid (HR.out.trans (if_neg (by simpa using t5)))
    have hD : Blk w2 (p.d d) 122 [ptr (p.F.getD (Sy.deAt s d).o 0), .int .i64 (Sy.deAt s d).fl, .int .i64 (Sy.deAt s d).at_, .int .i64 (Sy.deAt s d).refs] := hA2.de d hdl
    obtain ⟨d0, d1, d2, d3, df, dz⟩ := Blk.four hD
    have hdo := (HI.out.deAt hdl).1
    have HDO := Lib.hid (show p.F.getD (Sy.deAt s d).o 0 = p.f (Sy.deAt s d).o from rfl)
    rw [HDO.out] at d0
    unfold ptr at d0
    clear hD HDO
    by_cases hkl : c.kind = 14 ∨ c.kind = 15
    · -- Lock, Free
      have HF := Lib.hid (HR.out.trans (if_pos hkl))
      have tk : (c.kind == 14) = true ∨ ((c.kind == 14) = false ∧ (c.kind == 15) = true) := by
        rcases hkl with q | q
        · exact .inl (by simp [q])
        · exact .inr ⟨by simp [q], by simp [q]⟩
      have cC := fun W q hcw => locks_any (p.plus w.heap.size) s n (Sy.deAt s d).o b o c W q HI.out hdo hcw
      rw [show Pl.f (p.plus w.heap.size) (Sy.deAt s d).o = p.f (Sy.deAt s d).o from rfl] at cC
      generalize Sy.callLock s c (Sy.deAt s d).o = r at cC HF
      clear HR hkl
      rcases tk with tk | ⟨tk, tl⟩
      all_goals
        go_wp2_with fail
        refine (cC w2 hA2 HC2.out).mono ?_
        intro e w6 hS
        obtain ⟨Aq, cq, rfl, hF6, hfin⟩ := ans_pass (Nat.le_refl _) (Fr.of hB2 : Fr p.C w w2) hS
        clear z0 z1 z2 z3 zf zz hcb c0 c1 c2 c3 c4 c5 c6 c7 c8 d0 d1 d2 d3 df dz
        obtain ⟨z0, z1, z2, z3, zf, zz⟩ := (hz2.frC hA2 hF6).four
        go_wp2_with fail
        refine bodyPost_ret (v := .agg #[.int .i64 r.2.err, .int .i64 r.2.n, .string r.2.text, .slice Aq r.2.names.length cq]) ?_ rfl ?_
        · simp [results, Tryz.results56, go_sem, z0, z1, z2, z3]
        rw [HF.out]
        exact hfin
    have HR := Lib.hid (HR.out.trans (if_neg hkl))
    have t14 : (c.kind == 14) = false := by simp only [beq_eq_false_iff_ne]; exact fun q => hkl (.inl q)
    have t15 : (c.kind == 15) = false := by simp only [beq_eq_false_iff_ne]; exact fun q => hkl (.inr q)
    clear hkl
    rcases t3 : (c.kind == 3) with _ | _
    rotate_left
    · -- Read
      have HF := Lib.hid (HR.out.trans (if_pos (by simpa using t3)))
      have cC := callRead_any (p.plus w.heap.size) s n d b o c w2 hA2 HI.out (by omega) HK.out hdl HC2.out
      rw [show Pl.d (p.plus w.heap.size) d = p.d d from rfl] at cC
      generalize Sy.callRead s c d = r at cC HF
      clear HR
      go_wp2_with fail
      refine cC.mono ?_
      intro e w6 hS
      obtain ⟨Aq, cq, rfl, hF6, hfin⟩ := ans_pass (Nat.le_refl _) (Fr.of hB2 : Fr p.C w w2) hS
      clear z0 z1 z2 z3 zf zz hcb c0 c1 c2 c3 c4 c5 c6 c7 c8 d0 d1 d2 d3 df dz
      obtain ⟨z0, z1, z2, z3, zf, zz⟩ := (hz2.frC hA2 hF6).four
      go_wp2_with fail
      refine bodyPost_ret (v := .agg #[.int .i64 r.2.err, .int .i64 r.2.n, .string r.2.text, .slice Aq r.2.names.length cq]) ?_ rfl ?_
      · simp [results, Tryz.results56, go_sem, z0, z1, z2, z3]
      rw [HF.out]
      exact hfin
    have HF := Lib.hid (HR.out.trans (if_neg (by simpa using t3)))
    have cC := callWrite_any (p.plus w.heap.size) s n d b o c w2 hA2 HI.out (by omega) HK.out hdl HC2.out hcb2 HCS.out
    rw [show Pl.d (p.plus w.heap.size) d = p.d d from rfl] at cC
    generalize Sy.callWrite s c d = r at cC HF
    clear HR
    go_wp2_with fail
    refine cC.mono ?_
    intro e w6 hS
    obtain ⟨Aq, cq, rfl, hF6, hfin⟩ := ans_pass (Nat.le_refl _) (Fr.of hB2 : Fr p.C w w2) hS
    clear z0 z1 z2 z3 zf zz hcb c0 c1 c2 c3 c4 c5 c6 c7 c8 d0 d1 d2 d3 df dz
    obtain ⟨z0, z1, z2, z3, zf, zz⟩ := (hz2.frC hA2 hF6).four
    go_wp2_with fail
    refine bodyPost_ret (v := .agg #[.int .i64 r.2.err, .int .i64 r.2.n, .string r.2.text, .slice Aq r.2.names.length cq]) ?_ rfl ?_
    · simp [results, Tryz.results56, go_sem, z0, z1, z2, z3]
    rw [HF.out]
    exact hfin
end Go.Proofs.YtjppfhgkanbemacGreatDoor

namespace Go.Proofs.YtjppfhgkanbemacGreatDoor
open Go.RowKit Go.Shelf Go.Sort

theorem bad_tab : ∀ m : Fin 64, 1 ≤ m.1 → Sy.badFlags ((m.1 : Nat) : Int) = ((bits .and .i64 ((m.1 : Nat) : Int) 3 == 0) || ((bits .and .i64 ((m.1 : Nat) : Int) 36 != 0) && (bits .and .i64 ((m.1 : Nat) : Int) 2 == 0)) || ((bits .and .i64 ((m.1 : Nat) : Int) 16 != 0) && (bits .and .i64 ((m.1 : Nat) : Int) 8 == 0))) := by decide +kernel
theorem bad_is {n : Int} (h0 : 1 ≤ n) (h1 : n ≤ 63) : Sy.badFlags n = ((bits .and .i64 n 3 == 0) || ((bits .and .i64 n 36 != 0) && (bits .and .i64 n 2 == 0)) || ((bits .and .i64 n 16 != 0) && (bits .and .i64 n 8 == 0))) := by
  obtain ⟨m, rfl⟩ : ∃ m : Nat, n = m := ⟨n.toNat, by omega⟩
  exact bad_tab ⟨m, by omega⟩ (by show 1 ≤ m; omega)
theorem bad_out {n : Int} (h : n < 1 ∨ 63 < n) : Sy.badFlags n = true := by
  unfold Sy.badFlags
  rcases h with h | h
  · rw [decide_eq_true h]; rfl
  · rw [decide_eq_true h]; simp
theorem bad_in {n : Int} (h : Sy.badFlags n = false) : 1 ≤ n ∧ n ≤ 63 := by
  rcases Decidable.em (n < 1 ∨ 63 < n) with q | q
  · rw [bad_out q] at h; cases h
  · omega
theorem OpenRel.plus {p : Pl} {ga : Nat} {r : St × Nat} {w w' : World} {e : Ending} (h : OpenRel (p.plus ga) r w e w') : ∃ p3 : Pl, e = .returned (.pointer (some ⟨p3.f r.2, 0, none⟩)) ∧ SyAt w' (p3.plus ga) r.1 ∧ p3.gs = p.gs ∧ p3.e = p.e ∧ Fr p.C w w' ∧ Sub w p3.C p.C := by
  obtain ⟨p', he, hA, hgs, hpe, hf, hs⟩ := h
  refine ⟨{ p' with e := p.e }, he, ?_, hgs, rfl, hf, hs⟩
  have hp' : p' = ({ p' with e := p.e } : Pl).plus ga := by
    obtain ⟨a, b, c, d, e'⟩ := p'
    dsimp only at hpe
    subst hpe
    rfl
  exact hp' ▸ hA
theorem opened_fds (s : St) (q : Pt.Bs) : (Sy.opened s q).1.fds = s.fds ∧ (Sy.opened s q).1.des = s.des := by
  unfold Sy.opened
  split <;> exact ⟨rfl, rfl⟩

set_option maxHeartbeats 2000000 in
set_option maxRecDepth 100000 in
theorem callOpen_any (p : Pl) (s : St) (n b o : Nat) (c : Ca) (w : World) (h : SyAt w p s) (hi : Sy.In n s) (hn : n ≤ 999) (hk : Sy.Ok s) (hc : CaAt w b o c) (hcb2 : ¬ p.C b) (hcs : CaSm c) (ho0 : 0 ≤ c.owner) (ho4 : c.owner < 4) :
    Calls Tryz.prog 51 #[.pointer (some ⟨p.gs, 0, none⟩), .pointer (some ⟨b, o, none⟩)] w (SyAns p (Sy.callOpen s c) w) := by
  have HK := Lib.hid hk
  have HI := Lib.hid hi
  have hA := Lib.hid h
  have HCW := Lib.hid hc
  have hgs0 : p.gs < w.heap.size := h.c_lt h.gs_c
  have hcp := hcs.1
  obtain ⟨om, hom⟩ : ∃ m : Nat, c.owner = m := ⟨c.owner.toNat, by omega⟩
  have hom4 : om < 4 := by omega
  have ib1 : (0 : Int) ≤ (om : Int) := Int.natCast_nonneg _
  have ib2 : (om : Int) < 4 := by omega
  obtain ⟨R, hR⟩ : ∃ R, R = Sy.callOpen s c := ⟨_, rfl⟩
  rw [← hR]
  unfold Sy.callOpen at hR
  rw [hom, Int.toNat_natCast] at hR
  have HR0 := Lib.hid hR
  clear hR h hk hcs hi
  have hA0 := hA.out.plus (.cells #[.int .i64 0, .int .i64 0, .string ⟨#[]⟩, .slice none 0 0] 41)
  have hB0 := (Below.refl w.heap.size w).alloc (Nat.le_refl _) (.cells #[.int .i64 0, .int .i64 0, .string ⟨#[]⟩, .slice none 0 0] 41)
  have hz0 := Blk.new w 41 [.int .i64 0, .int .i64 0, .string ⟨#[]⟩, .slice none 0 0]
  have hc0 := hc.below hB0
  have hcw : ¬ b = w.heap.size := fun e => by have := hc.1; omega
  go_enter Tryz.func51, Tryz.ntmps51
  go_upto_region 1 with fail
  generalize w.alloc (.cells #[.int .i64 0, .int .i64 0, .string ⟨#[]⟩, .slice none 0 0] 41) = w0 at *
  have HC0 := Lib.hid hc0
  clear hc0 hc
  obtain ⟨z0, z1, z2, z3, zf, zz⟩ := hz0.four
  obtain ⟨hcb, c0, c1, c2, c3, c4, c5, c6, c7, c8⟩ := HC0.out
  rw [hom] at c1
  have HOM := Lib.hid hom
  clear hom
  obtain ⟨fl, hfl⟩ : ∃ fl, fl = c.n := ⟨_, rfl⟩
  rw [← hfl] at HR0 c3
  have HFL := Lib.hid hfl
  clear hfl ho0 ho4
  obtain ⟨bad, hbad⟩ : ∃ x, x = Sy.badFlags fl := ⟨_, rfl⟩
  have HBAD := Lib.hid hbad
  rw [← hbad] at HR0
  clear hbad
  go_upto_region 2 with fail
  go_cut [45] (fun v wx => v = .bool bad ∧ w0 = wx)
  case first =>
    rcases u1 : decide (fl < 1) with _ | _
    rotate_left
    · have HBD : Hid (bad = true) := Lib.hid (HBAD.out.trans (bad_out (.inl (of_decide_eq_true u1))))
      go_wp2_with fail
      go_meet
      case rel => exact ⟨by rw [HBD.out], rfl⟩
    rcases u2 : decide (63 < fl) with _ | _
    rotate_left
    · have HBD : Hid (bad = true) := Lib.hid (HBAD.out.trans (bad_out (.inr (of_decide_eq_true u2))))
      go_wp2_with fail
      go_meet
      case rel => exact ⟨by rw [HBD.out], rfl⟩
    have HBD := Lib.hid (HBAD.out.trans (bad_is (n := fl) (by have := of_decide_eq_false u1; omega) (by have := of_decide_eq_false u2; omega)))
    rcases vA : (bits BinOp.and IntKind.i64 fl 3 == 0) with _ | _
    rotate_left
    · go_wp2_with fail
      go_meet
      case rel => exact ⟨by rw [HBD.out]; simp [vA], rfl⟩
    rcases vB : (bits BinOp.and IntKind.i64 fl 36 != 0) with _ | _
    · rcases vD : (bits BinOp.and IntKind.i64 fl 16 != 0) with _ | _
      · go_wp2_with fail
        go_meet
        case rel => exact ⟨by rw [HBD.out]; simp [vA, vB, vD], rfl⟩
      · rcases vE : (bits BinOp.and IntKind.i64 fl 8 == 0) with _ | _
        · go_wp2_with fail
          go_meet
          case rel => exact ⟨by rw [HBD.out]; simp [vA, vB, vD, vE], rfl⟩
        · go_wp2_with fail
          go_meet
          case rel => exact ⟨by rw [HBD.out]; simp [vA, vB, vD, vE], rfl⟩
    · rcases vC : (bits BinOp.and IntKind.i64 fl 2 == 0) with _ | _
      rotate_left
      · go_wp2_with fail
        go_meet
        case rel => exact ⟨by rw [HBD.out]; simp [vA, vB, vC], rfl⟩
      · rcases vD : (bits BinOp.and IntKind.i64 fl 16 != 0) with _ | _
        · go_wp2_with fail
          go_meet
          case rel => exact ⟨by rw [HBD.out]; simp [vA, vB, vC, vD], rfl⟩
        · rcases vE : (bits BinOp.and IntKind.i64 fl 8 == 0) with _ | _
          · go_wp2_with fail
            go_meet
            case rel => exact ⟨by rw [HBD.out]; simp [vA, vB, vC, vD, vE], rfl⟩
          · go_wp2_with fail
            go_meet
            case rel => exact ⟨by rw [HBD.out]; simp [vA, vB, vC, vD, vE], rfl⟩
  case rest =>
  obtain ⟨rfl, rfl⟩ := hcut
  cases bad
  rotate_left
  · have HF := Lib.hid (HR0.out.trans (if_pos rfl))
    clear HR0
    go_wp2_with fail
    refine bodyPost_ret (v := .agg #[.int .i64 8, .int .i64 0, .string ⟨#[]⟩, .slice none 0 0]) ?_ rfl ?_
    · simp [results, Tryz.results51, go_sem, z0, z1, z2, z3]
    rw [HF.out]
    exact ans_end (a := (.no 8)) (Nat.le_refl _) hA0 rfl rfl (Fr.of hB0) (Sub.refl _ _) rfl
  have HR1 := Lib.hid (HR0.out.trans (if_neg (by decide)))
  clear HR0
  obtain ⟨hn1, hn2⟩ := bad_in HBAD.out.symm
  clear HBAD
  have cFr := free_any' (p.plus w.heap.size) s n om w0 hA0 HI.out hom4
  have HLT := Lib.hid (fun k => Sy.free_lt (k := k) HI.out hom4)
  generalize Sy.free s om = fr at cFr HR1 HLT
  go_wp2_with fail
  refine cFr.mono ?_
  rintro e w0 ⟨rfl, rfl⟩
  cases fr with
  | none =>
    have HF : Hid (R = (s, .no 5)) := Lib.hid HR1.out
    have tl : decide (idxV none < 0) = true := rfl
    clear HR1
    simp only [idxV] at tl ⊢
    go_wp2_with fail
    refine bodyPost_ret (v := .agg #[.int .i64 5, .int .i64 0, .string ⟨#[]⟩, .slice none 0 0]) ?_ rfl ?_
    · simp [results, Tryz.results51, go_sem, z0, z1, z2, z3]
    rw [HF.out]
    exact ans_end (a := (.no 5)) (Nat.le_refl _) hA0 rfl rfl (Fr.of hB0) (Sub.refl _ _) rfl
  | some k =>
    have hk8 := HLT.out k rfl
    have tl : decide (((k : Nat) : Int) < 0) = false := decide_eq_false (by omega)
    have ic1 : (0 : Int) ≤ (k : Int) := Int.natCast_nonneg _
    have ic2 : (k : Int) < 8 := by omega
    simp only [idxV]
    have hfo : (bits BinOp.and IntKind.i64 fl 16 == 0) = !Sy.bit fl 4 := bit_is (by omega) hn2 4
    dsimp only at HR1
    obtain ⟨fo, hfo2⟩ : ∃ fo, fo = !Sy.bit fl 4 := ⟨_, rfl⟩
    rw [← hfo2] at hfo HR1
    have HFO := Lib.hid hfo2
    clear hfo2 cFr HLT
    have cF := syFind_any (p.plus w.heap.size) s c.path fo w0 hA0 HK.out (by omega)
    unfold FindSy at cF
    have HFL1 := Lib.hid (find_len (T := s.T) (q := c.path.data.toList) (fo := fo))
    generalize Sy.find s.T c.path.data.toList fo = r at cF HR1 HFL1
    obtain ⟨ra, re⟩ := r
    dsimp only at cF HR1 HFL1
    rw [str_bytes] at cF
    have HRA1 := Lib.hid (data_bytes ra)
    obtain ⟨rs, hrs⟩ : ∃ x, x = Sy.bytesOf ra := ⟨_, rfl⟩
    have HRS := Lib.hid hrs
    rw [← hrs] at cF HFL1 HRA1
    clear hrs
    go_wp2_with fail
    refine cF.mono ?_
    rintro e w1 ⟨rfl, hb⟩
    have hA1 := hA0.below hb
    have hz1 := hz0.below hb hz0.lt
    have hB1 := hB0.trans (hb.mono hB0.size)
    clear z0 z1 z2 z3 zf zz hcb c0 c1 c2 c3 c4 c5 c6 c7 c8 hA0 hz0 hb hB0 cF HC0 tl hfo
    obtain ⟨z0, z1, z2, z3, zf, zz⟩ := hz1.four
    rcases te : (re != 0) with _ | _
    rotate_left
    · have HF := Lib.hid (HR1.out.trans (if_pos (by simpa using te)))
      clear HR1
      go_wp2_with fail
      refine bodyPost_ret (v := .agg #[.int .i64 re, .int .i64 0, .string ⟨#[]⟩, .slice none 0 0]) ?_ rfl ?_
      · simp [results, Tryz.results51, go_sem, z0, z1, z2, z3]
      rw [HF.out]
      exact ans_end (a := (.no re)) (Nat.le_refl _) hA1 rfl rfl (Fr.of hB1) (Sub.refl _ _) rfl
    obtain rfl : re = 0 := by simpa using te
    have HR2 := Lib.hid (HR1.out.trans (if_neg (by decide)))
    clear te HR1
    have hrl := HFL1.out rfl
    clear HFL1
    obtain ⟨AT, cT, g2, hrT, hcT, hgs⟩ := hA1.seen
    have htl := HK.out.tl
    have hx1 : ¬ p.gs = w.heap.size := by omega
    have cG := get_any AT cT s.T rs w1 hrT (Tr.right_sm HK.out.right) (by omega) (by omega)
    go_wp2_with fail
    refine cG.mono ?_
    rintro e w2 ⟨r, rfl, hr, hb⟩
    have HG0 := Lib.hid (hr.2 (.inl HK.out.right.2.1))
    have hA2 := hA1.below hb
    have hz2 := hz1.below hb hz1.lt
    have hB2 := hB1.trans (hb.mono hB1.size)
    clear z0 z1 z2 z3 zf zz g2 hrT hcT hgs hA1 hz1 hb hB1 cG hr
    obtain ⟨y, hy⟩ : ∃ y, y = r.getD En.zero := ⟨_, rfl⟩
    rw [← hy]
    have HY := Lib.hid hy
    clear hy
    obtain ⟨dp, dk, dt, dop⟩ := y
    simp only [En.agg, En.cells]
    have hA3 := hA2.below ((Below.refl _ w2).alloc (Nat.le_refl _) (.cells #[.string dp, .int .i64 dk, .string dt, .bool dop] 53))
    have hB3 := hB2.alloc hB2.size (.cells #[.string dp, .int .i64 dk, .string dt, .bool dop] 53)
    have hz3 := hz2.alloc (.cells #[.string dp, .int .i64 dk, .string dt, .bool dop] 53)
    have hd3 := Blk.new w2 53 [.string dp, .int .i64 dk, .string dt, .bool dop]
    have hx3 : ¬ w2.heap.size = w.heap.size := by have := hz2.lt; omega
    go_upto_block 0 with fail
    generalize w2.alloc (.cells #[.string dp, .int .i64 dk, .string dt, .bool dop] 53) = w3 at *
    generalize w2.heap.size = gd at *
    clear hA2 hB2 hz2
    obtain ⟨d0, d1, d2, d3, df, dz⟩ := hd3.four
    have HOS0 : Hid (r = none → Sy.openSet s fl ra = if Sy.bit fl 3 = false then (s, 6) else Sy.set s (Tr.putU s.u ⟨rs, 1, ⟨#[]⟩, false⟩)) := Lib.hid (fun hr => by
      unfold Sy.openSet
      have e1 : (⟨rs, 1, ⟨#[]⟩, false⟩ : En) = Sy.fileEn ra Sy.noE := by rw [HRS.out]; rfl
      rw [← HRA1.out, ← HG0.out, hr, HRA1.out, e1])
    have HOS1 : Hid (∀ e, r = some e → Sy.openSet s fl ra = if Sy.bit fl 4 = true then (s, 7) else if e.k = 2 then (s, 9) else if Sy.bit fl 5 = true ∧ e.t.data.toList ≠ [] then Sy.set s (Tr.putU s.u ⟨rs, 1, ⟨#[]⟩, false⟩) else (s, 0)) := Lib.hid (fun e hr => by
      unfold Sy.openSet
      have e1 : (⟨rs, 1, ⟨#[]⟩, false⟩ : En) = Sy.fileEn ra Sy.noE := by rw [HRS.out]; rfl
      rw [← HRA1.out, ← HG0.out, hr, HRA1.out, e1])
    have HOI := Lib.hid (Sy.openSet_in HI.out fl ra)
    have HOG := Lib.hid (Sy.openSet_good HK.out fl ra)
    obtain ⟨q, hq⟩ : ∃ q, q = Sy.openSet s fl ra := ⟨_, rfl⟩
    rw [← hq] at HOS0 HOS1 HR2 HOI HOG
    clear hq HG0
    obtain ⟨AU, AL, cU, cL, g0, g1, hrU⟩ := hA3.un
    have hgz3 : p.gs < w3.heap.size := hA3.c_lt hA3.gs_c
    have cP := fun W q => putU_any AU AL cU cL s.u rs 1 ⟨#[]⟩ false W q (unSm_fine HK.out.1) (by omega) (by decide)
    have HSM := Lib.hid (put_sm HK.out ⟨rs, 1, ⟨#[]⟩, false⟩)
    generalize Tr.putU s.u ⟨rs, 1, ⟨#[]⟩, false⟩ = pu at cP HOS0 HOS1 HSM
    go_cut [8] (fun v wx => v = .int .i64 q.2 ∧ SyAt wx (p.plus w.heap.size) q.1 ∧ Blk wx w.heap.size 41 [.int .i64 0, .int .i64 0, .string ⟨#[]⟩, .slice none 0 0] ∧ Fr p.C w wx)
    case first =>
      have hb8 : (bits BinOp.and IntKind.i64 fl 8 == 0) = !Sy.bit fl 3 := bit_is (by omega) hn2 3
      have hb16 : (bits BinOp.and IntKind.i64 fl 16 != 0) = Sy.bit fl 4 := bit_ne (by omega) hn2 4
      have hb32 : (bits BinOp.and IntKind.i64 fl 32 != 0) = Sy.bit fl 5 := bit_ne (by omega) hn2 5
      rcases r with _ | d
      · have hos2 := HOS0.out rfl
        rcases b3 : Sy.bit fl 3 with _ | _
        · have HS := Lib.hid (hos2.trans (if_pos b3))
          rw [b3] at hb8
          clear hos2 hb16 hb32 b3
          have hb8 : (bits BinOp.and IntKind.i64 fl 8 == 0) = true := hb8
          go_wp2_with fail
          go_meet
          case rel => exact ⟨by rw [HS.out], by rw [HS.out]; exact hA3, hz3, Fr.of hB3⟩
        · have HS := Lib.hid (hos2.trans (if_neg (by simp [b3])))
          rw [b3] at hb8
          clear hos2 hb16 hb32 b3
          have hb8 : (bits BinOp.and IntKind.i64 fl 8 == 0) = false := hb8
          go_wp2_with (first | (go_at_call 69; refine (cP w3 hrU).mono ?_; rintro e w6 ⟨A6, A6', cu6, cv6, rfl, hf6, hb6⟩) | (go_at_call 40; refine (sySet_any (p.plus w.heap.size) s A6 A6' cu6 cv6 pu w6 (hA3.below hb6) (fun _ => UnFar.off hf6 fun k hk => hA3.x_lt hk) HSM.out).mono ?_; rintro e w7 ⟨rfl, hA7, hf7⟩))
          go_meet
          case rel => exact ⟨by rw [HS.out], by rw [HS.out]; exact hA7, (hz3.below hb6 hz3.lt).fr hf7 (show ¬ w.heap.size = p.gs by omega), ((Fr.of hB3 : Fr p.C w w3).thenB hb6).trans hf7 fun _ _ e => e ▸ (.inl rfl : p.C p.gs)⟩
      · obtain rfl : d = ⟨dp, dk, dt, dop⟩ := HY.out.symm
        have hos2 := HOS1.out _ rfl
        dsimp only at hos2
        rcases b4 : Sy.bit fl 4 with _ | _
        rotate_left
        · have HS := Lib.hid (hos2.trans (if_pos b4))
          rw [b4] at hb16
          clear hos2 hb8 hb32 b4
          go_wp2_with fail
          go_meet
          case rel => exact ⟨by rw [HS.out], by rw [HS.out]; exact hA3, hz3, Fr.of hB3⟩
        have hos3 := hos2.trans (if_neg (by simp [b4]))
        rw [b4] at hb16
        rcases k2 : (dk == 2) with _ | _
        rotate_left
        · have HS := Lib.hid (hos3.trans (if_pos (by simpa using k2)))
          clear hos3 hos2 hb8 hb32 b4
          go_wp2_with fail
          go_meet
          case rel => exact ⟨by rw [HS.out], by rw [HS.out]; exact hA3, hz3, Fr.of hB3⟩
        have hos4 := hos3.trans (if_neg (by simpa using k2))
        rcases b5 : Sy.bit fl 5 with _ | _
        · have HS := Lib.hid (hos4.trans (if_neg (by simp [b5])))
          rw [b5] at hb32
          clear hos4 hos3 hos2 hb8 b4 b5
          go_wp2_with fail
          go_meet
          case rel => exact ⟨by rw [HS.out], by rw [HS.out]; exact hA3, hz3, Fr.of hB3⟩
        rw [b5] at hb32
        rcases empty_cases dt with ⟨hE, e1, e2⟩ | ⟨hE, e1, e2⟩
        · have HS := Lib.hid (hos4.trans (if_neg fun q => q.2 hE))
          clear hos4 hos3 hos2 hb8 b4 b5 hE
          go_wp2_with fail
          go_meet
          case rel => exact ⟨by rw [HS.out], by rw [HS.out]; exact hA3, hz3, Fr.of hB3⟩
        · have HS := Lib.hid (hos4.trans (if_pos ⟨b5, hE⟩))
          clear hos4 hos3 hos2 hb8 b4 b5 hE
          go_wp2_with (first | (go_at_call 69; refine (cP w3 hrU).mono ?_; rintro e w6 ⟨A6, A6', cu6, cv6, rfl, hf6, hb6⟩) | (go_at_call 40; refine (sySet_any (p.plus w.heap.size) s A6 A6' cu6 cv6 pu w6 (hA3.below hb6) (fun _ => UnFar.off hf6 fun k hk => hA3.x_lt hk) HSM.out).mono ?_; rintro e w7 ⟨rfl, hA7, hf7⟩))
          go_meet
          case rel => exact ⟨by rw [HS.out], by rw [HS.out]; exact hA7, (hz3.below hb6 hz3.lt).fr hf7 (show ¬ w.heap.size = p.gs by omega), ((Fr.of hB3 : Fr p.C w w3).thenB hb6).trans hf7 fun _ _ e => e ▸ (.inl rfl : p.C p.gs)⟩
    case rest =>
    obtain ⟨rfl, hA5, hz5, hF5⟩ := hcut
    generalize wc = w5 at *
    clear HOS0 HOS1 cP HSM hA3 hB3 hz3 hd3 d0 d1 d2 d3 df dz g0 g1 hrU hgz3 HY
    have hsz5 : w.heap.size ≤ w5.heap.size := hF5.size
    obtain ⟨z0, z1, z2, z3, zf, zz⟩ := hz5.four
    rcases tq : (q.2 != 0) with _ | _
    rotate_left
    · have HF := Lib.hid (HR2.out.trans (if_pos (by simpa using tq)))
      clear HR2
      go_wp2_with fail
      refine bodyPost_ret (v := .agg #[.int .i64 q.2, .int .i64 0, .string ⟨#[]⟩, .slice none 0 0]) ?_ rfl ?_
      · simp [results, Tryz.results51, go_sem, z0, z1, z2, z3]
      rw [HF.out]
      exact ans_end (a := (.no q.2)) (Nat.le_refl _) hA5 rfl rfl hF5 (Sub.refl _ _) rfl
    have HR3 := Lib.hid (HR2.out.trans (if_neg (by
      have q0 : q.2 = 0 := by simpa using tq
      simp [q0])))
    clear HR2
    go_upto_region 23 with fail
    clear tq z0 z1 z2 z3 zf zz
    obtain ⟨s5, hs5⟩ : ∃ x, x = q.1 := ⟨_, rfl⟩
    rw [← hs5] at hA5 HR3 HOI
    clear hs5 HOG
    have cO := fun W Q => open_any (p.plus w.heap.size) s5 n rs W Q HOI.out (by omega)
    have HIO := Lib.hid (HOI.out.opened (p := ra) (by have h := hrl; rw [HRS.out] at h; exact h))
    rw [HRA1.out] at cO
    have HOF := Lib.hid (opened_fds s5 ra)
    generalize Sy.opened s5 ra = op at cO HR3 HIO HOF
    obtain ⟨so, io⟩ := op
    dsimp only at cO HR3 HIO HOF
    have HC5 := Lib.hid (HCW.out.fr hF5 hcb2)
    obtain ⟨hcb, c0, c1, c2, c3, c4, c5, c6, c7, c8⟩ := HC5.out
    rw [HOM.out] at c1
    rw [← HFL.out] at c3
    have hcbp : ¬ b = p.gs := fun e => hcb2 (.inl e)
    have hcbp2 : ¬ p.gs = b := fun e => hcb2 (.inl e.symm)
    have hbd : Below w5.heap.size w5 w5.drew := (Below.refl _ w5).drew
    have S6 : ∀ w6, Fr p.C w5.drew w6 → w6.cell? ⟨b, o + 1, none⟩ = some (.int .i64 om) ∧ b < w6.heap.size := fun w6 hf => by
      obtain ⟨q0, _, q1, _⟩ := (HC5.out.below hbd).fr hf hcb2
      rw [HOM.out] at q1
      exact ⟨q1, q0⟩
    have G6 : ∀ w6 (p3 : Pl), SyAt w6 (p3.plus w.heap.size) so → p3.gs = p.gs → w6.cell? ⟨p.gs, 4 + om * 8 + k, none⟩ = some (fdV p3.D (Sy.fdAt so om k)) ∧ (∀ q, w6.frozen? ⟨p.gs, q, none⟩ = false) ∧ p.gs < w6.heap.size := fun w6 p3 h6 hg => by
      have h1 := h6.fds HIO.out.1 hom4 hk8
      rw [← Nat.add_assoc, show (p3.plus w.heap.size).gs = p3.gs from rfl, hg] at h1
      obtain ⟨cs, hb⟩ := h6.blk
      have hb : Blk w6 p3.gs 85 cs := hb
      rw [hg] at hb
      exact ⟨h1, hb.frozen, hb.lt⟩
    go_region_held3 (fun W => W.cell? ⟨b, o + 1, none⟩ = some (.int .i64 om)) (first | exact c1 | exact (S6 w6 hF6).1 | go_keep) (first | (go_at_call 70; refine (cO w5.drew (hA5.below hbd)).mono ?_; intro e w6 hO; obtain ⟨p3, rfl, hA6, hg3, he3, hF6, hS6⟩ := hO.plus; obtain ⟨g6, gf6, gl6⟩ := G6 w6 p3 hA6 hg3; have hbw6 := (S6 w6 hF6).2))
    all_goals
      have hA7 := hA6.addDe HIO.out.1 ⟨io, fl, 0, 1⟩
      have hz6 := (hz5.below hbd hz5.lt).frC (hA5.below hbd) hF6
      have hz7 := hz6.alloc (.cells #[.pointer (some ⟨p3.f io, 0, none⟩), .int .i64 fl, .int .i64 0, .int .i64 1] 122)
      have hF7 : Fr p.C w (w6.alloc (.cells #[.pointer (some ⟨p3.f io, 0, none⟩), .int .i64 fl, .int .i64 0, .int .i64 1] 122)) := ((hF5.thenB hbd).trans hF6 (Sub.refl _ _)).thenB ((Below.refl _ w6).alloc (Nat.le_refl _) _)
      have hsz6 : w.heap.size ≤ w6.heap.size := Nat.le_trans hsz5 hF6.size
      have hA8 := hA7.setFd (o := om) (k := k) ⟨by show so.fds.length = 4; exact HIO.out.1.fdl, HIO.out.1.fdr⟩ hom4 hk8 (some so.des.length)
      have hval : fdV (Pl.D { (p3.plus w.heap.size) with D := (p3.plus w.heap.size).D ++ [w6.heap.size] }) (some so.des.length) = .pointer (some ⟨w6.heap.size, 0, none⟩) := by
        show ptr ((p3.D ++ [w6.heap.size]).getD so.des.length 0) = _
        rw [← show p3.D.length = so.des.length from hA6.dl, Sy.getD_new]; rfl
      rw [hval, ← Nat.add_assoc, show (Pl.gs { (p3.plus w.heap.size) with D := (p3.plus w.heap.size).D ++ [w6.heap.size] }) = p3.gs from rfl, hg3] at hA8
      have hz8 := hz7.far (p := ⟨p.gs, 4 + om * 8 + k, none⟩) (show w.heap.size ≠ p.gs by omega) (.pointer (some ⟨w6.heap.size, 0, none⟩))
      have hF8 := hF7.setCell (p := ⟨p.gs, 4 + om * 8 + k, none⟩) (.inl rfl) (.pointer (some ⟨w6.heap.size, 0, none⟩))
      have hS8 : Sub w (Pl.C { p3 with gs := p.gs, D := p3.D ++ [w6.heap.size] }) p.C := fun k hk hc => by
        rcases hc with hc | hc | hc | hc
        · exact .inl hc
        · exact hS6 k (Nat.lt_of_lt_of_le hk hsz5) (.inr (.inl hc))
        · rcases List.mem_append.1 hc with hc | hc
          · exact hS6 k (Nat.lt_of_lt_of_le hk hsz5) (.inr (.inr (.inl hc)))
          · rw [List.mem_singleton] at hc; omega
        · exact hS6 k (Nat.lt_of_lt_of_le hk hsz5) (.inr (.inr (.inr hc)))
      have HF : Hid (R = (Sy.setFd { so with des := so.des ++ [⟨io, fl, 0, 1⟩] } om k (some so.des.length), .num k)) := Lib.hid HR3.out
      have hsw := World.setCell_alloc_past (w := w6) (.cells #[.pointer (some ⟨p3.f io, 0, none⟩), .int .i64 fl, .int .i64 0, .int .i64 1] 122) p.gs (4 + om * 8 + k) (.pointer (some ⟨w6.heap.size, 0, none⟩)) gl6
      have hA8' : SyAt ((w6.alloc (.cells #[.pointer (some ⟨p3.f io, 0, none⟩), .int .i64 fl, .int .i64 0, .int .i64 1] 122)).setCell ⟨p.gs, 4 + om * 8 + k, none⟩ (.pointer (some ⟨w6.heap.size, 0, none⟩))) _ _ := hA8
      rw [hsw] at hA8' hz8 hF8
      clear HR3 hcb c0 c1 c2 c3 c4 c5 c6 c7 c8 g6 gf6 gl6 S6 G6 hbw6 hsw hA8
      generalize (w6.setCell ⟨p.gs, 4 + om * 8 + k, none⟩ (.pointer (some ⟨w6.heap.size, 0, none⟩))).alloc (.cells #[.pointer (some ⟨p3.f io, 0, none⟩), .int .i64 fl, .int .i64 0, .int .i64 1] 122) = w8 at *
      obtain ⟨z0, z1, z2, z3, zf, zz⟩ := hz8.four
      go_wp2_with fail
      refine bodyPost_ret (v := .agg #[.int .i64 0, .int .i64 k, .string ⟨#[]⟩, .slice none 0 0]) ?_ rfl ?_
      · simp [results, Tryz.results51, go_sem, z0, z1, z2, z3]
      rw [HF.out]
      exact ans_end (p := p) (p' := { p3 with gs := p.gs, D := p3.D ++ [w6.heap.size] }) (a := .num k) (Nat.le_refl _) hA8' he3 rfl hF8 hS8 rfl
end Go.Proofs.YtjppfhgkanbemacGreatDoor

namespace Go.Proofs.YtjppfhgkanbemacGreatDoor
open Go.RowKit Go.Shelf Go.Sort

theorem Sy.call_kind {s : St} {c : Ca} (h : c.kind < 1 ∨ 16 < c.kind) : Sy.call s c = (s, .no 1) := by unfold Sy.call; rw [if_pos h]
theorem Sy.call_owner {s : St} {c : Ca} (h : ¬ (c.kind < 1 ∨ 16 < c.kind)) (h2 : c.owner < 0 ∨ 4 ≤ c.owner) : Sy.call s c = (s, .no 3) := by unfold Sy.call; rw [if_neg h, if_pos h2]

set_option maxHeartbeats 2000000 in
set_option maxRecDepth 100000 in
theorem call_any (p : Pl) (s : St) (n b o : Nat) (c : Ca) (w : World) (h : SyAt w p s) (hi : Sy.In n s) (hn : n ≤ 999) (hk : Sy.Ok s) (hc : CaAt w b o c) (hcb2 : ¬ p.C b) (hcs : CaSm c) :
    Calls Tryz.prog 41 #[.pointer (some ⟨p.gs, 0, none⟩), .pointer (some ⟨b, o, none⟩)] w (SyAns p (Sy.call s c) w) := by
  have hA := Lib.hid h
  obtain ⟨R, hR⟩ : ∃ R, R = Sy.call s c := ⟨_, rfl⟩
  rw [← hR]
  have HR := Lib.hid hR
  clear hR
  have hA0 := hA.out.plus (.cells #[.int .i64 0, .int .i64 0, .string ⟨#[]⟩, .slice none 0 0] 41)
  have hB0 := (Below.refl w.heap.size w).alloc (Nat.le_refl _) (.cells #[.int .i64 0, .int .i64 0, .string ⟨#[]⟩, .slice none 0 0] 41)
  have hz0 := Blk.new w 41 [.int .i64 0, .int .i64 0, .string ⟨#[]⟩, .slice none 0 0]
  have hc0 := hc.below hB0
  have HK := Lib.hid hk
  have HI := Lib.hid hi
  have HCS := Lib.hid hcs
  clear h hi hk hcs
  go_enter Tryz.func41, Tryz.ntmps41
  go_upto_region 1 with fail
  generalize w.alloc (.cells #[.int .i64 0, .int .i64 0, .string ⟨#[]⟩, .slice none 0 0] 41) = w0 at *
  have HC0 := Lib.hid hc0
  clear hc0
  obtain ⟨z0, z1, z2, z3, zf, zz⟩ := hz0.four
  obtain ⟨hcb, c0, c1, c2, c3, c4, c5, c6, c7, c8⟩ := HC0.out
  by_cases hk0 : c.kind < 1 ∨ 16 < c.kind
  · have HF := Lib.hid (HR.out.trans (Sy.call_kind hk0))
    have tn : decide (c.kind < 1) = true ∨ (decide (c.kind < 1) = false ∧ decide (16 < c.kind) = true) := by
      rcases Decidable.em (c.kind < 1) with q | q
      · exact .inl (decide_eq_true q)
      · exact .inr ⟨decide_eq_false q, decide_eq_true (hk0.resolve_left q)⟩
    clear HR
    rcases tn with tn | ⟨tn, tm⟩
    all_goals
      go_wp2_with fail
      refine bodyPost_ret (v := .agg #[.int .i64 1, .int .i64 0, .string ⟨#[]⟩, .slice none 0 0]) ?_ rfl ?_
      · simp [results, Tryz.results41, go_sem, z0, z1, z2, z3]
      rw [HF.out]
      exact ans_end (a := (.no 1)) (Nat.le_refl _) hA0 rfl rfl (Fr.of hB0) (Sub.refl _ _) rfl
  have tn1 : decide (c.kind < 1) = false := decide_eq_false fun q => hk0 (.inl q)
  have tn2 : decide (16 < c.kind) = false := decide_eq_false fun q => hk0 (.inr q)
  by_cases hw0 : c.owner < 0 ∨ 4 ≤ c.owner
  · have HF := Lib.hid (HR.out.trans (Sy.call_owner hk0 hw0))
    have tn : decide (c.owner < 0) = true ∨ (decide (c.owner < 0) = false ∧ decide (4 ≤ c.owner) = true) := by
      rcases Decidable.em (c.owner < 0) with q | q
      · exact .inl (decide_eq_true q)
      · exact .inr ⟨decide_eq_false q, decide_eq_true (hw0.resolve_left q)⟩
    clear HR
    rcases tn with tn | ⟨tn, tm⟩
    all_goals
      go_wp2_with fail
      refine bodyPost_ret (v := .agg #[.int .i64 3, .int .i64 0, .string ⟨#[]⟩, .slice none 0 0]) ?_ rfl ?_
      · simp [results, Tryz.results41, go_sem, z0, z1, z2, z3]
      rw [HF.out]
      exact ans_end (a := (.no 3)) (Nat.le_refl _) hA0 rfl rfl (Fr.of hB0) (Sub.refl _ _) rfl
  have tn3 : decide (c.owner < 0) = false := decide_eq_false fun q => hw0 (.inl q)
  have tn4 : decide (4 ≤ c.owner) = false := decide_eq_false fun q => hw0 (.inr q)
  have ho0 : 0 ≤ c.owner := by omega
  have ho4 : c.owner < 4 := by omega
  have HOO := Lib.hid (And.intro ho0 ho4)
  have HKR := Lib.hid (show 1 ≤ c.kind ∧ c.kind ≤ 16 by omega)
  clear hk0 hw0 ho0 ho4
  by_cases hkd : c.kind = 1
  · have HF := Lib.hid (HR.out.trans (Sy.call_open hkd HOO.out.1 HOO.out.2))
    have cC := callOpen_any (p.plus w.heap.size) s n b o c w0 hA0 HI.out hn HK.out HC0.out hcb2 HCS.out HOO.out.1 HOO.out.2
    generalize Sy.callOpen s c = r at cC HF
    clear HR
    have t1 : (c.kind == 1) = true := by simp [hkd]
    have t6 : (c.kind == 6) = false := by simp [hkd]
    have t10 : (c.kind == 10) = false := by simp [hkd]
    have t7 : (c.kind == 7) = false := by simp [hkd]
    have t8 : (c.kind == 8) = false := by simp [hkd]
    have t9 : (c.kind == 9) = false := by simp [hkd]
    have t11 : (c.kind == 11) = false := by simp [hkd]
    have t12 : (c.kind == 12) = false := by simp [hkd]
    clear hkd
    go_wp2_with fail
    refine cC.mono ?_
    intro e w6 hS
    obtain ⟨Aq, cq, rfl, hF6, hfin⟩ := ans_pass (Nat.le_refl _) (Fr.of hB0 : Fr p.C w w0) hS
    clear z0 z1 z2 z3 zf zz hcb c0 c1 c2 c3 c4 c5 c6 c7 c8
    obtain ⟨z0, z1, z2, z3, zf, zz⟩ := (hz0.frC hA0 hF6).four
    go_wp2_with fail
    refine bodyPost_ret (v := .agg #[.int .i64 r.2.err, .int .i64 r.2.n, .string r.2.text, .slice Aq r.2.names.length cq]) ?_ rfl ?_
    · simp [results, Tryz.results41, go_sem, z0, z1, z2, z3]
    rw [HF.out]
    exact hfin
  have t1 : (c.kind == 1) = false := by simp only [beq_eq_false_iff_ne]; exact fun q => hkd q
  have HN1 := Lib.hid hkd
  clear hkd
  by_cases hkd : c.kind = 6 ∨ c.kind = 10
  · have HF := Lib.hid (HR.out.trans (Sy.call_create hkd HOO.out.1 HOO.out.2))
    have cC := create_any (p.plus w.heap.size) s b o c w0 hA0 HK.out HC0.out HCS.out
    generalize Sy.create s c = r at cC HF
    clear HR
    rcases hkd with hkd | hkd
    · have t1 : (c.kind == 1) = false := by simp [hkd]
      have t6 : (c.kind == 6) = true := by simp [hkd]
      have t10 : (c.kind == 10) = false := by simp [hkd]
      have t7 : (c.kind == 7) = false := by simp [hkd]
      have t8 : (c.kind == 8) = false := by simp [hkd]
      have t9 : (c.kind == 9) = false := by simp [hkd]
      have t11 : (c.kind == 11) = false := by simp [hkd]
      have t12 : (c.kind == 12) = false := by simp [hkd]
      clear hkd
      go_wp2_with fail
      refine cC.mono ?_
      intro e w6 hS
      obtain ⟨Aq, cq, rfl, hF6, hfin⟩ := ans_pass (Nat.le_refl _) (Fr.of hB0 : Fr p.C w w0) hS
      clear z0 z1 z2 z3 zf zz hcb c0 c1 c2 c3 c4 c5 c6 c7 c8
      obtain ⟨z0, z1, z2, z3, zf, zz⟩ := (hz0.frC hA0 hF6).four
      go_wp2_with fail
      refine bodyPost_ret (v := .agg #[.int .i64 r.2.err, .int .i64 r.2.n, .string r.2.text, .slice Aq r.2.names.length cq]) ?_ rfl ?_
      · simp [results, Tryz.results41, go_sem, z0, z1, z2, z3]
      rw [HF.out]
      exact hfin
    · have t1 : (c.kind == 1) = false := by simp [hkd]
      have t6 : (c.kind == 6) = false := by simp [hkd]
      have t10 : (c.kind == 10) = true := by simp [hkd]
      have t7 : (c.kind == 7) = false := by simp [hkd]
      have t8 : (c.kind == 8) = false := by simp [hkd]
      have t9 : (c.kind == 9) = false := by simp [hkd]
      have t11 : (c.kind == 11) = false := by simp [hkd]
      have t12 : (c.kind == 12) = false := by simp [hkd]
      clear hkd
      go_wp2_with fail
      refine cC.mono ?_
      intro e w6 hS
      obtain ⟨Aq, cq, rfl, hF6, hfin⟩ := ans_pass (Nat.le_refl _) (Fr.of hB0 : Fr p.C w w0) hS
      clear z0 z1 z2 z3 zf zz hcb c0 c1 c2 c3 c4 c5 c6 c7 c8
      obtain ⟨z0, z1, z2, z3, zf, zz⟩ := (hz0.frC hA0 hF6).four
      go_wp2_with fail
      refine bodyPost_ret (v := .agg #[.int .i64 r.2.err, .int .i64 r.2.n, .string r.2.text, .slice Aq r.2.names.length cq]) ?_ rfl ?_
      · simp [results, Tryz.results41, go_sem, z0, z1, z2, z3]
      rw [HF.out]
      exact hfin
  have t6 : (c.kind == 6) = false := by simp only [beq_eq_false_iff_ne]; exact fun q => hkd (.inl q)
  have t10 : (c.kind == 10) = false := by simp only [beq_eq_false_iff_ne]; exact fun q => hkd (.inr q)
  have HN6 := Lib.hid hkd
  clear hkd
  by_cases hkd : c.kind = 7 ∨ c.kind = 8
  · have HF := Lib.hid (HR.out.trans (Sy.call_remove hkd HOO.out.1 HOO.out.2))
    have cC := syRemove_any (p.plus w.heap.size) s n b o c w0 hA0 HI.out (by omega) HK.out HC0.out HCS.out hkd
    generalize Sy.remove s c = r at cC HF
    clear HR
    rcases hkd with hkd | hkd
    · have t1 : (c.kind == 1) = false := by simp [hkd]
      have t6 : (c.kind == 6) = false := by simp [hkd]
      have t10 : (c.kind == 10) = false := by simp [hkd]
      have t7 : (c.kind == 7) = true := by simp [hkd]
      have t8 : (c.kind == 8) = false := by simp [hkd]
      have t9 : (c.kind == 9) = false := by simp [hkd]
      have t11 : (c.kind == 11) = false := by simp [hkd]
      have t12 : (c.kind == 12) = false := by simp [hkd]
      clear hkd
      go_wp2_with fail
      refine cC.mono ?_
      intro e w6 hS
      obtain ⟨Aq, cq, rfl, hF6, hfin⟩ := ans_pass (Nat.le_refl _) (Fr.of hB0 : Fr p.C w w0) hS
      clear z0 z1 z2 z3 zf zz hcb c0 c1 c2 c3 c4 c5 c6 c7 c8
      obtain ⟨z0, z1, z2, z3, zf, zz⟩ := (hz0.frC hA0 hF6).four
      go_wp2_with fail
      refine bodyPost_ret (v := .agg #[.int .i64 r.2.err, .int .i64 r.2.n, .string r.2.text, .slice Aq r.2.names.length cq]) ?_ rfl ?_
      · simp [results, Tryz.results41, go_sem, z0, z1, z2, z3]
      rw [HF.out]
      exact hfin
    · have t1 : (c.kind == 1) = false := by simp [hkd]
      have t6 : (c.kind == 6) = false := by simp [hkd]
      have t10 : (c.kind == 10) = false := by simp [hkd]
      have t7 : (c.kind == 7) = false := by simp [hkd]
      have t8 : (c.kind == 8) = true := by simp [hkd]
      have t9 : (c.kind == 9) = false := by simp [hkd]
      have t11 : (c.kind == 11) = false := by simp [hkd]
      have t12 : (c.kind == 12) = false := by simp [hkd]
      clear hkd
      go_wp2_with fail
      refine cC.mono ?_
      intro e w6 hS
      obtain ⟨Aq, cq, rfl, hF6, hfin⟩ := ans_pass (Nat.le_refl _) (Fr.of hB0 : Fr p.C w w0) hS
      clear z0 z1 z2 z3 zf zz hcb c0 c1 c2 c3 c4 c5 c6 c7 c8
      obtain ⟨z0, z1, z2, z3, zf, zz⟩ := (hz0.frC hA0 hF6).four
      go_wp2_with fail
      refine bodyPost_ret (v := .agg #[.int .i64 r.2.err, .int .i64 r.2.n, .string r.2.text, .slice Aq r.2.names.length cq]) ?_ rfl ?_
      · simp [results, Tryz.results41, go_sem, z0, z1, z2, z3]
      rw [HF.out]
      exact hfin
  have t7 : (c.kind == 7) = false := by simp only [beq_eq_false_iff_ne]; exact fun q => hkd (.inl q)
  have t8 : (c.kind == 8) = false := by simp only [beq_eq_false_iff_ne]; exact fun q => hkd (.inr q)
  have HN7 := Lib.hid hkd
  clear hkd
  by_cases hkd : c.kind = 9
  · have HF := Lib.hid (HR.out.trans (Sy.call_rename hkd HOO.out.1 HOO.out.2))
    have cC := rename_any (p.plus w.heap.size) s n b o c w0 hA0 HI.out (by omega) HK.out HC0.out HCS.out
    generalize Sy.rename s c = r at cC HF
    clear HR
    have t1 : (c.kind == 1) = false := by simp [hkd]
    have t6 : (c.kind == 6) = false := by simp [hkd]
    have t10 : (c.kind == 10) = false := by simp [hkd]
    have t7 : (c.kind == 7) = false := by simp [hkd]
    have t8 : (c.kind == 8) = false := by simp [hkd]
    have t9 : (c.kind == 9) = true := by simp [hkd]
    have t11 : (c.kind == 11) = false := by simp [hkd]
    have t12 : (c.kind == 12) = false := by simp [hkd]
    clear hkd
    go_wp2_with fail
    refine cC.mono ?_
    intro e w6 hS
    obtain ⟨Aq, cq, rfl, hF6, hfin⟩ := ans_pass (Nat.le_refl _) (Fr.of hB0 : Fr p.C w w0) hS
    clear z0 z1 z2 z3 zf zz hcb c0 c1 c2 c3 c4 c5 c6 c7 c8
    obtain ⟨z0, z1, z2, z3, zf, zz⟩ := (hz0.frC hA0 hF6).four
    go_wp2_with fail
    refine bodyPost_ret (v := .agg #[.int .i64 r.2.err, .int .i64 r.2.n, .string r.2.text, .slice Aq r.2.names.length cq]) ?_ rfl ?_
    · simp [results, Tryz.results41, go_sem, z0, z1, z2, z3]
    rw [HF.out]
    exact hfin
  have t9 : (c.kind == 9) = false := by simp only [beq_eq_false_iff_ne]; exact fun q => hkd q
  have HN9 := Lib.hid hkd
  clear hkd
  by_cases hkd : c.kind = 11 ∨ c.kind = 12
  · have HF := Lib.hid (HR.out.trans (Sy.call_tell hkd HOO.out.1 HOO.out.2))
    have cC := tell_any (p.plus w.heap.size) s b o c w0 hA0 HK.out HC0.out HCS.out
    generalize (s, Sy.tell s c) = r at cC HF
    clear HR
    rcases hkd with hkd | hkd
    · have t1 : (c.kind == 1) = false := by simp [hkd]
      have t6 : (c.kind == 6) = false := by simp [hkd]
      have t10 : (c.kind == 10) = false := by simp [hkd]
      have t7 : (c.kind == 7) = false := by simp [hkd]
      have t8 : (c.kind == 8) = false := by simp [hkd]
      have t9 : (c.kind == 9) = false := by simp [hkd]
      have t11 : (c.kind == 11) = true := by simp [hkd]
      have t12 : (c.kind == 12) = false := by simp [hkd]
      clear hkd
      go_wp2_with fail
      refine cC.mono ?_
      intro e w6 hS
      obtain ⟨Aq, cq, rfl, hF6, hfin⟩ := ans_pass (Nat.le_refl _) (Fr.of hB0 : Fr p.C w w0) hS
      clear z0 z1 z2 z3 zf zz hcb c0 c1 c2 c3 c4 c5 c6 c7 c8
      obtain ⟨z0, z1, z2, z3, zf, zz⟩ := (hz0.frC hA0 hF6).four
      go_wp2_with fail
      refine bodyPost_ret (v := .agg #[.int .i64 r.2.err, .int .i64 r.2.n, .string r.2.text, .slice Aq r.2.names.length cq]) ?_ rfl ?_
      · simp [results, Tryz.results41, go_sem, z0, z1, z2, z3]
      rw [HF.out]
      exact hfin
    · have t1 : (c.kind == 1) = false := by simp [hkd]
      have t6 : (c.kind == 6) = false := by simp [hkd]
      have t10 : (c.kind == 10) = false := by simp [hkd]
      have t7 : (c.kind == 7) = false := by simp [hkd]
      have t8 : (c.kind == 8) = false := by simp [hkd]
      have t9 : (c.kind == 9) = false := by simp [hkd]
      have t11 : (c.kind == 11) = false := by simp [hkd]
      have t12 : (c.kind == 12) = true := by simp [hkd]
      clear hkd
      go_wp2_with fail
      refine cC.mono ?_
      intro e w6 hS
      obtain ⟨Aq, cq, rfl, hF6, hfin⟩ := ans_pass (Nat.le_refl _) (Fr.of hB0 : Fr p.C w w0) hS
      clear z0 z1 z2 z3 zf zz hcb c0 c1 c2 c3 c4 c5 c6 c7 c8
      obtain ⟨z0, z1, z2, z3, zf, zz⟩ := (hz0.frC hA0 hF6).four
      go_wp2_with fail
      refine bodyPost_ret (v := .agg #[.int .i64 r.2.err, .int .i64 r.2.n, .string r.2.text, .slice Aq r.2.names.length cq]) ?_ rfl ?_
      · simp [results, Tryz.results41, go_sem, z0, z1, z2, z3]
      rw [HF.out]
      exact hfin
  have t11 : (c.kind == 11) = false := by simp only [beq_eq_false_iff_ne]; exact fun q => hkd (.inl q)
  have t12 : (c.kind == 12) = false := by simp only [beq_eq_false_iff_ne]; exact fun q => hkd (.inr q)
  have HN11 := Lib.hid hkd
  clear hkd
  have hkd : (2 ≤ c.kind ∧ c.kind ≤ 5) ∨ (13 ≤ c.kind ∧ c.kind ≤ 16) := by
    have q1 := HN1.out; have q2 := HN6.out; have q3 := HN7.out; have q4 := HN9.out; have q5 := HN11.out; have q6 := HKR.out
    omega
  have HF := Lib.hid (HR.out.trans (Sy.call_use hkd HOO.out.1 HOO.out.2))
  have cC := use_any (p.plus w.heap.size) s n b o c w0 hA0 HI.out hn HK.out HC0.out hcb2 HCS.out HOO.out.1 HOO.out.2
  generalize Sy.use s c = r at cC HF
  clear HR hkd
  go_wp2_with fail
  refine cC.mono ?_
  intro e w6 hS
  obtain ⟨Aq, cq, rfl, hF6, hfin⟩ := ans_pass (Nat.le_refl _) (Fr.of hB0 : Fr p.C w w0) hS
  clear z0 z1 z2 z3 zf zz hcb c0 c1 c2 c3 c4 c5 c6 c7 c8
  obtain ⟨z0, z1, z2, z3, zf, zz⟩ := (hz0.frC hA0 hF6).four
  go_wp2_with fail
  refine bodyPost_ret (v := .agg #[.int .i64 r.2.err, .int .i64 r.2.n, .string r.2.text, .slice Aq r.2.names.length cq]) ?_ rfl ?_
  · simp [results, Tryz.results41, go_sem, z0, z1, z2, z3]
  rw [HF.out]
  exact hfin
end Go.Proofs.YtjppfhgkanbemacGreatDoor
