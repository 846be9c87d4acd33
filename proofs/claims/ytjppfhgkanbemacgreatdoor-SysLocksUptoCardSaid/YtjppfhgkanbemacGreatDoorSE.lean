/-
  Mkdir, and Link. (Printed by wip/gensycreate.py.)
  Rmdir, and Unlink. (Printed by wip/gensyremove.py.)
  Rename. (Printed by wip/gensyrename.py.)
-/
import Derived.Test.YtjppfhgkanbemacGreatDoorSC
import Derived.Test.YtjppfhgkanbemacGreatDoorSA
namespace Go.Proofs.YtjppfhgkanbemacGreatDoor
open Go.RowKit Go.Shelf Go.Sort

set_option maxHeartbeats 2000000 in
set_option maxRecDepth 100000 in
theorem create_any (p : Pl) (s : St) (b o : Nat) (c : Ca) (w : World) (h : SyAt w p s) (hk : Sy.Ok s) (hc : CaAt w b o c) (hcs : CaSm c) :
    Calls Tryz.prog 52 #[.pointer (some ⟨p.gs, 0, none⟩), .pointer (some ⟨b, o, none⟩)] w (SyAns p (Sy.create s c) w) := by
  have HK := Lib.hid hk
  have hA := Lib.hid h
  have hgs0 : p.gs < w.heap.size := h.c_lt h.gs_c
  have hcp := hcs.1
  have hcto := hcs.2.1
  obtain ⟨R, hR⟩ : ∃ R, R = Sy.create s c := ⟨_, rfl⟩
  rw [← hR]
  unfold Sy.create at hR
  dsimp only at hR
  have HR := Lib.hid hR
  clear hR h hk hcs
  have hA0 := hA.out.plus (.cells #[.int .i64 0, .int .i64 0, .string ⟨#[]⟩, .slice none 0 0] 41)
  have hB0 := (Below.refl w.heap.size w).alloc (Nat.le_refl _) (.cells #[.int .i64 0, .int .i64 0, .string ⟨#[]⟩, .slice none 0 0] 41)
  have hz0 := Blk.new w 41 [.int .i64 0, .int .i64 0, .string ⟨#[]⟩, .slice none 0 0]
  have hc0 := hc.below hB0
  have hcw : ¬ b = w.heap.size := fun e => by have := hc.1; omega
  go_enter Tryz.func52, Tryz.ntmps52
  go_upto_region 1 with fail
  generalize w.alloc (.cells #[.int .i64 0, .int .i64 0, .string ⟨#[]⟩, .slice none 0 0] 41) = w0 at *
  have HC0 := Lib.hid hc0
  obtain ⟨z0, z1, z2, z3, zf, zz⟩ := hz0.four
  obtain ⟨hcb, c0, c1, c2, c3, c4, c5, c6, c7, c8⟩ := HC0.out
  have cF := syFind_any _ s c.path false w0 hA0 HK.out (by omega)
  unfold FindSy at cF
  have HFL := Lib.hid (find_len (T := s.T) (q := c.path.data.toList) (fo := false))
  generalize Sy.find s.T c.path.data.toList false = r at cF HR HFL
  obtain ⟨ra, re⟩ := r
  dsimp only at cF HR HFL
  rw [str_bytes] at cF
  have HRA := Lib.hid (data_bytes ra)
  obtain ⟨rs, hrs⟩ : ∃ rs, rs = Sy.bytesOf ra := ⟨_, rfl⟩
  have HRS := Lib.hid hrs
  rw [← hrs] at cF HFL HRA
  clear hrs
  go_wp2_with fail
  refine cF.mono ?_
  rintro e w1 ⟨rfl, hb⟩
  have hA1 := hA0.below hb
  have hz1 := hz0.below hb hz0.lt
  have HC1 := Lib.hid (HC0.out.below hb)
  have hB1 := hB0.trans (hb.mono hB0.size)
  clear z0 z1 z2 z3 zf zz hcb c0 c1 c2 c3 c4 c5 c6 c7 c8 hA0 hz0 hb hB0 cF hc0 HC0
  obtain ⟨z0, z1, z2, z3, zf, zz⟩ := hz1.four
  obtain ⟨hcb, c0, c1, c2, c3, c4, c5, c6, c7, c8⟩ := HC1.out
  rcases te : (re != 0) with _ | _
  rotate_left
  · have HF := Lib.hid (HR.out.trans (if_pos (by simpa using te)))
    clear HR
    go_wp2_with fail
    refine bodyPost_ret (v := .agg #[.int .i64 re, .int .i64 0, .string ⟨#[]⟩, .slice none 0 0]) ?_ rfl ?_
    · simp [results, Tryz.results52, go_sem, z0, z1, z2, z3]
    rw [HF.out]
    exact ans_end (a := (.no re)) (Nat.le_refl _) hA1 rfl rfl (Fr.of hB1) (Sub.refl _ _) rfl
  obtain rfl : re = 0 := by simpa using te
  have HR := Lib.hid (HR.out.trans (if_neg (by decide)))
  have hrl := HFL.out rfl
  clear HFL te
  obtain ⟨AT, cT, g2, hrT, hcT, hgs⟩ := hA1.seen
  have htl := HK.out.tl
  have hx1 : ¬ p.gs = w.heap.size := by omega
  have cG := get_any AT cT s.T rs w1 hrT (Tr.right_sm HK.out.right) (by omega) (by omega)
  go_wp2_with fail
  refine cG.mono ?_
  rintro e w2 ⟨r, rfl, hr, hb⟩
  have HG0 := Lib.hid (hr.2 (.inl HK.out.right.2.1))
  have HG0 := Lib.hid (HG0.out)
  have hA2 := hA1.below hb
  have hz2 := hz1.below hb hz1.lt
  have hB2 := hB1.trans (hb.mono hB1.size)
  have HC2 := Lib.hid (HC1.out.below hb)
  clear z0 z1 z2 z3 zf zz hcb c0 c1 c2 c3 c4 c5 c6 c7 c8 g2 hrT hcT hgs hA1 hz1 hb hB1 cG hr HC1
  obtain ⟨y, hy⟩ : ∃ y, y = r.getD En.zero := ⟨_, rfl⟩
  rw [← hy]
  have HY := Lib.hid hy
  clear hy
  obtain ⟨dp, dk, dt, dop⟩ := y
  simp only [En.agg, En.cells]
  have hA3 := hA2.below ((Below.refl _ w2).alloc (Nat.le_refl _) (.cells #[.string dp, .int .i64 dk, .string dt, .bool dop] 53))
  have hB3 := hB2.alloc hB2.size (.cells #[.string dp, .int .i64 dk, .string dt, .bool dop] 53)
  have hz3 := hz2.alloc (.cells #[.string dp, .int .i64 dk, .string dt, .bool dop] 53)
  have hd3 := Blk.new w2 53 [.string dp, .int .i64 dk, .string dt, .bool dop]
  have HC3 := Lib.hid (HC2.out.below ((Below.refl _ w2).alloc (Nat.le_refl _) (.cells #[.string dp, .int .i64 dk, .string dt, .bool dop] 53)))
  have hx3 : ¬ w2.heap.size = w.heap.size := by have := hz2.lt; omega
  have hx4 : w.heap.size < w2.heap.size := hz2.lt
  go_upto_region 5 with fail
  generalize w2.alloc (.cells #[.string dp, .int .i64 dk, .string dt, .bool dop] 53) = w3 at *
  generalize w2.heap.size = gd at *
  clear hA2 hB2 hz2 HC2
  obtain ⟨d0, d1, d2, d3, df, dz⟩ := hd3.four
  obtain ⟨z0, z1, z2, z3, zf, zz⟩ := hz3.four
  obtain ⟨hcb, c0, c1, c2, c3, c4, c5, c6, c7, c8⟩ := HC3.out
  rcases r with _ | d
  rotate_left
  · have HF : Hid (R = (s, .no 7)) := Lib.hid (by rw [HR.out, ← HRA.out, ← HG0.out]; rfl)
    clear HR
    go_wp2_with fail
    refine bodyPost_ret (v := .agg #[.int .i64 7, .int .i64 0, .string ⟨#[]⟩, .slice none 0 0]) ?_ rfl ?_
    · simp [results, Tryz.results52, go_sem, z0, z1, z2, z3]
    rw [HF.out]
    exact ans_end (a := (.no 7)) (Nat.le_refl _) hA3 rfl rfl (Fr.of hB3) (Sub.refl _ _) rfl
  have HR := Lib.hid (HR.out.trans (if_neg (by rw [← HRA.out, ← HG0.out]; simp)))
  clear HY HG0 d0 d1 d2 d3 df dz hd3
  have e0 : (⟨rs, 2, ⟨#[]⟩, false⟩ : En) = ⟨Sy.bytesOf ra, 2, Sy.noE, false⟩ := by rw [HRS.out]; rfl
  have e1 : (⟨rs, 3, c.to, false⟩ : En) = ⟨Sy.bytesOf ra, 3, c.to, false⟩ := by rw [HRS.out]
  have HE : Hid (Sy.createEn c ra = if c.kind = 10 then ⟨rs, 3, c.to, false⟩ else ⟨rs, 2, ⟨#[]⟩, false⟩) := Lib.hid (by unfold Sy.createEn; rw [← e0, ← e1])
  clear e0 e1 HRS
  have hA4 := hA3.plus (.cells #[.string rs, .int .i64 2, .string ⟨#[]⟩, .bool false] 53)
  have hB4 := hB3.alloc hB3.size (.cells #[.string rs, .int .i64 2, .string ⟨#[]⟩, .bool false] 53)
  have hz4 := hz3.alloc (.cells #[.string rs, .int .i64 2, .string ⟨#[]⟩, .bool false] 53)
  have he4 := Blk.new w3 53 [.string rs, .int .i64 2, .string ⟨#[]⟩, .bool false]
  have HC4 := Lib.hid (HC3.out.below ((Below.refl _ w3).alloc (Nat.le_refl _) (.cells #[.string rs, .int .i64 2, .string ⟨#[]⟩, .bool false] 53)))
  have hx5 : w.heap.size < w3.heap.size := zz
  have hx6 : b < w3.heap.size := HC3.out.lt
  go_upto_region 8 with fail
  clear z0 z1 z2 z3 zf zz hcb c0 c1 c2 c3 c4 c5 c6 c7 c8
  generalize w3.alloc (.cells #[.string rs, .int .i64 2, .string ⟨#[]⟩, .bool false] 53) = w4 at *
  generalize w3.heap.size = ge at *
  clear hA3 hB3 hz3 HC3
  have hx7 : ge ≠ b := by omega
  have hx8 : b ≠ ge := by omega
  obtain ⟨e0, e1, e2, e3, ef, ez⟩ := he4.four
  obtain ⟨hcb, c0, c1, c2, c3, c4, c5, c6, c7, c8⟩ := HC4.out
  obtain ⟨ek, het, hek⟩ : ∃ (y : Int × ByteArray), (c.kind = 10 → y = (3, c.to)) ∧ (c.kind ≠ 10 → y = (2, ⟨#[]⟩)) := by
    by_cases q : c.kind = 10
    · exact ⟨(3, c.to), fun _ => rfl, fun h => absurd q h⟩
    · exact ⟨(2, ⟨#[]⟩), fun h => absurd h q, fun _ => rfl⟩
  obtain ⟨ek, et⟩ := ek
  have HE2 : Hid (Sy.createEn c ra = ⟨rs, ek, et, false⟩) := Lib.hid (by
    rw [HE.out]
    by_cases q : c.kind = 10
    · have := het q; injection this with a1 a2; rw [if_pos q, a1, a2]
    · have := hek q; injection this with a1 a2; rw [if_neg q, a1, a2])
  have hetz : et.size ≤ 1048576 := by
    by_cases q : c.kind = 10
    · have := het q; injection this with a1 a2; rw [a2]; omega
    · have := hek q; injection this with a1 a2; rw [a2]; decide
  clear HE
  go_upto_if 40 with fail
  go_cut [] (fun wx => SyAt wx (p.plus w.heap.size) s ∧ Below w.heap.size w wx ∧ Blk wx w.heap.size 41 [.int .i64 0, .int .i64 0, .string ⟨#[]⟩, .slice none 0 0] ∧ Blk wx ge 53 [.string rs, .int .i64 ek, .string et, .bool false])
  case first =>
    rcases tk : (c.kind == 10) with _ | _
    · have q := hek (by simpa using tk)
      injection q with a1 a2
      subst a1 a2
      go_wp2_with fail
      go_meet
      case rel => exact ⟨hA4.pop (p.plus w.heap.size).e fun _ q => .inl q, hB4, hz4, he4⟩
    · have q := het (by simpa using tk)
      injection q with a1 a2
      subst a1 a2
      clear het hek
      go_upto_region 9 with fail
      go_region_held3 (fun W => W.cell? ⟨b, o + 6, none⟩ = some (.string c.to)) (first | go_keep | exact c6) (fail)
      all_goals
        go_wp2_with fail
        go_meet
        case rel =>
          have hA5 := ((hA4.late 1 (.int .i64 3)).late 2 (.string c.to)).pop (p.plus w.heap.size).e fun _ q => .inl q
          have hB5 := (hB4.setCell (p := ⟨ge, 1, none⟩) (Nat.le_of_lt hx5) (.int .i64 3)).setCell (p := ⟨ge, 2, none⟩) (Nat.le_of_lt hx5) (.string c.to)
          have hz5 := (hz4.far (p := ⟨ge, 1, none⟩) (show w.heap.size ≠ ge by omega) (.int .i64 3)).far (p := ⟨ge, 2, none⟩) (show w.heap.size ≠ ge by omega) (.string c.to)
          have he5 := (he4.set_ 1 (.int .i64 3)).set_ 2 (.string c.to)
          exact ⟨hA5.below (Below.refl _ _).drew, hB5.drew, hz5.drew, he5.drew⟩
  case rest =>
    obtain ⟨hA5, hB5, hz5, he5⟩ := hcut
    generalize wc = w5 at *
    clear e0 e1 e2 e3 ef ez hcb c0 c1 c2 c3 c4 c5 c6 c7 c8 hA4 hB4 hz4 he4 HC4
    obtain ⟨AU, AL, cU, cL, g0, g1, hrU⟩ := hA5.un
    have hgz5 : p.gs < w5.heap.size := hA5.c_lt hA5.gs_c
    obtain ⟨e0, e1, e2, e3, ef, ez⟩ := he5.four
    have cP := fun W q => putU_any AU AL cU cL s.u rs ek et false W q (unSm_fine HK.out.1) (by omega) (by omega)
    have HSM := Lib.hid (put_sm HK.out ⟨rs, ek, et, false⟩)
    have HF := Lib.hid HR.out
    rw [HE2.out] at HF
    clear HR HE2
    generalize Tr.putU s.u ⟨rs, ek, et, false⟩ = q at cP HF HSM
    have hU : ∀ W, Below w5.heap.size w5 W → UnRd W W.heap.size AU AL cU cL s.u := fun W b => (hrU.below b).more b.size
    have hbd : Below w5.heap.size w5 w5.drew := (Below.refl _ w5).drew
    have hx9 : w.heap.size ≠ p.gs := by omega
    go_upto_region 10 with fail
    go_region_with (first | (go_at_call 69; refine (cP w5.drew (hU _ hbd)).mono ?_; rintro e w6 ⟨A6, A6', c6, c6', rfl, hf6, hb6⟩; have hb6' : Below w5.heap.size w5 w6 := hbd.trans hb6) | (go_at_call 40; refine (sySet_any (p.plus w.heap.size) s A6 A6' c6 c6' q w6 (hA5.below hb6') (fun _ => UnFar.off hf6 fun k hk => hA5.x_lt hk) HSM.out).mono ?_; rintro e w7 ⟨rfl, hA7, hf7⟩; obtain ⟨z0, z1, z2, z3, zf, zz⟩ := ((hz5.below hb6' hz5.lt).fr hf7 hx9).four))
    all_goals
      have hF7 : Fr p.C w w7 := ((Fr.of hB5 : Fr p.C w w5).thenB hb6').trans hf7 fun _ _ e => e ▸ (.inl rfl : p.C p.gs)
      go_wp2_with fail
      refine bodyPost_ret (v := .agg #[.int .i64 (Sy.set s q).2, .int .i64 0, .string ⟨#[]⟩, .slice none 0 0]) ?_ rfl ?_
      · simp [results, Tryz.results52, go_sem, z0, z1, z2, z3]
      rw [HF.out]
      exact ans_end (a := (.no (Sy.set s q).2)) (Nat.le_refl _) hA7 rfl rfl hF7 (Sub.refl _ _) rfl
end Go.Proofs.YtjppfhgkanbemacGreatDoor

namespace Go.Proofs.YtjppfhgkanbemacGreatDoor
open Go.RowKit Go.Shelf Go.Sort

theorem remove_sm {s : St} (h : Sy.Ok s) (q : Pt.Bs) (h0 : (Tr.removeU s.u q).2 = 0) : UnSm (Tr.removeU s.u q).1 := unSm_fine ((Tr.removeU_tree h.1 q).2 h0).1
theorem Off.lose {w w' : World} {p : Pl} {P : World → Prop} (h : Off p.X w P) (hf : Fr p.C w w') : Off p.X w' P := h.on (hf.wide fun _ _ e => Pl.cx e) (Sub.refl _ _)

set_option maxHeartbeats 2000000 in
set_option maxRecDepth 100000 in
theorem syRemove_any (p : Pl) (s : St) (n b o : Nat) (c : Ca) (w : World) (h : SyAt w p s) (hi : Sy.In n s) (hn : n ≤ 1000) (hk : Sy.Ok s) (hc : CaAt w b o c) (hcs : CaSm c) (hkd : c.kind = 7 ∨ c.kind = 8) :
    Calls Tryz.prog 53 #[.pointer (some ⟨p.gs, 0, none⟩), .pointer (some ⟨b, o, none⟩)] w (SyAns p (Sy.remove s c) w) := by
  have HK := Lib.hid hk
  have HI := Lib.hid hi
  have hA := Lib.hid h
  have hgs0 : p.gs < w.heap.size := h.c_lt h.gs_c
  have hcp := hcs.1
  obtain ⟨R, hR⟩ : ∃ R, R = Sy.remove s c := ⟨_, rfl⟩
  rw [← hR]
  unfold Sy.remove at hR
  dsimp only at hR
  have HR := Lib.hid hR
  clear hR h hk hcs hi
  have hA0 := hA.out.plus (.cells #[.int .i64 0, .int .i64 0, .string ⟨#[]⟩, .slice none 0 0] 41)
  have hB0 := (Below.refl w.heap.size w).alloc (Nat.le_refl _) (.cells #[.int .i64 0, .int .i64 0, .string ⟨#[]⟩, .slice none 0 0] 41)
  have hz0 := Blk.new w 41 [.int .i64 0, .int .i64 0, .string ⟨#[]⟩, .slice none 0 0]
  have hc0 := hc.below hB0
  go_enter Tryz.func53, Tryz.ntmps53
  go_upto_region 1 with fail
  generalize w.alloc (.cells #[.int .i64 0, .int .i64 0, .string ⟨#[]⟩, .slice none 0 0] 41) = w0 at *
  have HC0 := Lib.hid hc0
  obtain ⟨z0, z1, z2, z3, zf, zz⟩ := hz0.four
  obtain ⟨hcb, c0, c1, c2, c3, c4, c5, c6, c7, c8⟩ := HC0.out
  have cF := syFind_any _ s c.path false w0 hA0 HK.out (by omega)
  unfold FindSy at cF
  have HFL := Lib.hid (find_len (T := s.T) (q := c.path.data.toList) (fo := false))
  generalize Sy.find s.T c.path.data.toList false = r at cF HR HFL
  obtain ⟨ra, re⟩ := r
  dsimp only at cF HR HFL
  rw [str_bytes] at cF
  have HRA := Lib.hid (data_bytes ra)
  obtain ⟨rs, hrs⟩ : ∃ rs, rs = Sy.bytesOf ra := ⟨_, rfl⟩
  have HRS := Lib.hid hrs
  rw [← hrs] at cF HFL HRA
  clear hrs
  go_wp2_with fail
  refine cF.mono ?_
  rintro e w1 ⟨rfl, hb⟩
  have hA1 := hA0.below hb
  have hz1 := hz0.below hb hz0.lt
  have HC1 := Lib.hid (HC0.out.below hb)
  have hB1 := hB0.trans (hb.mono hB0.size)
  clear z0 z1 z2 z3 zf zz hcb c0 c1 c2 c3 c4 c5 c6 c7 c8 hA0 hz0 hb hB0 cF hc0 HC0
  obtain ⟨z0, z1, z2, z3, zf, zz⟩ := hz1.four
  obtain ⟨hcb, c0, c1, c2, c3, c4, c5, c6, c7, c8⟩ := HC1.out
  rcases te : (re != 0) with _ | _
  rotate_left
  · have HF := Lib.hid (HR.out.trans (if_pos (by simpa using te)))
    clear HR
    go_wp2_with fail
    refine bodyPost_ret (v := .agg #[.int .i64 re, .int .i64 0, .string ⟨#[]⟩, .slice none 0 0]) ?_ rfl ?_
    · simp [results, Tryz.results53, go_sem, z0, z1, z2, z3]
    rw [HF.out]
    exact ans_end (a := (.no re)) (Nat.le_refl _) hA1 rfl rfl (Fr.of hB1) (Sub.refl _ _) rfl
  obtain rfl : re = 0 := by simpa using te
  have HR := Lib.hid (HR.out.trans (if_neg (by decide)))
  have hrl := HFL.out rfl
  clear HFL te
  obtain ⟨AT, cT, g2, hrT, hcT, hgs⟩ := hA1.seen
  have htl := HK.out.tl
  have hx1 : ¬ p.gs = w.heap.size := by omega
  have cG := get_any AT cT s.T rs w1 hrT (Tr.right_sm HK.out.right) (by omega) (by omega)
  go_wp2_with fail
  refine cG.mono ?_
  rintro e w2 ⟨r, rfl, hr, hb⟩
  have HG0 := Lib.hid (hr.2 (.inl HK.out.right.2.1))
  have HG0 := Lib.hid (HG0.out)
  have hA2 := hA1.below hb
  have hz2 := hz1.below hb hz1.lt
  have hB2 := hB1.trans (hb.mono hB1.size)
  have HC2 := Lib.hid (HC1.out.below hb)
  clear z0 z1 z2 z3 zf zz hcb c0 c1 c2 c3 c4 c5 c6 c7 c8 g2 hrT hcT hgs hA1 hz1 hb hB1 cG hr HC1
  obtain ⟨y, hy⟩ : ∃ y, y = r.getD En.zero := ⟨_, rfl⟩
  rw [← hy]
  have HY := Lib.hid hy
  clear hy
  obtain ⟨dp, dk, dt, dop⟩ := y
  simp only [En.agg, En.cells]
  have hA3 := hA2.below ((Below.refl _ w2).alloc (Nat.le_refl _) (.cells #[.string dp, .int .i64 dk, .string dt, .bool dop] 53))
  have hB3 := hB2.alloc hB2.size (.cells #[.string dp, .int .i64 dk, .string dt, .bool dop] 53)
  have hz3 := hz2.alloc (.cells #[.string dp, .int .i64 dk, .string dt, .bool dop] 53)
  have hd3 := Blk.new w2 53 [.string dp, .int .i64 dk, .string dt, .bool dop]
  have HC3 := Lib.hid (HC2.out.below ((Below.refl _ w2).alloc (Nat.le_refl _) (.cells #[.string dp, .int .i64 dk, .string dt, .bool dop] 53)))
  have hx3 : ¬ w2.heap.size = w.heap.size := by have := hz2.lt; omega
  have hx4 : w.heap.size < w2.heap.size := hz2.lt
  go_upto_region 5 with fail
  generalize w2.alloc (.cells #[.string dp, .int .i64 dk, .string dt, .bool dop] 53) = w3 at *
  generalize w2.heap.size = gd at *
  clear hA2 hB2 hz2 HC2
  obtain ⟨d0, d1, d2, d3, df, dz⟩ := hd3.four
  obtain ⟨z0, z1, z2, z3, zf, zz⟩ := hz3.four
  obtain ⟨hcb, c0, c1, c2, c3, c4, c5, c6, c7, c8⟩ := HC3.out
  rcases r with _ | d
  · have HF : Hid (R = (s, .no 6)) := Lib.hid (by rw [HR.out, ← HRA.out, ← HG0.out])
    clear HR
    go_wp2_with fail
    refine bodyPost_ret (v := .agg #[.int .i64 6, .int .i64 0, .string ⟨#[]⟩, .slice none 0 0]) ?_ rfl ?_
    · simp [results, Tryz.results53, go_sem, z0, z1, z2, z3]
    rw [HF.out]
    exact ans_end (a := (.no 6)) (Nat.le_refl _) hA3 rfl rfl (Fr.of hB3) (Sub.refl _ _) rfl
  obtain rfl : d = ⟨dp, dk, dt, dop⟩ := HY.out.symm
  rw [← HRA.out, ← HG0.out] at HR
  have HR1 : Hid (R = if c.kind = 7 ∧ dk ≠ 2 then (s, .no 10) else if c.kind = 8 ∧ dk = 2 then (s, .no 9) else if rs.data.toList = [] then (s, .no 8) else if (Tr.removeU s.u rs.data.toList).2 ≠ 0 then (s, .no (Tr.removeU s.u rs.data.toList).2) else ((Sy.set (Sy.lose s rs.data.toList) (Tr.removeU s.u rs.data.toList)).1, .no (Sy.set (Sy.lose s rs.data.toList) (Tr.removeU s.u rs.data.toList)).2)) := Lib.hid HR.out
  clear HY HG0 HR
  by_cases q7 : c.kind = 7 ∧ dk ≠ 2
  · have HF := Lib.hid (HR1.out.trans (if_pos q7))
    have k7 : (c.kind == 7) = true := by simp [q7.1]
    have k2 : (dk != 2) = true := by simp [q7.2]
    clear HR1 q7 hkd
    go_wp2_with fail
    refine bodyPost_ret (v := .agg #[.int .i64 10, .int .i64 0, .string ⟨#[]⟩, .slice none 0 0]) ?_ rfl ?_
    · simp [results, Tryz.results53, go_sem, z0, z1, z2, z3]
    rw [HF.out]
    exact ans_end (a := (.no 10)) (Nat.le_refl _) hA3 rfl rfl (Fr.of hB3) (Sub.refl _ _) rfl
  have HR2 := Lib.hid (HR1.out.trans (if_neg q7))
  clear HR1
  by_cases q8 : c.kind = 8 ∧ dk = 2
  · have HF := Lib.hid (HR2.out.trans (if_pos q8))
    have k7 : (c.kind == 7) = false := by simp [q8.1]
    have k8 : (c.kind == 8) = true := by simp [q8.1]
    have k2 : (dk == 2) = true := by simp [q8.2]
    clear HR2 q7 q8 hkd
    go_wp2_with fail
    refine bodyPost_ret (v := .agg #[.int .i64 9, .int .i64 0, .string ⟨#[]⟩, .slice none 0 0]) ?_ rfl ?_
    · simp [results, Tryz.results53, go_sem, z0, z1, z2, z3]
    rw [HF.out]
    exact ans_end (a := (.no 9)) (Nat.le_refl _) hA3 rfl rfl (Fr.of hB3) (Sub.refl _ _) rfl
  have HR3 := Lib.hid (HR2.out.trans (if_neg q8))
  clear HR2
  have hkk : ((c.kind == 7) = true ∧ (dk != 2) = false ∧ (c.kind == 8) = false) ∨ ((c.kind == 7) = false ∧ (c.kind == 8) = true ∧ (dk == 2) = false) := by
    rcases hkd with q | q
    · left
      refine ⟨by simp [q], ?_, by simp [q]⟩
      by_cases e : dk = 2
      · simp [e]
      · exact absurd ⟨q, e⟩ q7
    · right
      refine ⟨by simp [q], by simp [q], ?_⟩
      by_cases e : dk = 2
      · exact absurd ⟨q, e⟩ q8
      · simp [e]
  clear q7 q8 hkd
  obtain ⟨AU, AL, cU, cL, g0, g1, hrU⟩ := hA3.un
  have hgz3 : p.gs < w3.heap.size := hA3.c_lt hA3.gs_c
  have cRm := fun W q => removeU_any AU AL cU cL s.u rs W q (unSm_fine HK.out.1) (by omega)
  have HSM := Lib.hid (remove_sm HK.out rs.data.toList)
  have cLo := fun W q => lose_any (p.plus w.heap.size) s n rs W q HI.out hn HK.out
  generalize Tr.removeU s.u rs.data.toList = q at cRm HR3 HSM
  obtain ⟨sl, hsl⟩ : ∃ sl, sl = Sy.lose s rs.data.toList := ⟨_, rfl⟩
  rw [← hsl] at cLo HR3
  clear hsl
  have HEM : Hid ((rs.toList = [] → rs.data.toList = []) ∧ (¬ rs.toList = [] → ¬ rs.data.toList = [])) := Lib.hid (by rw [Lib.toList_data]; exact ⟨id, id⟩)
  rcases hkk with ⟨k7, k2, k8⟩ | ⟨k7, k8, k2⟩
  all_goals
    rcases empty_cases rs with ⟨hE, e1, e2⟩ | ⟨hE, e1, e2⟩
    · have HF := Lib.hid (HR3.out.trans (if_pos hE))
      clear HR3 hE HEM
      go_wp2_with fail
      refine bodyPost_ret (v := .agg #[.int .i64 8, .int .i64 0, .string ⟨#[]⟩, .slice none 0 0]) ?_ rfl ?_
      · simp [results, Tryz.results53, go_sem, z0, z1, z2, z3]
      rw [HF.out]
      exact ans_end (a := (.no 8)) (Nat.le_refl _) hA3 rfl rfl (Fr.of hB3) (Sub.refl _ _) rfl
    have HR4 := Lib.hid (HR3.out.trans (if_neg hE))
    clear hE HEM HR3
    go_wp2_with fail
    refine (cRm w3 hrU).mono ?_
    rintro e w4 ⟨A6, A6', cu6, cv6, rfl, hf6, hb6⟩
    have hA4 := hA3.below hb6
    have hO4 := UnFar.off hf6 fun k hk => hA3.x_lt hk
    have hB4 := hB3.trans (hb6.mono hB3.size)
    have hz4 := hz3.below hb6 hz3.lt
    have hb5 : Below w4.heap.size w4 (w4.alloc (.cells #[.slice A6 q.1.U.length cu6, .slice A6' q.1.L.length cv6] 26)) := (Below.refl _ w4).alloc (Nat.le_refl _) _
    have hA5 := hA4.below hb5
    have hO5 := hO4.on (Fr.of (X := (p.plus w.heap.size).X) hb5) (Sub.refl _ _)
    have hB5 := hB4.trans (hb5.mono hB4.size)
    have hz5 := hz4.below hb5 hz4.lt
    have hu5 := Blk.new w4 26 [.slice A6 q.1.U.length cu6, .slice A6' q.1.L.length cv6]
    have hC4 : ∀ k, p.C k → k < w4.heap.size := fun k hk => hA4.c_lt hk
    clear d0 d1 d2 d3 df dz z0 z1 z2 z3 zf zz hcb c0 c1 c2 c3 c4 c5 c6 c7 c8 hd3 g0 g1 hrU hgz3
    go_upto_region 14 with fail
    generalize w4.alloc (.cells #[.slice A6 q.1.U.length cu6, .slice A6' q.1.L.length cv6] 26) = w5 at *
    generalize w4.heap.size = gu at *
    clear hA4 hO4 hB4 hz4 hb5 hb6 hf6
    obtain ⟨u0, u1, uf, uz⟩ := hu5.two
    obtain ⟨z0, z1, z2, z3, zf, zz⟩ := hz5.four
    rcases tq : (q.2 != 0) with _ | _
    rotate_left
    · have HF := Lib.hid (HR4.out.trans (if_pos (by simpa using tq)))
      clear HR4
      go_wp2_with fail
      refine bodyPost_ret (v := .agg #[.int .i64 q.2, .int .i64 0, .string ⟨#[]⟩, .slice none 0 0]) ?_ rfl ?_
      · simp [results, Tryz.results53, go_sem, z0, z1, z2, z3]
      rw [HF.out]
      exact ans_end (a := (.no q.2)) (Nat.le_refl _) hA5 rfl rfl (Fr.of hB5) (Sub.refl _ _) rfl
    have q0 : q.2 = 0 := by simpa using tq
    have HF := Lib.hid (HR4.out.trans (if_neg (by simp [q0])))
    clear HR4 q0
    go_upto_region 16 with fail
    clear tq
    go_wp2_with fail
    refine (cLo w5 hA5).mono ?_
    rintro e w6 ⟨rfl, hA6, hF6⟩
    have hO6 := hO5.lose hF6
    have hu6 := hu5.fr hF6 fun hc => by have := hC4 gu hc; omega
    have hz6 := hz5.frC hA5 hF6
    have hF6' : Fr p.C w w6 := (Fr.of hB5 : Fr p.C w w5).trans hF6.sameC (Sub.refl _ _)
    clear u0 u1 uf uz z0 z1 z2 z3 zf zz hA5 hO5 hz5 hu5 hB5 hF6
    obtain ⟨u0, u1, uf, uz⟩ := hu6.two
    go_wp2_with fail
    refine (sySet_any (p.plus w.heap.size) sl A6 A6' cu6 cv6 q w6 hA6 (fun _ => hO6) HSM.out).mono ?_
    rintro e w7 ⟨rfl, hA7, hf7⟩
    have hz7 := hz6.fr hf7 (show ¬ w.heap.size = p.gs by omega)
    have hF7 : Fr p.C w w7 := hF6'.trans hf7 fun _ _ e => e ▸ (.inl rfl : p.C p.gs)
    clear u0 u1 uf uz
    obtain ⟨z0, z1, z2, z3, zf, zz⟩ := hz7.four
    go_wp2_with fail
    refine bodyPost_ret (v := .agg #[.int .i64 (Sy.set sl q).2, .int .i64 0, .string ⟨#[]⟩, .slice none 0 0]) ?_ rfl ?_
    · simp [results, Tryz.results53, go_sem, z0, z1, z2, z3]
    rw [HF.out]
    exact ans_end (a := (.no (Sy.set sl q).2)) (Nat.le_refl _) hA7 rfl rfl hF7 (Sub.refl _ _) rfl
end Go.Proofs.YtjppfhgkanbemacGreatDoor

namespace Go.Proofs.YtjppfhgkanbemacGreatDoor
open Go.RowKit Go.Shelf Go.Sort

theorem move_sm {s : St} (h : Sy.Ok s) (a b : Pt.Bs) (h0 : (Tr.moveU s.u a b).2 = 0) : UnSm (Tr.moveU s.u a b).1 := unSm_fine ((Tr.moveU_tree h.1 a b).2 h0).1
theorem follow_text (op rs ts : ByteArray) : ts ++ op.extract rs.size op.size = Sy.bytesOf (ts.data.toList ++ op.data.toList.drop rs.data.toList.length) := by
  refine bs_ext ?_
  rw [data_app, ext_data]
  have hl : op.data.toList.length = op.size := size_length op
  rw [List.take_of_length_le (l := op.data.toList) (i := op.size) (by omega), size_length]
  rfl
theorem follow_len {op rs : ByteArray} (h : op.data.toList = rs.data.toList ∨ (Pt.under op.data.toList rs.data.toList = true ∧ op.data.toList ≠ [])) (hr : ¬ rs.data.toList = []) : rs.size ≤ op.size := by
  rw [← size_length rs, ← size_length op]
  rcases h with h | ⟨h, _⟩
  · rw [h]; exact Nat.le_refl _
  · obtain ⟨r, hr⟩ := (Pt.under_iff hr).1 h
    rw [hr, List.length_append]; omega

set_option maxHeartbeats 2000000 in
set_option maxRecDepth 100000 in
theorem rename_any (p : Pl) (s : St) (n b o : Nat) (c : Ca) (w : World) (h : SyAt w p s) (hi : Sy.In n s) (hn : n ≤ 1000) (hk : Sy.Ok s) (hc : CaAt w b o c) (hcs : CaSm c) :
    Calls Tryz.prog 54 #[.pointer (some ⟨p.gs, 0, none⟩), .pointer (some ⟨b, o, none⟩)] w (SyAns p (Sy.rename s c) w) := by
  have HK := Lib.hid hk
  have HI := Lib.hid hi
  have hA := Lib.hid h
  have hgs0 : p.gs < w.heap.size := h.c_lt h.gs_c
  have hcp := hcs.1
  have hct := hcs.2.1
  obtain ⟨R, hR⟩ : ∃ R, R = Sy.rename s c := ⟨_, rfl⟩
  rw [← hR]
  unfold Sy.rename at hR
  dsimp only at hR
  have HR0 := Lib.hid hR
  clear hR h hk hcs hi
  have hA0 := hA.out.plus (.cells #[.int .i64 0, .int .i64 0, .string ⟨#[]⟩, .slice none 0 0] 41)
  have hB0 := (Below.refl w.heap.size w).alloc (Nat.le_refl _) (.cells #[.int .i64 0, .int .i64 0, .string ⟨#[]⟩, .slice none 0 0] 41)
  have hz0 := Blk.new w 41 [.int .i64 0, .int .i64 0, .string ⟨#[]⟩, .slice none 0 0]
  have hc0 := hc.below hB0
  go_enter Tryz.func54, Tryz.ntmps54
  go_upto_region 1 with fail
  generalize w.alloc (.cells #[.int .i64 0, .int .i64 0, .string ⟨#[]⟩, .slice none 0 0] 41) = w0 at *
  have HC0 := Lib.hid hc0
  clear hc0
  obtain ⟨z0, z1, z2, z3, zf, zz⟩ := hz0.four
  obtain ⟨hcb, c0, c1, c2, c3, c4, c5, c6, c7, c8⟩ := HC0.out
  have cF := syFind_any (p.plus w.heap.size) s c.path false w0 hA0 HK.out (by omega)
  unfold FindSy at cF
  have HFL1 := Lib.hid (find_len (T := s.T) (q := c.path.data.toList) (fo := false))
  generalize Sy.find s.T c.path.data.toList false = r at cF HR0 HFL1
  obtain ⟨ra, re⟩ := r
  dsimp only at cF HR0 HFL1
  rw [str_bytes] at cF
  have HRA1 := Lib.hid (data_bytes ra)
  obtain ⟨rs, hrs⟩ : ∃ x, x = Sy.bytesOf ra := ⟨_, rfl⟩
  rw [← hrs] at cF HFL1 HRA1
  clear hrs
  go_wp2_with fail
  refine cF.mono ?_
  rintro e w1 ⟨rfl, hb⟩
  have hA1 := hA0.below hb
  have hz1 := hz0.below hb hz0.lt
  have HC1 := Lib.hid (HC0.out.below hb)
  have hB1 := hB0.trans (hb.mono hB0.size)
  clear z0 z1 z2 z3 zf zz hcb c0 c1 c2 c3 c4 c5 c6 c7 c8 hA0 hz0 hb hB0 cF HC0
  obtain ⟨z0, z1, z2, z3, zf, zz⟩ := hz1.four
  obtain ⟨hcb, c0, c1, c2, c3, c4, c5, c6, c7, c8⟩ := HC1.out
  rcases te : (re != 0) with _ | _
  rotate_left
  · have HF := Lib.hid (HR0.out.trans (if_pos (by simpa using te)))
    clear HR0
    go_wp2_with fail
    refine bodyPost_ret (v := .agg #[.int .i64 re, .int .i64 0, .string ⟨#[]⟩, .slice none 0 0]) ?_ rfl ?_
    · simp [results, Tryz.results54, go_sem, z0, z1, z2, z3]
    rw [HF.out]
    exact ans_end (a := (.no re)) (Nat.le_refl _) hA1 rfl rfl (Fr.of hB1) (Sub.refl _ _) rfl
  obtain rfl : re = 0 := by simpa using te
  have HR1 := Lib.hid (HR0.out.trans (if_neg (by decide)))
  clear te HR0
  have hrl1 := HFL1.out rfl
  clear HFL1
  have cF := syFind_any (p.plus w.heap.size) s c.to false w1 hA1 HK.out (by omega)
  unfold FindSy at cF
  have HFL2 := Lib.hid (find_len (T := s.T) (q := c.to.data.toList) (fo := false))
  generalize Sy.find s.T c.to.data.toList false = r at cF HR1 HFL2
  obtain ⟨ta, te2⟩ := r
  dsimp only at cF HR1 HFL2
  rw [str_bytes] at cF
  have HRA2 := Lib.hid (data_bytes ta)
  obtain ⟨ts, hrs⟩ : ∃ x, x = Sy.bytesOf ta := ⟨_, rfl⟩
  rw [← hrs] at cF HFL2 HRA2
  clear hrs
  go_wp2_with fail
  refine cF.mono ?_
  rintro e w2 ⟨rfl, hb⟩
  have hA2 := hA1.below hb
  have hz2 := hz1.below hb hz1.lt
  have HC2 := Lib.hid (HC1.out.below hb)
  have hB2 := hB1.trans (hb.mono hB1.size)
  clear z0 z1 z2 z3 zf zz hcb c0 c1 c2 c3 c4 c5 c6 c7 c8 hA1 hz1 hb hB1 cF HC1
  obtain ⟨z0, z1, z2, z3, zf, zz⟩ := hz2.four
  obtain ⟨hcb, c0, c1, c2, c3, c4, c5, c6, c7, c8⟩ := HC2.out
  rcases te : (te2 != 0) with _ | _
  rotate_left
  · have HF := Lib.hid (HR1.out.trans (if_pos (by simpa using te)))
    clear HR1
    go_wp2_with fail
    refine bodyPost_ret (v := .agg #[.int .i64 te2, .int .i64 0, .string ⟨#[]⟩, .slice none 0 0]) ?_ rfl ?_
    · simp [results, Tryz.results54, go_sem, z0, z1, z2, z3]
    rw [HF.out]
    exact ans_end (a := (.no te2)) (Nat.le_refl _) hA2 rfl rfl (Fr.of hB2) (Sub.refl _ _) rfl
  obtain rfl : te2 = 0 := by simpa using te
  have HR2 := Lib.hid (HR1.out.trans (if_neg (by decide)))
  clear te HR1
  have hrl2 := HFL2.out rfl
  clear HFL2
  have HR3 : Hid (R = if rs.data.toList = [] ∨ ts.data.toList = [] then (s, .no 8) else if (Tr.moveU s.u rs.data.toList ts.data.toList).2 ≠ 0 then (s, .no (Tr.moveU s.u rs.data.toList ts.data.toList).2) else ((Sy.set (Sy.follow (if rs.data.toList ≠ ts.data.toList then Sy.lose s ts.data.toList else s) rs.data.toList ts.data.toList) (Tr.moveU s.u rs.data.toList ts.data.toList)).1, .no (Sy.set (Sy.follow (if rs.data.toList ≠ ts.data.toList then Sy.lose s ts.data.toList else s) rs.data.toList ts.data.toList) (Tr.moveU s.u rs.data.toList ts.data.toList)).2)) := Lib.hid (by rw [HRA1.out, HRA2.out]; exact HR2.out)
  clear HR2 HRA1 HRA2
  rcases empty_cases rs with ⟨hE, e1, e2⟩ | ⟨hE, e1, e2⟩
  · have HF := Lib.hid (HR3.out.trans (if_pos (.inl hE)))
    clear HR3 hE
    go_wp2_with fail
    refine bodyPost_ret (v := .agg #[.int .i64 8, .int .i64 0, .string ⟨#[]⟩, .slice none 0 0]) ?_ rfl ?_
    · simp [results, Tryz.results54, go_sem, z0, z1, z2, z3]
    rw [HF.out]
    exact ans_end (a := (.no 8)) (Nat.le_refl _) hA2 rfl rfl (Fr.of hB2) (Sub.refl _ _) rfl
  have HE1 := Lib.hid hE
  rcases empty_cases ts with ⟨hE2, e3, e4⟩ | ⟨hE2, e3, e4⟩
  · have HF := Lib.hid (HR3.out.trans (if_pos (.inr hE2)))
    clear HR3 hE2 hE
    go_wp2_with fail
    refine bodyPost_ret (v := .agg #[.int .i64 8, .int .i64 0, .string ⟨#[]⟩, .slice none 0 0]) ?_ rfl ?_
    · simp [results, Tryz.results54, go_sem, z0, z1, z2, z3]
    rw [HF.out]
    exact ans_end (a := (.no 8)) (Nat.le_refl _) hA2 rfl rfl (Fr.of hB2) (Sub.refl _ _) rfl
  have HR4 := Lib.hid (HR3.out.trans (if_neg fun q => q.elim hE hE2))
  clear HR3 hE hE2
  obtain ⟨AU, AL, cU, cL, g0, g1, hrU⟩ := hA2.un
  have hgz2 : p.gs < w2.heap.size := hA2.c_lt hA2.gs_c
  have cMv := fun W q => moveU_any AU AL cU cL s.u rs ts W q (unSm_fine HK.out.1) (by omega) (by omega)
  have HSM := Lib.hid (move_sm HK.out rs.data.toList ts.data.toList)
  have cLo := fun W q => lose_any (p.plus w.heap.size) s n ts W q HI.out hn HK.out
  have HLI := Lib.hid (HI.out.lose HK.out ts.data.toList)
  generalize Tr.moveU s.u rs.data.toList ts.data.toList = q at cMv HR4 HSM
  obtain ⟨sl, hsl⟩ : ∃ sl, sl = if rs.data.toList ≠ ts.data.toList then Sy.lose s ts.data.toList else s := ⟨_, rfl⟩
  have HSL := Lib.hid hsl
  rw [← hsl] at HR4
  clear hsl
  have HIS : Hid (Sy.In n sl) := Lib.hid (by
    rw [HSL.out]
    split
    · exact HLI.out
    · exact HI.out)
  go_upto_region 9 with fail
  go_wp2_with fail
  refine (cMv w2 hrU).mono ?_
  rintro e w4 ⟨A6, A6', cu6, cv6, rfl, hf6, hb6⟩
  have hA4 := hA2.below hb6
  have hO4 := UnFar.off hf6 fun k hk => hA2.x_lt hk
  have hB4 := hB2.trans (hb6.mono hB2.size)
  have hz4 := hz2.below hb6 hz2.lt
  have hb5 : Below w4.heap.size w4 (w4.alloc (.cells #[.slice A6 q.1.U.length cu6, .slice A6' q.1.L.length cv6] 26)) := (Below.refl _ w4).alloc (Nat.le_refl _) _
  have hA5 := hA4.below hb5
  have hO5 := hO4.on (Fr.of (X := (p.plus w.heap.size).X) hb5) (Sub.refl _ _)
  have hB5 := hB4.trans (hb5.mono hB4.size)
  have hz5 := hz4.below hb5 hz4.lt
  have hu5 := Blk.new w4 26 [.slice A6 q.1.U.length cu6, .slice A6' q.1.L.length cv6]
  have hC4 : ∀ k, p.C k → k < w4.heap.size := fun k hk => hA4.c_lt hk
  clear z0 z1 z2 z3 zf zz hcb c0 c1 c2 c3 c4 c5 c6 c7 c8 g0 g1 hrU hgz2 e1 e2 e3 e4
  go_upto_region 10 with fail
  generalize w4.alloc (.cells #[.slice A6 q.1.U.length cu6, .slice A6' q.1.L.length cv6] 26) = w5 at *
  generalize w4.heap.size = gu at *
  clear hA4 hO4 hB4 hz4 hb5 hb6 hf6
  obtain ⟨u0, u1, uf, uz⟩ := hu5.two
  obtain ⟨z0, z1, z2, z3, zf, zz⟩ := hz5.four
  rcases tq : (q.2 != 0) with _ | _
  rotate_left
  · have HF := Lib.hid (HR4.out.trans (if_pos (by simpa using tq)))
    clear HR4
    go_wp2_with fail
    refine bodyPost_ret (v := .agg #[.int .i64 q.2, .int .i64 0, .string ⟨#[]⟩, .slice none 0 0]) ?_ rfl ?_
    · simp [results, Tryz.results54, go_sem, z0, z1, z2, z3]
    rw [HF.out]
    exact ans_end (a := (.no q.2)) (Nat.le_refl _) hA5 rfl rfl (Fr.of hB5) (Sub.refl _ _) rfl
  have HF0 := Lib.hid (HR4.out.trans (if_neg (by
    have q0 : q.2 = 0 := by simpa using tq
    simp [q0])))
  clear HR4
  go_upto_if 60 with fail
  clear tq
  go_cut [] (fun wx => SyAt wx (p.plus w.heap.size) sl ∧ Off (p.plus w.heap.size).X wx (fun w => UnRd w w.heap.size A6 A6' cu6 cv6 q.1) ∧ Blk wx w.heap.size 41 [.int .i64 0, .int .i64 0, .string ⟨#[]⟩, .slice none 0 0] ∧ Blk wx gu 26 [.slice A6 q.1.U.length cu6, .slice A6' q.1.L.length cv6] ∧ Fr p.C w wx)
  case first =>
    rcases tl : (rs.toList == ts.toList) with _ | _
    · have hs := HSL.out.trans (if_pos (fun q => by rw [toList_beq] at tl; simp [q] at tl))
      have HS := Lib.hid hs
      clear hs
      go_wp2_with fail
      refine (cLo w5 hA5).mono ?_
      rintro e w6 ⟨rfl, hA6, hF6⟩
      go_wp2_with fail
      go_meet
      case rel => exact ⟨by rw [HS.out]; exact hA6, hO5.lose hF6, hz5.frC hA5 hF6, hu5.fr hF6 fun hc => by have := hC4 gu hc; omega, (Fr.of hB5 : Fr p.C w w5).trans hF6.sameC (Sub.refl _ _)⟩
    · have hs := HSL.out.trans (if_neg (fun q => q (by rw [toList_beq] at tl; simpa using tl)))
      have HS := Lib.hid hs
      clear hs
      go_wp2_with fail
      go_meet
      case rel => exact ⟨by rw [HS.out]; exact hA5, hO5, hz5, hu5, Fr.of hB5⟩
  case rest =>
  obtain ⟨hA6, hO6, hz6, hu6, hF6⟩ := hcut
  generalize wc = w6 at *
  clear u0 u1 uf uz z0 z1 z2 z3 zf zz hA5 hO5 hz5 hu5 hB5
  have HS6 := Lib.hid hA6
  have g3 := hA6.v_cell
  have hgs : p.gs < w6.heap.size := hA6.c_lt hA6.gs_c
  obtain ⟨A, cc, hv, hcc⟩ := hA6.v_shape
  rw [show (p.plus w.heap.size).v = p.v from rfl] at hv g3
  rw [show (p.plus w.heap.size).gs = p.gs from rfl] at g3
  rw [hv] at g3
  have hfl := HIS.out.fl
  go_upto_region 15 with fail
  clear g3 hgs
  go_loopw [69] (fun j wr => ∃ k : Nat, k ≤ sl.files.length ∧ j = .int .i64 k ∧ Hid (SyAt wr (p.plus w.heap.size) (Sy.part (Sy.followG rs.data.toList ts.data.toList) (sl.files.take k) sl)) ∧ Hid (Off (p.plus w.heap.size).X wr (fun w => UnRd w w.heap.size A6 A6' cu6 cv6 q.1)) ∧ Hid (Blk wr w.heap.size 41 [.int .i64 0, .int .i64 0, .string ⟨#[]⟩, .slice none 0 0]) ∧ Hid (Blk wr gu 26 [.slice A6 q.1.U.length cu6, .slice A6' q.1.L.length cv6]) ∧ Fr p.C w wr) (fun j _ => sl.files.length - (intOf j).toNat)
  case atStart => exact ⟨0, Nat.zero_le _, rfl, Lib.hid (by rw [List.take_zero, Sy.part_nil]; exact hA6), Lib.hid hO6, Lib.hid hz6, Lib.hid hu6, hF6⟩
  case round =>
    clear hA6 hO6 hz6 hu6 hF6
    obtain ⟨k, hk, rfl, HW, HO, HZ, HU, hF⟩ := hrel
    by_cases hlt : k < sl.files.length
    · obtain ⟨i, hi⟩ : ∃ i, i = sl.files[k] := ⟨_, rfl⟩
      have hil : i < sl.obs.length := hi ▸ HIS.out.fsub _ (List.getElem_mem hlt)
      have hnot : i ∉ sl.files.take k := hi ▸ Sy.take_in HIS.out.fnd hlt
      have HTK : Hid (sl.files.take (k + 1) = sl.files.take k ++ [i]) := Lib.hid (by rw [hi, List.take_succ_eq_append_getElem hlt])
      obtain ⟨fb, fo, hAb, hbb, h0⟩ := HW.out.fileAt (show (p.plus w.heap.size).v = _ from hv) hlt
      change wr.cell? ⟨fb, fo + k, none⟩ = some (.pointer (some ⟨p.f sl.files[k], 0, none⟩)) at h0
      rw [← hi] at h0
      clear hi
      subst hAb
      have hob := HW.out.ob i (by rw [Sy.part_len]; exact hil)
      rw [Sy.part_out hil hnot] at hob
      obtain ⟨Al, cl, hbl, hOl, hcl⟩ := hob
      have HOL := Lib.hid hOl
      clear hOl
      have hsz := (HIS.out.obAt i).1
      have HG0 : Hid (∀ o, o = Sy.obAt sl i → ¬ (o.P = rs.data.toList ∨ (Pt.under o.P rs.data.toList = true ∧ o.P ≠ [])) → Sy.part (Sy.followG rs.data.toList ts.data.toList) (sl.files.take k) sl = Sy.part (Sy.followG rs.data.toList ts.data.toList) (sl.files.take (k + 1)) sl) := Lib.hid fun o ho hq => by
        rw [HTK.out]
        refine Sy.part_miss hnot hil ?_
        unfold Sy.followG
        rw [← ho, if_neg hq]
      have HG1 : Hid (∀ o, o = Sy.obAt sl i → (o.P = rs.data.toList ∨ (Pt.under o.P rs.data.toList = true ∧ o.P ≠ [])) → ∀ v, v = Sy.bytesOf (ts.data.toList ++ o.P.drop rs.data.toList.length) → Sy.setOb (Sy.part (Sy.followG rs.data.toList ts.data.toList) (sl.files.take k) sl) i (fun x => { x with p := v }) = Sy.part (Sy.followG rs.data.toList ts.data.toList) (sl.files.take (k + 1)) sl) := Lib.hid fun o ho hq v hvv => by
        rw [HTK.out]
        refine Sy.part_hit hnot hil ?_
        unfold Sy.followG
        rw [← ho, if_pos hq, hvv]
      have HOB : Hid (Sy.obAt (Sy.part (Sy.followG rs.data.toList ts.data.toList) (sl.files.take k) sl) i = Sy.obAt sl i) := Lib.hid (Sy.part_out hil hnot)
      obtain ⟨ob, hobe⟩ : ∃ ob, ob = Sy.obAt sl i := ⟨_, rfl⟩
      have HH0 := Lib.hid (HG0.out ob hobe)
      have HH1 := Lib.hid (HG1.out ob hobe)
      rw [← hobe] at hbl HOL hcl HOB hsz
      clear hobe HG0 HG1
      obtain ⟨op, ot, ol⟩ := ob
      rw [show (⟨op, ot, ol⟩ : Ob).P = op.data.toList from rfl] at HH0 HH1
      dsimp only at hbl HOL hcl hsz
      obtain ⟨sq, hsq⟩ : ∃ q, q = Sy.part (Sy.followG rs.data.toList ts.data.toList) (sl.files.take k) sl := ⟨_, rfl⟩
      have hql : i < sq.obs.length := by rw [hsq, Sy.part_len]; exact hil
      rw [← hsq] at HW HH0 HH1 HOB
      clear hsq
      obtain ⟨gf, hgf⟩ : ∃ gf, gf = p.f i := ⟨_, rfl⟩
      have HGF := Lib.hid hgf
      have hbl : Blk wr gf 127 [.string op, .string ot, .slice Al ol.length cl] := by rw [hgf]; exact hbl
      rw [← hgf] at h0
      clear hgf
      obtain ⟨f0, f1, f2, ff, fz⟩ := hbl.three
      have cUn := under_any op rs wr (by omega)
      have HFT := Lib.hid (follow_text op rs ts)
      have HLN := Lib.hid (follow_len (op := op) (rs := rs))
      rcases t1 : (op.toList == rs.toList) with _ | _
      · obtain ⟨un, hun⟩ : ∃ un, un = Pt.under op.data.toList rs.data.toList := ⟨_, rfl⟩
        rw [← hun] at cUn HH0 HH1 HLN
        clear hun
        have hne : ¬ op.data.toList = rs.data.toList := fun q => by rw [toList_beq] at t1; simp [q] at t1
        rcases empty_cases op with ⟨hE, e1, e2⟩ | ⟨hE, e1, e2⟩
        · have HS := Lib.hid (HH0.out fun q => q.elim hne fun q => q.2 hE)
          clear HH0 HH1 HLN HFT hne hE
          have e3 : un = true ∨ un = false := by cases un <;> simp
          have t1' : (([] : List UInt8) == rs.toList) = false := by rw [← e1]; exact t1
          have r1 : ¬ rs.toList = [] := fun q => HE1.out (by rw [Lib.toList_data] at q; exact q)
          have r3 : ¬ ([] : List UInt8) = rs.toList := fun q => r1 q.symm
          rcases e3 with rfl | rfl
          all_goals
            go_wp2_with (go_at_call 74; refine cUn.mono ?_; rintro e wr ⟨rfl, rfl⟩)
            go_roundw
            case rel => exact ⟨k + 1, hlt, by go_num, Lib.hid (by rw [← HS.out]; exact HW.out), HO, HZ, HU, hF⟩
            case measure => simp [intOf]; omega
        · cases un
          · have HS := Lib.hid (HH0.out fun q => q.elim hne fun q => by cases q.1)
            clear HH0 HH1 HLN HFT hne hE
            go_wp2_with (go_at_call 74; refine cUn.mono ?_; rintro e wr ⟨rfl, rfl⟩)
            go_roundw
            case rel => exact ⟨k + 1, hlt, by go_num, Lib.hid (by rw [← HS.out]; exact HW.out), HO, HZ, HU, hF⟩
            case measure => simp [intOf]; omega
          · have HS := Lib.hid (HH1.out (.inr ⟨rfl, hE⟩) _ rfl)
            have hle := HLN.out (.inr ⟨rfl, hE⟩) HE1.out
            clear HH0 HH1 HLN hne hE
            rw [← HFT.out] at HS
            have k2 : ¬ (9223372036854775807 < ts.size + (op.size - rs.size)) := by omega
            have i1 : (0 : Int) ≤ (rs.size : Int) := Int.natCast_nonneg _
            have i2 : (rs.size : Int) ≤ (op.size : Int) := by omega
            go_wp2_with (go_at_call 74; refine cUn.mono ?_; rintro e wr ⟨rfl, rfl⟩)
            go_roundw
            case rel =>
              have hf9 : Fr (fun k => k = gf) wr (wr.setCell ⟨gf, 0, none⟩ (.string (ts ++ op.extract rs.size op.size))) := (Fr.refl (fun k => k = gf) wr).at_ 0 _
              have hcf : p.C gf := by rw [HGF.out]; exact HW.out.f_c hql
              have hgu : ¬ gu = gf := fun e => by have := hC4 gf hcf; omega
              have hfC : Fr p.C wr (wr.setCell ⟨gf, 0, none⟩ (.string (ts ++ op.extract rs.size op.size))) := hf9.wide fun _ _ e => e ▸ hcf
              refine ⟨k + 1, hlt, by go_num, Lib.hid ?_, Lib.hid (HO.out.lose hfC), Lib.hid (HZ.out.frC HW.out hfC), Lib.hid (HU.out.far (p := ⟨gf, 0, none⟩) hgu _), hF.trans hfC (Sub.refl _ _)⟩
              rw [← HS.out]
              refine HW.out.setOb hql (by rw [show Pl.f (p.plus w.heap.size) i = gf from HGF.out.symm]; exact hf9) _ ?_
              rw [HOB.out, show Pl.f (p.plus w.heap.size) i = gf from HGF.out.symm]
              exact ⟨Al, cl, hbl.set_ 0 _, HOL.out.lose hfC, hcl⟩
            case measure => simp [intOf]; omega
      · have hq : op.data.toList = rs.data.toList := by rw [toList_beq] at t1; simpa using t1
        have HS := Lib.hid (HH1.out (.inl hq) _ rfl)
        have hle := HLN.out (.inl hq) HE1.out
        clear HH0 HH1 HLN hq
        rw [← HFT.out] at HS
        have k2 : ¬ (9223372036854775807 < ts.size + (op.size - rs.size)) := by omega
        have i1 : (0 : Int) ≤ (rs.size : Int) := Int.natCast_nonneg _
        have i2 : (rs.size : Int) ≤ (op.size : Int) := by omega
        go_wp2_with (go_at_call 74; refine cUn.mono ?_; rintro e wr ⟨rfl, rfl⟩)
        go_roundw
        case rel =>
          have hf9 : Fr (fun k => k = gf) wr (wr.setCell ⟨gf, 0, none⟩ (.string (ts ++ op.extract rs.size op.size))) := (Fr.refl (fun k => k = gf) wr).at_ 0 _
          have hcf : p.C gf := by rw [HGF.out]; exact HW.out.f_c hql
          have hgu : ¬ gu = gf := fun e => by have := hC4 gf hcf; omega
          have hfC : Fr p.C wr (wr.setCell ⟨gf, 0, none⟩ (.string (ts ++ op.extract rs.size op.size))) := hf9.wide fun _ _ e => e ▸ hcf
          refine ⟨k + 1, hlt, by go_num, Lib.hid ?_, Lib.hid (HO.out.lose hfC), Lib.hid (HZ.out.frC HW.out hfC), Lib.hid (HU.out.far (p := ⟨gf, 0, none⟩) hgu _), hF.trans hfC (Sub.refl _ _)⟩
          rw [← HS.out]
          refine HW.out.setOb hql (by rw [show Pl.f (p.plus w.heap.size) i = gf from HGF.out.symm]; exact hf9) _ ?_
          rw [HOB.out, show Pl.f (p.plus w.heap.size) i = gf from HGF.out.symm]
          exact ⟨Al, cl, hbl.set_ 0 _, HOL.out.lose hfC, hcl⟩
        case measure => simp [intOf]; omega
    · have ek : k = sl.files.length := by omega
      subst ek
      rw [List.take_length, ← Sy.follow_eq] at HW
      obtain ⟨sf, hsf⟩ : ∃ sf, sf = Sy.follow sl rs.data.toList ts.data.toList := ⟨_, rfl⟩
      have HF := Lib.hid HF0.out
      rw [← hsf] at HW HF
      clear hsf HF0
      have hu9 := HU.out
      have hz9 := HZ.out
      obtain ⟨u0, u1, uf, uz⟩ := hu9.two
      go_wp2_with fail
      refine (sySet_any (p.plus w.heap.size) sf A6 A6' cu6 cv6 q wr HW.out (fun _ => HO.out) HSM.out).mono ?_
      rintro e w7 ⟨rfl, hA7, hf7⟩
      have hz7 := hz9.fr hf7 (show ¬ w.heap.size = p.gs by omega)
      have hF7 : Fr p.C w w7 := hF.trans hf7 fun _ _ e => e ▸ (.inl rfl : p.C p.gs)
      clear u0 u1 uf uz
      obtain ⟨z0, z1, z2, z3, zf, zz⟩ := hz7.four
      go_wp2_with fail
      refine bodyPost_ret (v := .agg #[.int .i64 (Sy.set sf q).2, .int .i64 0, .string ⟨#[]⟩, .slice none 0 0]) ?_ rfl ?_
      · simp [results, Tryz.results54, go_sem, z0, z1, z2, z3]
      rw [HF.out]
      exact ans_end (a := (.no (Sy.set sf q).2)) (Nat.le_refl _) hA7 rfl rfl hF7 (Sub.refl _ _) rfl
end Go.Proofs.YtjppfhgkanbemacGreatDoor
