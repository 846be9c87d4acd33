/-
  A text, cut, or made longer by noughts.
  A file is written.
  Read.
  Write, and Cut. (Printed by wip/gensywrc.py.)
  List, and Stat. (Printed by wip/gensytell.py.)
  Open files keep what is there no more.
  The file at a path: one that is open, or a new one.
-/
import Derived.Test.YtjppfhgkanbemacGreatDoorSA
import Derived.Test.YtjppfhgkanbemacGreatDoorSyStrs
import Derived.Test.YtjppfhgkanbemacGreatDoorMC
import Derived.Ground.NamesProg
import Derived.Lib.Agree
import Derived.WalkKit
import Derived.WalkSpells
import Derived.WalkLawsBesides
import Derived.Outline
import Derived.Test.YtjppfhgkanbemacGreatDoorSB
import Derived.Test.YtjppfhgkanbemacGreatDoorUA
namespace Go.Proofs.YtjppfhgkanbemacGreatDoor
open Go.RowKit Go.Shelf

theorem repExtra : Builder.Extra Tryz.prog Tryz.lays105_ren where
  sizeBuilder := by kernel_rfl
  liesBuilder := by kernel_rfl
  t5 := Tryz.lays105.t5
  a5 := Tryz.lays105.a5
  z5 := Tryz.lays105.z5
  v5 := Tryz.lays105.v5
  infoByte := by kernel_rfl
  cellsByte := by kernel_rfl
  sizeByte := by kernel_rfl
  neB5 := by decide
theorem rep_f : Tryz.lays105_ren.f 105 = 141 := by kernel_rfl
theorem repeat_any (c : Nat) (w : World) (hc : c ≤ 1000000) :
    Calls Tryz.prog 141 #[.string ⟨#[0]⟩, .int .i64 c] w fun e w' => e = .returned (Pt.str (List.replicate c 0)) ∧ Below w.heap.size w w' := by
  have h := Any.strings_Repeat Tryz.lays105 repExtra ⟨#[0]⟩ c w (by omega) (by show 1 * c ≤ _; omega)
  rw [rep_f] at h
  refine h.mono fun e w' ⟨he, hw⟩ => ⟨?_, hw⟩
  rw [he]
  have e := Lib.repeatL_replicate 0 1 c
  rw [Nat.mul_one] at e
  rw [show (⟨#[0]⟩ : ByteArray).data.toList = List.replicate 1 0 from rfl, e]
  rfl
theorem bs_ext {a b : ByteArray} (h : a.data.toList = b.data.toList) : a = b := by
  cases a; cases b
  congr 1
  exact Array.ext' h

set_option maxHeartbeats 1000000 in
theorem sized_any (t : ByteArray) (n : Nat) (w : World) (hn : n ≤ 100000) (ht : t.size ≤ 100000) :
    Calls Tryz.prog 107 #[.string t, .int .i64 n] w fun e w' => e = .returned (.string (Sy.bytesOf (Sy.sized t.data.toList n))) ∧ Below w.heap.size w w' := by
  have hlt : t.data.toList.length = t.size := size_length t
  rcases Nat.lt_or_ge t.size n with h | h
  · have h1 : decide ((n : Int) ≤ (t.size : Int)) = false := decide_eq_false (by omega)
    have hw : IntKind.i64.wrap ((n : Int) - (t.size : Int)) = ((n - t.size : Nat) : Int) := by rw [IntWalk.i64_in ((n : Int) - (t.size : Int)) (by omega)]; omega
    have cR := repeat_any (n - t.size) w (by omega)
    have HE : Hid ((t ++ ⟨(List.replicate (n - t.size) (0 : UInt8)).toArray⟩ : ByteArray) = Sy.bytesOf (Sy.sized t.data.toList n)) := Lib.hid (bs_ext (by
      rw [data_app]
      unfold Sy.sized Sy.bytesOf
      rw [List.take_of_length_le (by omega), hlt]))
    unfold Pt.str at cR
    have hz3 : (⟨(List.replicate (n - t.size) (0 : UInt8)).toArray⟩ : ByteArray).size ≤ 100000 := by
      show (List.replicate (n - t.size) (0 : UInt8)).toArray.size ≤ 100000
      simp; omega
    generalize n - t.size = k at cR hw HE hz3
    generalize (⟨(List.replicate k (0 : UInt8)).toArray⟩ : ByteArray) = z at cR HE hz3
    go_enter Tryz.func107, Tryz.ntmps107
    go_wp2_with fail
    refine cR.mono ?_
    rintro e w1 ⟨rfl, hb⟩
    go_wp2_with fail
    refine bodyPost_ret (v := .string (t ++ z)) ?_ rfl ?_
    · simp [results, Tryz.results107, go_sem]
    exact ⟨by rw [← HE.out], hb⟩
  · have h1 : decide ((n : Int) ≤ (t.size : Int)) = true := decide_eq_true (by omega)
    have HE : Hid (t.extract 0 n = Sy.bytesOf (Sy.sized t.data.toList n)) := Lib.hid (bs_ext (by
      unfold Sy.sized Sy.bytesOf
      rw [Nat.sub_eq_zero_of_le (by omega)]
      simp [ByteArray.data_extract]))
    go_enter Tryz.func107, Tryz.ntmps107
    have h2 : n ≤ t.size := h
    clear h
    go_wp2_with fail
    refine bodyPost_ret (v := .string (t.extract 0 n)) ?_ rfl ?_
    · simp [results, Tryz.results107, go_sem]
    exact ⟨by rw [← HE.out], Below.refl _ _⟩
end Go.Proofs.YtjppfhgkanbemacGreatDoor

namespace Go.Proofs.YtjppfhgkanbemacGreatDoor
open Go.RowKit Go.Shelf Go.Sort

/-- What a change of the state answers: an error; all lies where it lay. -/
def SyRel (p : Pl) (r : St × Int) (w : World) (e : Ending) (w' : World) : Prop :=
  e = .returned (.int .i64 r.2) ∧ SyAt w' p r.1 ∧ Fr p.C w w'
theorem SySetRel.rel {p : Pl} {s : St} {r : Un × Int} {w w' : World} {e : Ending} (h : SySetRel p s r w e w') : SyRel p (Sy.set s r) w e w' := ⟨h.1, h.2.1, h.2.2.wide fun _ _ e => e ▸ (.inl rfl : p.C p.gs)⟩
theorem Fr.ofC {p : Pl} {w w' : World} (h : Below w.heap.size w w') : Fr p.C w w' := Fr.of h
theorem SyAt.un {w : World} {p : Pl} {s : St} (h : SyAt w p s) : ∃ AU AL cU cL, w.cell? ⟨p.gs, 0, none⟩ = some (.slice AU s.u.U.length cU) ∧ w.cell? ⟨p.gs, 1, none⟩ = some (.slice AL s.u.L.length cL) ∧ UnRd w w.heap.size AU AL cU cL s.u := by
  obtain ⟨AU, AL, AT, cU, cL, cT, hb, h1, _, _⟩ := h.box
  exact ⟨AU, AL, cU, cL, hb.cell 0, hb.cell 1, h1.here⟩
theorem put_sm {s : St} (h : Sy.Ok s) (e : En) (h0 : (Tr.putU s.u e).2 = 0) : UnSm (Tr.putU s.u e).1 := unSm_fine ((Tr.putU_tree h.1 e).2 h0).1

set_option maxHeartbeats 2000000 in
set_option maxRecDepth 100000 in
theorem write_any (p : Pl) (s : St) (n i : Nat) (t : ByteArray) (w : World) (h : SyAt w p s) (hi : Sy.In n s) (hn : n ≤ 1000) (hk : Sy.Ok s) (hl : i < s.obs.length) (ht : t.size ≤ 1000000) :
    Calls Tryz.prog 106 #[.pointer (some ⟨p.gs, 0, none⟩), .pointer (some ⟨p.f i, 0, none⟩), .string t] w (SyRel p (Sy.write s i t) w) := by
  obtain ⟨AU, AL, cU, cL, g0, g1, hrU⟩ := h.un
  have hgs : p.gs < w.heap.size := h.c_lt h.gs_c
  have hA := Lib.hid h
  obtain ⟨A, c, hf, hfo, hfc⟩ := h.ob i hl
  have HFO := Lib.hid hfo
  have hgb := h.gs_f hl
  have cT := text_any p s n i w h hi hn hk hl
  have hsz : (Sy.obAt s i).p.size ≤ 80 * (n + 1) := (hi.obAt i).1
  unfold SyRel
  obtain ⟨R, hR⟩ : ∃ R, R = Sy.write s i t := ⟨_, rfl⟩
  rw [← hR]
  unfold Sy.write at hR
  have HR := Lib.hid hR
  clear hR hi h hfo
  have HOB : Hid (Sy.fileEn (Sy.obAt s i).P t = ⟨(Sy.obAt s i).p, 1, t, false⟩) := Lib.hid (by unfold Sy.fileEn; rw [show Sy.bytesOf (Sy.obAt s i).P = (Sy.obAt s i).p from rfl])
  obtain ⟨o, ho⟩ : ∃ o, o = Sy.obAt s i := ⟨_, rfl⟩
  have HOO := Lib.hid ho
  rw [← ho] at HR HOB hf HFO hfc hsz
  clear ho
  obtain ⟨pa, ot, l⟩ := o
  have hP : (⟨pa, ot, l⟩ : Ob).P = pa.data.toList := rfl
  rw [hP] at HR HOB
  rw [HOB.out] at HR
  dsimp only at hf hsz HFO hfc
  obtain ⟨f0, f1, f2, ff, fz⟩ := hf.three
  generalize hgf : p.f i = gf at *
  have HGF := Lib.hid hgf
  clear hgf
  clear HOB hP
  go_enter Tryz.func106, Tryz.ntmps106
  rcases t1 : decide ((100 : Int) < (t.size : Int)) with _ | _
  rotate_left
  · have HF : Hid (R = (s, 4)) := Lib.hid (by rw [HR.out, if_pos (by have := of_decide_eq_true t1; omega)])
    clear HR
    go_wp2_with fail
    go_ret
    exact ⟨by rw [HF.out]; rfl, by rw [HF.out]; exact hA.out, Fr.refl _ _⟩
  have HR := Lib.hid (HR.out.trans (if_neg (by have := of_decide_eq_false t1; omega)))
  have ht100 : t.size ≤ 100 := by have := of_decide_eq_false t1; omega
  rcases empty_cases pa with ⟨hE, e1, e2⟩ | ⟨hE, e1, e2⟩
  · have HF := Lib.hid (HR.out.trans (if_pos hE))
    clear HR
    go_wp2_with fail
    go_ret
    have hf9 : Fr (fun k => k = gf) w (w.setCell ⟨gf, 1, none⟩ (.string t)) := (Fr.refl (fun k => k = gf) w).at_ 1 _
    refine ⟨by rw [HF.out]; rfl, ?_, by rw [← HGF.out] at hf9 ⊢; exact hf9.wide fun _ _ e => e ▸ hA.out.f_c hl⟩
    rw [HF.out]
    refine hA.out.setOb hl (by rw [HGF.out]; exact hf9) (fun o => { o with t := t }) ?_
    rw [← HOO.out, HGF.out]
    exact ⟨A, c, hf.set_ 1 _, HFO.out.on (hf9.wide (X := p.X) fun _ _ e => by rw [e, ← HGF.out]; exact Pl.cx (hA.out.f_c hl)) (Sub.refl _ _), hfc⟩
  have HR := Lib.hid (HR.out.trans (if_neg hE))
  obtain ⟨tx, htx⟩ : ∃ tx, tx = Sy.textOf s i := ⟨_, rfl⟩
  rw [← htx] at HR cT
  clear htx
  go_wp2_with fail
  refine cT.mono ?_
  rintro e w1 ⟨rfl, hb1⟩
  have hA1 := Lib.hid (hA.out.below hb1)
  have g0 := (hb1.cell (p := ⟨p.gs, 0, none⟩) hgs).trans g0
  have g1 := (hb1.cell (p := ⟨p.gs, 1, none⟩) hgs).trans g1
  have f0 := (hb1.cell (p := ⟨gf, 0, none⟩) fz).trans f0
  have hrU : UnRd w1 w1.heap.size AU AL cU cL s.u := (hrU.below hb1).more hb1.size
  rcases t2 : (t.toList == tx.toList) with _ | _
  rotate_left
  · have HF := Lib.hid (HR.out.trans (if_pos (by rw [toList_beq] at t2; simpa using t2)))
    clear HR
    go_wp2_with fail
    go_ret
    exact ⟨by rw [HF.out]; rfl, by rw [HF.out]; exact hA1.out, Fr.of hb1⟩
  have HF := Lib.hid (HR.out.trans (if_neg (by rw [toList_beq] at t2; simpa using t2)))
  clear HR cT
  have cP := fun W q => putU_any AU AL cU cL s.u pa 1 t false W q (unSm_fine hk.1) (by omega) (by omega)
  have HSM := Lib.hid (put_sm hk ⟨pa, 1, t, false⟩)
  generalize Tr.putU s.u ⟨pa, 1, t, false⟩ = q at cP HF HSM
  have hU : ∀ W, Below w1.heap.size w1 W → UnRd W W.heap.size AU AL cU cL s.u := fun W b => (hrU.below b).more b.size
  go_upto_region 8 with fail
  go_region_with (first | (go_at_call 69; refine (cP _ (hU _ (Below.refl _ w1).drew)).mono ?_; rintro e w6 ⟨A6, A6', c6, c6', rfl, hf6, hb6⟩) | (go_at_call 40; refine (sySet_any p s A6 A6' c6 c6' q w6 (hA1.out.below (((Below.refl _ w1).drew).trans hb6)) (fun _ => UnFar.off hf6 fun k hk => hA1.out.x_lt hk) HSM.out).mono ?_; rintro e w7 ⟨rfl, hA7, hf7⟩))
  all_goals
    go_wp2_with fail
    go_ret
    exact ⟨by rw [HF.out]; rfl, by rw [HF.out]; exact hA7, (((Fr.of hb1 : Fr p.C w w1).thenB ((Below.refl _ w1).drew)).thenB hb6).trans hf7 fun _ _ e => e ▸ (.inl rfl : p.C p.gs)⟩
end Go.Proofs.YtjppfhgkanbemacGreatDoor

namespace Go.Proofs.YtjppfhgkanbemacGreatDoor
open Go.RowKit Go.Shelf Go.Sort

theorem ext_data (x : ByteArray) (i j : Nat) : (x.extract i j).data.toList = (x.data.toList.take j).drop i := by
  rw [ByteArray.data_extract, Array.toList_extract, List.extract_eq_take_drop, List.drop_take]
theorem read_text (tx : ByteArray) {a n : Int} (h0 : 0 ≤ a) (hn : 0 ≤ n) : (tx.extract (min a (tx.size : Int)).toNat tx.size).extract 0 (min n ((tx.size - (min a (tx.size : Int)).toNat : Nat) : Int)).toNat = Sy.bytesOf ((tx.data.toList.drop a.toNat).take n.toNat) := by
  refine bs_ext ?_
  rw [ext_data, ext_data, List.drop_zero]
  show _ = (tx.data.toList.drop a.toNat).take n.toNat
  have hl : tx.data.toList.length = tx.size := size_length tx
  rw [List.take_of_length_le (l := tx.data.toList) (by omega)]
  have e1 : tx.data.toList.drop (min a (tx.size : Int)).toNat = tx.data.toList.drop a.toNat := by
    rcases Int.le_total a (tx.size : Int) with h | h
    · rw [Int.min_eq_left h]
    · rw [Int.min_eq_right h, List.drop_of_length_le (by omega), List.drop_of_length_le (by omega)]
  have e2 : (tx.data.toList.drop a.toNat).length = tx.size - (min a (tx.size : Int)).toNat := by rw [← e1, List.length_drop, hl]
  rw [e1, ← e2]
  rcases Int.le_total n ((tx.data.toList.drop a.toNat).length : Int) with h | h
  · rw [Int.min_eq_left h]
  · rw [Int.min_eq_right h, List.take_of_length_le (by omega), List.take_of_length_le (by omega)]
theorem read_len (tx : ByteArray) (a n : Nat) : ((tx.data.toList.drop a).take n).length ≤ tx.size := by
  rw [List.length_take, List.length_drop, size_length]; omega

set_option maxHeartbeats 2000000 in
set_option maxRecDepth 100000 in
theorem callRead_any (p : Pl) (s : St) (n d b o : Nat) (c : Ca) (w : World) (h : SyAt w p s) (hi : Sy.In n s) (hn : n ≤ 1000) (hk : Sy.Ok s) (hl : d < s.des.length) (hc : CaAt w b o c) :
    Calls Tryz.prog 78 #[.pointer (some ⟨p.gs, 0, none⟩), .pointer (some ⟨b, o, none⟩), .pointer (some ⟨p.d d, 0, none⟩)] w (SyAns p (Sy.callRead s c d) w) := by
  have hi0 := hi
  have hA := Lib.hid h
  have hd := h.de d hl
  unfold SyDe at hd
  obtain ⟨hdo, hda, hda2, _, _, hfb⟩ := hi.deAt hl
  have htz := hi.textOf hk (Sy.deAt s d).o
  have cT := fun W q => text_any p s n (Sy.deAt s d).o W q hi hn hk hdo
  obtain ⟨R, hR⟩ : ∃ R, R = Sy.callRead s c d := ⟨_, rfl⟩
  rw [← hR]
  unfold Sy.callRead at hR
  have HR := Lib.hid hR
  clear hR hi h
  obtain ⟨tx, htx⟩ : ∃ tx, tx = Sy.textOf s (Sy.deAt s d).o := ⟨_, rfl⟩
  rw [← htx] at HR cT htz
  clear htx
  generalize hdd : Sy.deAt s d = de at *
  have HDD := Lib.hid hdd
  clear hdd
  obtain ⟨io, fl, at_, refs⟩ := de
  dsimp only at *
  have hA0 := hA.out.plus (.cells #[.int .i64 0, .int .i64 0, .string ⟨#[]⟩, .slice none 0 0] 41)
  have hB0 := (Below.refl w.heap.size w).alloc (Nat.le_refl _) (.cells #[.int .i64 0, .int .i64 0, .string ⟨#[]⟩, .slice none 0 0] 41)
  have hz0 := Blk.new w 41 [.int .i64 0, .int .i64 0, .string ⟨#[]⟩, .slice none 0 0]
  have hd := hd.alloc (.cells #[.int .i64 0, .int .i64 0, .string ⟨#[]⟩, .slice none 0 0] 41)
  have hc := hc.below hB0
  have hx1 : w.heap.size ≠ p.d d := fun e => by have := Blk.lt (hA.out.de d hl); omega
  go_enter Tryz.func78, Tryz.ntmps78
  go_upto_region 1 with fail
  generalize w.alloc (.cells #[.int .i64 0, .int .i64 0, .string ⟨#[]⟩, .slice none 0 0] 41) = w0 at *
  obtain ⟨d0, d1, d2, d3, df, dz⟩ := hd.four
  unfold ptr at d0
  obtain ⟨z0, z1, z2, z3, zf, zz⟩ := hz0.four
  obtain ⟨hcb, c0, c1, c2, c3, c4, c5, c6, c7, c8⟩ := hc
  have hb0 : (bits BinOp.and IntKind.i64 fl 1 == 0) = !Sy.bit fl 0 := bit_is hfb.1 hfb.2 0
  rcases tb : Sy.bit fl 0 with _ | _
  · have HF := Lib.hid (HR.out.trans (if_pos tb))
    rw [tb] at hb0
    clear HR
    go_wp2_with fail
    refine bodyPost_ret (v := .agg #[.int .i64 8, .int .i64 0, .string ⟨#[]⟩, .slice none 0 0]) ?_ rfl ?_
    · simp [results, Tryz.results78, go_sem, z0, z1, z2, z3]
    rw [HF.out]
    exact ans_end (a := .no 8) (Nat.le_refl _) hA0 rfl rfl (Fr.of hB0) (Sub.refl _ _) rfl
  have HR := Lib.hid (HR.out.trans (if_neg (by simp [tb])))
  rw [tb] at hb0
  have hb0 : (bits BinOp.and IntKind.i64 fl 1 == 0) = false := hb0
  by_cases hr : c.n < 0 ∨ 1000 < c.n
  · have HF := Lib.hid (HR.out.trans (if_pos hr))
    have tn : decide (c.n < 0) = true ∨ (decide (c.n < 0) = false ∧ decide (1000 < c.n) = true) := by
      rcases Decidable.em (c.n < 0) with q | q
      · exact .inl (decide_eq_true q)
      · exact .inr ⟨decide_eq_false q, decide_eq_true (hr.resolve_left q)⟩
    clear HR hr
    rcases tn with tn | ⟨tn, tm⟩
    all_goals
      go_wp2_with fail
      refine bodyPost_ret (v := .agg #[.int .i64 3, .int .i64 0, .string ⟨#[]⟩, .slice none 0 0]) ?_ rfl ?_
      · simp [results, Tryz.results78, go_sem, z0, z1, z2, z3]
      rw [HF.out]
      exact ans_end (a := .no 3) (Nat.le_refl _) hA0 rfl rfl (Fr.of hB0) (Sub.refl _ _) rfl
  have HR := Lib.hid (HR.out.trans (if_neg hr))
  have tn : decide (c.n < 0) = false := decide_eq_false fun q => hr (.inl q)
  have tm : decide (1000 < c.n) = false := decide_eq_false fun q => hr (.inr q)
  have hn0 : 0 ≤ c.n := by omega
  have hn1 : c.n ≤ 1000 := by omega
  clear hr
  go_wp2_with fail
  refine (cT w0 (hA0.pop p.e fun _ q => .inl q)).mono ?_
  rintro e w1 ⟨rfl, hb1⟩
  have hA1 := hA0.below hb1
  have hz1 := hz0.below hb1 hz0.lt
  have hd1 := hd.below hb1 hd.lt
  have hc1 := (show CaAt w0 b o c from ⟨hcb, c0, c1, c2, c3, c4, c5, c6, c7, c8⟩).below hb1
  have hB1 := hB0.trans (hb1.mono hB0.size)
  clear d0 d1 d2 d3 df dz z0 z1 z2 z3 zf zz hcb c0 c1 c2 c3 c4 c5 c6 c7 c8 hA0 hz0 hd hb1 hB0 cT
  obtain ⟨d0, d1, d2, d3, df, dz⟩ := hd1.four
  unfold ptr at d0
  obtain ⟨z0, z1, z2, z3, zf, zz⟩ := hz1.four
  obtain ⟨hcb, c0, c1, c2, c3, c4, c5, c6, c7, c8⟩ := hc1
  have HTV := Lib.hid (read_text tx (a := at_) (n := c.n) hda hn0)
  have HLE := Lib.hid (read_len tx (at_.toNat) c.n.toNat)
  obtain ⟨t, ht⟩ : ∃ t, t = (tx.data.toList.drop at_.toNat).take c.n.toNat := ⟨_, rfl⟩
  rw [← ht] at HR HTV HLE
  clear ht
  go_upto_region 8 with fail
  rw [HTV.out]
  clear HTV
  obtain ⟨tv, htv⟩ : ∃ tv, tv = Sy.bytesOf t := ⟨_, rfl⟩
  have hts : (t.length : Int) = (tv.size : Int) := by rw [htv]; rfl
  have htl : tv.size ≤ 100 := by
    have h1 := HLE.out
    have h2 : tv.size = t.length := by rw [htv]; rfl
    omega
  have HF := Lib.hid (HR.out)
  rw [← htv] at HF ⊢
  rw [hts] at HF
  clear hts htv HR HLE
  have hw : IntKind.i64.wrap (at_ + (tv.size : Int)) = at_ + (tv.size : Int) := IntWalk.i64_in _ (by omega)
  have hx2 : ¬ p.d d = w.heap.size := fun e => hx1 e.symm
  have hA2 := hA1.setDe hl ((Fr.refl (fun k => k = p.d d) w1).at_ 2 (.int .i64 (at_ + (tv.size : Int)))) (fun x => { x with at_ := x.at_ + (tv.size : Int) }) (by
    rw [HDD.out]; exact hd1.set_ 2 _)
  have hz2 := hz1.far (p := ⟨p.d d, 2, none⟩) hx1 (.int .i64 (at_ + (tv.size : Int)))
  have hF2 : Fr p.C w (w1.setCell ⟨p.d d, 2, none⟩ (.int .i64 (at_ + (tv.size : Int)))) := Fr.setCell (Fr.of hB1) (p := ⟨p.d d, 2, none⟩) (hA.out.d_c hl) _
  go_upto_region 9 with fail
  clear d0 d1 d2 d3 df dz z0 z1 z2 z3 zf zz hcb c0 c1 c2 c3 c4 c5 c6 c7 c8
  generalize w1.setCell ⟨p.d d, 2, none⟩ (.int .i64 (at_ + (tv.size : Int))) = w2 at *
  obtain ⟨z0, z1, z2, z3, zf, zz⟩ := hz2.four
  go_wp2_with fail
  refine bodyPost_ret (v := .agg #[.int .i64 0, .int .i64 (tv.size : Int), .string tv, .slice none 0 0]) ?_ rfl ?_
  · simp [results, Tryz.results78, go_sem, z0, z1, z2, z3]
  rw [HF.out]
  exact ans_end (a := ⟨0, (tv.size : Int), tv, []⟩) (Nat.le_refl _) hA2 rfl rfl hF2 (Sub.refl _ _) rfl
end Go.Proofs.YtjppfhgkanbemacGreatDoor

namespace Go.Proofs.YtjppfhgkanbemacGreatDoor
open Go.RowKit Go.Shelf Go.Sort

theorem sized_len (t : Pt.Bs) (n : Nat) : (Sy.sized t n).length = n := by
  unfold Sy.sized
  rw [List.length_append, List.length_take, List.length_replicate]; omega
theorem write_mid (l x : ByteArray) {a e : Nat} : (l.extract 0 a ++ x) ++ l.extract e l.size = Sy.bytesOf (l.data.toList.take a ++ x.data.toList ++ l.data.toList.drop e) := by
  refine bs_ext ?_
  rw [data_app, data_app, ext_data, ext_data, List.drop_zero]
  have hl : l.data.toList.length = l.size := size_length l
  rw [List.take_of_length_le (l := l.data.toList) (i := l.size) (by omega)]
  rfl

set_option maxHeartbeats 2000000 in
set_option maxRecDepth 100000 in
theorem callWrite_any (p : Pl) (s : St) (n d b o : Nat) (c : Ca) (w : World) (h : SyAt w p s) (hi : Sy.In n s) (hn : n ≤ 1000) (hk : Sy.Ok s) (hl : d < s.des.length) (hc : CaAt w b o c) (hcb2 : ¬ p.C b) (hcs : CaSm c) :
    Calls Tryz.prog 79 #[.pointer (some ⟨p.gs, 0, none⟩), .pointer (some ⟨b, o, none⟩), .pointer (some ⟨p.d d, 0, none⟩)] w (SyAns p (Sy.callWrite s c d) w) := by
  have HI := Lib.hid hi
  have HK := Lib.hid hk
  have hA := Lib.hid h
  have hd := h.de d hl
  unfold SyDe at hd
  obtain ⟨hdo, hda, hda2, _, _, hfb⟩ := hi.deAt hl
  have htz := hi.textOf hk (Sy.deAt s d).o
  have cT := fun W q => text_any p s n (Sy.deAt s d).o W q hi hn hk hdo
  have hcx := hcs.2.2
  obtain ⟨R, hR⟩ : ∃ R, R = Sy.callWrite s c d := ⟨_, rfl⟩
  rw [← hR]
  unfold Sy.callWrite at hR
  dsimp only at hR
  have HR := Lib.hid hR
  clear hR hi h hk
  obtain ⟨tx, htx⟩ : ∃ tx, tx = Sy.textOf s (Sy.deAt s d).o := ⟨_, rfl⟩
  rw [← htx] at HR cT htz
  clear htx
  generalize hdd : Sy.deAt s d = de at *
  have HDD := Lib.hid hdd
  clear hdd
  obtain ⟨io, fl, at_, refs⟩ := de
  dsimp only at *
  obtain ⟨am, rfl⟩ : ∃ m : Nat, at_ = m := ⟨at_.toNat, by omega⟩
  have hA0 := hA.out.plus (.cells #[.int .i64 0, .int .i64 0, .string ⟨#[]⟩, .slice none 0 0] 41)
  have hB0 := (Below.refl w.heap.size w).alloc (Nat.le_refl _) (.cells #[.int .i64 0, .int .i64 0, .string ⟨#[]⟩, .slice none 0 0] 41)
  have hz0 := Blk.new w 41 [.int .i64 0, .int .i64 0, .string ⟨#[]⟩, .slice none 0 0]
  have hc0 := hc.below hB0
  have hd := hd.alloc (.cells #[.int .i64 0, .int .i64 0, .string ⟨#[]⟩, .slice none 0 0] 41)
  have hx1 : w.heap.size ≠ p.d d := fun e => by have := Blk.lt (hA.out.de d hl); omega
  have hx2 : ¬ p.d d = w.heap.size := fun e => hx1 e.symm
  have hcw : ¬ b = w.heap.size := fun e => by have := hc.1; omega
  go_enter Tryz.func79, Tryz.ntmps79
  go_upto_region 1 with fail
  generalize w.alloc (.cells #[.int .i64 0, .int .i64 0, .string ⟨#[]⟩, .slice none 0 0] 41) = w0 at *
  have HC0 := Lib.hid hc0
  obtain ⟨d0, d1, d2, d3, df, dz⟩ := hd.four
  unfold ptr at d0
  obtain ⟨z0, z1, z2, z3, zf, zz⟩ := hz0.four
  have hb1 : (bits BinOp.and IntKind.i64 fl 2 == 0) = !Sy.bit fl 1 := bit_is hfb.1 hfb.2 1
  rcases tb : Sy.bit fl 1 with _ | _
  · have HF := Lib.hid (HR.out.trans (if_pos tb))
    rw [tb] at hb1
    clear HR
    go_wp2_with fail
    refine bodyPost_ret (v := .agg #[.int .i64 8, .int .i64 0, .string ⟨#[]⟩, .slice none 0 0]) ?_ rfl ?_
    · simp [results, Tryz.results79, go_sem, z0, z1, z2, z3]
    rw [HF.out]
    exact ans_end (a := (.no 8)) (Nat.le_refl _) hA0 rfl rfl (Fr.of hB0) (Sub.refl _ _) rfl
  have HR := Lib.hid (HR.out.trans (if_neg (by simp [tb])))
  rw [tb] at hb1
  have hb1 : (bits BinOp.and IntKind.i64 fl 2 == 0) = false := hb1
  go_wp2_with fail
  refine (cT w0 (hA0.pop p.e fun _ q => .inl q)).mono ?_
  rintro e w1 ⟨rfl, hb⟩
  have hA1 := hA0.below hb
  have hz1 := hz0.below hb hz0.lt
  have hd1 := hd.below hb hd.lt
  have HC1 := Lib.hid (HC0.out.below hb)
  have hB1 := hB0.trans (hb.mono hB0.size)
  clear d0 d1 d2 d3 df dz z0 z1 z2 z3 zf zz hA0 hz0 hd hb hB0 cT hc0 HC0 hb1
  obtain ⟨d0, d1, d2, d3, df, dz⟩ := hd1.four
  unfold ptr at d0
  obtain ⟨z0, z1, z2, z3, zf, zz⟩ := hz1.four
  obtain ⟨hcb, c0, c1, c2, c3, c4, c5, c6, c7, c8⟩ := HC1.out
  rcases t16 : (c.kind == 16) with _ | _
  rotate_left
  · have HR := Lib.hid (HR.out.trans (if_pos (by simpa using t16)))
    by_cases hr : c.n < 0 ∨ 100 < c.n
    · have HF := Lib.hid (HR.out.trans (if_pos hr))
      have tn : decide (c.n < 0) = true ∨ (decide (c.n < 0) = false ∧ decide (100 < c.n) = true) := by
        rcases Decidable.em (c.n < 0) with q | q
        · exact .inl (decide_eq_true q)
        · exact .inr ⟨decide_eq_false q, decide_eq_true (hr.resolve_left q)⟩
      clear HR hr
      rcases tn with tn | ⟨tn, tm⟩
      all_goals
        go_wp2_with fail
        refine bodyPost_ret (v := .agg #[.int .i64 3, .int .i64 0, .string ⟨#[]⟩, .slice none 0 0]) ?_ rfl ?_
        · simp [results, Tryz.results79, go_sem, z0, z1, z2, z3]
        rw [HF.out]
        exact ans_end (a := (.no 3)) (Nat.le_refl _) hA1 rfl rfl (Fr.of hB1) (Sub.refl _ _) rfl
    have HR := Lib.hid (HR.out.trans (if_neg hr))
    obtain ⟨m, hm⟩ : ∃ m : Nat, c.n = m := ⟨c.n.toNat, by omega⟩
    rw [hm] at c3 HR
    have tn : decide ((m : Int) < 0) = false := decide_eq_false (by omega)
    have tm : decide (100 < (m : Int)) = false := decide_eq_false (by omega)
    have hm1 : m ≤ 100 := by omega
    rw [Int.toNat_natCast] at HR
    clear hr hm
    have cS := fun W => sized_any tx m W (by omega) (by omega)
    have hsl := sized_len tx.data.toList m
    generalize Sy.sized tx.data.toList m = sz at cS HR hsl
    obtain ⟨tv, htv⟩ : ∃ tv, tv = Sy.bytesOf sz := ⟨_, rfl⟩
    have htl : tv.size ≤ 1000000 := by rw [htv]; show sz.length ≤ _; omega
    rw [← htv] at cS HR
    clear htv hsl
    have cW := fun W q => write_any (p.plus w.heap.size) s n io tv W q HI.out hn HK.out hdo htl
    unfold SyRel at cW
    generalize Sy.write s io tv = q at cW HR
    have HF := Lib.hid HR.out
    clear HR
    go_upto_region 7 with fail
    go_region_with (first | (go_at_call 107; refine (cS _).mono ?_; rintro e w6 ⟨rfl, hb6⟩; have hb6' : Below w1.heap.size w1 w6 := ((Below.refl _ w1).drew).trans hb6; obtain ⟨d0, d1, d2, d3, df, dz⟩ := (hd1.below hb6' hd1.lt).four; unfold ptr at d0; obtain ⟨hcb, c0, c1, c2, c3, c4, c5, c6, c7, c8⟩ := HC1.out.below hb6') | (go_at_call 106; refine (cW _ (hA1.below hb6')).mono ?_; rintro e w7 ⟨rfl, hA7, hF7⟩; have hF9 : Fr p.C w w7 := ((Fr.of hB1 : Fr p.C w w1).thenB hb6').trans hF7.sameC (Sub.refl _ _); obtain ⟨z0, z1, z2, z3, zf, zz⟩ := ((hz1.below hb6' hz1.lt).frC (hA1.below hb6') hF7.sameC).four))
    all_goals
      go_wp2_with fail
      refine bodyPost_ret (v := .agg #[.int .i64 q.2, .int .i64 0, .string ⟨#[]⟩, .slice none 0 0]) ?_ rfl ?_
      · simp [results, Tryz.results79, go_sem, z0, z1, z2, z3]
      rw [HF.out]
      exact ans_end (a := (.no q.2)) (Nat.le_refl _) hA7 rfl rfl hF9 (Sub.refl _ _) rfl
  have HR := Lib.hid (HR.out.trans (if_neg (by simpa using t16)))
  have hb4 : (bits BinOp.and IntKind.i64 fl 4 != 0) = Sy.bit fl 2 := bit_ne hfb.1 hfb.2 2
  obtain ⟨aa, haa⟩ : ∃ aa : Nat, aa = if Sy.bit fl 2 = true then tx.data.toList.length else am := ⟨_, rfl⟩
  rw [Int.toNat_natCast, ← haa] at HR
  have haz : aa ≤ 1000 := by
    rw [haa]
    split
    · rw [size_length]; omega
    · omega
  obtain ⟨ap, hap⟩ : ∃ b, b = Sy.bit fl 2 := ⟨_, rfl⟩
  rw [← hap] at haa hb4
  clear hap
  go_upto_if 65 with fail
  go_cut [8] (fun v wx => v = .int .i64 (aa : Int) ∧ w1 = wx)
  case first =>
    cases ap
    · have e : aa = am := haa
      go_wp2_with fail
      go_meet
      case rel => exact ⟨by rw [e], rfl⟩
    · have e : (aa : Int) = (tx.size : Int) := by rw [haa]; show ((tx.data.toList.length : Nat) : Int) = _; rw [size_length]
      go_wp2_with fail
      go_meet
      case rel => exact ⟨by rw [e], rfl⟩
  case rest =>
  obtain ⟨rfl, rfl⟩ := hcut
  clear haa hb4
  have hsx : c.text.data.toList.length = c.text.size := size_length _
  rw [hsx] at HR
  clear hsx
  obtain ⟨en, hen⟩ : ∃ e : Nat, e = aa + c.text.size := ⟨_, rfl⟩
  rw [← hen] at HR
  have hwe : IntKind.i64.wrap ((aa : Int) + (c.text.size : Int)) = (aa : Int) + (c.text.size : Int) := IntWalk.i64_in _ (by omega)
  have hen2 : (aa : Int) + (c.text.size : Int) = (en : Int) := by omega
  have hae : aa ≤ en := by omega
  have hxe : c.text.size ≤ en := by omega
  clear hen
  go_upto_region 12 with fail
  try rw [hen2]
  clear hwe hen2
  rcases tx0 : ((c.text.size : Int) == 0) with _ | _
  rotate_left
  · have hx0 : c.text.data.toList = [] := List.length_eq_zero_iff.1 (by rw [size_length]; simpa using tx0)
    have HF := Lib.hid (HR.out.trans (if_pos hx0))
    clear HR
    have hA2 := hA1.setDe hl ((Fr.refl (fun k => k = p.d d) w1).at_ 2 (.int .i64 (aa : Int))) (fun x => { x with at_ := (aa : Int) }) (by
      rw [HDD.out]; exact hd1.set_ 2 _)
    have hz2 := hz1.far (p := ⟨p.d d, 2, none⟩) hx1 (.int .i64 (aa : Int))
    have hF2 : Fr p.C w (w1.setCell ⟨p.d d, 2, none⟩ (.int .i64 (aa : Int))) := Fr.setCell (Fr.of hB1) (p := ⟨p.d d, 2, none⟩) (hA.out.d_c hl) _
    go_upto_region 14 with fail
    clear d0 d1 d2 d3 df dz z0 z1 z2 z3 zf zz hcb c0 c1 c2 c3 c4 c5 c6 c7 c8
    generalize w1.setCell ⟨p.d d, 2, none⟩ (.int .i64 (aa : Int)) = w2 at *
    obtain ⟨z0, z1, z2, z3, zf, zz⟩ := hz2.four
    go_wp2_with fail
    refine bodyPost_ret (v := .agg #[.int .i64 0, .int .i64 0, .string ⟨#[]⟩, .slice none 0 0]) ?_ rfl ?_
    · simp [results, Tryz.results79, go_sem, z0, z1, z2, z3]
    rw [HF.out]
    exact ans_end (a := .ok) (Nat.le_refl _) hA2 rfl rfl hF2 (Sub.refl _ _) rfl
  have hx0 : ¬ c.text.data.toList = [] := fun e => by
    have h1 := congrArg List.length e
    rw [size_length] at h1
    simp [h1] at tx0
  have HR := Lib.hid (HR.out.trans (if_neg hx0))
  rcases te : decide ((100 : Int) < (en : Int)) with _ | _
  rotate_left
  · have HF := Lib.hid (HR.out.trans (if_pos (by have := of_decide_eq_true te; omega)))
    clear HR
    go_wp2_with fail
    refine bodyPost_ret (v := .agg #[.int .i64 4, .int .i64 0, .string ⟨#[]⟩, .slice none 0 0]) ?_ rfl ?_
    · simp [results, Tryz.results79, go_sem, z0, z1, z2, z3]
    rw [HF.out]
    exact ans_end (a := (.no 4)) (Nat.le_refl _) hA1 rfl rfl (Fr.of hB1) (Sub.refl _ _) rfl
  have HR := Lib.hid (HR.out.trans (if_neg (by have := of_decide_eq_false te; omega)))
  have hez : en ≤ 100 := by have := of_decide_eq_false te; omega
  have hst : tx.data.toList.length = tx.size := size_length _
  rw [hst] at HR
  clear hst
  obtain ⟨mx, hmx⟩ : ∃ m : Nat, m = max en tx.size := ⟨_, rfl⟩
  have hmi : max (en : Int) (tx.size : Int) = (mx : Int) := by omega
  have hm1 : en ≤ mx := by omega
  have hm2 : mx ≤ 100 := by omega
  rw [← hmx] at HR
  clear hmx
  have cS := fun W => sized_any tx mx W (by omega) (by omega)
  have hsl := sized_len tx.data.toList mx
  generalize Sy.sized tx.data.toList mx = sz at cS HR hsl
  obtain ⟨lv, hlv⟩ : ∃ lv, lv = Sy.bytesOf sz := ⟨_, rfl⟩
  have hlz : lv.size = mx := by rw [hlv]; exact hsl
  have hld : sz = lv.data.toList := by rw [hlv]; rfl
  rw [← hlv] at cS
  rw [hld] at HR
  clear hlv hsl hld
  have HWM := Lib.hid (write_mid lv c.text (a := aa) (e := en))
  obtain ⟨nw, hnw⟩ : ∃ nw, nw = Sy.bytesOf (lv.data.toList.take aa ++ c.text.data.toList ++ lv.data.toList.drop en) := ⟨_, rfl⟩
  have hnz : nw.size ≤ 1000000 := by
    rw [hnw]
    show (lv.data.toList.take aa ++ c.text.data.toList ++ lv.data.toList.drop en).length ≤ _
    rw [List.length_append, List.length_append, List.length_take, List.length_drop, size_length, size_length]; omega
  rw [← hnw] at HR HWM
  clear hnw
  have cW := fun W q => write_any (p.plus w.heap.size) s n io nw W q HI.out hn HK.out hdo hnz
  unfold SyRel at cW
  have hds := Sy.write_des (s := s) io nw
  generalize Sy.write s io nw = q at cW HR hds
  go_wp2_with fail
  clear te tx0
  refine (cS w1).mono ?_
  rintro e w2 ⟨rfl, hb⟩
  have hA2 := hA1.below hb
  have hz2 := hz1.below hb hz1.lt
  have hd2 := hd1.below hb hd1.lt
  have HC2 := Lib.hid (HC1.out.below hb)
  have hB2 := hB1.trans (hb.mono hB1.size)
  clear d0 d1 d2 d3 df dz z0 z1 z2 z3 zf zz hcb c0 c1 c2 c3 c4 c5 c6 c7 c8 hA1 hz1 hd1 hb hB1 cS HC1 hmi
  obtain ⟨d0, d1, d2, d3, df, dz⟩ := hd2.four
  unfold ptr at d0
  obtain ⟨hcb, c0, c1, c2, c3, c4, c5, c6, c7, c8⟩ := HC2.out
  have hq1 : aa ≤ lv.size := by omega
  have hq2 : en ≤ lv.size := by omega
  have hq3 : lv.size ≤ 100 := by omega
  have hWM := HWM.out
  have hbd : Below w2.heap.size w2 w2.drew := (Below.refl _ w2).drew
  have hi1 : (0 : Int) ≤ (aa : Int) := Int.natCast_nonneg _
  have hi2 : (aa : Int) ≤ (lv.size : Int) := by omega
  have hi3 : (0 : Int) ≤ (en : Int) := Int.natCast_nonneg _
  have hi4 : (en : Int) ≤ (lv.size : Int) := by omega
  have k2 : ¬ (9223372036854775807 < min aa lv.size + c.text.size) := by omega
  have k3 : ¬ (9223372036854775807 < min aa lv.size + c.text.size + (lv.size - en)) := by omega
  have k4 : ¬ (9223372036854775807 < aa + c.text.size) := by omega
  have k5 : ¬ (9223372036854775807 < aa + c.text.size + (lv.size - en)) := by omega
  have k6 : ¬ (9223372036854775807 < (lv.extract 0 aa).size + c.text.size) := by rw [ByteArray.size_extract]; omega
  have k7 : ¬ (9223372036854775807 < (lv.extract 0 aa).size + c.text.size + (lv.extract en lv.size).size) := by rw [ByteArray.size_extract, ByteArray.size_extract]; omega
  have k8 : ¬ (9223372036854775807 < (lv.extract 0 aa ++ c.text).size + (lv.extract en lv.size).size) := by rw [ByteArray.size_append, ByteArray.size_extract, ByteArray.size_extract]; omega
  clear hlz
  have S7 : ∀ w7, SyAt w7 (p.plus w.heap.size) q.1 → Fr (p.plus w.heap.size).C w2.drew w7 → (w7.cell? ⟨p.d d, 0, none⟩ = some (.pointer (some ⟨p.F.getD io 0, 0, none⟩)) ∧ w7.cell? ⟨b, o + 7, none⟩ = some (.string c.text)) := fun w7 hA7 hF7 => by
    have hl7 : d < q.1.des.length := by rw [hds.1]; exact hl
    have h7 := hA7.de d hl7
    rw [show Sy.deAt q.1 d = ⟨io, fl, am, refs⟩ from by unfold Sy.deAt; rw [hds.1]; exact HDD.out] at h7
    have h8 : CaAt w7 b o c := (HC2.out.below hbd).fr hF7.sameC hcb2
    obtain ⟨_, _, _, _, _, _, _, _, q7, _⟩ := h8
    exact ⟨Blk.cell h7 0, q7⟩
  go_upto_region 18 with fail
  go_region_held3 (fun W => W.cell? ⟨p.d d, 0, none⟩ = some (.pointer (some ⟨p.F.getD io 0, 0, none⟩)) ∧ W.cell? ⟨b, o + 7, none⟩ = some (.string c.text)) (first | exact ⟨d0, c7⟩ | exact S7 w7 hA7 hF7 | go_keep) (first | (go_at_call 106; (try rw [hWM]); refine (cW w2.drew (hA2.below hbd)).mono ?_; rintro e w7 ⟨rfl, hA7, hF7⟩))
  all_goals
    have hF9 : Fr p.C w w7 := ((Fr.of hB2 : Fr p.C w w2).thenB hbd).trans hF7.sameC (Sub.refl _ _)
    have hz7 := (hz2.below hbd hz2.lt).frC (hA2.below hbd) hF7.sameC
    rcases tq : (q.2 != 0) with _ | _
    rotate_left
    · have HF := Lib.hid (HR.out.trans (if_pos (by simpa using tq)))
      clear HR
      obtain ⟨z0, z1, z2, z3, zf, zz⟩ := hz7.four
      go_wp2_with fail
      refine bodyPost_ret (v := .agg #[.int .i64 q.2, .int .i64 0, .string ⟨#[]⟩, .slice none 0 0]) ?_ rfl ?_
      · simp [results, Tryz.results79, go_sem, z0, z1, z2, z3]
      rw [HF.out]
      exact ans_end (a := (.no q.2)) (Nat.le_refl _) hA7 rfl rfl hF9 (Sub.refl _ _) rfl
    have HF := Lib.hid (HR.out.trans (if_neg (by simpa using tq)))
    have hl7 : d < q.1.des.length := by rw [hds.1]; exact hl
    have HD7 : Hid (Sy.deAt q.1 d = ⟨io, fl, am, refs⟩) := Lib.hid (by unfold Sy.deAt; rw [hds.1]; exact HDD.out)
    have hd7 : Blk w7 (p.d d) 122 [ptr (p.F.getD io 0), .int .i64 fl, .int .i64 am, .int .i64 refs] := by
      have h := hA7.de d hl7
      rw [HD7.out] at h
      exact h
    have HC7 := Lib.hid ((HC2.out.below hbd).fr hF7.sameC hcb2)
    have hA8 := hA7.setDe hl7 ((Fr.refl (fun k => k = p.d d) w7).at_ 2 (.int .i64 (en : Int))) (fun x => { x with at_ := (en : Int) }) (by
      rw [HD7.out]; exact Blk.set_ hd7 2 _)
    have hz8 := hz7.far (p := ⟨p.d d, 2, none⟩) hx1 (.int .i64 (en : Int))
    have HC8 := Lib.hid (HC7.out.fr ((Fr.refl p.C w7).setCell (p := ⟨p.d d, 2, none⟩) (hA.out.d_c hl) (.int .i64 (en : Int))) hcb2)
    have hF8 : Fr p.C w (w7.setCell ⟨p.d d, 2, none⟩ (.int .i64 (en : Int))) := hF9.setCell (p := ⟨p.d d, 2, none⟩) (hA.out.d_c hl) _
    clear d0 d1 d2 d3 df dz hcb c0 c1 c2 c3 c4 c5 c6 c7 c8
    obtain ⟨d0, d1, d2, d3, df, dz⟩ := Blk.four hd7
    go_upto_region 22 with fail
    clear d0 d1 d2 d3 df dz
    generalize w7.setCell ⟨p.d d, 2, none⟩ (.int .i64 (en : Int)) = w8 at *
    obtain ⟨hcb, c0, c1, c2, c3, c4, c5, c6, c7, c8⟩ := HC8.out
    obtain ⟨z0, z1, z2, z3, zf, zz⟩ := hz8.four
    go_wp2_with fail
    refine bodyPost_ret (v := .agg #[.int .i64 0, .int .i64 (c.text.size : Int), .string ⟨#[]⟩, .slice none 0 0]) ?_ rfl ?_
    · simp [results, Tryz.results79, go_sem, z0, z1, z2, z3]
    rw [HF.out]
    exact ans_end (a := (.num (c.text.size : Int))) (Nat.le_refl _) hA8 rfl rfl hF8 (Sub.refl _ _) rfl
end Go.Proofs.YtjppfhgkanbemacGreatDoor

namespace Go.Proofs.YtjppfhgkanbemacGreatDoor
open Go.RowKit Go.Shelf Go.Sort

set_option maxHeartbeats 2000000 in
set_option maxRecDepth 100000 in
theorem tell_any (p : Pl) (s : St) (b o : Nat) (c : Ca) (w : World) (h : SyAt w p s) (hk : Sy.Ok s) (hc : CaAt w b o c) (hcs : CaSm c) :
    Calls Tryz.prog 55 #[.pointer (some ⟨p.gs, 0, none⟩), .pointer (some ⟨b, o, none⟩)] w (SyAns p (s, Sy.tell s c) w) := by
  have HK := Lib.hid hk
  have hA := Lib.hid h
  have hgs0 : p.gs < w.heap.size := h.c_lt h.gs_c
  have hcp := hcs.1
  obtain ⟨R, hR⟩ : ∃ R, R = Sy.tell s c := ⟨_, rfl⟩
  rw [← hR]
  unfold Sy.tell at hR
  dsimp only at hR
  have HR := Lib.hid hR
  clear hR h hk
  have hA0 := hA.out.plus (.cells #[.int .i64 0, .int .i64 0, .string ⟨#[]⟩, .slice none 0 0] 41)
  have hB0 := (Below.refl w.heap.size w).alloc (Nat.le_refl _) (.cells #[.int .i64 0, .int .i64 0, .string ⟨#[]⟩, .slice none 0 0] 41)
  have hz0 := Blk.new w 41 [.int .i64 0, .int .i64 0, .string ⟨#[]⟩, .slice none 0 0]
  have hc0 := hc.below hB0
  go_enter Tryz.func55, Tryz.ntmps55
  go_upto_region 1 with fail
  generalize w.alloc (.cells #[.int .i64 0, .int .i64 0, .string ⟨#[]⟩, .slice none 0 0] 41) = w0 at *
  have HC0 := Lib.hid hc0
  obtain ⟨z0, z1, z2, z3, zf, zz⟩ := hz0.four
  obtain ⟨hcb, c0, c1, c2, c3, c4, c5, c6, c7, c8⟩ := HC0.out
  have cF := syFind_any _ s c.path true w0 hA0 HK.out (by omega)
  unfold FindSy at cF
  have HFL := Lib.hid (find_len (T := s.T) (q := c.path.data.toList) (fo := true))
  generalize Sy.find s.T c.path.data.toList true = r at cF HR HFL
  obtain ⟨ra, re⟩ := r
  dsimp only at cF HR HFL
  rw [str_bytes] at cF
  have HRA := Lib.hid (data_bytes ra)
  obtain ⟨rs, hrs⟩ : ∃ rs, rs = Sy.bytesOf ra := ⟨_, rfl⟩
  rw [← hrs] at cF HFL HRA
  clear hrs
  go_wp2_with fail
  refine cF.mono ?_
  rintro e w1 ⟨rfl, hb⟩
  have hA1 := hA0.below hb
  have hz1 := hz0.below hb hz0.lt
  have HC1 := Lib.hid (HC0.out.below hb)
  have hB1 := hB0.trans (hb.mono hB0.size)
  clear z0 z1 z2 z3 zf zz hcb c0 c1 c2 c3 c4 c5 c6 c7 c8 hA0 hz0 hb hB0 cF hc0 HC0
  obtain ⟨z0, z1, z2, z3, zf, zz⟩ := hz1.four
  obtain ⟨hcb, c0, c1, c2, c3, c4, c5, c6, c7, c8⟩ := HC1.out
  rcases te : (re != 0) with _ | _
  rotate_left
  · have HF := Lib.hid (HR.out.trans (if_pos (by simpa using te)))
    clear HR
    go_wp2_with fail
    refine bodyPost_ret (v := .agg #[.int .i64 re, .int .i64 0, .string ⟨#[]⟩, .slice none 0 0]) ?_ rfl ?_
    · simp [results, Tryz.results55, go_sem, z0, z1, z2, z3]
    rw [HF.out]
    exact ans_end (a := (.no re)) (Nat.le_refl _) hA1 rfl rfl (Fr.of hB1) (Sub.refl _ _) rfl
  obtain rfl : re = 0 := by simpa using te
  have HR := Lib.hid (HR.out.trans (if_neg (by decide)))
  have hrl := HFL.out rfl
  clear HFL te
  obtain ⟨AT, cT, g2, hrT, hcT, hgs⟩ := hA1.seen
  have htl := HK.out.tl
  have hx1 : ¬ p.gs = w.heap.size := by omega
  rcases tk : (c.kind == 11) with _ | _
  rotate_left
  · have HF := Lib.hid (HR.out.trans (if_pos (by simpa using tk)))
    clear HR
    have cL := list_any AT cT s.T rs w1 hrT (Tr.right_sm HK.out.right) HK.out.right.2.1 (by omega) (by omega)
    unfold ListRel at cL
    rw [HRA.out] at cL
    generalize Tr.list s.T ra = q at cL HF
    obtain ⟨ql, qe⟩ := q
    dsimp only at cL HF
    go_wp2_with fail
    refine cL.mono ?_
    rintro e w2 ⟨v, rfl, ho, hb⟩
    have hA2 := hA1.below hb
    have hz2 := hz1.below hb hz1.lt
    have hB2 := hB1.trans (hb.mono hB1.size)
    obtain ⟨Aq, cq, rfl, hcq, _, hO2⟩ := StrOwn.off ho (X := (p.plus w.heap.size).X) fun k hk => hA1.x_lt hk
    clear z0 z1 z2 z3 zf zz hcb c0 c1 c2 c3 c4 c5 c6 c7 c8 g2 hrT hcT hgs hA1 hz1 hb hB1 cL ho
    obtain ⟨z0, z1, z2, z3, zf, zz⟩ := hz2.four
    go_wp2_with fail
    refine bodyPost_ret (v := .agg #[.int .i64 qe, .int .i64 0, .string ⟨#[]⟩, .slice Aq ql.length cq]) ?_ rfl ?_
    · simp [results, Tryz.results55, go_sem, z0, z1, z2, z3]
    rw [HF.out]
    exact ans_endN (p := p) (p' := p) (a := ⟨qe, 0, ⟨#[]⟩, ql⟩) (Nat.le_refl _) hA2 rfl rfl (Fr.of hB2) (Sub.refl _ _) ⟨Aq, cq, rfl, hO2⟩
  have HR := Lib.hid (HR.out.trans (if_neg (by simpa using tk)))
  have cG := get_any AT cT s.T rs w1 hrT (Tr.right_sm HK.out.right) (by omega) (by omega)
  go_wp2_with fail
  refine cG.mono ?_
  rintro e w2 ⟨r, rfl, hr, hb⟩
  have HG0 := Lib.hid (hr.2 (.inl HK.out.right.2.1))
  have HG0 := Lib.hid (HG0.out)
  have hA2 := hA1.below hb
  have hz2 := hz1.below hb hz1.lt
  have hB2 := hB1.trans (hb.mono hB1.size)
  clear z0 z1 z2 z3 zf zz hcb c0 c1 c2 c3 c4 c5 c6 c7 c8 g2 hrT hcT hgs hA1 hz1 hb hB1 cG hr HC1 tk
  obtain ⟨y, hy⟩ : ∃ y, y = r.getD En.zero := ⟨_, rfl⟩
  rw [← hy]
  have HY := Lib.hid hy
  clear hy
  obtain ⟨dp, dk, dt, dop⟩ := y
  simp only [En.agg, En.cells]
  have hA3 := hA2.below ((Below.refl _ w2).alloc (Nat.le_refl _) (.cells #[.string dp, .int .i64 dk, .string dt, .bool dop] 53))
  have hB3 := hB2.alloc hB2.size (.cells #[.string dp, .int .i64 dk, .string dt, .bool dop] 53)
  have hz3 := hz2.alloc (.cells #[.string dp, .int .i64 dk, .string dt, .bool dop] 53)
  have hd3 := Blk.new w2 53 [.string dp, .int .i64 dk, .string dt, .bool dop]
  have hx3 : ¬ w2.heap.size = w.heap.size := by have := hz2.lt; omega
  go_upto_region 8 with fail
  generalize w2.alloc (.cells #[.string dp, .int .i64 dk, .string dt, .bool dop] 53) = w3 at *
  generalize w2.heap.size = gd at *
  clear hA2 hB2 hz2
  obtain ⟨d0, d1, d2, d3, df, dz⟩ := hd3.four
  obtain ⟨z0, z1, z2, z3, zf, zz⟩ := hz3.four
  rcases r with _ | d
  · have HF : Hid (R = .no 6) := Lib.hid (by rw [HR.out, ← HRA.out, ← HG0.out])
    clear HR
    go_wp2_with fail
    refine bodyPost_ret (v := .agg #[.int .i64 6, .int .i64 0, .string ⟨#[]⟩, .slice none 0 0]) ?_ rfl ?_
    · simp [results, Tryz.results55, go_sem, z0, z1, z2, z3]
    rw [HF.out]
    exact ans_end (a := (.no 6)) (Nat.le_refl _) hA3 rfl rfl (Fr.of hB3) (Sub.refl _ _) rfl
  obtain rfl : d = ⟨dp, dk, dt, dop⟩ := HY.out.symm
  have HF : Hid (R = ⟨0, dk, dt, []⟩) := Lib.hid (by rw [HR.out, ← HRA.out, ← HG0.out])
  clear HR
  go_wp2_with fail
  refine bodyPost_ret (v := .agg #[.int .i64 0, .int .i64 dk, .string dt, .slice none 0 0]) ?_ rfl ?_
  · simp [results, Tryz.results55, go_sem, z0, z1, z2, z3]
  rw [HF.out]
  exact ans_end (a := ⟨0, dk, dt, []⟩) (Nat.le_refl _) hA3 rfl rfl (Fr.of hB3) (Sub.refl _ _) rfl
end Go.Proofs.YtjppfhgkanbemacGreatDoor

namespace Go.Proofs.YtjppfhgkanbemacGreatDoor
open Go.RowKit Go.Shelf Go.Sort

theorem SyAt.v_shape {w : World} {p : Pl} {s : St} (h : SyAt w p s) : ∃ A c, p.v = .slice A s.files.length c ∧ s.files.length ≤ c := by
  rcases own_shape h.files with ⟨hv, h0⟩ | ⟨g, cap, hv, _, _, hc⟩
  · exact ⟨none, 0, by rw [hv, h0], by omega⟩
  · exact ⟨_, cap, hv, hc⟩
/-- The k-th of the open files. -/
theorem SyAt.fileAt {w : World} {p : Pl} {s : St} (h : SyAt w p s) {A : Option Addr} {c m : Nat} (hv : p.v = .slice A m c) {k : Nat} (hk : k < s.files.length) : ∃ b o, A = some ⟨b, o, none⟩ ∧ b < w.heap.size ∧ w.cell? ⟨b, o + k, none⟩ = some (.pointer (some ⟨p.f s.files[k], 0, none⟩)) := by
  have h1 := h.files
  obtain ⟨A', c', hv', _⟩ := h.v_shape
  rw [hv] at hv'
  injection hv' with e1 e2 e3
  subst e1 e2 e3
  rw [hv] at h1
  obtain ⟨b, o, rfl, hb, hc⟩ := (Rd.of_own h1).2 (by omega)
  exact ⟨b, o, rfl, hb, hc k _ (by rw [List.getElem?_map, List.getElem?_eq_getElem hk]; rfl)⟩
theorem SyAt.v_cell {w : World} {p : Pl} {s : St} (h : SyAt w p s) : w.cell? ⟨p.gs, 3, none⟩ = some p.v := by
  obtain ⟨AU, AL, AT, cU, cL, cT, hb, _⟩ := h.box
  exact hb.cell 3

set_option maxHeartbeats 2000000 in
set_option maxRecDepth 100000 in
theorem lose_any (p : Pl) (s : St) (n : Nat) (pa : ByteArray) (w : World) (h : SyAt w p s) (hi : Sy.In n s) (hn : n ≤ 1000) (hk : Sy.Ok s) :
    Calls Tryz.prog 72 #[.pointer (some ⟨p.gs, 0, none⟩), .string pa] w fun e w' => e = .returned (.tuple #[]) ∧ SyAt w' p (Sy.lose s pa.data.toList) ∧ Fr p.C w w' := by
  rw [Sy.lose_eq]
  have hA := Lib.hid h
  have HI := Lib.hid hi
  have HK := Lib.hid hk
  have g3 := h.v_cell
  have hgs : p.gs < w.heap.size := h.c_lt h.gs_c
  obtain ⟨A, c, hv, hc⟩ := h.v_shape
  rw [hv] at g3
  have hfl := hi.fl
  clear h hi hk
  go_enter Tryz.func72, Tryz.ntmps72
  go_wp2_with fail
  clear g3 hgs
  go_loopw [11] (fun j wr => ∃ k : Nat, k ≤ s.files.length ∧ j = .int .i64 k ∧ Hid (SyAt wr p (Sy.part (Sy.loseG s pa.data.toList) (s.files.take k) s)) ∧ Fr p.C w wr) (fun j _ => s.files.length - (intOf j).toNat)
  case atStart => exact ⟨0, Nat.zero_le _, rfl, Lib.hid (by rw [List.take_zero, Sy.part_nil]; exact hA.out), Fr.refl _ _⟩
  case round =>
    obtain ⟨k, hk, rfl, HW, hF⟩ := hrel
    by_cases hlt : k < s.files.length
    · obtain ⟨i, hi⟩ : ∃ i, i = s.files[k] := ⟨_, rfl⟩
      have hil : i < s.obs.length := hi ▸ HI.out.fsub _ (List.getElem_mem hlt)
      have hnot : i ∉ s.files.take k := hi ▸ Sy.take_in HI.out.fnd hlt
      have htk : s.files.take (k + 1) = s.files.take k ++ [i] := by rw [hi, List.take_succ_eq_append_getElem hlt]
      obtain ⟨b, o, hAb, hbb, h0⟩ := HW.out.fileAt hv hlt
      change wr.cell? ⟨b, o + k, none⟩ = some (.pointer (some ⟨p.f s.files[k], 0, none⟩)) at h0
      rw [← hi] at h0
      have HTK := Lib.hid htk
      clear hi htk
      subst hAb
      have hob := HW.out.ob i (by rw [Sy.part_len]; exact hil)
      rw [Sy.part_out hil hnot] at hob
      obtain ⟨Al, cl, hbl, hOl, hcl⟩ := hob
      have HOL := Lib.hid hOl
      clear hOl
      have cT := text_any p _ n i wr HW.out (Sy.part_in HI.out (Sy.loseG_ok HI.out HK.out pa.data.toList)) hn (Sy.part_ok HK.out) (by rw [Sy.part_len]; exact hil)
      rw [Sy.part_text hil hnot] at cT
      have HOK := Lib.hid (HI.out.obAt i).1
      have HG0 : Hid (∀ o, o = Sy.obAt s i → ¬ (o.P = pa.data.toList ∧ pa.data.toList ≠ []) → Sy.part (Sy.loseG s pa.data.toList) (s.files.take k) s = Sy.part (Sy.loseG s pa.data.toList) (s.files.take (k + 1)) s) := Lib.hid fun o ho hq => by
        rw [HTK.out]
        refine Sy.part_miss hnot hil ?_
        unfold Sy.loseG
        rw [← ho, if_neg hq]
      have HG1 : Hid (∀ o, o = Sy.obAt s i → (o.P = pa.data.toList ∧ pa.data.toList ≠ []) → Sy.setOb (Sy.part (Sy.loseG s pa.data.toList) (s.files.take k) s) i (fun o => { o with t := Sy.textOf s i, p := Sy.noE }) = Sy.part (Sy.loseG s pa.data.toList) (s.files.take (k + 1)) s) := Lib.hid fun o ho hq => by
        rw [HTK.out]
        refine Sy.part_hit hnot hil ?_
        unfold Sy.loseG
        rw [← ho, if_pos hq]
      have hobs : Sy.obAt (Sy.part (Sy.loseG s pa.data.toList) (s.files.take k) s) i = Sy.obAt s i := Sy.part_out hil hnot
      have HOB := Lib.hid hobs
      clear hobs
      obtain ⟨tx, htx⟩ : ∃ tx, tx = Sy.textOf s i := ⟨_, rfl⟩
      rw [← htx] at HG1 cT
      clear htx
      obtain ⟨ob, hobe⟩ : ∃ ob, ob = Sy.obAt s i := ⟨_, rfl⟩
      have HG0 := Lib.hid (HG0.out ob hobe)
      have HG1 := Lib.hid (HG1.out ob hobe)
      rw [← hobe] at hbl HOL hcl HOB HOK
      clear hobe
      obtain ⟨op, ot, ol⟩ := ob
      have hP : (⟨op, ot, ol⟩ : Ob).P = op.data.toList := rfl
      rw [hP] at HG0 HG1
      dsimp only at hbl HOL hcl HOK
      clear hP
      obtain ⟨q, hq⟩ : ∃ q, q = Sy.part (Sy.loseG s pa.data.toList) (s.files.take k) s := ⟨_, rfl⟩
      have hql : i < q.obs.length := by rw [hq, Sy.part_len]; exact hil
      rw [← hq] at HW HG0 HG1 HOB
      clear hq
      obtain ⟨f0, f1, f2, ff, fz⟩ := hbl.three
      obtain ⟨gf, hgf⟩ : ∃ gf, gf = p.f i := ⟨_, rfl⟩
      rw [← hgf] at h0 f0 f1 f2 ff fz cT
      have HGF := Lib.hid hgf
      clear hgf
      rcases t1 : (op.toList == pa.toList) with _ | _
      · have hs := HG0.out fun q => by rw [toList_beq] at t1; simp [q.1] at t1
        have HS := Lib.hid hs
        clear hs cT
        go_wp2_with fail
        go_roundw
        case rel => exact ⟨k + 1, hlt, by go_num, Lib.hid (by rw [← HS.out]; exact HW.out), hF⟩
        case measure => simp [intOf]; omega
      · rcases empty_cases pa with ⟨hE, e1, e2⟩ | ⟨hE, e1, e2⟩
        · have HS := Lib.hid (HG0.out fun q => q.2 hE)
          clear cT hE
          go_wp2_with fail
          all_goals
            go_roundw
            case rel => exact ⟨k + 1, hlt, by go_num, Lib.hid (by rw [← HS.out]; exact HW.out), hF⟩
            case measure => simp [intOf]; omega
        · have HS := Lib.hid (HG1.out ⟨by rw [toList_beq] at t1; simpa using t1, hE⟩)
          clear hE
          go_wp2_with fail
          refine cT.mono ?_
          rintro e w1 ⟨rfl, hb1⟩
          have hA1 := HW.out.below hb1
          have hbl1 := hbl.below hb1 hbl.lt
          rw [← HGF.out] at hbl1
          have hF1 := hF.thenB hb1
          clear f0 f1 f2 ff fz h0
          obtain ⟨f0, f1, f2, ff, fz⟩ := hbl1.three
          go_wp2_with fail
          go_roundw
          case rel =>
            have hf9 : Fr (fun k => k = gf) w1 ((w1.setCell ⟨gf, 1, none⟩ (.string tx)).setCell ⟨gf, 0, none⟩ (.string ⟨#[]⟩)) := ((Fr.refl (fun k => k = gf) w1).at_ 1 _).at_ 0 _
            refine ⟨k + 1, hlt, by go_num, Lib.hid ?_, hF1.trans hf9 fun _ _ e => by rw [e, HGF.out]; exact HW.out.f_c hql⟩
            rw [← HS.out]
            refine hA1.setOb hql (by rw [← HGF.out]; exact hf9) _ ?_
            rw [HOB.out, ← HGF.out]
            refine ⟨Al, cl, (hbl1.set_ 1 _).set_ 0 _, ?_, hcl⟩
            exact (HOL.out.on (Fr.of (X := p.X) hb1) (Sub.refl _ _)).on (hf9.wide (X := p.X) fun _ _ e => by rw [e, HGF.out]; exact Pl.cx (HW.out.f_c hql)) (Sub.refl _ _)
          case measure => simp [intOf]; omega
    · have ek : k = s.files.length := by omega
      subst ek
      rw [List.take_length] at HW
      go_wp2_with fail
      refine bodyPost_end (results_none Tryz.results72 _ _ _) rfl ?_
      exact ⟨rfl, HW.out, hF⟩
end Go.Proofs.YtjppfhgkanbemacGreatDoor

namespace Go.Proofs.YtjppfhgkanbemacGreatDoor
open Go.RowKit Go.Shelf Go.Sort

theorem Sy.opened_hit {s : St} {q : Pt.Bs} {k : Nat} (hk : k < s.files.length) (hno : ∀ j ∈ s.files.take k, (Sy.obAt s j).P ≠ q) (h : (Sy.obAt s s.files[k]).P = q) : Sy.opened s q = (s, s.files[k]) := by
  unfold Sy.opened
  have e : s.files.find? (fun i => (Sy.obAt s i).P == q) = some s.files[k] := by
    rw [List.find?_eq_some_iff_getElem]
    refine ⟨by simp [h], k, hk, rfl, fun j hj => ?_⟩
    have h1 := hno s.files[j] (List.mem_take_iff_getElem.2 ⟨j, by omega, rfl⟩)
    simp [h1]
  rw [e]
theorem Sy.opened_miss {s : St} {q : Pt.Bs} (hno : ∀ j ∈ s.files, (Sy.obAt s j).P ≠ q) : Sy.opened s q = ({ s with obs := s.obs ++ [⟨Sy.bytesOf q, Sy.noE, []⟩], files := s.files ++ [s.obs.length] }, s.obs.length) := by
  unfold Sy.opened
  have e : s.files.find? (fun i => (Sy.obAt s i).P == q) = none := by
    rw [List.find?_eq_none]
    intro j hj
    simp [hno j hj]
  rw [e]
theorem own_slice {w : World} {base : Nat} {e : TypeId} {size n : Nat} {v : Value} {xs : List Value} (h : w.ownsRow base e size v n xs) : ∃ A c, v = .slice A n c := by
  rcases own_shape h with ⟨rfl, rfl⟩ | ⟨g, cap, rfl, _⟩
  · exact ⟨none, 0, rfl⟩
  · exact ⟨_, _, rfl⟩
/-- What open answers: the file; all lies anew. -/
def OpenRel (p : Pl) (r : St × Nat) (w : World) (e : Ending) (w' : World) : Prop :=
  ∃ p', e = .returned (ptr (p'.f r.2)) ∧ SyAt w' p' r.1 ∧ p'.gs = p.gs ∧ p'.e = p.e ∧ Fr p.C w w' ∧ Sub w p'.C p.C

set_option maxHeartbeats 2000000 in
set_option maxRecDepth 100000 in
theorem open_any (p : Pl) (s : St) (n : Nat) (pa : ByteArray) (w : World) (h : SyAt w p s) (hi : Sy.In n s) (hn : n ≤ 1000) :
    Calls Tryz.prog 70 #[.pointer (some ⟨p.gs, 0, none⟩), .string pa] w (OpenRel p (Sy.opened s pa.data.toList) w) := by
  obtain ⟨i0, hif, hz0, hz1, hz2⟩ := info_parts info_pf
  have hA := Lib.hid h
  have HI := Lib.hid hi
  have g3 := h.v_cell
  have hgs : p.gs < w.heap.size := h.c_lt h.gs_c
  obtain ⟨A, c, hv, hc⟩ := h.v_shape
  rw [hv] at g3
  have hfl := hi.fl
  unfold OpenRel
  clear h hi
  go_enter Tryz.func70, Tryz.ntmps70
  go_wp2_with fail
  clear g3
  go_loopw [13] (fun j wr => Hid (wr = w) ∧ ∃ k : Nat, k ≤ s.files.length ∧ j = .int .i64 k ∧ Hid (∀ j ∈ s.files.take k, (Sy.obAt s j).P ≠ pa.data.toList)) (fun j _ => s.files.length - (intOf j).toNat)
  case atStart => exact ⟨Lib.hid rfl, 0, Nat.zero_le _, rfl, Lib.hid (by simp)⟩
  case round =>
    obtain ⟨hh, k, hk, rfl, hno⟩ := hrel
    have HWR := Lib.hid hh.out
    have hAw : Hid (SyAt wr p s) := Lib.hid (by rw [HWR.out]; exact hA.out)
    clear hh
    by_cases hlt : k < s.files.length
    · obtain ⟨i, hi⟩ : ∃ i, i = s.files[k] := ⟨_, rfl⟩
      have hil : i < s.obs.length := hi ▸ HI.out.fsub _ (List.getElem_mem hlt)
      obtain ⟨b, o, hAb, hbb, h0⟩ := hAw.out.fileAt hv hlt
      rw [← hi] at h0
      subst hAb
      obtain ⟨Al, cl, hbl, _, _⟩ := hAw.out.ob i hil
      have HX : Hid (∀ ob, ob = Sy.obAt s i → ob.P = pa.data.toList → Sy.opened s pa.data.toList = (s, i)) := Lib.hid fun ob ho hq => by
        have h9 := Sy.opened_hit hlt hno.out (by rw [← hi, ← ho]; exact hq)
        rw [h9, ← hi]
      have HN : Hid (∀ ob, ob = Sy.obAt s i → ob.P ≠ pa.data.toList → ∀ j ∈ s.files.take (k + 1), (Sy.obAt s j).P ≠ pa.data.toList) := Lib.hid fun ob ho hq j hj => by
        rw [List.take_succ_eq_append_getElem hlt, List.mem_append, List.mem_singleton] at hj
        rcases hj with hj | hj
        · exact hno.out j hj
        · rw [hj, ← hi, ← ho]; exact hq
      have hsz := (HI.out.obAt i).1
      obtain ⟨ob, hob⟩ : ∃ ob, ob = Sy.obAt s i := ⟨_, rfl⟩
      have HX := Lib.hid (HX.out ob hob)
      have HN := Lib.hid (HN.out ob hob)
      rw [← hob] at hbl hsz
      clear hob hi
      obtain ⟨op, ot, ol⟩ := ob
      rw [show (⟨op, ot, ol⟩ : Ob).P = op.data.toList from rfl] at HX HN
      dsimp only at hbl hsz
      obtain ⟨f0, f1, f2, ff, fz⟩ := hbl.three
      obtain ⟨gf, hgf⟩ : ∃ gf, gf = p.f i := ⟨_, rfl⟩
      rw [← hgf] at h0 f0 f1 f2 ff fz
      have HGF := Lib.hid hgf
      clear hgf hbl
      rcases t1 : (op.toList == pa.toList) with _ | _
      · have HS := Lib.hid (HN.out (fun q => by rw [toList_beq] at t1; simp [q] at t1))
        clear HN HX
        go_wp2_with fail
        go_roundw
        case rel => exact ⟨Lib.hid HWR.out, k + 1, hlt, by go_num, HS⟩
        case measure => simp [intOf]; omega
      · have HS := Lib.hid (HX.out (by rw [toList_beq] at t1; simpa using t1))
        clear HN HX
        go_wp2_with fail
        go_ret
        exact ⟨p, by rw [HS.out, HGF.out]; rfl, by rw [HS.out]; exact hAw.out, rfl, rfl, by rw [HWR.out]; exact Fr.refl _ _, Sub.refl _ _⟩
    · have hno := hno.out
      rw [List.take_of_length_le (by omega)] at hno
      have HS := Lib.hid (Sy.opened_miss hno)
      clear hno
      have hgr : p.gs < wr.heap.size := by rw [HWR.out]; exact hgs
      have hA2 := Lib.hid (hAw.out.addOb HI.out pa)
      have hF2 : Fr p.C w (wr.alloc (.cells #[.string pa, .string ⟨#[]⟩, .slice none 0 0] 127)) := by rw [HWR.out]; exact Fr.alloc _ _ _
      have HFN : Hid (Pl.f { p with F := p.F ++ [wr.heap.size] } s.obs.length = wr.heap.size) := Lib.hid (by unfold Pl.f; rw [← hAw.out.fl]; exact Sy.getD_new _ _)
      have HNC : Hid (∀ k, p.C k → k < wr.heap.size) := Lib.hid fun k hk => hAw.out.c_lt hk
      have hfr : ∀ k, k < wr.heap.size → ¬ p.C k → Pl.C { p with F := p.F ++ [wr.heap.size] } k → False := fun k hk hn hc => by
        rcases hc with hc | hc | hc
        · exact hn (.inl hc)
        · rcases List.mem_append.1 hc with hc | hc
          · exact hn (.inr (.inl hc))
          · rw [List.mem_singleton] at hc; omega
        · exact hn (.inr (.inr hc))
      have HFR := Lib.hid hfr
      clear hfr
      obtain ⟨gn, hgn⟩ : ∃ gn, gn = wr.heap.size := ⟨_, rfl⟩
      have hgl : gn < (wr.alloc (.cells #[.string pa, .string ⟨#[]⟩, .slice none 0 0] 127)).heap.size := by rw [hgn, World.size_alloc]; omega
      have hgg : p.gs < gn := by rw [hgn]; exact hgr
      have hszw : w.heap.size = gn := by rw [hgn, HWR.out]
      go_upto_region 8 with fail
      rw [← hgn] at hA2 HFN HFR HNC ⊢
      clear hgn hgr
      generalize wr.alloc (.cells #[.string pa, .string ⟨#[]⟩, .slice none 0 0] 127) = w2 at *
      have g3 : w2.cell? ⟨p.gs, 3, none⟩ = some (.slice A s.files.length c) := by have := hA2.out.v_cell; rw [← hv]; exact this
      have hg2 : p.gs < w2.heap.size := by omega
      have hown : w2.ownsRow 0 119 1 (.slice A s.files.length c) s.files.length (s.files.map fun i => ptr (Pl.f { p with F := p.F ++ [gn] } i)) := by have := hA2.out.files; rw [← hv]; exact this
      have hfz : ∀ i, w2.frozen? ⟨p.gs, i, none⟩ = false := by obtain ⟨_, _, _, _, _, _, hb, _⟩ := hA2.out.box; exact hb.frozen
      have hve : ∀ k, p.v.ownBlock = some k → k ≠ p.gs := fun k hk e => hAw.out.v_gs (e ▸ hk)
      rw [hv] at hve
      have HVE := Lib.hid hve
      clear hve hAw HWR
      have hg3 : ∀ w3, w2.grownBy w3 (Value.slice A s.files.length c).ownBlock → w3.cell? ⟨p.gs, 3, none⟩ = some (.slice A s.files.length c) ∧ w3.frozen? ⟨p.gs, 3, none⟩ = false ∧ p.gs < w3.heap.size := fun w3 hg => by
        obtain ⟨AU, AL, AT, cU, cL, cT, hb, _⟩ := hA2.out.box
        have hb3 := Blk.grown hb hg fun e => HVE.out _ e.symm rfl
        refine ⟨?_, hb3.frozen 3, Nat.lt_of_lt_of_le hg2 hg.size⟩
        have := hb3.cell 3
        rw [← hv]; exact this
      go_wp2_with (at_builtin; go_must (refine wpList_app1 w2 rfl _ _ _ rfl 0 119 i0 _ 1 8 Tryz.underlying80 hif hz0 hz1 hz2 rfl (by decide) (.slice A s.files.length c) _ _ rfl hown [.pointer (some ⟨gn, 0, none⟩)] rfl rfl (by simp [Value.oneCell']) (by omega) (by decide) (Nat.zero_le _) _ rfl ?_); intro v3 w3 own3 grown3 at3; obtain ⟨A3, c3, rfl⟩ := own_slice own3; obtain ⟨g3, gf3, gz3⟩ := hg3 w3 grown3)
      go_ret
      have hq1 : Fr (fun k => k = p.gs ∨ p.v.ownBlock = some k) w2 (w3.setCell ⟨p.gs, 3, none⟩ (.slice A3 (s.files.length + 1) c3)) := by
        rw [hv]
        exact (Fr.grown (X := fun k => k = p.gs ∨ (Value.slice A s.files.length c).ownBlock = some k) grown3 fun k hk => .inr hk).setCell (p := ⟨p.gs, 3, none⟩) (.inl rfl) (.slice A3 (s.files.length + 1) c3)
      have hq2 : ∀ k, (Value.slice A3 (s.files.length + 1) c3).ownBlock = some k → p.v.ownBlock = some k ∨ w2.heap.size ≤ k := fun k hk => by
        rw [hv]
        rcases at3 with e | e
        · exact .inl (e ▸ hk)
        · rw [e] at hk; injection hk with hk; right; omega
      have hq3 : ∀ cs, Blk w2 p.gs 85 cs → Blk (w3.setCell ⟨p.gs, 3, none⟩ (.slice A3 (s.files.length + 1) c3)) p.gs 85 (cs.set 3 (.slice A3 (s.files.length + 1) c3)) := fun cs hb => (Blk.grown hb grown3 fun e => HVE.out _ e.symm rfl).set_ 3 (.slice A3 (s.files.length + 1) c3)
      have hq4 : (w3.setCell ⟨p.gs, 3, none⟩ (.slice A3 (s.files.length + 1) c3)).ownsRow 0 119 1 (.slice A3 (s.files.length + 1) c3) (s.files ++ [s.obs.length]).length ((s.files ++ [s.obs.length]).map fun i => ptr (Pl.f { p with F := p.F ++ [gn] } i)) := by
        have h3 : (w3.setCell ⟨p.gs, 3, none⟩ (.slice A3 (s.files.length + 1) c3)).ownsRow 0 119 1 (.slice A3 (s.files.length + 1) c3) (s.files.length + 1) ((s.files.map fun i => ptr (Pl.f { p with F := p.F ++ [gn] } i)) ++ [.pointer (some ⟨gn, 0, none⟩)]) := ownsRow_setCell_other own3 (fun e => by
          rcases at3 with q | q
          · rw [q] at e; exact HVE.out _ e rfl
          · rw [q] at e; injection e with e; have e : w2.heap.size + 1 = p.gs := e; omega) (.slice A3 (s.files.length + 1) c3)
        rw [List.length_append, List.map_append]
        show World.ownsRow _ _ _ _ _ _ (_ ++ [ptr (Pl.f { p with F := p.F ++ [gn] } s.obs.length)])
        rw [HFN.out]
        exact h3
      have hAq := hA2.out.setFiles (.slice A3 (s.files.length + 1) c3) (s.files ++ [s.obs.length]) hq1 hq2 hq3 hq4
      refine ⟨{ p with F := p.F ++ [gn], v := .slice A3 (s.files.length + 1) c3 }, ?_, by rw [HS.out]; exact hAq, rfl, rfl, ?_, fun k hk q => ?_⟩
      · rw [HS.out]
        show Ending.returned _ = Ending.returned (ptr (Pl.f { p with F := p.F ++ [gn] } s.obs.length))
        rw [HFN.out]; rfl
      · exact hF2.trans hq1 fun k _ q => q.elim (fun e => .inl e) fun e => .inr (.inr (.inr e))
      · rcases q with q | q | q | q
        · exact .inl q
        · rcases List.mem_append.1 q with q | q
          · exact .inr (.inl q)
          · rw [List.mem_singleton] at q; omega
        · exact .inr (.inr (.inl q))
        · have q : (Value.slice A3 (s.files.length + 1) c3).ownBlock = some k := q
          rcases hq2 k q with q | q
          · exact .inr (.inr (.inr q))
          · omega
end Go.Proofs.YtjppfhgkanbemacGreatDoor
