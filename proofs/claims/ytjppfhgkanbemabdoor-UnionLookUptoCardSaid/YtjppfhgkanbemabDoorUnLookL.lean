/-
  The walk of UnionLook. (Printed by wip/genunll.py.)
-/
import Derived.Test.YtjppfhgkanbemabDoorUnSeenL
namespace Go.Proofs.YtjppfhgkanbemabDoor
open Go.RowKit Go.Shelf Go.Sort

/-- What Look answers of a union with which nothing is wrong. -/
inductive Tr.LookIs (u : Un) (p : Pt.Bs) (S : List En) : En × Int × Int → Prop
  | name (h : p = []) : Tr.LookIs u p S (En.zero, 0, 7)
  | none (x : Int) (h0 : x = 6 ∨ x = 7) (h : Tr.get S p = none) : Tr.LookIs u p S (En.zero, 0, x)
  | upper (e z : En) (h0 : p ≠ []) (h : Tr.get S p = some e) (h1 : Tr.get u.U p = some z) (h2 : z.clear = e) : Tr.LookIs u p S (e, 0, 0)
  | lower (e z : En) (k : Nat) (hk : k < u.L.length) (h0 : p ≠ []) (h : Tr.get S p = some e) (h1 : Tr.get u.L[k] p = some z) (h2 : z.clear = e) : Tr.LookIs u p S (e, ((k + 1 : Nat) : Int), 0)
theorem Tr.look_is {u : Un} {p : Pt.Bs} (h : (Tr.seenU u).2 = 0) : Tr.LookIs u p (Tr.seenU u).1 (Tr.lookU u p) := by
  have hf := Tr.seenU_zero.1 h
  have hS : (Tr.seenU u).1 = (Tr.mergeL u.all).1 := by rw [Tr.seenU_fine hf]
  have hr := Tr.mergeL_right hf.2
  unfold Tr.lookU
  rw [if_neg (by simp [(Tr.fine_iff u).2 hf])]
  rcases hc : Pt.clean p with _ | _
  · rw [if_pos rfl]
    by_cases h0 : p = []
    · exact .name h0
    · refine .none 7 (.inr rfl) ?_
      rw [hS, Tr.get_none h0]
      intro e he hp
      have := Tr.entry_clean (hr.2.1 e he)
      rw [hp, hc] at this; cases this
  · rw [if_neg (by decide)]
    have h0 := Tr.clean_ne hc
    have hl := Tr.look_seen 0 hf.2 h0
    rcases hk : Tr.lookLs u.all p 0 with _ | ⟨e, k⟩
    · rw [hk] at hl
      exact .none 6 (.inl rfl) (by rw [hS]; exact hl)
    · rw [hk] at hl
      obtain ⟨_, hlt, z, hz, hze⟩ := Tr.look_has 0 hk
      have hl2 : Tr.get (Tr.seenU u).1 p = some e := by rw [hS]; exact hl
      cases k with
      | zero => exact .upper e z h0 hl2 hz hze
      | succ k =>
        have hlt' : k < u.L.length := by simp [Un.all] at hlt; exact hlt
        exact .lower e z k hlt' h0 hl2 hz hze
theorem Tr.look_bad {u : Un} {p : Pt.Bs} {x : Int} (h : (Tr.seenU u).2 = x) (hx : x ≠ 0) : Tr.lookU u p = (En.zero, 0, x) := by
  rw [Tr.seenU_err] at h
  unfold Tr.lookU
  rw [if_pos (by rw [h]; exact hx), h]

set_option maxHeartbeats 8000000 in
set_option maxRecDepth 100000 in
theorem unionLook_any (A A' : Option Addr) (c c' : Nat) (u : Un) (p : ByteArray) (w : World) (hu : UnRd w w.heap.size A A' c c' u) (hs : UnSm u) (hp : p.size < 4294967281) :
    Calls Tryd.prog 7 #[.agg #[.slice A u.U.length c, .slice A' u.L.length c'], .string p] w fun e w' => e = .returned (.bool true) ∧ Below w.heap.size w w' := by
  have HS := Lib.hid hs
  have HU := Lib.hid hu
  clear hs hu
  have hB0 := ((Below.refl w.heap.size w).alloc (Nat.le_refl _) (.cells #[.slice A u.U.length c, .slice A' u.L.length c'] 49))
  have hq0 := (Blk.new w 49 [.slice A u.U.length c, .slice A' u.L.length c'])
  go_enter Tryd.func7, Tryd.ntmps7
  go_upto_region 1 with fail
  generalize w.alloc (.cells #[.slice A u.U.length c, .slice A' u.L.length c'] 49) = w0 at *
  go_wp2_with fail
  refine (unAlive_any w0).mono ?_
  rintro e w1 ⟨rfl, hb⟩
  have hB1 := hB0.trans (hb.mono hB0.size)
  have hq1 := hq0.below hb hq0.lt
  clear hb hB0 hq0
  have cS := seenU_any A A' c c' u w1 ((HU.out.below hB1).more hB1.size) HS.out
  unfold SeenRel at cS
  have cL := fun W h => lookU_any A A' c c' u p W h HS.out hp
  unfold LookRel at cL
  obtain ⟨lk, hlk⟩ : ∃ lk, lk = Tr.lookU u p.data.toList := ⟨_, rfl⟩
  have HT := Lib.hid (Tr.look_is (u := u) (p := p.data.toList))
  have HB := Lib.hid (fun (x : Int) (h : (Tr.seenU u).2 = x) (hx : x ≠ 0) => Tr.look_bad (p := p.data.toList) h hx)
  have HPT := Lib.hid (Tr.parts (u := u))
  have HLR := Lib.hid (fun (h : (Tr.seenU u).2 = 0) => Tr.mergeL_layers (Tr.seenU_zero.1 h).2)
  rw [← hlk] at cL HT HB
  clear hlk
  generalize Tr.seenU u = sp at cS HT HB HPT HLR
  obtain ⟨S, se⟩ := sp
  dsimp only at cS HT HB HPT HLR
  obtain ⟨q0, q1, qf, qz⟩ := hq1.two
  go_wp2_with fail
  clear q0 q1 qf qz
  refine cS.mono ?_
  rintro e w2 ⟨v2, rfl, ho2, hb⟩
  have hB2 := hB1.trans (hb.mono hB1.size)
  have hq2 := hq1.below hb hq1.lt
  clear hb hB1 hq1 cS
  obtain ⟨AS, cS, rfl, hcS, hS2⟩ := EnOwn.rd ho2
  clear ho2
  obtain ⟨q0, q1, qf, qz⟩ := hq2.two
  go_wp2_with fail
  clear q0 q1 qf qz
  refine (cL w2 ((HU.out.below hB2).more hB2.size)).mono ?_
  rintro e w3 ⟨rfl, hb⟩
  have hB3 := hB2.trans (hb.mono hB2.size)
  have hq3 := hq2.below hb hq2.lt
  have hS3 : EnRd w3 w3.heap.size AS S := (Rd.below hS2 hb).more hb.size
  clear hb hB2 hq2 hS2 cL
  rcases te : (se != 0) with _ | _
  rotate_left
  · have he := HB.out se rfl (by simpa using te)
    subst he
    simp only [En.zero, En.agg, En.cells]
    go_wp2_with fail
    go_ret
    exact ⟨rfl, hB3.alloc hB3.size _⟩
  have hse : se = 0 := by simpa using te
  have hL := HT.out hse
  have HP := Lib.hid (HPT.out hse)
  have HR := Lib.hid (HLR.out hse)
  clear HT HB HPT HLR te
  subst hse
  have hSl := HP.out.sl
  obtain ⟨le, lk, lx⟩ := lk
  obtain ⟨lp, lkk, lt, lo⟩ := le
  dsimp only
  simp only [En.agg, En.cells]
  have hB4 := hB3.alloc hB3.size (.cells #[.string lp, .int .i64 lkk, .string lt, .bool lo] 32)
  have hq4 := hq3.alloc (.cells #[.string lp, .int .i64 lkk, .string lt, .bool lo] 32)
  have he4 := Blk.new w3 32 [.string lp, .int .i64 lkk, .string lt, .bool lo]
  have hS4 : EnRd (w3.alloc (.cells #[.string lp, .int .i64 lkk, .string lt, .bool lo] 32)) (w3.alloc (.cells #[.string lp, .int .i64 lkk, .string lt, .bool lo] 32)).heap.size AS S := (Rd.alloc hS3 (Nat.le_refl _) _).more (by simp)
  clear hB3 hq3 hS3
  go_upto_region 7 with fail
  generalize w3.alloc (.cells #[.string lp, .int .i64 lkk, .string lt, .bool lo] 32) = w4 at *
  generalize w3.heap.size = ge at *
  go_wp2_with fail
  refine (get_any AS cS S p w4 hS4 (Tr.right_sm HP.out.sr) hp (by omega)).mono ?_
  rintro e w5 ⟨r, rfl, hr, hb⟩
  have hB5 := hB4.trans (hb.mono hB4.size)
  have hq5 := hq4.below hb hq4.lt
  have he5 := he4.below hb he4.lt
  have hrr := hr.2 (.inl HP.out.sr.2.1)
  clear hb hB4 hq4 he4 hS4 hr
  -- what Get finds, by cases of the look
  have HGN := Lib.hid (show Tr.get S p.data.toList = none → r.isSome = false from fun h => by rw [hrr, h]; rfl)
  have HGS := Lib.hid (show ∀ e, Tr.get S p.data.toList = some e → r.isSome = true ∧ r.getD En.zero = e from fun e h => by rw [hrr, h]; exact ⟨rfl, rfl⟩)
  clear hrr
  generalize r.getD En.zero = y at *
  generalize r.isSome = ok at *
  obtain ⟨yp, yk, yt, yo⟩ := y
  simp only [En.agg, En.cells]
  have hB6 := hB5.alloc hB5.size (.cells #[.string yp, .int .i64 yk, .string yt, .bool yo] 32)
  have hq6 := hq5.alloc (.cells #[.string yp, .int .i64 yk, .string yt, .bool yo] 32)
  have he6 := he5.alloc (.cells #[.string yp, .int .i64 yk, .string yt, .bool yo] 32)
  have hy6 := Blk.new w5 32 [.string yp, .int .i64 yk, .string yt, .bool yo]
  clear hB5 hq5 he5
  go_upto_region 8 with fail
  generalize w5.alloc (.cells #[.string yp, .int .i64 yk, .string yt, .bool yo] 32) = w6 at *
  generalize w5.heap.size = gy at *
  obtain ⟨q0, q1, qf, qz⟩ := hq6.two
  obtain ⟨L1, hL1⟩ : ∃ L1 : En × Int × Int, L1 = (⟨lp, lkk, lt, lo⟩, lk, lx) := ⟨_, rfl⟩
  rw [← hL1] at hL
  cases hL with
  | name h0 =>
    have e1 := congrArg (fun q => q.2.1) hL1
    have e2 := congrArg (fun q => q.2.2) hL1
    dsimp only at e1 e2
    subst e1 e2
    have g1 := empty_of h0
    have g2 := isEmpty_of h0
    clear hL1 h0
    go_wp2_with fail
    go_ret
    exact ⟨rfl, hB6⟩
  | none x h0 h =>
    have e1 := congrArg (fun q => q.2.1) hL1
    have e2 := congrArg (fun q => q.2.2) hL1
    dsimp only at e1 e2
    subst e1 e2
    have hok := HGN.out h
    subst hok
    clear hL1 h
    rcases h0 with rfl | rfl
    · go_wp2_with fail
      go_ret
      exact ⟨rfl, hB6⟩
    · rcases empty_cases p with ⟨_, g1, g2⟩ | ⟨_, g1, g2⟩
      · go_wp2_with fail
        go_ret
        exact ⟨rfl, hB6⟩
      · go_wp2_with fail
        go_ret
        exact ⟨rfl, hB6⟩
  | upper e z h0 h h1 h2 =>
    have hg := HGS.out e h
    have hok := hg.1
    have hye := hg.2
    subst hok
    have e0 := congrArg Prod.fst hL1
    have e1 := congrArg (fun q => q.2.1) hL1
    have e2 := congrArg (fun q => q.2.2) hL1
    dsimp only at e0 e1 e2
    rw [e0] at hye
    have p1 := congrArg En.p hye
    have p2 := congrArg En.k hye
    have p3 := congrArg En.t hye
    have p4 := congrArg En.o hye
    dsimp only at p1 p2 p3 p4
    subst p1 p2 p3 p4 e1 e2
    have hzz : z.clear = ⟨yp, yk, yt, yo⟩ := h2.trans e0
    have HLY := Lib.hid (HR.out u.U (List.mem_cons_self ..))
    obtain ⟨zp, zk, zt, zo⟩ := z
    have z1 := congrArg En.p hzz
    have z2 := congrArg En.k hzz
    have z3 := congrArg En.t hzz
    have z4 := congrArg En.o hzz
    simp only [En.clear] at z1 z2 z3 z4
    subst z1 z2 z3 z4
    clear hL1 hg HGN HGS hye hzz e0 h h2
    go_wp2_with fail
    clear q0 q1 qf qz
    refine (get_any A c u.U p w6 (((HU.out.below hB6).more hB6.size).up) (Tr.right_sm HLY.out.2) hp (by have := HLY.out.1; omega)).mono ?_
    rintro r2e w7 ⟨r, rfl, hr, hb⟩
    have hrr := hr.2 (.inl HLY.out.2.2.1)
    rw [h1] at hrr
    subst hrr
    have hB7 := hB6.trans (hb.mono hB6.size)
    have he7 := he6.below hb he6.lt
    have hy7 := hy6.below hb hy6.lt
    clear hb hr hB6 he6 hy6 hq6
    simp only [Option.isSome_some, Option.getD_some, En.agg, En.cells]
    obtain ⟨x0, x1, x2, x3, xf, xz⟩ := he7.four
    obtain ⟨y0, y1, y2, y3, yf, yz⟩ := hy7.four
    go_wp2_with fail
    go_ret
    exact ⟨rfl, hB7.alloc hB7.size _⟩
  | lower e z k hk h0 h h1 h2 =>
    have hlow := ((HU.out.below hB6).more hB6.size).low
    obtain ⟨ws, hrw, hel⟩ := hlow
    obtain ⟨Ak, ck, f1, f2, f3⟩ := hel k hk
    obtain ⟨bA, oA, eA, hbA, hcA⟩ := hrw.2 (by omega)
    have hA0 := hcA k _ f1
    have hlr := HR.out u.L[k] (List.mem_cons_of_mem _ (List.getElem_mem hk))
    have hL4 := HP.out.ll
    subst eA
    clear hrw hel hcA f1
    generalize u.L[k] = lay at f2 f3 hA0 hlr h1
    have hg := HGS.out e h
    have hok := hg.1
    have hye := hg.2
    subst hok
    have e0 := congrArg Prod.fst hL1
    have e1 := congrArg (fun q => q.2.1) hL1
    have e2 := congrArg (fun q => q.2.2) hL1
    dsimp only at e0 e1 e2
    rw [e0] at hye
    have p1 := congrArg En.p hye
    have p2 := congrArg En.k hye
    have p3 := congrArg En.t hye
    have p4 := congrArg En.o hye
    dsimp only at p1 p2 p3 p4
    subst p1 p2 p3 p4 e1 e2
    have hzz : z.clear = ⟨yp, yk, yt, yo⟩ := h2.trans e0
    have HLY := Lib.hid (hlr)
    obtain ⟨zp, zk, zt, zo⟩ := z
    have z1 := congrArg En.p hzz
    have z2 := congrArg En.k hzz
    have z3 := congrArg En.t hzz
    have z4 := congrArg En.o hzz
    simp only [En.clear] at z1 z2 z3 z4
    subst z1 z2 z3 z4
    clear hL1 hg HGN HGS hye hzz e0 h h2
    have k1 : decide ((0 : Int) < ((k + 1 : Nat) : Int)) = true := decide_eq_true (by omega)
    have k2 : decide (((k + 1 : Nat) : Int) ≤ (u.L.length : Int)) = true := decide_eq_true (by omega)
    have k3 : IntKind.i64.wrap (((k + 1 : Nat) : Int) - 1) = (k : Int) := by rw [IntWalk.i64_in _ (by omega)]; omega
    go_wp2_with fail
    clear q0 q1 qf qz
    refine (get_any Ak ck lay p w6 (f3) (Tr.right_sm HLY.out.2) hp (by have := HLY.out.1; omega)).mono ?_
    rintro r2e w7 ⟨r, rfl, hr, hb⟩
    have hrr := hr.2 (.inl HLY.out.2.2.1)
    rw [h1] at hrr
    subst hrr
    have hB7 := hB6.trans (hb.mono hB6.size)
    have he7 := he6.below hb he6.lt
    have hy7 := hy6.below hb hy6.lt
    clear hb hr hB6 he6 hy6 hq6
    simp only [Option.isSome_some, Option.getD_some, En.agg, En.cells]
    obtain ⟨x0, x1, x2, x3, xf, xz⟩ := he7.four
    obtain ⟨y0, y1, y2, y3, yf, yz⟩ := hy7.four
    go_wp2_with fail
    go_ret
    exact ⟨rfl, hB7.alloc hB7.size _⟩
end Go.Proofs.YtjppfhgkanbemabDoor
