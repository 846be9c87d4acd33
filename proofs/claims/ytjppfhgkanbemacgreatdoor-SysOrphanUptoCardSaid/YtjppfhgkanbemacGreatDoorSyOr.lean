/-
  SysOrphan's own walk.
-/
import Derived.Test.YtjppfhgkanbemacGreatDoorSyDr
import Derived.Test.YtjppfhgkanbemacGreatDoorSyFar
import Derived.Test.YtjppfhgkanbemacGreatDoorSA
namespace Go.Proofs.YtjppfhgkanbemacGreatDoor
open Go.RowKit Go.Shelf Go.Sort

theorem keep_u {W : World} {g : Nat} {t : TypeId} {a b : Value} (h : Blk W g t [a, b]) : W.cell? ⟨g, 0, none⟩ = some a ∧ W.cell? ⟨g, 1, none⟩ = some b := ⟨h.cell 0, h.cell 1⟩
theorem at_app {c : Prop} {d : Decidable c} {P : Program} {o : Oper} {a : Act} (W : World) {K : Act → World → Prop} {Q : Exit → Act → World → Prop} {E : Prop} (h : @ite Prop c d (Oper.wp P o a W K Q) E) : @ite Prop c d (Oper.wp P o a W K Q) E := h
def orM (p : ByteArray) (l : List Ca) : List Ca := [Sy.openC 3 p, Sy.unlinkC p] ++ l.filter fun c => c.owner != 3
theorem orM_snoc (p : ByteArray) (l : List Ca) (c : Ca) : orM p (l ++ [c]) = orM p l ++ (if (c.owner != 3) = true then [c] else []) := by
  unfold orM
  rw [List.filter_append, List.append_assoc, List.filter_cons, List.filter_nil]
theorem orM_sm {p : ByteArray} (hp : p.size ≤ 1048576) {l : List Ca} (hl : ∀ x ∈ l, CaSm x) : ∀ x ∈ orM p l ++ [Sy.readC 3 100], CaSm x := fun x hx => by
  simp only [orM, List.mem_append, List.mem_cons, List.mem_nil_iff, or_false, List.mem_filter] at hx
  have z : (0 : Nat) ≤ 1048576 := by omega
  rcases hx with ((rfl | rfl) | ⟨h, _⟩) | rfl
  · exact ⟨hp, z, z⟩
  · exact ⟨hp, z, z⟩
  · exact hl x h
  · exact ⟨z, z, z⟩
theorem orM_len (p : ByteArray) (l : List Ca) : (orM p l).length ≤ l.length + 2 := by
  unfold orM
  rw [List.length_append]
  have := List.length_filter_le (fun c : Ca => c.owner != 3) l
  show 2 + _ ≤ _
  omega
/-- What becomes of it. -/
theorem or_play {u : Un} (hf : Tr.Fine u) {p : ByteArray} {f : En} (hg : Tr.get (Tr.seenU u).1 p.data.toList = some f) (hk : f.k = 1) {l : List Ca} (hl : l.length + 3 ≤ 80) :
    ∃ x a, Sy.play u (orM p l ++ [Sy.readC 3 100]) = (x, a, 0) ∧ ∃ h0 : (orM p l).length < a.length, a.length = (orM p l).length + 1 ∧ 2 ≤ (orM p l).length ∧ (∀ h, (a[0]'h).err = 0) ∧ ((∀ h, (a[1]'h).err ≠ 0) ∨ (a[(orM p l).length]'h0).text = f.t) := by
  have hp : p.data.toList ≠ [] := fun e => by
    rw [e, Tr.get_root] at hg
    injection hg with hg
    rw [← hg] at hk
    exact absurd hk (by decide)
  have hc : ∀ c ∈ l.filter (fun c => c.owner != 3), c.owner ≠ 3 := fun c hc => by
    have := (List.mem_filter.1 hc).2
    simpa using this
  obtain ⟨a1, a2, ra, a3, h1, h2, h3, h4⟩ := Sy.orphan hf hp hg hk hc
  have hw : (Tr.wrongU u).1 = 0 := (Tr.fine_iff u).2 hf
  have hfl := List.length_filter_le (fun c : Ca => c.owner != 3) l
  have e : orM p l ++ [Sy.readC 3 100] = Sy.openC 3 p :: Sy.unlinkC p :: (l.filter (fun c => c.owner != 3) ++ [Sy.readC 3 100]) := by
    unfold orM; rfl
  have hm : (orM p l).length = ra.length + 2 := by
    unfold orM
    rw [List.length_append, h2]
    show 2 + _ = _
    omega
  refine ⟨_, _, Sy.play_ok hw (by rw [List.length_append]; have := orM_len p l; show _ + 1 ≤ 80; omega), ?_⟩
  rw [e, h1]
  refine ⟨by rw [hm]; simp, by rw [hm]; simp, by omega, fun _ => h3, ?_⟩
  rcases h4 with h4 | h4
  · exact .inl fun _ => h4
  · right
    simp only [hm]
    have : (a1 :: a2 :: (ra ++ [a3]))[ra.length + 2]'(by simp) = a3 := by simp
    rw [this]; exact h4

set_option maxHeartbeats 16000000 in
set_option maxRecDepth 100000 in
theorem sysOrphan_any (A A' : Option Addr) (c c' : Nat) (u : Un) (p : ByteArray) (Al : Option Addr) (cl : Nat) (l : List Ca) (w : World) (hu : UnRd w w.heap.size A A' c c' u) (hs : UnSm u) (hpz : p.size ≤ 1048576) (hl : CasRd w Al l) (hsm : ∀ x ∈ l, CaSm x) (hn : l.length ≤ 4000000) :
    Calls Tryz.prog 7 #[.agg #[.slice A u.U.length c, .slice A' u.L.length c'], .string p, .slice Al l.length cl] w fun e w' => e = .returned (.bool true) ∧ Below w.heap.size w w' := by
  obtain ⟨i0, hif, hi0, hi1, hi2⟩ := info_parts info_ca
  have HS := Lib.hid hs
  have HU := Lib.hid hu
  have HL := Lib.hid hl
  have HSM := Lib.hid hsm
  have hb0 := ((Below.refl w.heap.size w).alloc (Nat.le_refl _) (.cells #[.slice A u.U.length c, .slice A' u.L.length c'] 26))
  have hq0 := (Blk.new w 26 [.slice A u.U.length c, .slice A' u.L.length c'])
  clear hu hs hl hsm
  have hse := Tr.seenU_err u
  obtain ⟨S, hS⟩ : ∃ S, S = Tr.seenU u := ⟨_, rfl⟩
  have hfa : S.2 = 0 → Tr.Fine u := by rw [hS, hse]; exact (Tr.fine_iff u).1
  have hor : S.2 = 0 → ∀ f, Tr.get S.1 p.data.toList = some f → f.k = 1 → l.length + 3 ≤ 80 → ∃ x a, Sy.play u (orM p l ++ [Sy.readC 3 100]) = (x, a, 0) ∧ ∃ h0 : (orM p l).length < a.length, a.length = (orM p l).length + 1 ∧ 2 ≤ (orM p l).length ∧ (∀ h, (a[0]'h).err = 0) ∧ ((∀ h, (a[1]'h).err ≠ 0) ∨ (a[(orM p l).length]'h0).text = f.t) := by rw [hS, hse]; exact fun h f hg hk hl => or_play (l := l) ((Tr.fine_iff u).1 h) hg hk hl
  have hT : S.2 = 0 → S.1.length ≤ 80 ∧ Tr.Right false S.1 := by
    rw [hS, hse]
    intro h
    have ok := Sy.start_ok (u := u) h
    exact ⟨Sy.okT ok, Sy.okR ok⟩
  have HSE := Lib.hid hS.symm
  have HFA := Lib.hid hfa
  have HOR := Lib.hid hor
  have HT := Lib.hid hT
  clear hse hS hfa hor hT
  obtain ⟨Ts, es⟩ := S
  dsimp only at HFA HOR HT
  have cCl := fun W => clean_any p W (by omega)
  obtain ⟨cln, hcln⟩ : ∃ b, b = Pt.clean p.data.toList := ⟨_, rfl⟩
  rw [← hcln] at cCl
  clear hcln
  go_enter Tryz.func7, Tryz.ntmps7
  go_upto_region 1 with fail
  generalize w.alloc (.cells #[.slice A u.U.length c, .slice A' u.L.length c'] 26) = w0 at *
  go_wp2_with fail
  refine (law6Alive_any w0).mono ?_
  rintro e w1 ⟨rfl, hb⟩
  have hB1 := hb0.trans (hb.mono hb0.size)
  have hq1 := hq0.below hb hq0.lt
  clear hb hb0 hq0
  have cS := seenU_any A A' c c' u w1 ((HU.out.below hB1).more hB1.size) HS.out
  unfold SeenRel at cS
  rw [HSE.out] at cS
  dsimp only at cS
  have HCS := Lib.hid cS
  clear cS HSE
  obtain ⟨q0, q1, qf, qz⟩ := hq1.two
  go_wp2_with fail
  clear q0 q1 qf qz
  refine HCS.out.mono ?_
  rintro e w2 ⟨v2, rfl, ho2, hb⟩
  have hB2 := hB1.trans (hb.mono hB1.size)
  have hq2 := hq1.below hb hq1.lt
  obtain ⟨A4, c4, rfl, hc4, hr4⟩ := EnOwn.rd ho2
  clear hb hB1 hq1 HCS ho2
  rcases te : (es != 0) with _ | _
  rotate_left
  · clear hq2 hr4
    go_wp2_with fail
    go_ret
    exact ⟨rfl, hB2⟩
  have hes : es = 0 := by simpa using te
  subst hes
  obtain ⟨hTl, hTr⟩ := HT.out rfl
  have HFA2 := Lib.hid (HFA.out rfl)
  have HOR2 := Lib.hid (HOR.out rfl)
  have HTR := Lib.hid hTr
  clear HT HFA HOR hTr te
  rcases tl : decide ((80 : Int) < (l.length : Int) + 3) with _ | _
  rotate_left
  · clear hq2 hr4
    go_wp2_with fail
    go_ret
    exact ⟨rfl, hB2⟩
  have hl80 : l.length + 3 ≤ 80 := by have := of_decide_eq_false tl; omega
  go_wp2_with fail
  refine (cCl w2).mono ?_
  rintro e w3 ⟨rfl, hb⟩
  have hB3 := hB2.trans (hb.mono hB2.size)
  have hq3 := hq2.below hb hq2.lt
  have hr3 := (Rd.below hr4 hb).more hb.size
  clear hb hB2 hq2 hr4 cCl tl
  rcases cln with _ | _
  · go_wp2_with fail
    go_ret
    exact ⟨rfl, hB3⟩
  have cG := get_any A4 c4 Ts p w3 hr3 (Tr.right_sm HTR.out) (by omega) (by omega)
  have HCG := Lib.hid cG
  clear cG
  go_wp2_with fail
  refine HCG.out.mono ?_
  rintro e w4 ⟨r, rfl, hr, hb⟩
  have hgr : r = Tr.get Ts p.data.toList := hr.2 (.inl HTR.out.2.1)
  have hB4 := hB3.trans (hb.mono hB3.size)
  have hq4 := hq3.below hb hq3.lt
  clear hb hB3 hq3 hr3 HCG hr
  have HGR := Lib.hid hgr
  clear hgr
  obtain ⟨y, hy⟩ : ∃ y, y = r.getD En.zero := ⟨_, rfl⟩
  rw [← hy]
  have HY := Lib.hid hy
  clear hy
  obtain ⟨dp, dk, dt, dop⟩ := y
  simp only [En.agg, En.cells]
  have hb5 := (Below.refl w4.heap.size w4).alloc (Nat.le_refl _) (.cells #[.string dp, .int .i64 dk, .string dt, .bool dop] 53)
  have hB5 := hB4.trans (hb5.mono hB4.size)
  have hq5 := hq4.below hb5 hq4.lt
  have hd5 := Blk.new w4 53 [.string dp, .int .i64 dk, .string dt, .bool dop]
  clear hb5 hB4 hq4
  go_upto_region 7 with fail
  change Code.wp _ _ _ _ (w4.alloc (.cells #[.string dp, .int .i64 dk, .string dt, .bool dop] 53))
  generalize w4.alloc (.cells #[.string dp, .int .i64 dk, .string dt, .bool dop] 53) = w5 at *
  generalize w4.heap.size = gd at *
  obtain ⟨d0, d1, d2, d3, df, dz⟩ := hd5.four
  rcases r with _ | f
  · clear HOR2 HY
    go_wp2_with fail
    go_ret
    exact ⟨rfl, hB5⟩
  have hfy : (⟨dp, dk, dt, dop⟩ : En) = f := HY.out
  subst hfy
  rcases tk : (dk != 1) with _ | _
  rotate_left
  · clear HOR2 HY
    go_wp2_with fail
    go_ret
    exact ⟨rfl, hB5⟩
  have hk1 : dk = 1 := by simpa using tk
  obtain ⟨x, an, hpl, h0, hal, hm2, ha0, ha1⟩ := HOR2.out _ HGR.out.symm hk1 hl80
  have HPL := Lib.hid hpl
  have HA0 := Lib.hid ha0
  have HA1 := Lib.hid ha1
  clear HOR2 HY HGR hpl ha0 ha1
  have ho6 : (w5.alloc (.cells ((orM p (l.take 0)).flatMap Ca.cells).toArray 50)).ownsRow w5.heap.size 50 9 (.slice (some ⟨w5.heap.size, 0, none⟩) 2 2) 2 ((orM p (l.take 0)).flatMap Ca.cells) := ⟨rfl, .inr ⟨w5.heap.size, 2, ((orM p (l.take 0)).flatMap Ca.cells).toArray, rfl, Nat.le_refl _, heap_alloc_new w5 _, Nat.le_refl _, by decide, rfl, rfl⟩⟩
  have hB6 : Below w5.heap.size w5 (w5.alloc (.cells ((orM p (l.take 0)).flatMap Ca.cells).toArray 50)) := (Below.refl _ w5).alloc (Nat.le_refl _) _
  have HO6 := Lib.hid ho6
  clear ho6
  go_upto_region 10 with fail
  change Code.wp _ _ _ _ (w5.alloc (.cells ((orM p (l.take 0)).flatMap Ca.cells).toArray 50))
  generalize w5.alloc (.cells ((orM p (l.take 0)).flatMap Ca.cells).toArray 50) = w6 at *
  have HL5 := Lib.hid (HL.out.below hB5)
  clear HL d0 d1 d2 d3 df dz
  go_wp2_with fail
  go_loopw [11, 56] (fun u11 i wr => ∃ k : Nat, k ≤ l.length ∧ i = .int .i64 k ∧ Hid (wr.ownsRow w5.heap.size 50 9 u11 (orM p (l.take k)).length ((orM p (l.take k)).flatMap Ca.cells)) ∧ Below w5.heap.size w5 wr) (fun _ i _ => l.length - (intOf i).toNat)
  case atStart => exact ⟨0, Nat.zero_le _, rfl, HO6, hB6⟩
  case round =>
    clear HO6 hB6
    obtain ⟨k, hk, rfl, HG, hB⟩ := hrel
    by_cases hlt : k < l.length
    · obtain ⟨bc, oc, rfl, hbc, c0, c1, c2q, c3, c4, c5, c6, c7, c8⟩ := HL5.out k hlt
      have hG : orM p (l.take (k + 1)) = orM p (l.take k) ++ (if (l[k].owner != 3) = true then [l[k]] else []) := by
        rw [List.take_succ_eq_append_getElem hlt]
        exact orM_snoc p _ _
      have hgl := orM_len p (l.take k)
      have hgk : (l.take k).length ≤ k := by rw [List.length_take]; omega
      generalize orM p (l.take k) = G at HG hG hgl
      generalize l[k] = y at c0 c1 c2q c3 c4 c5 c6 c7 c8 hG
      obtain ⟨yk, yo, yf, yn, ym, yp, yt, yx, ya⟩ := y
      dsimp only at c0 c1 c2q c3 c4 c5 c6 c7 c8 hG
      replace c0 : wr.cell? ⟨bc, oc + k * 9, none⟩ = _ := (hB.cell (p := ⟨bc, oc + k * 9, none⟩) hbc).trans c0
      replace c1 : wr.cell? ⟨bc, oc + k * 9 + 1, none⟩ = _ := (hB.cell (p := ⟨bc, oc + k * 9 + 1, none⟩) hbc).trans c1
      replace c2q : wr.cell? ⟨bc, oc + k * 9 + 2, none⟩ = _ := (hB.cell (p := ⟨bc, oc + k * 9 + 2, none⟩) hbc).trans c2q
      replace c3 : wr.cell? ⟨bc, oc + k * 9 + 3, none⟩ = _ := (hB.cell (p := ⟨bc, oc + k * 9 + 3, none⟩) hbc).trans c3
      replace c4 : wr.cell? ⟨bc, oc + k * 9 + 4, none⟩ = _ := (hB.cell (p := ⟨bc, oc + k * 9 + 4, none⟩) hbc).trans c4
      replace c5 : wr.cell? ⟨bc, oc + k * 9 + 5, none⟩ = _ := (hB.cell (p := ⟨bc, oc + k * 9 + 5, none⟩) hbc).trans c5
      replace c6 : wr.cell? ⟨bc, oc + k * 9 + 6, none⟩ = _ := (hB.cell (p := ⟨bc, oc + k * 9 + 6, none⟩) hbc).trans c6
      replace c7 : wr.cell? ⟨bc, oc + k * 9 + 7, none⟩ = _ := (hB.cell (p := ⟨bc, oc + k * 9 + 7, none⟩) hbc).trans c7
      replace c8 : wr.cell? ⟨bc, oc + k * 9 + 8, none⟩ = _ := (hB.cell (p := ⟨bc, oc + k * 9 + 8, none⟩) hbc).trans c8
      have hb1 := (Below.refl wr.heap.size wr).alloc (Nat.le_refl _) (.cells #[.int .i64 yk, .int .i64 yo, .int .i64 yf, .int .i64 yn, .int .i64 ym, .string yp, .string yt, .string yx, .bool ya] 50)
      have hc1 := Blk.new wr 50 [.int .i64 yk, .int .i64 yo, .int .i64 yf, .int .i64 yn, .int .i64 ym, .string yp, .string yt, .string yx, .bool ya]
      have hBq := hB.trans (hb1.mono hB.size)
      have hoG := own_below HG.out hb1 (Nat.le_refl _)
      have HGG := Lib.hid hG
      clear HG hG hb1 hB
      go_upto_region 13 with fail
      change Code.wp _ _ _ _ (wr.alloc (.cells #[.int .i64 yk, .int .i64 yo, .int .i64 yf, .int .i64 yn, .int .i64 ym, .string yp, .string yt, .string yx, .bool ya] 50))
      generalize wr.alloc (.cells #[.int .i64 yk, .int .i64 yo, .int .i64 yf, .int .i64 yn, .int .i64 ym, .string yp, .string yt, .string yx, .bool ya] 50) = wq at *
      generalize wr.heap.size = gc at *
      have g0 : wq.cell? ⟨gc, 0, none⟩ = some (.int .i64 yk) := hc1.cell 0
      have g1 : wq.cell? ⟨gc, 1, none⟩ = some (.int .i64 yo) := hc1.cell 1
      have g2 : wq.cell? ⟨gc, 2, none⟩ = some (.int .i64 yf) := hc1.cell 2
      have g3 : wq.cell? ⟨gc, 3, none⟩ = some (.int .i64 yn) := hc1.cell 3
      have g4 : wq.cell? ⟨gc, 4, none⟩ = some (.int .i64 ym) := hc1.cell 4
      have g5 : wq.cell? ⟨gc, 5, none⟩ = some (.string yp) := hc1.cell 5
      have g6 : wq.cell? ⟨gc, 6, none⟩ = some (.string yt) := hc1.cell 6
      have g7 : wq.cell? ⟨gc, 7, none⟩ = some (.string yx) := hc1.cell 7
      have g8 : wq.cell? ⟨gc, 8, none⟩ = some (.bool ya) := hc1.cell 8
      clear c0 c1 c2q c3 c4 c5 c6 c7 c8
      rcases t3 : (yo != 3) with _ | _
      · rw [t3] at HGG
        simp only [Bool.false_eq_true, if_false, List.append_nil] at HGG
        go_wp2_with fail
        go_roundw
        case rel => exact ⟨k + 1, hlt, by go_num, by rw [HGG.out]; exact Lib.hid hoG, hBq⟩
        case measure => simp [intOf]; omega
      · rw [t3] at HGG
        simp only [if_true] at HGG
        go_wp2_with (at_builtin; go_must (refine wpList_app1 wq rfl _ _ _ rfl w5.heap.size 50 i0 _ 9 96 Tryz.underlying27 hif hi0 hi1 hi2 rfl (by decide) u11 _ _ rfl hoG [.int .i64 yk, .int .i64 yo, .int .i64 yf, .int .i64 yn, .int .i64 ym, .string yp, .string yt, .string yx, .bool ya] rfl rfl (by simp [Value.oneCell']) (by omega) (by decide) hBq.size _ rfl ?_); intro v8 w8 own8 hg8 hat8)
        have HG8 : Hid (w8.ownsRow w5.heap.size 50 9 v8 (G ++ [(⟨yk, yo, yf, yn, ym, yp, yt, yx, ya⟩ : Ca)]).length ((G ++ [(⟨yk, yo, yf, yn, ym, yp, yt, yx, ya⟩ : Ca)]).flatMap Ca.cells)) := Lib.hid (by
          rw [List.length_append, List.flatMap_append]
          exact own8)
        have hB8 := below_grown hBq hg8 hBq.size (fun q hq => (World.ownsRow.lt hoG q hq).1)
        clear own8 hg8 hat8 hoG
        go_roundw
        case rel => exact ⟨k + 1, hlt, by go_num, by rw [HGG.out]; exact HG8, hB8⟩
        case measure => simp [intOf]; omega
    · obtain rfl : k = l.length := by omega
      rw [List.take_length] at HG
      have hml := orM_len p l
      have hms := orM_sm hpz HSM.out
      have HMS := Lib.hid hms
      clear hms HL5 HSM
      generalize orM p l = M at *
      have hB9 := hB5.trans (hB.mono hB5.size)
      have hq9 := hq5.below hB hq5.lt
      have hd9 := hd5.below hB hd5.lt
      obtain ⟨Am, cm, rfl⟩ := own_slice HG.out
      obtain ⟨q0, q1, qf, qz⟩ := hq9.two
      have hqd := hq9.drew
      have hoGd : wr.drew.ownsRow w5.heap.size 50 9 (.slice Am M.length cm) M.length (M.flatMap Ca.cells) := HG.out
      have hBd : Below w5.heap.size w5 wr.drew := hB.drew
      have hgz : ∀ q, (Value.slice Am M.length cm).ownBlock = some q → w5.heap.size ≤ q := fun q e => (World.ownsRow.lt HG.out q e).1
      have hgl : ∀ q, (Value.slice Am M.length cm).ownBlock = some q → q < wr.heap.size := fun q e => (World.ownsRow.lt HG.out q e).2
      have hq5z := hq5.lt
      have hd5z := hd5.lt
      have hs5 : w5.heap.size ≤ wr.heap.size := hB.size
      have hsr : wr.drew.heap.size = wr.heap.size := rfl
      have hBb1 := hBd.alloc hBd.size (.cells #[.slice none 0 0, .slice none 0 0, .slice none 0 0, .int .i64 0] 33)
      have hBb := hBb1.alloc hBb1.size (.cells #[.int .i64 3, .int .i64 3, .int .i64 0, .int .i64 100, .int .i64 0, .string ⟨#[]⟩, .string ⟨#[]⟩, .string ⟨#[]⟩, .bool false] 50)
      have hoGb := own_alloc (own_alloc hoGd (.cells #[.slice none 0 0, .slice none 0 0, .slice none 0 0, .int .i64 0] 33)) (.cells #[.int .i64 3, .int .i64 3, .int .i64 0, .int .i64 100, .int .i64 0, .string ⟨#[]⟩, .string ⟨#[]⟩, .string ⟨#[]⟩, .bool false] 50)
      have hlCb := Blk.new (wr.drew.alloc (.cells #[.slice none 0 0, .slice none 0 0, .slice none 0 0, .int .i64 0] 33)) 50 [.int .i64 3, .int .i64 3, .int .i64 0, .int .i64 100, .int .i64 0, .string ⟨#[]⟩, .string ⟨#[]⟩, .string ⟨#[]⟩, .bool false]
      have hzb : Blk _ wr.heap.size 33 [.slice none 0 0, .slice none 0 0, .slice none 0 0, .int .i64 0] := (Blk.new wr.drew 33 [.slice none 0 0, .slice none 0 0, .slice none 0 0, .int .i64 0]).alloc (.cells #[.int .i64 3, .int .i64 3, .int .i64 0, .int .i64 100, .int .i64 0, .string ⟨#[]⟩, .string ⟨#[]⟩, .string ⟨#[]⟩, .bool false] 50)
      have hBc1 := hBd.alloc hBd.size (.cells #[.int .i64 3, .int .i64 3, .int .i64 0, .int .i64 100, .int .i64 0, .string ⟨#[]⟩, .string ⟨#[]⟩, .string ⟨#[]⟩, .bool false] 50)
      have hBc := hBc1.alloc hBc1.size (.cells #[.slice none 0 0, .slice none 0 0, .slice none 0 0, .int .i64 0] 33)
      have hoGc := own_alloc (own_alloc hoGd (.cells #[.int .i64 3, .int .i64 3, .int .i64 0, .int .i64 100, .int .i64 0, .string ⟨#[]⟩, .string ⟨#[]⟩, .string ⟨#[]⟩, .bool false] 50)) (.cells #[.slice none 0 0, .slice none 0 0, .slice none 0 0, .int .i64 0] 33)
      have hlCc := (Blk.new wr.drew 50 [.int .i64 3, .int .i64 3, .int .i64 0, .int .i64 100, .int .i64 0, .string ⟨#[]⟩, .string ⟨#[]⟩, .string ⟨#[]⟩, .bool false]).alloc (.cells #[.slice none 0 0, .slice none 0 0, .slice none 0 0, .int .i64 0] 33)
      have hzc := Blk.new (wr.drew.alloc (.cells #[.int .i64 3, .int .i64 3, .int .i64 0, .int .i64 100, .int .i64 0, .string ⟨#[]⟩, .string ⟨#[]⟩, .string ⟨#[]⟩, .bool false] 50)) 33 [.slice none 0 0, .slice none 0 0, .slice none 0 0, .int .i64 0]
      simp only [World.size_alloc] at hlCb hzc
      replace hzc : Blk _ (wr.heap.size + 1) 33 [.slice none 0 0, .slice none 0 0, .slice none 0 0, .int .i64 0] := hzc
      have hneb : some wr.heap.size ≠ (Value.slice Am M.length cm).ownBlock := fun e => by
        have := hgl _ e.symm
        omega
      have hnec : some (wr.heap.size + 1) ≠ (Value.slice Am M.length cm).ownBlock := fun e => by
        have := hgl _ e.symm
        omega
      go_wp2_with fail
      go_region_held3 (fun W => W.cell? ⟨w.heap.size, 0, none⟩ = some (.slice A u.U.length c) ∧ W.cell? ⟨w.heap.size, 1, none⟩ = some (.slice A' u.L.length c'))
        (first
          | with_reducible exact keep_u hqd
          | with_reducible exact keep_u (hqd.alloc _)
          | with_reducible exact keep_u ((hqd.alloc _).alloc _)
          | with_reducible exact keep_u (hq9.alloc _).drew
          | with_reducible exact keep_u ((hq9.alloc _).alloc _).drew
          | with_reducible exact keep_u hq8
          | with_reducible exact keep_u (hq8.alloc _)
          | with_reducible exact keep_u hq10
          | with_reducible exact keep_u (hq10.alloc _)
          | with_reducible exact keep_u (Blk.far4 hq10 hnq _ _ _ _)
          | exact keep_u (Blk.far4 hq10 hnq _ _ _ _)
          | go_keep)
        (first
          | (go_at_call 15
             (with_reducible change Calls _ _ _ w8 _)
             have cP8 := play_any A A' A8 c c' c8 u (M ++ [Sy.readC 3 100]) w8 ((HU.out.below hBw8).more hBw8.size) HS.out (cas_own ho8) HMS.out (by rw [List.length_append]; show _ + 1 ≤ 4000000; omega)
             rw [HPL.out, List.length_append] at cP8
             unfold PlayRel at cP8
             dsimp only at cP8
             refine cP8.mono ?_
             rintro e w10 ⟨A2, A2', c2, c2', AT2, cT2, va, rfl, -, -, -, hO, hbp⟩
             have hb10 := hbp
             try have hz10 := hz8.below hb10 hz8.lt
             have hq10 := hq8.below hb10 hq8.lt
             have hd10 := hd8.below hb10 hd8.lt
             have hBB := hBw8.trans (hb10.mono hBw8.size)
             try obtain ⟨z0, z1, z2, z3, zff, zz⟩ := hz10.four)
          | (go_at_call 15
             (with_reducible change Calls _ _ _ (w8.alloc (.cells #[.slice none 0 0, .slice none 0 0, .slice none 0 0, .int .i64 0] 33)) _)
             have hbz := (Below.refl w8.heap.size w8).alloc (Nat.le_refl _) (.cells #[.slice none 0 0, .slice none 0 0, .slice none 0 0, .int .i64 0] 33)
             have hBw8' := hBw8.trans (hbz.mono hBw8.size)
             have cP8 := play_any A A' A8 c c' c8 u (M ++ [Sy.readC 3 100]) (w8.alloc (.cells #[.slice none 0 0, .slice none 0 0, .slice none 0 0, .int .i64 0] 33)) ((HU.out.below hBw8').more hBw8'.size) HS.out (cas_own (own_below ho8 hbz (Nat.le_refl _))) HMS.out (by rw [List.length_append]; show _ + 1 ≤ 4000000; omega)
             rw [HPL.out, List.length_append] at cP8
             unfold PlayRel at cP8
             dsimp only at cP8
             refine cP8.mono ?_
             rintro e w10 ⟨A2, A2', c2, c2', AT2, cT2, va, rfl, -, -, -, hO, hbp⟩
             have hb10 := hbz.trans (hbp.mono hbz.size)
             have hz10 := (Blk.new w8 33 [.slice none 0 0, .slice none 0 0, .slice none 0 0, .int .i64 0]).below hbp (Blk.new w8 33 [.slice none 0 0, .slice none 0 0, .slice none 0 0, .int .i64 0]).lt
             have hnq : w.heap.size ≠ w8.heap.size := by omega
             have hnd : gd ≠ w8.heap.size := by omega
             have hnl : w.heap.size ≤ w8.heap.size := by omega
             have hq10 := hq8.below hb10 hq8.lt
             have hd10 := hd8.below hb10 hd8.lt
             have hBB := hBw8.trans (hb10.mono hBw8.size)
             try obtain ⟨z0, z1, z2, z3, zff, zz⟩ := hz10.four)
          | ((with_reducible refine at_app (World.drew (World.alloc wr _)) ?_)
             refine step_app1 wr.drew rfl _ _ _ rfl w5.heap.size 50 i0 _ 9 96 Tryz.underlying27 hif hi0 hi1 hi2 rfl (by decide) (.slice Am M.length cm) _ _ rfl hoGd [.int .i64 3, .int .i64 3, .int .i64 0, .int .i64 100, .int .i64 0, .string ⟨#[]⟩, .string ⟨#[]⟩, .string ⟨#[]⟩, .bool false] rfl rfl (by simp [Value.oneCell']) (by omega) (by decide) hBd.size _ rfl ?_
             intro v8 w8 own8 hg8 hat8
             have hB8 := below_grown hBd hg8 hBd.size hgz
             have hBw8 := hB5.trans (hB8.mono hB5.size)
             have hs8 := hg8.size
             have hq8 := hq5.below hB8 hq5z
             have hd8 := hd5.below hB8 hd5z
             obtain ⟨A8, c8, rfl⟩ := own_slice own8
             have ho8 : w8.ownsRow w5.heap.size 50 9 (.slice A8 (M ++ [Sy.readC 3 100]).length c8) (M ++ [Sy.readC 3 100]).length ((M ++ [Sy.readC 3 100]).flatMap Ca.cells) := by
               rw [List.length_append, List.flatMap_append]
               exact own8)
          | ((with_reducible refine at_app (World.drew (World.alloc (World.alloc wr (.cells #[.slice none 0 0, .slice none 0 0, .slice none 0 0, .int .i64 0] 33)) _)) ?_)
             refine step_appB ((wr.drew.alloc (.cells #[.slice none 0 0, .slice none 0 0, .slice none 0 0, .int .i64 0] 33)).alloc (.cells #[.int .i64 3, .int .i64 3, .int .i64 0, .int .i64 100, .int .i64 0, .string ⟨#[]⟩, .string ⟨#[]⟩, .string ⟨#[]⟩, .bool false] 50)) rfl _ _ _ rfl w5.heap.size 50 i0 _ 9 96 Tryz.underlying27 hif hi0 hi1 hi2 rfl (by decide) (.slice Am M.length cm) _ _ rfl hoGb _ _ [.int .i64 3, .int .i64 3, .int .i64 0, .int .i64 100, .int .i64 0, .string ⟨#[]⟩, .string ⟨#[]⟩, .string ⟨#[]⟩, .bool false] rfl hlCb rfl (by simp [Value.oneCell']) (by omega) (by decide) hBb.size ?_
             intro v8 w8 own8 hg8 hat8
             have hB8 := below_grown hBb hg8 hBb.size hgz
             have hz8 := hzb.grown hg8 hneb
             have hnq : w.heap.size ≠ wr.heap.size := by omega
             have hnd : gd ≠ wr.heap.size := by omega
             have hnl : w.heap.size ≤ wr.heap.size := by omega
             have hBw8 := hB5.trans (hB8.mono hB5.size)
             have hs8 := hg8.size
             have hq8 := hq5.below hB8 hq5z
             have hd8 := hd5.below hB8 hd5z
             obtain ⟨A8, c8, rfl⟩ := own_slice own8
             have ho8 : w8.ownsRow w5.heap.size 50 9 (.slice A8 (M ++ [Sy.readC 3 100]).length c8) (M ++ [Sy.readC 3 100]).length ((M ++ [Sy.readC 3 100]).flatMap Ca.cells) := by
               rw [List.length_append, List.flatMap_append]
               exact own8)
          | ((with_reducible refine at_app (World.drew (World.alloc (World.alloc wr _) (.cells #[.slice none 0 0, .slice none 0 0, .slice none 0 0, .int .i64 0] 33))) ?_)
             refine step_appB ((wr.drew.alloc (.cells #[.int .i64 3, .int .i64 3, .int .i64 0, .int .i64 100, .int .i64 0, .string ⟨#[]⟩, .string ⟨#[]⟩, .string ⟨#[]⟩, .bool false] 50)).alloc (.cells #[.slice none 0 0, .slice none 0 0, .slice none 0 0, .int .i64 0] 33)) rfl _ _ _ rfl w5.heap.size 50 i0 _ 9 96 Tryz.underlying27 hif hi0 hi1 hi2 rfl (by decide) (.slice Am M.length cm) _ _ rfl hoGc _ _ [.int .i64 3, .int .i64 3, .int .i64 0, .int .i64 100, .int .i64 0, .string ⟨#[]⟩, .string ⟨#[]⟩, .string ⟨#[]⟩, .bool false] rfl hlCc rfl (by simp [Value.oneCell']) (by omega) (by decide) hBc.size ?_
             intro v8 w8 own8 hg8 hat8
             have hB8 := below_grown hBc hg8 hBc.size hgz
             have hz8 := hzc.grown hg8 hnec
             have hnq : w.heap.size ≠ (wr.heap.size + 1) := by omega
             have hnd : gd ≠ (wr.heap.size + 1) := by omega
             have hnl : w.heap.size ≤ (wr.heap.size + 1) := by omega
             have hBw8 := hB5.trans (hB8.mono hB5.size)
             have hs8 := hg8.size
             have hq8 := hq5.below hB8 hq5z
             have hd8 := hd5.below hB8 hd5z
             obtain ⟨A8, c8, rfl⟩ := own_slice own8
             have ho8 : w8.ownsRow w5.heap.size 50 9 (.slice A8 (M ++ [Sy.readC 3 100]).length c8) (M ++ [Sy.readC 3 100]).length ((M ++ [Sy.readC 3 100]).flatMap Ca.cells) := by
               rw [List.length_append, List.flatMap_append]
               exact own8))
      all_goals
        obtain ⟨Aa, ca, rfl, hat⟩ := hO.at_
        have h0z : 0 < an.length := by omega
        have h1z : 1 < an.length := by omega
        obtain ⟨b, o, -, -, rfl, hbz, p0, p0n, -, -, -⟩ := hat 0 h0z
        obtain ⟨b', o', -, -, hbe, -, p1, -, -, -, -⟩ := hat 1 h1z
        cases hbe
        obtain ⟨b', o', -, -, hbe, -, -, -, pm, -, -⟩ := hat M.length h0
        cases hbe
        rw [HA0.out h0z] at p0
        have ha1 : an[1].err ≠ 0 ∨ an[M.length].text = dt := HA1.out.imp (fun f => f h1z) id
        generalize an[1].err = e1 at p1 ha1
        generalize an[M.length].text = xm at pm ha1
        generalize an[0].n = n0 at p0n
        replace p0 : w10.cell? ⟨b, o, none⟩ = _ := p0
        replace p0n : w10.cell? ⟨b, o + 1, none⟩ = _ := p0n
        replace p1 : w10.cell? ⟨b, o + 4, none⟩ = _ := p1
        replace pm : w10.cell? ⟨b, o + M.length * 4 + 2, none⟩ = _ := pm
        try rw [hal]
        go_upto_region 17 with fail
        refine wp_any (fun W => Blk W gd 53 [.string dp, .int .i64 dk, .string dt, .bool dop] ∧ Below w.heap.size w W ∧ W.cell? ⟨b, o, none⟩ = some (.int .i64 0) ∧ W.cell? ⟨b, o + 4, none⟩ = some (.int .i64 e1) ∧ W.cell? ⟨b, o + M.length * 4 + 2, none⟩ = some (.string xm)) ?_ ?_
        · first
            | exact ⟨hd10.alloc _, hBB.alloc hBB.size _, cell_alloc p0 _, cell_alloc p1 _, cell_alloc pm _⟩
            | exact ⟨Blk.far4 hd10 hnd _ _ _ _, hBB.set4 hnl _ _ _ _, cell_far4 p0 (ne_shown hz10 p0 p0n) _ _ _ _, cell_far4 p1 (ne_shown hz10 p0 p0n) _ _ _ _, cell_far4 pm (ne_shown hz10 p0 p0n) _ _ _ _⟩
        clear p0 p0n p1 pm hat hO hbz hBB hd10 hd8 hd9 hd5 hB8 hBw8 hb10 hg8 own8 ho8 q0 q1 qf qz hoGd hBd hgz HG hB hat8
        intro w11 ⟨hdS, hBS, p0, p1, pm⟩
        obtain ⟨d0, d1, d2, d3, df, dz⟩ := hdS.four
        rcases t1 : (e1 != 0) with _ | _
        · have he1 : e1 = 0 := by simpa using t1
          have hx : xm = dt := ha1.resolve_left (fun h => h he1)
          subst hx
          have f4 : (xm.toList == xm.toList) = true := by simp
          refine wp_region_quiet_lit (by kernel_rfl) (by kernel_rfl) ?_
          repeat (first | go_big_quiet_step (fail) | quiet_step (fail))
          refine wpQuiet_nil ?_
          intro w2 hw'
          obtain ⟨nq, hw''⟩ := hw'
          subst hw''
          go_wp2_with fail
          go_ret
          exact ⟨rfl, below_drewN hBS nq⟩
        · refine wp_region_quiet_lit (by kernel_rfl) (by kernel_rfl) ?_
          repeat (first | go_big_quiet_step (fail) | quiet_step (fail))
          refine wpQuiet_nil ?_
          intro w2 hw'
          obtain ⟨nq, hw''⟩ := hw'
          subst hw''
          go_wp2_with fail
          go_ret
          exact ⟨rfl, below_drewN hBS nq⟩
end Go.Proofs.YtjppfhgkanbemacGreatDoor
