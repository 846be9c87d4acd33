/-
  tree.Put.
  tree.Remove.
  tree.List.
  tree.moves, and the comparison of tree.Move's sort.
  tree.Move. (Printed by wip/genmove.py.)
-/
import Derived.Test.YtjppfhgkanbemacGreatDoorMG
import Derived.Test.YtjppfhgkanbemacGreatDoorMF
import Derived.BigQuiet
import Derived.Test.YtjppfhgkanbemacGreatDoorMC
import Derived.Test.YtjppfhgkanbemacGreatDoorMB
namespace Go.Proofs.YtjppfhgkanbemacGreatDoor
open Go.RowKit Go.Shelf Go.Sort

theorem eflat_set (l : List En) (k : Nat) (hk : k < l.length) (x : En) : ((((En.flat l).set (k * 4) (.string x.p)).set (k * 4 + 1) (.int .i64 x.k)).set (k * 4 + 2) (.string x.t)).set (k * 4 + 3) (.bool x.o) = En.flat (l.set k x) := by
  induction l generalizing k with
  | nil => simp at hk
  | cons y r ih =>
    cases k with
    | zero => rfl
    | succ k =>
      have h := ih k (by simpa using hk)
      have e : (k + 1) * 4 = k * 4 + 4 := by omega
      rw [e]
      show _ = y.cells ++ En.flat (r.set k x)
      rw [← h]
      rfl
theorem ins_set {l : List En} {x : En} {k : Nat} (hk : k < l.length) (h1 : ∀ t (h : t < l.length), t < k → Pt.cmp l[t].P x.P < 0) (he : l[k].P = x.P) : Tr.ins x l = l.set k x := by
  induction l generalizing k with
  | nil => simp at hk
  | cons y r ih =>
    cases k with
    | zero =>
      have he' : y.P = x.P := he
      rw [Tr.ins, if_neg (by rw [he', Pt.cmp_self]; omega), if_pos he']; rfl
    | succ k =>
      have := h1 0 (by simp) (by omega)
      rw [Tr.ins, if_pos (by simpa using this), ih (k := k) (by simpa using hk) (fun t h ht => h1 (t + 1) (by simpa using h) (by omega)) (by simpa using he)]
      rfl

theorem dirErr_none {t : List En} {d : Pt.Bs} (h : (Tr.get t d).isSome = false) : Tr.dirErr t d = 6 := by
  unfold Tr.dirErr
  rcases g : Tr.get t d with _ | x
  · rfl
  · rw [g] at h; cases h
theorem dirErr_kind {t : List En} {d : Pt.Bs} {r : Option En} (hr : r = Tr.get t d) (h : r.isSome = true) (hk : ((r.getD En.zero).k != 2) = true) : Tr.dirErr t d = 10 := by
  unfold Tr.dirErr
  rw [← hr]
  cases r with
  | none => cases h
  | some x => exact if_pos (by simpa using hk)
theorem dirErr_ok {t : List En} {d : Pt.Bs} {r : Option En} (hr : r = Tr.get t d) (h : r.isSome = true) (hk : ((r.getD En.zero).k != 2) = false) : Tr.dirErr t d = 0 := by
  unfold Tr.dirErr
  rw [← hr]
  cases r with
  | none => cases h
  | some x => exact if_neg (by simpa using hk)
theorem ret_put {l m : List En} {x : En} {e : Int} {v : Value} (h : Tr.put l x = (m, e)) : Ending.returned (.tuple #[v, .int .i64 e]) = .returned (.tuple #[v, .int .i64 (Tr.put l x).2]) := by rw [h]
theorem put_bad {l : List En} {x : En} {e : Int} (h : Tr.putErr l x = e) (he : e ≠ 0) : Tr.put l x = ([], e) := by unfold Tr.put; rw [h, if_pos he]
theorem put_good {l m : List En} {x : En} (h : Tr.putErr l x = 0) (hm : Tr.ins x l = m) : Tr.put l x = (m, 0) := by unfold Tr.put; rw [h, if_neg (by simp), hm]

/-- What Put answers. -/
def PutRel (l : List En) (x : En) (w : World) (e : Ending) (w' : World) : Prop :=
  ∃ v, e = .returned (.tuple #[v, .int .i64 (Tr.put l x).2]) ∧ EnOwn w' w.heap.size v (Tr.put l x).1 ∧ Below w.heap.size w w'

set_option maxHeartbeats 4000000 in
set_option maxRecDepth 100000 in
theorem put_any (A : Option Addr) (c : Nat) (l : List En) (xp : ByteArray) (xk : Int) (xt : ByteArray) (xo : Bool) (w : World) (hl : EnRd w w.heap.size A l) (hc : l.length ≤ c) (hs : Sm l) (hxp : xp.size < 4294967281) (hxt : xt.size < 4294967281) (hn : l.length ≤ 2305843009213693952) :
    Calls Tryz.prog 92 #[.slice A l.length c, .agg #[.string xp, .int .i64 xk, .string xt, .bool xo]] w (PutRel l ⟨xp, xk, xt, xo⟩ w) := by
  obtain ⟨x, hx⟩ : ∃ x : En, x = ⟨xp, xk, xt, xo⟩ := ⟨_, rfl⟩
  have HX := Lib.hid hx
  rw [← hx]
  have c1 := fun W h => wrongT_any A c l W h hc hs hn
  obtain ⟨pt, hpt⟩ : ∃ pr, pr = Tr.wrong l false := ⟨_, rfl⟩
  rw [← hpt] at c1
  have HT := Lib.hid hpt.symm
  have HS := Lib.hid hs
  obtain ⟨y, y'⟩ := pt
  clear hpt hs hx
  dsimp only at c1
  have hB0 := (Below.refl w.heap.size w).alloc (Nat.le_refl _) (.cells #[.string xp, .int .i64 xk, .string xt, .bool xo] 53)
  have hx0 := Blk.new w 53 [.string xp, .int .i64 xk, .string xt, .bool xo]
  unfold PutRel
  go_enter Tryz.func92, Tryz.ntmps92
  go_wp2_with fail
  generalize w.alloc (.cells #[.string xp, .int .i64 xk, .string xt, .bool xo] 53) = w0 at *
  refine (c1 w0 ((hl.below hB0).more hB0.size)).mono ?_
  rintro e w1 ⟨rfl, hb⟩
  have hB1 := hB0.trans (hb.mono hB0.size)
  have hx1 := hx0.below hb hx0.lt
  clear hb hB0 hx0 c1
  have hB2 := hB1.alloc hB1.size (.cells #[.int .i64 y, .int .i64 y'] 46)
  have hq2 := Blk.new w1 46 [.int .i64 y, .int .i64 y']
  have hx2 := hx1.alloc (.cells #[.int .i64 y, .int .i64 y'] 46)
  clear hB1 hx1
  rcases ty : (y != 0) with _ | _
  rotate_left
  · have HO : Hid (Tr.put l x = ([], y)) := Lib.hid (put_bad (by unfold Tr.putErr; rw [HT.out, if_pos (by simpa using ty)]) (by simpa using ty))
    go_wp2_with fail
    generalize w1.alloc (.cells #[.int .i64 y, .int .i64 y'] 46) = w2 at *
    generalize w1.heap.size = g1 at *
    obtain ⟨q0, q1, qf, qz⟩ := hq2.two
    go_quiet (fail)
    go_wp2_with fail
    go_ret2
    exact ⟨_, ret_put HO.out, by rw [HO.out]; exact EnOwn.nil _ _, below_drewN hB2 _⟩
  have HT0 : Hid ((Tr.wrong l false).1 = 0) := Lib.hid (by rw [HT.out]; simpa using ty)
  have hl80 := ((Tr.wrong_zero l false).1 HT0.out).1
  have RT := Lib.hid ((Tr.wrong_zero l false).1 HT0.out).2
  go_wp2_with fail
  generalize w1.alloc (.cells #[.int .i64 y, .int .i64 y'] 46) = w2 at *
  clear hq2
  obtain ⟨x0, x1, x2, x3, xfr, xz⟩ := hx2.four
  have cE := entry_any w.heap.size 0 ⟨xp, xk, xt, xo⟩ false w2 ⟨x0, x1, x2, x3⟩ xz hxp hxt
  rw [← HX.out] at cE
  have HE1 := Lib.hid (show Tr.entry x false ≠ 0 → Tr.put l x = ([], Tr.entry x false) from fun h => put_bad (by unfold Tr.putErr; rw [if_neg (by simp [HT0.out]), if_pos h]) h)
  have HE2 := Lib.hid (show Tr.entry x false = 0 → ∀ e, (if Tr.dirErr l (Pt.dirOf x.P) ≠ 0 then Tr.dirErr l (Pt.dirOf x.P) else Tr.kindErr l x) = e → Tr.putErr l x = e from fun h e he => by unfold Tr.putErr; rw [if_neg (by simp [HT0.out]), if_neg (by simp [h]), he])
  have HE3 := Lib.hid (show Tr.entry x false = 0 → x.P ≠ [] from fun h => Tr.clean_ne (Tr.entry_clean h))
  generalize Tr.entry x false = z at cE HE1 HE2 HE3
  refine cE.mono ?_
  rintro e w3 ⟨rfl, hb⟩
  have hB3 := hB2.trans (hb.mono hB2.size)
  have hx3 := hx2.below hb hx2.lt
  clear hb hB2 hx2 cE x0 x1 x2 x3 xfr xz
  obtain ⟨x0, x1, x2, x3, xfr, xz⟩ := hx3.four
  rcases tz : (z != 0) with _ | _
  rotate_left
  · have HO := Lib.hid (HE1.out (by simpa using tz))
    go_wp2_with fail
    go_ret2
    exact ⟨_, ret_put HO.out, by rw [HO.out]; exact EnOwn.nil _ _, hB3⟩
  have hz0 : z = 0 := by simpa using tz
  have HP2 := Lib.hid (HE2.out hz0)
  have HP3 := Lib.hid (HE3.out hz0)
  clear HE1 HE2 HE3 hz0
  go_wp2_with fail
  refine (cut_any xp _ (by omega)).mono ?_
  rintro e w4 ⟨rfl, hD⟩
  have hB4 := hB3.trans (hD.below (B := w.heap.size))
  have hx4 := hx3.below (hD.below (B := w3.heap.size)) hx3.lt
  clear hD hB3 hx3 x0 x1 x2 x3 xfr xz
  obtain ⟨sd, hsd⟩ : ∃ sd : ByteArray, sd = ⟨(Pt.dirOf xp.data.toList).toArray⟩ := ⟨_, rfl⟩
  have hsl : sd.data.toList = Pt.dirOf xp.data.toList := by rw [hsd]
  have hst : Pt.str (Pt.dirOf xp.data.toList) = .string sd := by rw [hsd]; rfl
  obtain ⟨sn, hsn⟩ : ∃ sn, Pt.str (Pt.nameOf xp.data.toList) = .string sn := ⟨_, rfl⟩
  rw [hst, hsn]
  have hxP : x.P = xp.data.toList := by rw [HX.out]; rfl
  have hxk : x.k = xk := by rw [HX.out]
  have hlt : sd.size < xp.size := by have := Tr.dir_short HP3.out; rw [hxP, ← hsl, size_length, size_length] at this; exact this
  have HD := Lib.hid (show Pt.dirOf x.P = sd.data.toList by rw [hxP, hsl])
  clear hsd hsl hst hsn
  go_wp2_with fail
  refine (get_any A c l sd w4 ((hl.below hB4).more hB4.size) HS.out (by omega) hn).mono ?_
  rintro e w5 ⟨r, rfl, hr, hb⟩
  have hB5 := hB4.trans (hb.mono hB4.size)
  have hx5 := hx4.below hb hx4.lt
  have HR := Lib.hid (hr.2 (.inl RT.out.2.1))
  clear hr hb hB4 hx4
  have HN := Lib.hid (show r.isSome = false → Tr.put l x = ([], 6) from fun h => put_bad (HP2.out _ (by rw [HD.out, dirErr_none (by rw [← HR.out]; exact h)]; rfl)) (by decide))
  have HK := Lib.hid (show r.isSome = true → ((r.getD En.zero).k != 2) = true → Tr.put l x = ([], 10) from fun h h2 => put_bad (HP2.out _ (by rw [HD.out, dirErr_kind HR.out h h2]; rfl)) (by decide))
  have HG := Lib.hid (show r.isSome = true → ((r.getD En.zero).k != 2) = false → ∀ e, Tr.kindErr l x = e → Tr.putErr l x = e from fun h h2 e he => HP2.out _ (by rw [HD.out, dirErr_ok HR.out h h2, he]; rfl))
  clear HR HP2 HD
  generalize r.getD En.zero = d at HN HK HG
  generalize r.isSome = ok at HN HK HG
  obtain ⟨dp, dk, dt, dop⟩ := d
  simp only [En.agg, En.cells]
  dsimp only at HN HK HG
  have hB6 := hB5.alloc hB5.size (.cells #[.string dp, .int .i64 dk, .string dt, .bool dop] 53)
  have hx6 := hx5.alloc (.cells #[.string dp, .int .i64 dk, .string dt, .bool dop] 53)
  clear hB5
  cases ok
  · have HO := Lib.hid (HN.out rfl)
    go_wp2_with fail
    go_ret2
    exact ⟨_, ret_put HO.out, by rw [HO.out]; exact EnOwn.nil _ _, hB6⟩
  rcases tk : (dk != 2) with _ | _
  rotate_left
  · have HO := Lib.hid (HK.out rfl tk)
    go_wp2_with fail
    go_ret2
    exact ⟨_, ret_put HO.out, by rw [HO.out]; exact EnOwn.nil _ _, hB6⟩
  have HG2 := Lib.hid (HG.out rfl tk)
  clear HN HK HG
  obtain ⟨x0, x1, x2, x3, xfr, xz⟩ := hx6.four
  go_wp2_with fail
  generalize w5.alloc (.cells #[.string dp, .int .i64 dk, .string dt, .bool dop] 53) = w6 at *
  clear hx5 x0 x1 x2 x3 xfr xz
  refine (find_any A c l xp w6 ((hl.below hB6).more hB6.size) HS.out hxp hn).mono ?_
  rintro e w7 ⟨k, b, rfl, hf, hb⟩
  rw [← hxP] at hf
  have hB7 := hB6.trans (hb.mono hB6.size)
  have hx7 := hx6.below hb hx6.lt
  clear hb hB6 hx6
  go_wp2_with fail
  refine (eclone_any A c l w7 ((hl.below hB7).more hB7.size) (by omega)).mono ?_
  rintro e w8 ⟨v8, rfl, ho8, hb⟩
  have hB8 := hB7.trans (hb.mono hB7.size)
  have hx8 := hx7.below hb hx7.lt
  have ho8 : EnOwn w8 w.heap.size v8 l := own_base ho8 hB7.size
  clear hb hB7 hx7
  obtain ⟨x0, x1, x2, x3, xfr, xz⟩ := hx8.four
  have hkl := hf.1
  have hfg := find_get hf RT.out.2.1 HP3.out
  cases b
  · have hgn := hfg.2 rfl
    have hins : Tr.ins x l = insAt l k x := ins_at hkl (hf.2.2 RT.out.2.1).1 (hf.2.2 RT.out.2.1).2.1 ((hf.2.2 RT.out.2.1).2.2 rfl)
    have HK5 := Lib.hid (show l.length = 80 → Tr.put l x = ([], 5) from fun h => put_bad (HG2.out 5 (by unfold Tr.kindErr; rw [hgn]; exact if_pos h)) (by decide))
    have HK0 := Lib.hid (show l.length ≠ 80 → Tr.put l x = (insAt l k x, 0) from fun h => put_good (HG2.out 0 (by unfold Tr.kindErr; rw [hgn]; exact if_neg h)) hins)
    clear hgn hins hf hfg HG2
    by_cases h80 : l.length = 80
    · have HO := Lib.hid (HK5.out h80)
      have h80' : (l.length : Int) = 80 := by omega
      clear h80
      go_wp2_with fail
      go_ret2
      exact ⟨_, ret_put HO.out, by rw [HO.out]; exact EnOwn.nil _ _, hB8⟩
    · have HO := Lib.hid (HK0.out h80)
      have h80' : ¬ (l.length : Int) = 80 := by omega
      clear h80
      go_wp2_with fail
      have hx9 := Blk.new w8 53 [.string xp, .int .i64 xk, .string xt, .bool xo]
      have hB9 := hB8.alloc hB8.size (.cells #[.string xp, .int .i64 xk, .string xt, .bool xo] 53)
      have ho9 : EnOwn _ w.heap.size v8 l := own_alloc ho8 (.cells #[.string xp, .int .i64 xk, .string xt, .bool xo] 53)
      have HXX : Hid (x.cells = [.string xp, .int .i64 xk, .string xt, .bool xo]) := Lib.hid (by rw [HX.out]; rfl)
      rcases own_shape ho8 with ⟨hv8, hv0⟩ | ⟨g, cap, hv8, hbg, hgz, hcap⟩
      · subst hv8
        have e0 : l = [] := List.length_eq_zero_iff.1 hv0
        subst e0
        have ek : k = 0 := by simpa using hkl
        subst ek
        refine (einsert_nil w8.heap.size x _ (by rw [HXX.out]; exact hx9)).mono ?_
        rintro e w9 ⟨v9, rfl, ho10, hg9⟩
        have HF := Lib.hid (And.intro (show EnOwn w9 w.heap.size v9 (insAt [] 0 x) from own_base ho10 hB9.size) (below_grown hB9 hg9 hB9.size (fun q e => by cases e)))
        clear ho10 hg9 ho9 hB9 hx9
        go_wp2_with fail
        go_ret2
        exact ⟨_, ret_put HO.out, by rw [HO.out]; exact HF.out.1, HF.out.2⟩
      · subst hv8
        refine (einsert_any w.heap.size g cap w8.heap.size k l x _ ho9 (by rw [HXX.out]; exact hx9) (by omega) hkl (by omega) hB9.size).mono ?_
        rintro e w9 ⟨v9, rfl, ho10, hg9, _⟩
        have HF := Lib.hid (And.intro ho10 (below_grown hB9 hg9 hB9.size (fun q e => by injection e with e; subst e; exact hbg)))
        clear ho10 hg9 ho9 hB9 hx9
        go_wp2_with fail
        go_ret2
        exact ⟨_, ret_put HO.out, by rw [HO.out]; exact HF.out.1, HF.out.2⟩
  · obtain ⟨hlt, hke⟩ := hf.2.1 rfl
    have hget := hfg.1 rfl
    have hins : Tr.ins x l = l.set k x := ins_set hlt (hf.2.2 RT.out.2.1).1 hke
    have HK7 := Lib.hid (show ((l[k].k == 2) != (xk == 2)) = true → Tr.put l x = ([], 7) from fun h => put_bad (HG2.out 7 (by
      unfold Tr.kindErr; rw [hget]; refine if_pos ?_; rw [hxk]; simpa using h)) (by decide))
    have HK0 := Lib.hid (show ((l[k].k == 2) != (xk == 2)) = false → Tr.put l x = (l.set k x, 0) from fun h => put_good (HG2.out 0 (by
      unfold Tr.kindErr; rw [hget]; refine if_neg ?_; rw [hxk]; simpa using h)) hins)
    clear hget hins hfg hke hf HG2
    obtain ⟨bb, o, rfl, hbb, h0, h1, h2, h3⟩ := EnRd.at_ (hl.below hB8) hlt
    generalize l[k] = zz at h0 h1 h2 h3 HK7 HK0
    obtain ⟨zp, zk, zt, zo⟩ := zz
    dsimp only at h0 h1 h2 h3 HK7 HK0
    rcases own_shape ho8 with ⟨_, hv0⟩ | ⟨g, cap, hv8, hbg, hgz, hcap⟩
    · omega
    subst hv8
    have hfl : (En.flat l).length = l.length * 4 := eflat_len l
    have c0 : ∃ u, w8.cell? ⟨g, k * 4, none⟩ = some u := ⟨_, (ho8.cellAt _ (by omega)).trans (List.getElem?_eq_getElem (by omega))⟩
    have c1 : ∃ u, w8.cell? ⟨g, k * 4 + 1, none⟩ = some u := ⟨_, (ho8.cellAt _ (by omega)).trans (List.getElem?_eq_getElem (by omega))⟩
    have c2 : ∃ u, w8.cell? ⟨g, k * 4 + 2, none⟩ = some u := ⟨_, (ho8.cellAt _ (by omega)).trans (List.getElem?_eq_getElem (by omega))⟩
    have c3 : ∃ u, w8.cell? ⟨g, k * 4 + 3, none⟩ = some u := ⟨_, (ho8.cellAt _ (by omega)).trans (List.getElem?_eq_getElem (by omega))⟩
    obtain ⟨u0, c0⟩ := c0
    obtain ⟨u1, c1⟩ := c1
    obtain ⟨u2, c2⟩ := c2
    obtain ⟨u3, c3⟩ := c3
    have fz : ∀ q, w8.frozen? ⟨g, q, none⟩ = false := fun q => ho8.frozenAt q
    obtain ⟨o4, g4⟩ := own_four ho8 (k * 4) (.string xp) (.int .i64 xk) (.string xt) (.bool xo)
    have ef := eflat_set l k hlt ⟨xp, xk, xt, xo⟩
    dsimp only at ef
    rw [ef, ← HX.out] at o4
    have HEND := Lib.hid (And.intro (show EnOwn _ w.heap.size (.slice (some ⟨g, 0, none⟩) l.length cap) (l.set k x) by unfold EnOwn; rw [List.length_set]; exact o4) (below_grown hB8 g4 hB8.size (fun q e => by injection e with e; subst e; exact hbg)))
    clear hfl o4 g4 ef
    rcases ta : (zk == 2) with _ | _ <;> rcases tb : (xk == 2) with _ | _
    · have HO := Lib.hid (HK0.out (by rw [ta, tb]; rfl))
      clear HK7 HK0
      go_wp2_with fail
      go_quiet (fail)
      go_wp2_with fail
      go_ret2
      exact ⟨_, ret_put HO.out, by rw [HO.out]; exact HEND.out.1, below_drewN HEND.out.2 nq⟩
    · have HO := Lib.hid (HK7.out (by rw [ta, tb]; rfl))
      clear HK7 HK0
      go_wp2_with fail
      go_quiet (fail)
      go_wp2_with fail
      go_ret2
      exact ⟨_, ret_put HO.out, by rw [HO.out]; exact EnOwn.nil _ _, below_drewN hB8 _⟩
    · have HO := Lib.hid (HK7.out (by rw [ta, tb]; rfl))
      clear HK7 HK0
      go_wp2_with fail
      go_quiet (fail)
      go_wp2_with fail
      go_ret2
      exact ⟨_, ret_put HO.out, by rw [HO.out]; exact EnOwn.nil _ _, below_drewN hB8 _⟩
    · have HO := Lib.hid (HK0.out (by rw [ta, tb]; rfl))
      clear HK7 HK0
      go_wp2_with fail
      go_quiet (fail)
      go_wp2_with fail
      go_ret2
      exact ⟨_, ret_put HO.out, by rw [HO.out]; exact HEND.out.1, below_drewN HEND.out.2 nq⟩
end Go.Proofs.YtjppfhgkanbemacGreatDoor

namespace Go.Proofs.YtjppfhgkanbemacGreatDoor
open Go.RowKit Go.Shelf Go.Sort

theorem ret_rem {l m : List En} {p : Pt.Bs} {e : Int} {v : Value} (h : Tr.remove l p = (m, e)) : Ending.returned (.tuple #[v, .int .i64 e]) = .returned (.tuple #[v, .int .i64 (Tr.remove l p).2]) := by rw [h]
theorem rem_bad {l : List En} {p : Pt.Bs} {e : Int} (h : Tr.removeErr l p = e) (he : e ≠ 0) : Tr.remove l p = ([], e) := by unfold Tr.remove; rw [h, if_pos he]
theorem rem_good {l m : List En} {p : Pt.Bs} (h : Tr.removeErr l p = 0) (hm : Tr.without l p = m) : Tr.remove l p = (m, 0) := by unfold Tr.remove; rw [h, if_neg (by simp), hm]

/-- What Remove answers. -/
def RemRel (l : List En) (p : Pt.Bs) (w : World) (e : Ending) (w' : World) : Prop :=
  ∃ v, e = .returned (.tuple #[v, .int .i64 (Tr.remove l p).2]) ∧ EnOwn w' w.heap.size v (Tr.remove l p).1 ∧ Below w.heap.size w w'

set_option maxHeartbeats 4000000 in
set_option maxRecDepth 100000 in
theorem remove_any (A : Option Addr) (c : Nat) (l : List En) (p : ByteArray) (w : World) (hl : EnRd w w.heap.size A l) (hc : l.length ≤ c) (hs : Sm l) (hp : p.size < 4294967281) (hn : l.length ≤ 2305843009213693952) :
    Calls Tryz.prog 95 #[.slice A l.length c, .string p] w (RemRel l p.data.toList w) := by
  have c1 := fun W h => wrongT_any A c l W h hc hs hn
  obtain ⟨pt, hpt⟩ : ∃ pr, pr = Tr.wrong l false := ⟨_, rfl⟩
  rw [← hpt] at c1
  have HT := Lib.hid hpt.symm
  have HS := Lib.hid hs
  obtain ⟨y, y'⟩ := pt
  clear hpt hs
  dsimp only at c1
  have hB0 := Below.refl w.heap.size w
  unfold RemRel
  go_enter Tryz.func95, Tryz.ntmps95
  go_wp2_with fail
  refine (c1 w hl).mono ?_
  rintro e w1 ⟨rfl, hb⟩
  have hB1 := hB0.trans (hb.mono hB0.size)
  clear hb hB0 c1
  have hB2 := hB1.alloc hB1.size (.cells #[.int .i64 y, .int .i64 y'] 46)
  have hq2 := Blk.new w1 46 [.int .i64 y, .int .i64 y']
  clear hB1
  rcases ty : (y != 0) with _ | _
  rotate_left
  · have HO : Hid (Tr.remove l p.data.toList = ([], y)) := Lib.hid (rem_bad (by unfold Tr.removeErr; rw [HT.out, if_pos (by simpa using ty)]) (by simpa using ty))
    go_wp2_with fail
    generalize w1.alloc (.cells #[.int .i64 y, .int .i64 y'] 46) = w2 at *
    generalize w1.heap.size = g1 at *
    obtain ⟨q0, q1, qf, qz⟩ := hq2.two
    go_quiet (fail)
    go_wp2_with fail
    go_ret2
    exact ⟨_, ret_rem HO.out, by rw [HO.out]; exact EnOwn.nil _ _, below_drewN hB2 _⟩
  have HT0 : Hid ((Tr.wrong l false).1 = 0) := Lib.hid (by rw [HT.out]; simpa using ty)
  have hl80 := ((Tr.wrong_zero l false).1 HT0.out).1
  have RT := Lib.hid ((Tr.wrong_zero l false).1 HT0.out).2
  have HE2 := Lib.hid (show ∀ e, (if p.data.toList = [] ∨ Tr.get l p.data.toList = none then 6 else if Tr.full l p.data.toList = true then 11 else 0) = e → Tr.removeErr l p.data.toList = e from fun e he => by unfold Tr.removeErr; rw [if_neg (by simp [HT0.out]), he])
  go_wp2_with fail
  generalize w1.alloc (.cells #[.int .i64 y, .int .i64 y'] 46) = w2 at *
  clear hq2
  refine (find_any A c l p w2 ((hl.below hB2).more hB2.size) HS.out hp hn).mono ?_
  rintro e w3 ⟨k, b, rfl, hf, hb⟩
  have hB3 := hB2.trans (hb.mono hB2.size)
  clear hb hB2
  cases b
  · have HO : Hid (Tr.remove l p.data.toList = ([], 6)) := Lib.hid (rem_bad (HE2.out 6 (by
      by_cases h0 : p.data.toList = []
      · exact if_pos (.inl h0)
      · exact if_pos (.inr ((find_get hf RT.out.2.1 h0).2 rfl)))) (by decide))
    clear hf HE2
    go_wp2_with fail
    go_ret2
    exact ⟨_, ret_rem HO.out, by rw [HO.out]; exact EnOwn.nil _ _, hB3⟩
  obtain ⟨hlt, hke⟩ := hf.2.1 rfl
  have hp0 : p.data.toList ≠ [] := fun h => Tr.right_ne RT.out (List.getElem_mem hlt) (hke.trans h)
  have hget := (find_get hf RT.out.2.1 hp0).1 rfl
  have hfull := Tr.full_next RT.out.2.1 hlt (by rw [hke]; exact hp0)
  rw [hke] at hfull
  have HF1 := Lib.hid (show Tr.full l p.data.toList = true → Tr.remove l p.data.toList = ([], 11) from fun h => rem_bad (HE2.out 11 (by rw [if_neg (by rw [hget]; simp [hp0]), if_pos h])) (by decide))
  have HF0 := Lib.hid (show Tr.full l p.data.toList = false → Tr.remove l p.data.toList = (delAt l k, 0) from fun h => rem_good (HE2.out 0 (by rw [if_neg (by rw [hget]; simp [hp0]), if_neg (by rw [h]; decide)])) (without_at RT.out.2.1 hlt hke))
  clear hget hp0 hke hf HE2
  have hw1 : IntKind.i64.wrap ((k : Int) + 1) = (k : Int) + 1 := IntWalk.i64_in _ (by omega)
  by_cases h1 : k + 1 < l.length
  · rw [dif_pos h1] at hfull
    have h1' : (k : Int) + 1 < (l.length : Int) := by omega
    obtain ⟨bb, o, rfl, hbb, h0, h2, h3, h4⟩ := EnRd.at_ (hl.below hB3) h1
    have hcu := fun W => under_any l[k + 1].p p W (by omega)
    unfold En.P at hfull
    rw [← hfull] at hcu
    generalize l[k + 1] = zz at h0 h2 h3 h4 hfull hcu
    clear hfull
    obtain ⟨zp, zk, zt, zo⟩ := zz
    dsimp only at h0 h2 h3 h4 hcu
    generalize Tr.full l p.data.toList = fu at hcu HF1 HF0
    cases fu
    · have HO := Lib.hid (HF0.out rfl)
      clear HF1 HF0
      go_wp2_with fail
      refine (hcu w3).mono ?_
      rintro e w3 ⟨rfl, rfl⟩
      go_wp2_with fail
      refine (eclone_any _ c l w3 ((hl.below hB3).more hB3.size) (by omega)).mono ?_
      rintro e w4 ⟨v4, rfl, ho4, hb⟩
      have hB4 := hB3.trans (hb.mono hB3.size)
      have ho4 : EnOwn w4 w.heap.size v4 l := own_base ho4 hB3.size
      clear hb
      go_wp2_with fail
      rcases own_shape ho4 with ⟨_, hv0⟩ | ⟨g, cap, hv4, hbg, hgz, hcap⟩
      · omega
      subst hv4
      refine (edelete_any w.heap.size g cap k l w4 ho4 hlt (by omega)).mono ?_
      rintro e w5 ⟨v5, rfl, ho5, hg5⟩
      have hB5 := below_grown hB4 hg5 hB4.size (fun q e => by injection e with e; subst e; exact hbg)
      go_wp2_with fail
      go_ret2
      exact ⟨_, ret_rem HO.out, by rw [HO.out]; exact ho5, hB5⟩
    · have HO := Lib.hid (HF1.out rfl)
      clear HF1 HF0
      go_wp2_with fail
      refine (hcu w3).mono ?_
      rintro e w3 ⟨rfl, rfl⟩
      go_wp2_with fail
      go_ret2
      exact ⟨_, ret_rem HO.out, by rw [HO.out]; exact EnOwn.nil _ _, hB3⟩
  · rw [dif_neg h1] at hfull
    have h1' : ¬ ((k : Int) + 1 < (l.length : Int)) := by omega
    have HO := Lib.hid (HF0.out hfull)
    clear HF1 HF0 hfull
    go_wp2_with fail
    refine (eclone_any _ c l w3 ((hl.below hB3).more hB3.size) (by omega)).mono ?_
    rintro e w4 ⟨v4, rfl, ho4, hb⟩
    have hB4 := hB3.trans (hb.mono hB3.size)
    have ho4 : EnOwn w4 w.heap.size v4 l := own_base ho4 hB3.size
    clear hb
    go_wp2_with fail
    rcases own_shape ho4 with ⟨_, hv0⟩ | ⟨g, cap, hv4, hbg, hgz, hcap⟩
    · omega
    subst hv4
    refine (edelete_any w.heap.size g cap k l w4 ho4 hlt (by omega)).mono ?_
    rintro e w5 ⟨v5, rfl, ho5, hg5⟩
    have hB5 := below_grown hB4 hg5 hB4.size (fun q e => by injection e with e; subst e; exact hbg)
    go_wp2_with fail
    go_ret2
    exact ⟨_, ret_rem HO.out, by rw [HO.out]; exact ho5, hB5⟩
end Go.Proofs.YtjppfhgkanbemacGreatDoor

namespace Go.Proofs.YtjppfhgkanbemacGreatDoor
open Go.RowKit Go.Shelf Go.Sort

theorem names_yes {l : List En} {p : Pt.Bs} {k : Nat} (hk : k < l.length) (h : Pt.dirOf l[k].P = p) : Tr.names (l.take (k + 1)) p = Tr.names (l.take k) p ++ [Pt.nameOf l[k].P] := by
  unfold Tr.names
  rw [List.take_succ_eq_append_getElem hk]
  rw [List.filter_append, List.map_append, List.filter_cons_of_pos (by simpa using h)]; rfl
theorem names_no {l : List En} {p : Pt.Bs} {k : Nat} (hk : k < l.length) (h : Pt.dirOf l[k].P ≠ p) : Tr.names (l.take (k + 1)) p = Tr.names (l.take k) p := by
  unfold Tr.names
  rw [List.take_succ_eq_append_getElem hk]
  rw [List.filter_append, List.map_append, List.filter_cons_of_neg (by simpa using h)]; simp
theorem names_le (l : List En) (p : Pt.Bs) : (Tr.names l p).length ≤ l.length := by
  unfold Tr.names; rw [List.length_map]; exact List.length_filter_le _ _
theorem list_bad {l : List En} {p : Pt.Bs} {e : Int} (h : Tr.dirErr l p = e) (he : e ≠ 0) : Tr.list l p = ([], e) := by unfold Tr.list; rw [h, if_pos he]
theorem list_good {l : List En} {p : Pt.Bs} (h : Tr.dirErr l p = 0) : Tr.list l p = (Tr.names l p, 0) := by unfold Tr.list; rw [h, if_neg (by simp)]
theorem ret_list {l : List En} {m : List Pt.Bs} {p : Pt.Bs} {e : Int} {v : Value} (h : Tr.list l p = (m, e)) : Ending.returned (.tuple #[v, .int .i64 e]) = .returned (.tuple #[v, .int .i64 (Tr.list l p).2]) := by rw [h]
theorem StrOwn.nil (w : World) (base : Nat) : StrOwn w base (.slice none 0 0) [] := World.ownsRow_nil _ _ _ _

/-- What List answers. -/
def ListRel (l : List En) (p : Pt.Bs) (w : World) (e : Ending) (w' : World) : Prop :=
  ∃ v, e = .returned (.tuple #[v, .int .i64 (Tr.list l p).2]) ∧ StrOwn w' w.heap.size v (Tr.list l p).1 ∧ Below w.heap.size w w'

set_option maxHeartbeats 4000000 in
theorem list_any (A : Option Addr) (c : Nat) (l : List En) (p : ByteArray) (w : World) (hl : EnRd w w.heap.size A l) (hs : Sm l) (hsrt : Tr.Srt l) (hp : p.size < 4294967281) (hn : l.length ≤ 4000000) :
    Calls Tryz.prog 75 #[.slice A l.length c, .string p] w (ListRel l p.data.toList w) := by
  obtain ⟨i0, hi, hz0, hz1, hz2⟩ := info_parts info_str
  have HS := Lib.hid hs
  clear hs
  have hB0 := Below.refl w.heap.size w
  unfold ListRel
  go_enter Tryz.func75, Tryz.ntmps75
  go_wp2_with fail
  refine (get_any A c l p w hl HS.out hp (by omega)).mono ?_
  rintro e w5 ⟨r, rfl, hr, hb⟩
  have hB5 := hB0.trans (hb.mono hB0.size)
  have HR := Lib.hid (hr.2 (.inl hsrt))
  clear hr hb hB0
  have HN := Lib.hid (show r.isSome = false → Tr.list l p.data.toList = ([], 6) from fun h => list_bad (dirErr_none (by rw [← HR.out]; exact h)) (by decide))
  have HK := Lib.hid (show r.isSome = true → ((r.getD En.zero).k != 2) = true → Tr.list l p.data.toList = ([], 10) from fun h h2 => list_bad (dirErr_kind HR.out h h2) (by decide))
  have HG := Lib.hid (show r.isSome = true → ((r.getD En.zero).k != 2) = false → Tr.list l p.data.toList = (Tr.names l p.data.toList, 0) from fun h h2 => list_good (dirErr_ok HR.out h h2))
  clear HR
  generalize r.getD En.zero = d at HN HK HG
  generalize r.isSome = ok at HN HK HG
  obtain ⟨dp, dk, dt, dop⟩ := d
  simp only [En.agg, En.cells]
  dsimp only at HN HK HG
  have hB6 := hB5.alloc hB5.size (.cells #[.string dp, .int .i64 dk, .string dt, .bool dop] 53)
  clear hB5
  cases ok
  · have HO := Lib.hid (HN.out rfl)
    go_wp2_with fail
    go_ret2
    exact ⟨_, ret_list HO.out, by rw [HO.out]; exact StrOwn.nil _ _, hB6⟩
  rcases tk : (dk != 2) with _ | _
  rotate_left
  · have HO := Lib.hid (HK.out rfl tk)
    go_wp2_with fail
    go_ret2
    exact ⟨_, ret_list HO.out, by rw [HO.out]; exact StrOwn.nil _ _, hB6⟩
  have HO := Lib.hid (HG.out rfl tk)
  clear HN HK HG
  go_wp2_with fail
  generalize w5.alloc (.cells #[.string dp, .int .i64 dk, .string dt, .bool dop] 53) = w6 at *
  go_loopw [8, 28] (fun v i wr => ∃ k : Nat, k ≤ l.length ∧ i = .int .i64 k ∧ StrOwn wr w.heap.size v (Tr.names (l.take k) p.data.toList) ∧ Below w.heap.size w wr) (fun _ i _ => l.length - (intOf i).toNat)
  case atStart => exact ⟨0, Nat.zero_le _, rfl, StrOwn.nil _ _, hB6⟩
  case round =>
    obtain ⟨k, hk, rfl, hown, hB⟩ := hrel
    clear hB6
    by_cases hlt : k < l.length
    · obtain ⟨b, o, rfl, hb, h0, h1, h2, h3⟩ := (EnRd.at_ (hl.below hB) hlt)
      have KY := Lib.hid (names_yes (p := p.data.toList) hlt)
      have KN := Lib.hid (names_no (p := p.data.toList) hlt)
      have hle : (Tr.names (l.take k) p.data.toList).length ≤ k := Nat.le_trans (names_le _ _) (by rw [List.length_take]; omega)
      have hsz := (HS.out.at_ hlt).1
      unfold En.P at KY KN
      generalize l[k] = z at h0 h1 h2 h3 KY KN hsz
      obtain ⟨yp, yk, yt, yo⟩ := z
      dsimp only at h0 h1 h2 h3 KY KN hsz
      go_wp2_with fail
      refine (cut_any yp _ (by omega)).mono ?_
      rintro e w8 ⟨rfl, hD⟩
      have hB8 := (hB.alloc hB.size (.cells #[.string yp, .int .i64 yk, .string yt, .bool yo] 53)).trans (hD.below (B := w.heap.size))
      have ho8 : StrOwn w8 w.heap.size u8 _ := own_below (own_alloc hown (.cells #[.string yp, .int .i64 yk, .string yt, .bool yo] 53)) (hD.below (B := (wr.alloc (.cells #[.string yp, .int .i64 yk, .string yt, .bool yo] 53)).heap.size)) (Nat.le_refl _)
      clear hD h0 h1 h2 h3 hb hB hown
      obtain ⟨sd, hsd⟩ : ∃ sd : ByteArray, sd = ⟨(Pt.dirOf yp.data.toList).toArray⟩ := ⟨_, rfl⟩
      have hsl : sd.data.toList = Pt.dirOf yp.data.toList := by rw [hsd]
      have hst : Pt.str (Pt.dirOf yp.data.toList) = .string sd := by rw [hsd]; rfl
      obtain ⟨sn, hsn⟩ : ∃ sn, sn = (⟨(Pt.nameOf yp.data.toList).toArray⟩ : ByteArray) := ⟨_, rfl⟩
      have hsn2 : Pt.str (Pt.nameOf yp.data.toList) = .string sn := by rw [hsn]; rfl
      rw [← hsl] at KY KN
      have HSN := Lib.hid hsn2.symm
      rw [hst, hsn2]
      clear hsd hst hsn hsl hsn2
      rcases tq : (sd.toList == p.toList) with _ | _
      · have HN := Lib.hid (KN.out (by rw [toList_beq] at tq; simpa using tq))
        clear KY KN
        go_wp2_with fail
        go_roundw
        case rel => exact ⟨k + 1, by omega, by go_num, by rw [HN.out]; exact ho8, hB8⟩
        case measure => simp [intOf]; omega
      · have HN := Lib.hid (KY.out (by rw [toList_beq] at tq; simpa using tq))
        clear KY KN
        go_wp2_with (at_builtin; go_must (refine wpList_app1 w8 rfl _ _ _ rfl w.heap.size 9 i0 _ 1 16 Tryz.underlying39 hi hz0 hz1 hz2 rfl (by decide) u8 _ _ rfl ho8 [.string sn] rfl rfl (by simp [Value.oneCell']) (by omega) (by decide) hB8.size _ rfl ?_); intro v9 w9 own9 hg9 _)
        go_roundw
        case rel => exact ⟨k + 1, by omega, by go_num, StrOwn.snoc own9 HN.out HSN.out, hB8.grown hg9 hB8.size (fun q e' => (World.ownsRow.lt ho8 q e').1)⟩
        case measure => simp [intOf]; omega
    · obtain rfl : k = l.length := by omega
      rw [List.take_length] at hown
      go_wp2_with fail
      go_ret2
      exact ⟨_, ret_list HO.out, by rw [HO.out]; exact hown, hB⟩
end Go.Proofs.YtjppfhgkanbemacGreatDoor

namespace Go.Proofs.YtjppfhgkanbemacGreatDoor
open Go.RowKit Go.Shelf Go.Sort

set_option maxHeartbeats 800000 in
theorem move1_any (x y : En) (hx : x.p.size < 4294967281) (hy : y.p.size < 4294967281) (W : World) : Calls Tryz.prog 130 #[.agg x.cells.toArray, .agg y.cells.toArray] W fun e w' => e = .returned (.int .i64 (Pt.cmp x.P y.P)) ∧ Gr W w' := by
  obtain ⟨xp, xk, xt, xo⟩ := x
  obtain ⟨yp, yk, yt, yo⟩ := y
  simp only [En.cells]
  dsimp only at hx hy
  go_enter Tryz.func130, Tryz.ntmps130
  go_wp2_with fail
  refine (cmp_gr xp yp _ hx hy).mono ?_
  rintro e w1 ⟨rfl, q, os, rfl⟩
  go_wp2_with fail
  go_ret
  refine ⟨rfl, ?_⟩
  obtain ⟨n, os', h⟩ := ((Gr.refl W).alloc (.cells #[.string xp, .int .i64 xk, .string xt, .bool xo] 53)).alloc (.cells #[.string yp, .int .i64 yk, .string yt, .bool yo] 53)
  rw [h]
  exact ⟨n + q, os' ++ os, by show grow (grow ((W.drewN n).drewN q) os') os = _; rw [grow_grow, World.drewN_drewN]⟩

theorem ret_int {m n : Int} (h : m = n) : Ending.returned (.int .i64 n) = .returned (.int .i64 m) := by rw [h]

set_option maxHeartbeats 4000000 in
set_option maxRecDepth 100000 in
theorem moves_any (A : Option Addr) (c : Nat) (l : List En) (s d : ByteArray) (w : World) (hl : EnRd w w.heap.size A l) (hs : Sm l) (hsrt : Tr.Srt l) (hsz : s.size < 4294967281) (hdz : d.size < 4294967281) (hn : l.length ≤ 4000000) :
    Calls Tryz.prog 129 #[.slice A l.length c, .string s, .string d] w fun e w' => e = .returned (.int .i64 (Tr.movesErr l s.data.toList d.data.toList)) ∧ Below w.heap.size w w' := by
  have HS := Lib.hid hs
  have HSR := Lib.hid hsrt
  clear hs hsrt
  obtain ⟨M, hM⟩ : ∃ M, M = Tr.movesErr l s.data.toList d.data.toList := ⟨_, rfl⟩
  rw [← hM]
  unfold Tr.movesErr at hM
  have HM := Lib.hid hM
  clear hM
  have hB0 := Below.refl w.heap.size w
  go_enter Tryz.func129, Tryz.ntmps129
  go_wp2_with fail
  refine (get_any A c l s w hl HS.out hsz (by omega)).mono ?_
  rintro e w1 ⟨r, rfl, hr, hb⟩
  have hB1 := hB0.trans (hb.mono hB0.size)
  have HR := Lib.hid (hr.2 (.inl HSR.out))
  clear hr hb hB0
  have HM0 := Lib.hid (show r.isSome = false → M = 6 from fun h => by
    rw [HM.out, if_pos (.inl (by rw [← HR.out]; exact Option.not_isSome_iff_eq_none.1 (by rw [h]; decide)))])
  have HM1 := Lib.hid (show s.data.toList = [] → M = 6 from fun h => by rw [HM.out, if_pos (.inr h)])
  have HM2 := Lib.hid (show r.isSome = true → s.data.toList ≠ [] → M = if Pt.clean d.data.toList = false then 7 else if s.data.toList = d.data.toList then 0 else if Pt.under d.data.toList s.data.toList = true then 8 else
      if Tr.dirErr l (Pt.dirOf d.data.toList) ≠ 0 then Tr.dirErr l (Pt.dirOf d.data.toList) else Tr.destErr l (r.getD En.zero) d.data.toList from fun h h0 => by
    rw [HM.out, if_neg, ← HR.out]
    rintro (h1 | h1)
    · rw [← HR.out] at h1; rw [h1] at h; cases h
    · exact h0 h1)
  clear HM HR
  generalize r.getD En.zero = x at HM2
  generalize r.isSome = ok at HM0 HM2
  obtain ⟨xp, xk, xt, xo⟩ := x
  simp only [En.agg, En.cells]
  have hB2 := hB1.alloc hB1.size (.cells #[.string xp, .int .i64 xk, .string xt, .bool xo] 53)
  have hx2 := Blk.new w1 53 [.string xp, .int .i64 xk, .string xt, .bool xo]
  clear hB1
  cases ok
  · have HO := Lib.hid (HM0.out rfl)
    go_wp2_with fail
    go_ret
    exact ⟨ret_int HO.out, hB2⟩
  rcases empty_cases s with ⟨hE, g1, g2⟩ | ⟨hE, g1, g2⟩
  · have HO := Lib.hid (HM1.out hE)
    clear hE
    go_wp2_with fail
    go_ret
    exact ⟨ret_int HO.out, hB2⟩
  have HM := Lib.hid (HM2.out rfl hE)
  clear hE HM0 HM1 HM2
  go_wp2_with fail
  generalize w1.alloc (.cells #[.string xp, .int .i64 xk, .string xt, .bool xo] 53) = w2 at *
  generalize w1.heap.size = gx at *
  refine (clean_any d w2 (by omega)).mono ?_
  rintro e w3 ⟨rfl, hb⟩
  have hB3 := hB2.trans (hb.mono hB2.size)
  have hx3 := hx2.below hb hx2.lt
  clear hb hB2 hx2
  rcases tc : Pt.clean d.data.toList with _ | _
  · have HO := Lib.hid (HM.out.trans (if_pos tc))
    clear HM
    go_wp2_with fail
    go_ret
    exact ⟨ret_int HO.out, hB3⟩
  have HM := Lib.hid (HM.out.trans (if_neg (by rw [tc]; decide)))
  have HDN := Lib.hid (Tr.clean_ne tc)
  rcases te : (s.toList == d.toList) with _ | _
  rotate_left
  · have HO := Lib.hid (HM.out.trans (if_pos (by rw [toList_beq] at te; simpa using te)))
    clear HM
    go_wp2_with fail
    go_ret
    exact ⟨ret_int HO.out, hB3⟩
  have HM := Lib.hid (HM.out.trans (if_neg (by rw [toList_beq] at te; simpa using te)))
  go_wp2_with fail
  refine (under_any d s w3 (by omega)).mono ?_
  rintro e w3 ⟨rfl, rfl⟩
  rcases tu : Pt.under d.data.toList s.data.toList with _ | _
  rotate_left
  · have HO := Lib.hid (HM.out.trans (if_pos tu))
    clear HM
    go_wp2_with fail
    go_ret
    exact ⟨ret_int HO.out, hB3⟩
  have HM := Lib.hid (HM.out.trans (if_neg (by rw [tu]; decide)))
  go_wp2_with fail
  refine (cut_any d _ (by omega)).mono ?_
  rintro e w4 ⟨rfl, hD⟩
  have hB4 := hB3.trans (hD.below (B := w.heap.size))
  have hx4 := hx3.below (hD.below (B := w3.heap.size)) hx3.lt
  clear hD hB3 hx3
  obtain ⟨sd, hsd⟩ : ∃ sd : ByteArray, sd = ⟨(Pt.dirOf d.data.toList).toArray⟩ := ⟨_, rfl⟩
  have hsl : sd.data.toList = Pt.dirOf d.data.toList := by rw [hsd]
  have hst : Pt.str (Pt.dirOf d.data.toList) = .string sd := by rw [hsd]; rfl
  obtain ⟨sn, hsn⟩ : ∃ sn, Pt.str (Pt.nameOf d.data.toList) = .string sn := ⟨_, rfl⟩
  rw [hst, hsn]
  have hlt : sd.size < d.size := by have := Tr.dir_short HDN.out; rw [← hsl, size_length, size_length] at this; exact this
  have HM := Lib.hid HM.out
  rw [← hsl] at HM
  clear hsd hsl hst hsn
  go_wp2_with fail
  refine (get_any A c l sd w4 ((hl.below hB4).more hB4.size) HS.out (by omega) (by omega)).mono ?_
  rintro e w5 ⟨r2, rfl, hr, hb⟩
  have hB5 := hB4.trans (hb.mono hB4.size)
  have hx5 := hx4.below hb hx4.lt
  have HR := Lib.hid (hr.2 (.inl HSR.out))
  clear hr hb hB4 hx4
  have HN := Lib.hid (show r2.isSome = false → M = 6 from fun h => by rw [HM.out, dirErr_none (by rw [← HR.out]; exact h)]; rfl)
  have HK := Lib.hid (show r2.isSome = true → ((r2.getD En.zero).k != 2) = true → M = 10 from fun h h2 => by rw [HM.out, dirErr_kind HR.out h h2]; rfl)
  have HG := Lib.hid (show r2.isSome = true → ((r2.getD En.zero).k != 2) = false → M = Tr.destErr l ⟨xp, xk, xt, xo⟩ d.data.toList from fun h h2 => by rw [HM.out, dirErr_ok HR.out h h2]; rfl)
  clear HR HM
  generalize r2.getD En.zero = y at HN HK HG
  generalize r2.isSome = ok at HN HK HG
  obtain ⟨dp, dk, dt, dop⟩ := y
  simp only [En.agg, En.cells]
  dsimp only at HN HK HG
  have hB6 := hB5.alloc hB5.size (.cells #[.string dp, .int .i64 dk, .string dt, .bool dop] 53)
  have hx6 := hx5.alloc (.cells #[.string dp, .int .i64 dk, .string dt, .bool dop] 53)
  clear hB5 hx5
  cases ok
  · have HO := Lib.hid (HN.out rfl)
    go_wp2_with fail
    go_ret
    exact ⟨ret_int HO.out, hB6⟩
  rcases tk : (dk != 2) with _ | _
  rotate_left
  · have HO := Lib.hid (HK.out rfl tk)
    go_wp2_with fail
    go_ret
    exact ⟨ret_int HO.out, hB6⟩
  have HM := Lib.hid (HG.out rfl tk)
  clear HN HK HG
  go_wp2_with fail
  generalize w5.alloc (.cells #[.string dp, .int .i64 dk, .string dt, .bool dop] 53) = w6 at *
  refine (get_any A c l d w6 ((hl.below hB6).more hB6.size) HS.out hdz (by omega)).mono ?_
  rintro e w7 ⟨r3, rfl, hr, hb⟩
  have hB7 := hB6.trans (hb.mono hB6.size)
  have hx7 := hx6.below hb hx6.lt
  have HR := Lib.hid (hr.2 (.inl HSR.out))
  clear hr hb hB6 hx6
  have HN := Lib.hid (show r3.isSome = false → M = 0 from fun h => by
    rw [HM.out]; unfold Tr.destErr; rw [← HR.out]; cases r3 with
    | none => rfl
    | some _ => cases h)
  have HG := Lib.hid (show r3.isSome = true → M = if xk ≠ 2 ∧ (r3.getD En.zero).k = 2 then 9 else if xk = 2 ∧ (r3.getD En.zero).k ≠ 2 then 10 else if (Tr.list l d.data.toList).2 = 0 ∧ (Tr.list l d.data.toList).1 ≠ [] then 11 else 0 from fun h => by
    rw [HM.out]; unfold Tr.destErr; rw [← HR.out]; cases r3 with
    | none => cases h
    | some _ => rfl)
  clear HR HM
  generalize r3.getD En.zero = y at HG
  generalize r3.isSome = ok at HN HG
  obtain ⟨yp, yk, yt, yo⟩ := y
  simp only [En.agg, En.cells]
  dsimp only at HG
  have hB8 := hB7.alloc hB7.size (.cells #[.string yp, .int .i64 yk, .string yt, .bool yo] 53)
  have hx8 := hx7.alloc (.cells #[.string yp, .int .i64 yk, .string yt, .bool yo] 53)
  have hy8 := Blk.new w7 53 [.string yp, .int .i64 yk, .string yt, .bool yo]
  cases ok
  · have HO := Lib.hid (HN.out rfl)
    go_wp2_with fail
    go_ret
    exact ⟨ret_int HO.out, hB8⟩
  have HM := Lib.hid (HG.out rfl)
  clear HN HG hB7 hx7
  have hcL := fun W h => list_any A c l d W h HS.out HSR.out hdz hn
  unfold ListRel at hcL
  generalize Tr.list l d.data.toList = L at HM hcL
  obtain ⟨x0, x1, x2, x3, xfr, xz⟩ := hx8.four
  obtain ⟨y0, y1, y2, y3, yfr, yz⟩ := hy8.four
  clear hx8 hy8
  rcases ta : (xk == 2) with _ | _ <;> rcases tb : (yk == 2) with _ | _
  · have ta2 : (xk != 2) = true := by simp [bne, ta]
    have tb2 : (yk != 2) = true := by simp [bne, tb]
    have HC1 := Lib.hid (show ¬ (xk ≠ 2 ∧ yk = 2) from fun h => by rw [h.2] at tb; cases tb)
    have HC2 := Lib.hid (show ¬ (xk = 2 ∧ yk ≠ 2) from fun h => by rw [h.1] at ta; cases ta)
    have HM := Lib.hid (HM.out.trans ((if_neg (fun h => HC1.out h)).trans (if_neg (fun h => HC2.out h))))
    clear HC1 HC2
    go_wp2_with fail
    generalize w7.alloc (.cells #[.string yp, .int .i64 yk, .string yt, .bool yo] 53) = w8 at *
    refine (hcL w8 ((hl.below hB8).more hB8.size)).mono ?_
    rintro e w9 ⟨v, rfl, ho, hb⟩
    have hB9 := hB8.trans (hb.mono hB8.size)
    clear hb hB8 hcL
    obtain ⟨m, er⟩ := L
    dsimp only at ho HM ⊢
    obtain ⟨A2, c2, hv⟩ : ∃ A2 c2, v = .slice A2 m.length c2 := by
      rcases own_shape ho with ⟨h1, h2⟩ | ⟨g, cap, h1, _, _, _⟩
      · exact ⟨none, 0, by rw [h1, h2]⟩
      · exact ⟨_, _, h1⟩
    subst hv
    clear ho
    rcases tl : (er == 0) with _ | _
    · have HO := Lib.hid (HM.out.trans (if_neg (fun h => by rw [h.1] at tl; cases tl)))
      clear HM
      go_wp2_with fail
      go_ret
      exact ⟨ret_int HO.out, hB9⟩
    · by_cases hm : m.length = 0
      · have HO := Lib.hid (HM.out.trans (if_neg (fun h => h.2 (List.length_eq_zero_iff.1 hm))))
        have hm' : ¬ ((0 : Int) < (m.length : Int)) := by omega
        clear HM hm
        go_wp2_with fail
        go_ret
        exact ⟨ret_int HO.out, hB9⟩
      · have HO := Lib.hid (HM.out.trans (if_pos ⟨by simpa using tl, fun h => hm (by rw [h]; rfl)⟩))
        have hm' : (0 : Int) < (m.length : Int) := by omega
        clear HM hm
        go_wp2_with fail
        go_ret
        exact ⟨ret_int HO.out, hB9⟩
  · have ta2 : (xk != 2) = true := by simp [bne, ta]
    have tb2 : (yk != 2) = false := by simp [bne, tb]
    have HO := Lib.hid (HM.out.trans (if_pos ⟨by simpa using ta2, by simpa using tb⟩))
    clear HM hcL
    go_wp2_with fail
    go_ret
    exact ⟨ret_int HO.out, hB8⟩
  · have ta2 : (xk != 2) = false := by simp [bne, ta]
    have tb2 : (yk != 2) = true := by simp [bne, tb]
    have HO := Lib.hid (HM.out.trans ((if_neg (fun h => by rw [h.2] at tb; cases tb)).trans (if_pos ⟨by simpa using ta, by simpa using tb2⟩)))
    clear HM hcL
    go_wp2_with fail
    go_ret
    exact ⟨ret_int HO.out, hB8⟩
  · have ta2 : (xk != 2) = false := by simp [bne, ta]
    have tb2 : (yk != 2) = false := by simp [bne, tb]
    have HC1 := Lib.hid (show ¬ (xk ≠ 2 ∧ yk = 2) from fun h => h.1 (by simpa using ta))
    have HC2 := Lib.hid (show ¬ (xk = 2 ∧ yk ≠ 2) from fun h => h.2 (by simpa using tb))
    have HM := Lib.hid (HM.out.trans ((if_neg (fun h => HC1.out h)).trans (if_neg (fun h => HC2.out h))))
    clear HC1 HC2
    go_wp2_with fail
    generalize w7.alloc (.cells #[.string yp, .int .i64 yk, .string yt, .bool yo] 53) = w8 at *
    refine (hcL w8 ((hl.below hB8).more hB8.size)).mono ?_
    rintro e w9 ⟨v, rfl, ho, hb⟩
    have hB9 := hB8.trans (hb.mono hB8.size)
    clear hb hB8 hcL
    obtain ⟨m, er⟩ := L
    dsimp only at ho HM ⊢
    obtain ⟨A2, c2, hv⟩ : ∃ A2 c2, v = .slice A2 m.length c2 := by
      rcases own_shape ho with ⟨h1, h2⟩ | ⟨g, cap, h1, _, _, _⟩
      · exact ⟨none, 0, by rw [h1, h2]⟩
      · exact ⟨_, _, h1⟩
    subst hv
    clear ho
    rcases tl : (er == 0) with _ | _
    · have HO := Lib.hid (HM.out.trans (if_neg (fun h => by rw [h.1] at tl; cases tl)))
      clear HM
      go_wp2_with fail
      go_ret
      exact ⟨ret_int HO.out, hB9⟩
    · by_cases hm : m.length = 0
      · have HO := Lib.hid (HM.out.trans (if_neg (fun h => h.2 (List.length_eq_zero_iff.1 hm))))
        have hm' : ¬ ((0 : Int) < (m.length : Int)) := by omega
        clear HM hm
        go_wp2_with fail
        go_ret
        exact ⟨ret_int HO.out, hB9⟩
      · have HO := Lib.hid (HM.out.trans (if_pos ⟨by simpa using tl, fun h => hm (by rw [h]; rfl)⟩))
        have hm' : (0 : Int) < (m.length : Int) := by omega
        clear HM hm
        go_wp2_with fail
        go_ret
        exact ⟨ret_int HO.out, hB9⟩
end Go.Proofs.YtjppfhgkanbemacGreatDoor

namespace Go.Proofs.YtjppfhgkanbemacGreatDoor
open Go.RowKit Go.Shelf Go.Sort

theorem moved_yes {l : List En} {s d : Pt.Bs} {k : Nat} (hk : k < l.length) (h : Tr.stays s d l[k] = true) : Tr.movedL (l.take (k + 1)) s d = Tr.movedL (l.take k) s d ++ [Tr.renE s d l[k]] := by
  unfold Tr.movedL
  rw [List.take_succ_eq_append_getElem hk, List.filter_append, List.map_append, List.filter_cons_of_pos h]; rfl
theorem moved_no {l : List En} {s d : Pt.Bs} {k : Nat} (hk : k < l.length) (h : ¬ Tr.stays s d l[k] = true) : Tr.movedL (l.take (k + 1)) s d = Tr.movedL (l.take k) s d := by
  unfold Tr.movedL
  rw [List.take_succ_eq_append_getElem hk, List.filter_append, List.map_append, List.filter_cons_of_neg h]; simp
theorem moved_le (l : List En) (s d : Pt.Bs) : (Tr.movedL l s d).length ≤ l.length := by
  unfold Tr.movedL; rw [List.length_map]; exact List.length_filter_le _ _
theorem moved_mem {l : List En} {s d : Pt.Bs} {k : Nat} (hk : k < l.length) (h : Tr.stays s d l[k] = true) : Tr.renE s d l[k] ∈ Tr.movedL l s d := by
  unfold Tr.movedL
  exact List.mem_map_of_mem (List.mem_filter.2 ⟨List.getElem_mem hk, h⟩)
theorem move_bad {l : List En} {s d : Pt.Bs} {e : Int} (h : Tr.moveErr l s d = e) (he : e ≠ 0) : Tr.move l s d = ([], e) := by unfold Tr.move; rw [h, if_pos he]
theorem ret_move {l m : List En} {s d : Pt.Bs} {e : Int} {v : Value} (h : Tr.move l s d = (m, e)) : Ending.returned (.tuple #[v, .int .i64 e]) = .returned (.tuple #[v, .int .i64 (Tr.move l s d).2]) := by rw [h]
theorem bytes_of (d : ByteArray) : (⟨d.data.toList.toArray⟩ : ByteArray) = d := bytes_ext (by simp)
theorem ren_bytes {s d y : ByteArray} : (⟨(d.data.toList ++ y.data.toList.drop s.data.toList.length).toArray⟩ : ByteArray) = d ++ y.extract s.size y.size := bytes_ext (by
  rw [ByteArray.data_append, Array.toList_append, Lib.extract_data, size_length, List.take_of_length_le (by rw [List.length_drop, size_length]; exact Nat.le_refl _)])

/-- What Move answers. -/
def MoveRel (l : List En) (s d : Pt.Bs) (w : World) (e : Ending) (w' : World) : Prop :=
  ∃ v, e = .returned (.tuple #[v, .int .i64 (Tr.move l s d).2]) ∧ EnOwn w' w.heap.size v (Tr.move l s d).1 ∧ Below w.heap.size w w'

set_option maxHeartbeats 4000000 in
set_option maxRecDepth 100000 in
theorem move_any (A : Option Addr) (c : Nat) (l : List En) (s d : ByteArray) (w : World) (hl : EnRd w w.heap.size A l) (hc : l.length ≤ c) (hs : Sm l) (hsz : s.size < 4294967281) (hdz : d.size < 4294967281) (hn : l.length ≤ 2305843009213693952) :
    Calls Tryz.prog 98 #[.slice A l.length c, .string s, .string d] w (MoveRel l s.data.toList d.data.toList w) := by
  obtain ⟨i0, hi, hz0, hz1, hz2⟩ := info_parts info_en
  have c1 := fun W h => wrongT_any A c l W h hc hs hn
  obtain ⟨pt, hpt⟩ : ∃ pr, pr = Tr.wrong l false := ⟨_, rfl⟩
  rw [← hpt] at c1
  have HT := Lib.hid hpt.symm
  have HS := Lib.hid hs
  obtain ⟨y, y'⟩ := pt
  clear hpt hs
  dsimp only at c1
  have hB0 := Below.refl w.heap.size w
  unfold MoveRel
  go_enter Tryz.func98, Tryz.ntmps98
  go_wp2_with fail
  refine (c1 w hl).mono ?_
  rintro e w1 ⟨rfl, hb⟩
  have hB1 := hB0.trans (hb.mono hB0.size)
  clear hb hB0 c1
  have hB2 := hB1.alloc hB1.size (.cells #[.int .i64 y, .int .i64 y'] 46)
  have hq2 := Blk.new w1 46 [.int .i64 y, .int .i64 y']
  clear hB1
  rcases ty : (y != 0) with _ | _
  rotate_left
  · have HO : Hid (Tr.move l s.data.toList d.data.toList = ([], y)) := Lib.hid (move_bad (by unfold Tr.moveErr; rw [HT.out, if_pos (by simpa using ty)]) (by simpa using ty))
    go_wp2_with fail
    generalize w1.alloc (.cells #[.int .i64 y, .int .i64 y'] 46) = w2 at *
    generalize w1.heap.size = g1 at *
    obtain ⟨q0, q1, qf, qz⟩ := hq2.two
    go_quiet (fail)
    go_wp2_with fail
    go_ret2
    exact ⟨_, ret_move HO.out, by rw [HO.out]; exact EnOwn.nil _ _, below_drewN hB2 _⟩
  have HT0 : Hid ((Tr.wrong l false).1 = 0) := Lib.hid (by rw [HT.out]; simpa using ty)
  have hl80 := ((Tr.wrong_zero l false).1 HT0.out).1
  have RT := Lib.hid ((Tr.wrong_zero l false).1 HT0.out).2
  go_wp2_with fail
  generalize w1.alloc (.cells #[.int .i64 y, .int .i64 y'] 46) = w2 at *
  clear hq2
  have cM := moves_any A c l s d w2 ((hl.below hB2).more hB2.size) HS.out RT.out.2.1 hsz hdz (by omega)
  have HE1 := Lib.hid (show Tr.movesErr l s.data.toList d.data.toList ≠ 0 → Tr.move l s.data.toList d.data.toList = ([], Tr.movesErr l s.data.toList d.data.toList) from fun h => move_bad (by unfold Tr.moveErr; rw [if_neg (by simp [HT0.out]), if_pos h]) h)
  have HE2 := Lib.hid (show Tr.movesErr l s.data.toList d.data.toList = 0 → Tr.moveErr l s.data.toList d.data.toList = if (Tr.movedL l s.data.toList d.data.toList).any (fun e => !Pt.clean e.P) = true then 4 else 0 from fun h => by unfold Tr.moveErr; rw [if_neg (by simp [HT0.out]), if_neg (by simp [h])])
  have HE3 := Lib.hid (show Tr.movesErr l s.data.toList d.data.toList = 0 → (Tr.movedL l s.data.toList d.data.toList).Pairwise fun x y => x.P ≠ y.P from fun h => Tr.moved_ne RT.out h)
  have HE4 := Lib.hid (show Tr.movesErr l s.data.toList d.data.toList = 0 → s.data.toList ≠ [] from fun h => by obtain ⟨_, _, h, _⟩ := Tr.moves_ok h; exact h)
  generalize Tr.movesErr l s.data.toList d.data.toList = z at cM HE1 HE2 HE3 HE4
  refine cM.mono ?_
  rintro e w3 ⟨rfl, hb⟩
  have hB3 := hB2.trans (hb.mono hB2.size)
  clear hb hB2 cM
  rcases tz : (z != 0) with _ | _
  rotate_left
  · have HO := Lib.hid (HE1.out (by simpa using tz))
    go_wp2_with fail
    go_ret2
    exact ⟨_, ret_move HO.out, by rw [HO.out]; exact EnOwn.nil _ _, hB3⟩
  have HER := Lib.hid (HE2.out (by simpa using tz))
  have HNE := Lib.hid (HE3.out (by simpa using tz))
  have HS0 := Lib.hid (HE4.out (by simpa using tz))
  clear HE1 HE2 HE3 HE4
  go_wp2_with fail
  go_loopw [10, 29] (fun v i wr => ∃ k : Nat, k ≤ l.length ∧ i = .int .i64 k ∧ EnOwn wr w.heap.size v (Tr.movedL (l.take k) s.data.toList d.data.toList) ∧ Hid (∀ e ∈ Tr.movedL (l.take k) s.data.toList d.data.toList, Pt.clean e.P = true) ∧ Below w.heap.size w wr) (fun _ i _ => l.length - (intOf i).toNat)
  case atStart => exact ⟨0, Nat.zero_le _, rfl, EnOwn.nil _ _, Lib.hid (fun _ h => nomatch h), hB3⟩
  case round =>
    obtain ⟨k, hk, rfl, hown, HC, hB⟩ := hrel
    clear hB3
    by_cases hlt : k < l.length
    · obtain ⟨b, o, rfl, hb, h0, h1, h2, h3⟩ := (EnRd.at_ (hl.below hB) hlt)
      have HY := Lib.hid (moved_yes (s := s.data.toList) (d := d.data.toList) hlt)
      have HNO := Lib.hid (moved_no (s := s.data.toList) (d := d.data.toList) hlt)
      have HBAD := Lib.hid (show Tr.stays s.data.toList d.data.toList l[k] = true → Pt.clean (Tr.renE s.data.toList d.data.toList l[k]).P = false → Tr.move l s.data.toList d.data.toList = ([], 4) from fun h h2 => move_bad (by
        rw [HER.out, if_pos]
        exact List.any_eq_true.2 ⟨_, moved_mem hlt h, by rw [h2]; rfl⟩) (by decide))
      have hle : (Tr.movedL (l.take k) s.data.toList d.data.toList).length ≤ k := Nat.le_trans (moved_le _ _ _) (by rw [List.length_take]; omega)
      have hzz := (HS.out.at_ hlt).1
      generalize l[k] = z at h0 h1 h2 h3 HY HNO HBAD hzz
      obtain ⟨yp, yk, yt, yo⟩ := z
      dsimp only at h0 h1 h2 h3 hzz
      rcases te : (yp.toList == s.toList) with _ | _
      rotate_left
      · have hq : yp.data.toList = s.data.toList := by rw [toList_beq] at te; simpa using te
        have HP : Hid (Tr.renE s.data.toList d.data.toList ⟨yp, yk, yt, yo⟩ = ⟨d, yk, yt, yo⟩) := Lib.hid (by
          unfold Tr.renE
          rw [if_pos (show (⟨yp, yk, yt, yo⟩ : En).P = _ from hq), bytes_of])
        have HST : Hid (Tr.stays s.data.toList d.data.toList ⟨yp, yk, yt, yo⟩ = true) := Lib.hid (Tr.stays_iff.2 (.inl (.inl hq)))
        clear hq
        go_wp2_with fail
        clear h0 h1 h2 h3 hb
        have hy5 := Blk.new wr 53 [.string d, .int .i64 yk, .string yt, .bool yo]
        have hB5 := hB.alloc hB.size (.cells #[.string d, .int .i64 yk, .string yt, .bool yo] 53)
        have ho5 : EnOwn _ w.heap.size u10 _ := own_alloc hown (.cells #[.string d, .int .i64 yk, .string yt, .bool yo] 53)
        clear hB hown
        generalize wr.alloc (.cells #[.string d, .int .i64 yk, .string yt, .bool yo] 53) = w5 at *
        refine (clean_any d w5 (by omega)).mono ?_
        rintro e w6 ⟨rfl, hb6⟩
        have hB6 := hB5.trans (hb6.mono hB5.size)
        have hy6 := hy5.below hb6 hy5.lt
        have ho6 : EnOwn w6 w.heap.size u10 _ := own_below ho5 hb6 (Nat.le_refl _)
        clear hb6 hB5 hy5 ho5
        obtain ⟨y0, y1, y2, y3, yfr, yz⟩ := hy6.four
        rcases tc : Pt.clean d.data.toList with _ | _
        · have HO := Lib.hid (HBAD.out HST.out (by rw [HP.out]; exact tc))
          clear HBAD HY HNO
          go_wp2_with fail
          go_ret2
          exact ⟨_, ret_move HO.out, by rw [HO.out]; exact EnOwn.nil _ _, hB6⟩
        · have HN := Lib.hid (HY.out HST.out)
          rw [HP.out] at HN
          have HCL := Lib.hid (show ∀ e ∈ Tr.movedL (l.take (k + 1)) s.data.toList d.data.toList, Pt.clean e.P = true from fun e he => by
            rw [HN.out] at he
            rcases List.mem_append.1 he with he | he
            · exact HC.out e he
            · rw [List.mem_singleton.1 he]; exact tc)
          clear HBAD HY HNO
          go_wp2_with (at_builtin; go_must (refine wpList_app1 w6 rfl _ _ _ rfl w.heap.size 53 i0 _ 4 48 Tryz.underlying23 hi hz0 hz1 hz2 rfl (by decide) u10 _ _ rfl ho6 [.string d, .int .i64 yk, .string yt, .bool yo] rfl rfl (by simp [Value.oneCell']) (by omega) (by decide) hB6.size _ rfl ?_); intro v9 w9 own9 hg9 _)
          go_roundw
          case rel => exact ⟨k + 1, by omega, by go_num, EnOwn.snoc (y := ⟨d, yk, yt, yo⟩) own9 HN.out, HCL, hB6.grown hg9 hB6.size (fun q e' => (World.ownsRow.lt ho6 q e').1)⟩
          case measure => simp [intOf]; omega
      have hq : ¬ yp.data.toList = s.data.toList := by rw [toList_beq] at te; simpa using te
      go_wp2_with fail
      refine (under_any yp s _ (by omega)).mono ?_
      rintro e w' ⟨rfl, rfl⟩
      rcases tu : Pt.under yp.data.toList s.data.toList with _ | _
      rotate_left
      · have hlen : s.size < yp.size := by
          have := Tr.under_len HS0.out tu
          rw [size_length, size_length] at this; exact this
        obtain ⟨np, hnp⟩ : ∃ np, np = d ++ yp.extract s.size yp.size := ⟨_, rfl⟩
        have hnz : np.size ≤ 140737488355328 := by rw [hnp]; simp; omega
        have HP : Hid (Tr.renE s.data.toList d.data.toList ⟨yp, yk, yt, yo⟩ = ⟨np, yk, yt, yo⟩) := Lib.hid (by
          unfold Tr.renE
          rw [if_neg (show ¬ (⟨yp, yk, yt, yo⟩ : En).P = _ from hq), if_pos (show Pt.under (⟨yp, yk, yt, yo⟩ : En).P _ = true from tu), hnp, ← ren_bytes]; rfl)
        have HST : Hid (Tr.stays s.data.toList d.data.toList ⟨yp, yk, yt, yo⟩ = true) := Lib.hid (Tr.stays_iff.2 (.inl (.inr tu)))
        have hle2 : s.size ≤ yp.size := Nat.le_of_lt hlen
        clear hq
        go_wp2_with fail
        clear h0 h1 h2 h3 hb
        rw [← hnp]
        clear hnp
        have hy5 := Blk.new wr 53 [.string np, .int .i64 yk, .string yt, .bool yo]
        have hB5 := hB.alloc hB.size (.cells #[.string np, .int .i64 yk, .string yt, .bool yo] 53)
        have ho5 : EnOwn _ w.heap.size u10 _ := own_alloc hown (.cells #[.string np, .int .i64 yk, .string yt, .bool yo] 53)
        clear hB hown
        generalize wr.alloc (.cells #[.string np, .int .i64 yk, .string yt, .bool yo] 53) = w5 at *
        refine (clean_any np w5 (by omega)).mono ?_
        rintro e w6 ⟨rfl, hb6⟩
        have hB6 := hB5.trans (hb6.mono hB5.size)
        have hy6 := hy5.below hb6 hy5.lt
        have ho6 : EnOwn w6 w.heap.size u10 _ := own_below ho5 hb6 (Nat.le_refl _)
        clear hb6 hB5 hy5 ho5
        obtain ⟨y0, y1, y2, y3, yfr, yz⟩ := hy6.four
        rcases tc : Pt.clean np.data.toList with _ | _
        · have HO := Lib.hid (HBAD.out HST.out (by rw [HP.out]; exact tc))
          clear HBAD HY HNO
          go_wp2_with fail
          go_ret2
          exact ⟨_, ret_move HO.out, by rw [HO.out]; exact EnOwn.nil _ _, hB6⟩
        · have HN := Lib.hid (HY.out HST.out)
          rw [HP.out] at HN
          have HCL := Lib.hid (show ∀ e ∈ Tr.movedL (l.take (k + 1)) s.data.toList d.data.toList, Pt.clean e.P = true from fun e he => by
            rw [HN.out] at he
            rcases List.mem_append.1 he with he | he
            · exact HC.out e he
            · rw [List.mem_singleton.1 he]; exact tc)
          clear HBAD HY HNO
          go_wp2_with (at_builtin; go_must (refine wpList_app1 w6 rfl _ _ _ rfl w.heap.size 53 i0 _ 4 48 Tryz.underlying23 hi hz0 hz1 hz2 rfl (by decide) u10 _ _ rfl ho6 [.string np, .int .i64 yk, .string yt, .bool yo] rfl rfl (by simp [Value.oneCell']) (by omega) (by decide) hB6.size _ rfl ?_); intro v9 w9 own9 hg9 _)
          go_roundw
          case rel => exact ⟨k + 1, by omega, by go_num, EnOwn.snoc (y := ⟨np, yk, yt, yo⟩) own9 HN.out, HCL, hB6.grown hg9 hB6.size (fun q e' => (World.ownsRow.lt ho6 q e').1)⟩
          case measure => simp [intOf]; omega
      have HP : Hid (Tr.renE s.data.toList d.data.toList ⟨yp, yk, yt, yo⟩ = ⟨yp, yk, yt, yo⟩) := Lib.hid (by
        unfold Tr.renE
        rw [if_neg (show ¬ (⟨yp, yk, yt, yo⟩ : En).P = _ from hq), if_neg (show ¬ Pt.under (⟨yp, yk, yt, yo⟩ : En).P _ = true by show ¬ Pt.under yp.data.toList _ = true; rw [tu]; decide)])
      rcases td : (yp.toList == d.toList) with _ | _
      rotate_left
      · have HN := Lib.hid (HNO.out (fun h => by
          rcases Tr.stays_iff.1 h with (h | h) | h
          · exact hq h
          · have h : Pt.under yp.data.toList s.data.toList = true := h
            rw [tu] at h; cases h
          · exact h (by show yp.data.toList = _; rw [toList_beq] at td; simpa using td)))
        have hB5 := hB.alloc hB.size (.cells #[.string yp, .int .i64 yk, .string yt, .bool yo] 53)
        have ho5 : EnOwn _ w.heap.size u10 _ := own_alloc hown (.cells #[.string yp, .int .i64 yk, .string yt, .bool yo] 53)
        clear HY HNO HBAD hq
        go_wp2_with fail
        go_roundw
        case rel => exact ⟨k + 1, by omega, by go_num, by rw [HN.out]; exact ho5, by rw [HN.out]; exact HC, hB5⟩
        case measure => simp [intOf]; omega
      · have HST : Hid (Tr.stays s.data.toList d.data.toList ⟨yp, yk, yt, yo⟩ = true) := Lib.hid (Tr.stays_iff.2 (.inr (by
          show yp.data.toList ≠ _
          rw [toList_beq] at td; simpa using td)))
        clear hq
        go_wp2_with fail
        clear h0 h1 h2 h3 hb
        have hy5 := Blk.new wr 53 [.string yp, .int .i64 yk, .string yt, .bool yo]
        have hB5 := hB.alloc hB.size (.cells #[.string yp, .int .i64 yk, .string yt, .bool yo] 53)
        have ho5 : EnOwn _ w.heap.size u10 _ := own_alloc hown (.cells #[.string yp, .int .i64 yk, .string yt, .bool yo] 53)
        clear hB hown
        generalize wr.alloc (.cells #[.string yp, .int .i64 yk, .string yt, .bool yo] 53) = w5 at *
        refine (clean_any yp w5 (by omega)).mono ?_
        rintro e w6 ⟨rfl, hb6⟩
        have hB6 := hB5.trans (hb6.mono hB5.size)
        have hy6 := hy5.below hb6 hy5.lt
        have ho6 : EnOwn w6 w.heap.size u10 _ := own_below ho5 hb6 (Nat.le_refl _)
        clear hb6 hB5 hy5 ho5
        obtain ⟨y0, y1, y2, y3, yfr, yz⟩ := hy6.four
        rcases tc : Pt.clean yp.data.toList with _ | _
        · have HO := Lib.hid (HBAD.out HST.out (by rw [HP.out]; exact tc))
          clear HBAD HY HNO
          go_wp2_with fail
          go_ret2
          exact ⟨_, ret_move HO.out, by rw [HO.out]; exact EnOwn.nil _ _, hB6⟩
        · have HN := Lib.hid (HY.out HST.out)
          rw [HP.out] at HN
          have HCL := Lib.hid (show ∀ e ∈ Tr.movedL (l.take (k + 1)) s.data.toList d.data.toList, Pt.clean e.P = true from fun e he => by
            rw [HN.out] at he
            rcases List.mem_append.1 he with he | he
            · exact HC.out e he
            · rw [List.mem_singleton.1 he]; exact tc)
          clear HBAD HY HNO
          go_wp2_with (at_builtin; go_must (refine wpList_app1 w6 rfl _ _ _ rfl w.heap.size 53 i0 _ 4 48 Tryz.underlying23 hi hz0 hz1 hz2 rfl (by decide) u10 _ _ rfl ho6 [.string yp, .int .i64 yk, .string yt, .bool yo] rfl rfl (by simp [Value.oneCell']) (by omega) (by decide) hB6.size _ rfl ?_); intro v9 w9 own9 hg9 _)
          go_roundw
          case rel => exact ⟨k + 1, by omega, by go_num, EnOwn.snoc (y := ⟨yp, yk, yt, yo⟩) own9 HN.out, HCL, hB6.grown hg9 hB6.size (fun q e' => (World.ownsRow.lt ho6 q e').1)⟩
          case measure => simp [intOf]; omega
    · obtain rfl : k = l.length := by omega
      rw [List.take_length] at hown HC
      have HO : Hid (Tr.move l s.data.toList d.data.toList = (Tr.sortL (Tr.movedL l s.data.toList d.data.toList), 0)) := Lib.hid (by
        unfold Tr.move
        rw [HER.out, if_neg (show ¬ (Tr.movedL l s.data.toList d.data.toList).any (fun e => !Pt.clean e.P) = true from fun h => by
          obtain ⟨e, he, h2⟩ := List.any_eq_true.1 h
          rw [HC.out e he] at h2; cases h2), if_neg (by simp)])
      have HU := Lib.hid (fun (m : List En) hp h => Tr.sort_uniq (m := m) HNE.out hp h)
      have HSM : Hid (∀ e ∈ Tr.movedL l s.data.toList d.data.toList, e.p.size < 4294967281) := Lib.hid (fun e he => by
        have := Tr.clean_len (HC.out e he)
        have h2 : e.P.length = e.p.size := size_length e.p
        omega)
      have hle0 := moved_le l s.data.toList d.data.toList
      clear HER HNE HC
      generalize Tr.movedL l s.data.toList d.data.toList = out at *
      rcases own_shape hown with ⟨hv, h0⟩ | ⟨g, cap, hv, hbg, _, _⟩
      · subst hv
        have e0 : out = [] := List.length_eq_zero_iff.1 h0
        subst e0
        go_wp2_with fail
        refine (sortE_nil _ _).mono ?_
        rintro e w9 ⟨rfl, rfl⟩
        go_wp2_with fail
        go_ret2
        exact ⟨_, ret_move HO.out, by rw [HO.out]; exact EnOwn.nil _ _, hB⟩
      · subst hv
        have eg : ∀ args w, (callFunc 130 args).run Tryz.prog w = .ok (.enter 130 args) w := enters_of Tryz.func130 (by kernel_rfl) rfl
        have cS := sortE_any 130 eg (fun x y hx hy W => move1_any x y hx hy W) w.heap.size g cap out wr hown HSM.out (by omega)
        go_wp2_with fail
        refine cS.mono ?_
        rintro e w9 ⟨rfl, m, hp, hsm, ho9, hg9⟩
        have hm := HU.out m hp hsm
        go_wp2_with fail
        go_ret2
        exact ⟨_, ret_move HO.out, by rw [HO.out, ← hm]; show EnOwn _ _ _ m; rw [← hp.length_eq] at ho9 ⊢; exact ho9, hB.grown hg9 hB.size (fun q e' => by cases e'; exact hbg)⟩
end Go.Proofs.YtjppfhgkanbemacGreatDoor
