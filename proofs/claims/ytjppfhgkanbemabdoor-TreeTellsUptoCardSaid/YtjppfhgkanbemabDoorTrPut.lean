/-
  tree.Put.
-/
import Derived.Test.YtjppfhgkanbemabDoorTrIns3
import Derived.Test.YtjppfhgkanbemabDoorTrDel
import Derived.Test.YtjppfhgkanbemabDoorTrHides
import Derived.BigQuiet
namespace Go.Proofs.YtjppfhgkanbemabDoor
open Go.RowKit Go.Shelf Go.Sort

theorem eflat_set (l : List En) (k : Nat) (hk : k < l.length) (x : En) : ((((En.flat l).set (k * 4) (.string x.p)).set (k * 4 + 1) (.int .i64 x.k)).set (k * 4 + 2) (.string x.t)).set (k * 4 + 3) (.bool x.o) = En.flat (l.set k x) := by
  induction l generalizing k with
  | nil => simp at hk
  | cons y r ih =>
    cases k with
    | zero => rfl
    | succ k =>
      have h := ih k (by simpa using hk)
      have e : (k + 1) * 4 = k * 4 + 4 := by omega
      rw [e]
      show _ = y.cells ++ En.flat (r.set k x)
      rw [← h]
      rfl
theorem ins_set {l : List En} {x : En} {k : Nat} (hk : k < l.length) (h1 : ∀ t (h : t < l.length), t < k → Pt.cmp l[t].P x.P < 0) (he : l[k].P = x.P) : Tr.ins x l = l.set k x := by
  induction l generalizing k with
  | nil => simp at hk
  | cons y r ih =>
    cases k with
    | zero =>
      have he' : y.P = x.P := he
      rw [Tr.ins, if_neg (by rw [he', Pt.cmp_self]; omega), if_pos he']; rfl
    | succ k =>
      have := h1 0 (by simp) (by omega)
      rw [Tr.ins, if_pos (by simpa using this), ih (k := k) (by simpa using hk) (fun t h ht => h1 (t + 1) (by simpa using h) (by omega)) (by simpa using he)]
      rfl

theorem dirErr_none {t : List En} {d : Pt.Bs} (h : (Tr.get t d).isSome = false) : Tr.dirErr t d = 6 := by
  unfold Tr.dirErr
  rcases g : Tr.get t d with _ | x
  · rfl
  · rw [g] at h; cases h
theorem dirErr_kind {t : List En} {d : Pt.Bs} {r : Option En} (hr : r = Tr.get t d) (h : r.isSome = true) (hk : ((r.getD En.zero).k != 2) = true) : Tr.dirErr t d = 10 := by
  unfold Tr.dirErr
  rw [← hr]
  cases r with
  | none => cases h
  | some x => exact if_pos (by simpa using hk)
theorem dirErr_ok {t : List En} {d : Pt.Bs} {r : Option En} (hr : r = Tr.get t d) (h : r.isSome = true) (hk : ((r.getD En.zero).k != 2) = false) : Tr.dirErr t d = 0 := by
  unfold Tr.dirErr
  rw [← hr]
  cases r with
  | none => cases h
  | some x => exact if_neg (by simpa using hk)
theorem ret_put {l m : List En} {x : En} {e : Int} {v : Value} (h : Tr.put l x = (m, e)) : Ending.returned (.tuple #[v, .int .i64 e]) = .returned (.tuple #[v, .int .i64 (Tr.put l x).2]) := by rw [h]
theorem put_bad {l : List En} {x : En} {e : Int} (h : Tr.putErr l x = e) (he : e ≠ 0) : Tr.put l x = ([], e) := by unfold Tr.put; rw [h, if_pos he]
theorem put_good {l m : List En} {x : En} (h : Tr.putErr l x = 0) (hm : Tr.ins x l = m) : Tr.put l x = (m, 0) := by unfold Tr.put; rw [h, if_neg (by simp), hm]

/-- What Put answers. -/
def PutRel (l : List En) (x : En) (w : World) (e : Ending) (w' : World) : Prop :=
  ∃ v, e = .returned (.tuple #[v, .int .i64 (Tr.put l x).2]) ∧ EnOwn w' w.heap.size v (Tr.put l x).1 ∧ Below w.heap.size w w'

set_option maxHeartbeats 4000000 in
set_option maxRecDepth 100000 in
theorem put_any (A : Option Addr) (c : Nat) (l : List En) (xp : ByteArray) (xk : Int) (xt : ByteArray) (xo : Bool) (w : World) (hl : EnRd w w.heap.size A l) (hc : l.length ≤ c) (hs : Sm l) (hxp : xp.size < 4294967281) (hxt : xt.size < 4294967281) (hn : l.length ≤ 2305843009213693952) :
    Calls Tryd.prog 22 #[.slice A l.length c, .agg #[.string xp, .int .i64 xk, .string xt, .bool xo]] w (PutRel l ⟨xp, xk, xt, xo⟩ w) := by
  obtain ⟨x, hx⟩ : ∃ x : En, x = ⟨xp, xk, xt, xo⟩ := ⟨_, rfl⟩
  have HX := Lib.hid hx
  rw [← hx]
  have c1 := fun W h => wrongT_any A c l W h hc hs hn
  obtain ⟨pt, hpt⟩ : ∃ pr, pr = Tr.wrong l false := ⟨_, rfl⟩
  rw [← hpt] at c1
  have HT := Lib.hid hpt.symm
  have HS := Lib.hid hs
  obtain ⟨y, y'⟩ := pt
  clear hpt hs hx
  dsimp only at c1
  have hB0 := (Below.refl w.heap.size w).alloc (Nat.le_refl _) (.cells #[.string xp, .int .i64 xk, .string xt, .bool xo] 32)
  have hx0 := Blk.new w 32 [.string xp, .int .i64 xk, .string xt, .bool xo]
  unfold PutRel
  go_enter Tryd.func22, Tryd.ntmps22
  go_wp2_with fail
  generalize w.alloc (.cells #[.string xp, .int .i64 xk, .string xt, .bool xo] 32) = w0 at *
  refine (c1 w0 ((hl.below hB0).more hB0.size)).mono ?_
  rintro e w1 ⟨rfl, hb⟩
  have hB1 := hB0.trans (hb.mono hB0.size)
  have hx1 := hx0.below hb hx0.lt
  clear hb hB0 hx0 c1
  have hB2 := hB1.alloc hB1.size (.cells #[.int .i64 y, .int .i64 y'] 29)
  have hq2 := Blk.new w1 29 [.int .i64 y, .int .i64 y']
  have hx2 := hx1.alloc (.cells #[.int .i64 y, .int .i64 y'] 29)
  clear hB1 hx1
  rcases ty : (y != 0) with _ | _
  rotate_left
  · have HO : Hid (Tr.put l x = ([], y)) := Lib.hid (put_bad (by unfold Tr.putErr; rw [HT.out, if_pos (by simpa using ty)]) (by simpa using ty))
    go_wp2_with fail
    generalize w1.alloc (.cells #[.int .i64 y, .int .i64 y'] 29) = w2 at *
    generalize w1.heap.size = g1 at *
    obtain ⟨q0, q1, qf, qz⟩ := hq2.two
    go_quiet (fail)
    go_wp2_with fail
    go_ret2
    exact ⟨_, ret_put HO.out, by rw [HO.out]; exact EnOwn.nil _ _, below_drewN hB2 _⟩
  have HT0 : Hid ((Tr.wrong l false).1 = 0) := Lib.hid (by rw [HT.out]; simpa using ty)
  have hl80 := ((Tr.wrong_zero l false).1 HT0.out).1
  have RT := Lib.hid ((Tr.wrong_zero l false).1 HT0.out).2
  go_wp2_with fail
  generalize w1.alloc (.cells #[.int .i64 y, .int .i64 y'] 29) = w2 at *
  clear hq2
  obtain ⟨x0, x1, x2, x3, xfr, xz⟩ := hx2.four
  have cE := entry_any w.heap.size 0 ⟨xp, xk, xt, xo⟩ false w2 ⟨x0, x1, x2, x3⟩ xz hxp hxt
  rw [← HX.out] at cE
  have HE1 := Lib.hid (show Tr.entry x false ≠ 0 → Tr.put l x = ([], Tr.entry x false) from fun h => put_bad (by unfold Tr.putErr; rw [if_neg (by simp [HT0.out]), if_pos h]) h)
  have HE2 := Lib.hid (show Tr.entry x false = 0 → ∀ e, (if Tr.dirErr l (Pt.dirOf x.P) ≠ 0 then Tr.dirErr l (Pt.dirOf x.P) else Tr.kindErr l x) = e → Tr.putErr l x = e from fun h e he => by unfold Tr.putErr; rw [if_neg (by simp [HT0.out]), if_neg (by simp [h]), he])
  have HE3 := Lib.hid (show Tr.entry x false = 0 → x.P ≠ [] from fun h => Tr.clean_ne (Tr.entry_clean h))
  generalize Tr.entry x false = z at cE HE1 HE2 HE3
  refine cE.mono ?_
  rintro e w3 ⟨rfl, hb⟩
  have hB3 := hB2.trans (hb.mono hB2.size)
  have hx3 := hx2.below hb hx2.lt
  clear hb hB2 hx2 cE x0 x1 x2 x3 xfr xz
  obtain ⟨x0, x1, x2, x3, xfr, xz⟩ := hx3.four
  rcases tz : (z != 0) with _ | _
  rotate_left
  · have HO := Lib.hid (HE1.out (by simpa using tz))
    go_wp2_with fail
    go_ret2
    exact ⟨_, ret_put HO.out, by rw [HO.out]; exact EnOwn.nil _ _, hB3⟩
  have hz0 : z = 0 := by simpa using tz
  have HP2 := Lib.hid (HE2.out hz0)
  have HP3 := Lib.hid (HE3.out hz0)
  clear HE1 HE2 HE3 hz0
  go_wp2_with fail
  refine (cut_any xp _ (by omega)).mono ?_
  rintro e w4 ⟨rfl, hD⟩
  have hB4 := hB3.trans (hD.below (B := w.heap.size))
  have hx4 := hx3.below (hD.below (B := w3.heap.size)) hx3.lt
  clear hD hB3 hx3 x0 x1 x2 x3 xfr xz
  obtain ⟨sd, hsd⟩ : ∃ sd : ByteArray, sd = ⟨(Pt.dirOf xp.data.toList).toArray⟩ := ⟨_, rfl⟩
  have hsl : sd.data.toList = Pt.dirOf xp.data.toList := by rw [hsd]
  have hst : Pt.str (Pt.dirOf xp.data.toList) = .string sd := by rw [hsd]; rfl
  obtain ⟨sn, hsn⟩ : ∃ sn, Pt.str (Pt.nameOf xp.data.toList) = .string sn := ⟨_, rfl⟩
  rw [hst, hsn]
  have hxP : x.P = xp.data.toList := by rw [HX.out]; rfl
  have hxk : x.k = xk := by rw [HX.out]
  have hlt : sd.size < xp.size := by have := Tr.dir_short HP3.out; rw [hxP, ← hsl, size_length, size_length] at this; exact this
  have HD := Lib.hid (show Pt.dirOf x.P = sd.data.toList by rw [hxP, hsl])
  clear hsd hsl hst hsn
  go_wp2_with fail
  refine (get_any A c l sd w4 ((hl.below hB4).more hB4.size) HS.out (by omega) hn).mono ?_
  rintro e w5 ⟨r, rfl, hr, hb⟩
  have hB5 := hB4.trans (hb.mono hB4.size)
  have hx5 := hx4.below hb hx4.lt
  have HR := Lib.hid (hr.2 (.inl RT.out.2.1))
  clear hr hb hB4 hx4
  have HN := Lib.hid (show r.isSome = false → Tr.put l x = ([], 6) from fun h => put_bad (HP2.out _ (by rw [HD.out, dirErr_none (by rw [← HR.out]; exact h)]; rfl)) (by decide))
  have HK := Lib.hid (show r.isSome = true → ((r.getD En.zero).k != 2) = true → Tr.put l x = ([], 10) from fun h h2 => put_bad (HP2.out _ (by rw [HD.out, dirErr_kind HR.out h h2]; rfl)) (by decide))
  have HG := Lib.hid (show r.isSome = true → ((r.getD En.zero).k != 2) = false → ∀ e, Tr.kindErr l x = e → Tr.putErr l x = e from fun h h2 e he => HP2.out _ (by rw [HD.out, dirErr_ok HR.out h h2, he]; rfl))
  clear HR HP2 HD
  generalize r.getD En.zero = d at HN HK HG
  generalize r.isSome = ok at HN HK HG
  obtain ⟨dp, dk, dt, dop⟩ := d
  simp only [En.agg, En.cells]
  dsimp only at HN HK HG
  have hB6 := hB5.alloc hB5.size (.cells #[.string dp, .int .i64 dk, .string dt, .bool dop] 32)
  have hx6 := hx5.alloc (.cells #[.string dp, .int .i64 dk, .string dt, .bool dop] 32)
  clear hB5
  cases ok
  · have HO := Lib.hid (HN.out rfl)
    go_wp2_with fail
    go_ret2
    exact ⟨_, ret_put HO.out, by rw [HO.out]; exact EnOwn.nil _ _, hB6⟩
  rcases tk : (dk != 2) with _ | _
  rotate_left
  · have HO := Lib.hid (HK.out rfl tk)
    go_wp2_with fail
    go_ret2
    exact ⟨_, ret_put HO.out, by rw [HO.out]; exact EnOwn.nil _ _, hB6⟩
  have HG2 := Lib.hid (HG.out rfl tk)
  clear HN HK HG
  obtain ⟨x0, x1, x2, x3, xfr, xz⟩ := hx6.four
  go_wp2_with fail
  generalize w5.alloc (.cells #[.string dp, .int .i64 dk, .string dt, .bool dop] 32) = w6 at *
  clear hx5 x0 x1 x2 x3 xfr xz
  refine (find_any A c l xp w6 ((hl.below hB6).more hB6.size) HS.out hxp hn).mono ?_
  rintro e w7 ⟨k, b, rfl, hf, hb⟩
  rw [← hxP] at hf
  have hB7 := hB6.trans (hb.mono hB6.size)
  have hx7 := hx6.below hb hx6.lt
  clear hb hB6 hx6
  go_wp2_with fail
  refine (eclone_any A c l w7 ((hl.below hB7).more hB7.size) (by omega)).mono ?_
  rintro e w8 ⟨v8, rfl, ho8, hb⟩
  have hB8 := hB7.trans (hb.mono hB7.size)
  have hx8 := hx7.below hb hx7.lt
  have ho8 : EnOwn w8 w.heap.size v8 l := own_base ho8 hB7.size
  clear hb hB7 hx7
  obtain ⟨x0, x1, x2, x3, xfr, xz⟩ := hx8.four
  have hkl := hf.1
  have hfg := find_get hf RT.out.2.1 HP3.out
  cases b
  · have hgn := hfg.2 rfl
    have hins : Tr.ins x l = insAt l k x := ins_at hkl (hf.2.2 RT.out.2.1).1 (hf.2.2 RT.out.2.1).2.1 ((hf.2.2 RT.out.2.1).2.2 rfl)
    have HK5 := Lib.hid (show l.length = 80 → Tr.put l x = ([], 5) from fun h => put_bad (HG2.out 5 (by unfold Tr.kindErr; rw [hgn]; exact if_pos h)) (by decide))
    have HK0 := Lib.hid (show l.length ≠ 80 → Tr.put l x = (insAt l k x, 0) from fun h => put_good (HG2.out 0 (by unfold Tr.kindErr; rw [hgn]; exact if_neg h)) hins)
    clear hgn hins hf hfg HG2
    by_cases h80 : l.length = 80
    · have HO := Lib.hid (HK5.out h80)
      have h80' : (l.length : Int) = 80 := by omega
      clear h80
      go_wp2_with fail
      go_ret2
      exact ⟨_, ret_put HO.out, by rw [HO.out]; exact EnOwn.nil _ _, hB8⟩
    · have HO := Lib.hid (HK0.out h80)
      have h80' : ¬ (l.length : Int) = 80 := by omega
      clear h80
      go_wp2_with fail
      have hx9 := Blk.new w8 32 [.string xp, .int .i64 xk, .string xt, .bool xo]
      have hB9 := hB8.alloc hB8.size (.cells #[.string xp, .int .i64 xk, .string xt, .bool xo] 32)
      have ho9 : EnOwn _ w.heap.size v8 l := own_alloc ho8 (.cells #[.string xp, .int .i64 xk, .string xt, .bool xo] 32)
      have HXX : Hid (x.cells = [.string xp, .int .i64 xk, .string xt, .bool xo]) := Lib.hid (by rw [HX.out]; rfl)
      rcases own_shape ho8 with ⟨hv8, hv0⟩ | ⟨g, cap, hv8, hbg, hgz, hcap⟩
      · subst hv8
        have e0 : l = [] := List.length_eq_zero_iff.1 hv0
        subst e0
        have ek : k = 0 := by simpa using hkl
        subst ek
        refine (einsert_nil w8.heap.size x _ (by rw [HXX.out]; exact hx9)).mono ?_
        rintro e w9 ⟨v9, rfl, ho10, hg9⟩
        have HF := Lib.hid (And.intro (show EnOwn w9 w.heap.size v9 (insAt [] 0 x) from own_base ho10 hB9.size) (below_grown hB9 hg9 hB9.size (fun q e => by cases e)))
        clear ho10 hg9 ho9 hB9 hx9
        go_wp2_with fail
        go_ret2
        exact ⟨_, ret_put HO.out, by rw [HO.out]; exact HF.out.1, HF.out.2⟩
      · subst hv8
        refine (einsert_any w.heap.size g cap w8.heap.size k l x _ ho9 (by rw [HXX.out]; exact hx9) (by omega) hkl (by omega) hB9.size).mono ?_
        rintro e w9 ⟨v9, rfl, ho10, hg9⟩
        have HF := Lib.hid (And.intro ho10 (below_grown hB9 hg9 hB9.size (fun q e => by injection e with e; subst e; exact hbg)))
        clear ho10 hg9 ho9 hB9 hx9
        go_wp2_with fail
        go_ret2
        exact ⟨_, ret_put HO.out, by rw [HO.out]; exact HF.out.1, HF.out.2⟩
  · obtain ⟨hlt, hke⟩ := hf.2.1 rfl
    have hget := hfg.1 rfl
    have hins : Tr.ins x l = l.set k x := ins_set hlt (hf.2.2 RT.out.2.1).1 hke
    have HK7 := Lib.hid (show ((l[k].k == 2) != (xk == 2)) = true → Tr.put l x = ([], 7) from fun h => put_bad (HG2.out 7 (by
      unfold Tr.kindErr; rw [hget]; refine if_pos ?_; rw [hxk]; simpa using h)) (by decide))
    have HK0 := Lib.hid (show ((l[k].k == 2) != (xk == 2)) = false → Tr.put l x = (l.set k x, 0) from fun h => put_good (HG2.out 0 (by
      unfold Tr.kindErr; rw [hget]; refine if_neg ?_; rw [hxk]; simpa using h)) hins)
    clear hget hins hfg hke hf HG2
    obtain ⟨bb, o, rfl, hbb, h0, h1, h2, h3⟩ := EnRd.at_ (hl.below hB8) hlt
    generalize l[k] = zz at h0 h1 h2 h3 HK7 HK0
    obtain ⟨zp, zk, zt, zo⟩ := zz
    dsimp only at h0 h1 h2 h3 HK7 HK0
    rcases own_shape ho8 with ⟨_, hv0⟩ | ⟨g, cap, hv8, hbg, hgz, hcap⟩
    · omega
    subst hv8
    have hfl : (En.flat l).length = l.length * 4 := eflat_len l
    have c0 : ∃ u, w8.cell? ⟨g, k * 4, none⟩ = some u := ⟨_, (ho8.cellAt _ (by omega)).trans (List.getElem?_eq_getElem (by omega))⟩
    have c1 : ∃ u, w8.cell? ⟨g, k * 4 + 1, none⟩ = some u := ⟨_, (ho8.cellAt _ (by omega)).trans (List.getElem?_eq_getElem (by omega))⟩
    have c2 : ∃ u, w8.cell? ⟨g, k * 4 + 2, none⟩ = some u := ⟨_, (ho8.cellAt _ (by omega)).trans (List.getElem?_eq_getElem (by omega))⟩
    have c3 : ∃ u, w8.cell? ⟨g, k * 4 + 3, none⟩ = some u := ⟨_, (ho8.cellAt _ (by omega)).trans (List.getElem?_eq_getElem (by omega))⟩
    obtain ⟨u0, c0⟩ := c0
    obtain ⟨u1, c1⟩ := c1
    obtain ⟨u2, c2⟩ := c2
    obtain ⟨u3, c3⟩ := c3
    have fz : ∀ q, w8.frozen? ⟨g, q, none⟩ = false := fun q => ho8.frozenAt q
    obtain ⟨o4, g4⟩ := own_four ho8 (k * 4) (.string xp) (.int .i64 xk) (.string xt) (.bool xo)
    have ef := eflat_set l k hlt ⟨xp, xk, xt, xo⟩
    dsimp only at ef
    rw [ef, ← HX.out] at o4
    have HEND := Lib.hid (And.intro (show EnOwn _ w.heap.size (.slice (some ⟨g, 0, none⟩) l.length cap) (l.set k x) by unfold EnOwn; rw [List.length_set]; exact o4) (below_grown hB8 g4 hB8.size (fun q e => by injection e with e; subst e; exact hbg)))
    clear hfl o4 g4 ef
    rcases ta : (zk == 2) with _ | _ <;> rcases tb : (xk == 2) with _ | _
    · have HO := Lib.hid (HK0.out (by rw [ta, tb]; rfl))
      clear HK7 HK0
      go_wp2_with fail
      go_quiet (fail)
      go_wp2_with fail
      go_ret2
      exact ⟨_, ret_put HO.out, by rw [HO.out]; exact HEND.out.1, below_drewN HEND.out.2 nq⟩
    · have HO := Lib.hid (HK7.out (by rw [ta, tb]; rfl))
      clear HK7 HK0
      go_wp2_with fail
      go_quiet (fail)
      go_wp2_with fail
      go_ret2
      exact ⟨_, ret_put HO.out, by rw [HO.out]; exact EnOwn.nil _ _, below_drewN hB8 _⟩
    · have HO := Lib.hid (HK7.out (by rw [ta, tb]; rfl))
      clear HK7 HK0
      go_wp2_with fail
      go_quiet (fail)
      go_wp2_with fail
      go_ret2
      exact ⟨_, ret_put HO.out, by rw [HO.out]; exact EnOwn.nil _ _, below_drewN hB8 _⟩
    · have HO := Lib.hid (HK0.out (by rw [ta, tb]; rfl))
      clear HK7 HK0
      go_wp2_with fail
      go_quiet (fail)
      go_wp2_with fail
      go_ret2
      exact ⟨_, ret_put HO.out, by rw [HO.out]; exact HEND.out.1, below_drewN HEND.out.2 nq⟩
end Go.Proofs.YtjppfhgkanbemabDoor
