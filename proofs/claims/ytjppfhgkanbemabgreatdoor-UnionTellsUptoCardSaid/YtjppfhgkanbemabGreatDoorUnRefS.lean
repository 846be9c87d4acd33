/-
  The document's SetUpper, Drop, Done. (Printed by wip/genunrefs.py.)
-/
import Derived.Test.YtjppfhgkanbemabGreatDoorUnMoveW
import Derived.Test.YtjppfhgkanbemabGreatDoorTrRefR
import Derived.Test.YtjppfhgkanbemabGreatDoorTrRefO
namespace Go.Proofs.YtjppfhgkanbemabGreatDoor
open Go.RowKit Go.Shelf Go.Sort

theorem dirIn_is {U : List En} {d : Pt.Bs} {r : Option En} (h : r = Tr.get U d) : Tr.dirIn U d = (r.isSome && (r.getD En.zero).k == 2) := by
  unfold Tr.dirIn; rw [← h]; cases r <;> rfl
/-- What SetUpper leaves. -/
def RefSetRel (U' : List En) (w : World) (r : Ending) (w' : World) : Prop := ∃ v, r = .returned v ∧ EnOwn w' w.heap.size v U' ∧ Below w.heap.size w w'

set_option maxHeartbeats 4000000 in
set_option maxRecDepth 100000 in
theorem refSet_any : ∀ (n : Nat) (A : Option Addr) (c : Nat) (U : List En) (e : En) (w : World), EnRd w w.heap.size A U → Tr.Ok U (900000 - n) → n ≤ 800000 → e.P ≠ [] → e.P.length ≤ n → e.p.size < 4294967281 → e.t.size < 4294967281 →
    Calls Tryz.prog 50 #[.slice A U.length c, e.agg] w (RefSetRel (Tr.setP U e) w) := by
  intro n
  induction n with
  | zero =>
    intro A c U e w _ _ _ h1 h2
    exact absurd (List.length_eq_zero_iff.1 (Nat.le_zero.1 h2)) h1
  | succ n ih =>
  intro A c U e w hr0 hok hn8 heP hen hep het
  have HOK := Lib.hid hok
  have HEP := Lib.hid heP
  have HEN := Lib.hid hen
  have hul := hok.len
  clear hok heP hen
  unfold RefSetRel
  have HX := Lib.hid (Tr.setP_eq U e)
  obtain ⟨res, hres⟩ : ∃ res, res = Tr.setP U e := ⟨_, rfl⟩
  rw [← hres] at HX
  rw [← hres]
  clear hres
  obtain ⟨X, hX⟩ : ∃ X, X = if Pt.dirOf e.P ≠ [] ∧ Tr.dirIn U (Pt.dirOf e.P) = false then Tr.setP U (Tr.dirEn (Pt.dirOf e.P)) else U := ⟨_, rfl⟩
  rw [← hX] at HX
  have HXO : Hid (Tr.Srt X ∧ Sm X ∧ X.length ≤ 900000) := Lib.hid (by
    rw [hX]
    split
    · rename_i hc
      have h2 := Tr.dir_short HEP.out
      have h3 := HEN.out
      have a1 : e.P.length = e.p.size := size_length e.p
      refine ⟨(Tr.setP_mem (e := Tr.dirEn (Pt.dirOf e.P)) HOK.out.srt HOK.out.ne hc.1).1, Tr.setE_sm _ (e := Tr.dirEn (Pt.dirOf e.P)) HOK.out.srt HOK.out.ne hc.1 HOK.out.sm ?_ (by show (0 : Nat) < 4294967281; decide), ?_⟩
      · show (Pt.dirOf e.P).length < _
        omega
      · have h1 := Tr.setP_le U (Tr.dirEn (Pt.dirOf e.P))
        rw [Tr.dirEn_P] at h1; omega
    · exact ⟨HOK.out.srt, HOK.out.sm, by omega⟩)
  have HXD := Lib.hid hX
  clear hX
  obtain ⟨ep, ek, et, eo⟩ := e
  have hPe : (⟨ep, ek, et, eo⟩ : En).P = ep.data.toList := rfl
  rw [hPe] at HXD HEP HEN
  dsimp only at hep het
  simp only [En.agg, En.cells]
  have hB1 := (Below.refl w.heap.size w).alloc (Nat.le_refl _) (.cells #[.string ep, .int .i64 ek, .string et, .bool eo] 45)
  have he1 := Blk.new w 45 [.string ep, .int .i64 ek, .string et, .bool eo]
  have hr1 := Rd.below hr0 hB1
  clear hr0
  go_enter Tryz.func50, Tryz.ntmps50
  go_upto_region 1 with fail
  generalize w.alloc (.cells #[.string ep, .int .i64 ek, .string et, .bool eo] 45) = w1 at *
  obtain ⟨e0, e1, e2, e3, ef, ez⟩ := he1.four
  go_wp2_with fail
  clear e0 e1 e2 e3 ef ez
  refine (refCut_any ep _ (by omega)).mono ?_
  rintro e w2 ⟨rfl, hD⟩
  have hB2 := hB1.trans (hD.below (B := w.heap.size))
  have he2 := he1.below (hD.below (B := w1.heap.size)) he1.lt
  have hr2 := Rd.below hr1 (hD.below (B := w.heap.size))
  clear hD hB1 he1 hr1
  obtain ⟨sd, hsd⟩ : ∃ sd : ByteArray, sd = ⟨(Pt.dirOf ep.data.toList).toArray⟩ := ⟨_, rfl⟩
  have hsl : sd.data.toList = Pt.dirOf ep.data.toList := by rw [hsd]
  have hst : Pt.str (Pt.dirOf ep.data.toList) = .string sd := by rw [hsd]; rfl
  obtain ⟨sn, hsn⟩ : ∃ sn, Pt.str (Pt.nameOf ep.data.toList) = .string sn := ⟨_, rfl⟩
  rw [hst, hsn]
  have hlt : sd.size < ep.size := by have := Tr.dir_short HEP.out; rw [← hsl, size_length, size_length] at this; exact this
  have HXD := Lib.hid HXD.out
  rw [← hsl] at HXD
  have hDE : Tr.dirEn (Pt.dirOf ep.data.toList) = ⟨sd, 2, ⟨#[]⟩, false⟩ := by rw [hsd]; rfl
  have hDL : (Pt.dirOf ep.data.toList).length ≤ n := by have := Tr.dir_short HEP.out; have := HEN.out; omega
  rw [← hsl] at hDE hDL
  rw [hDE] at HXD
  clear hsd hsl hst hsn hDE
  go_wp2_with fail
  refine (refGet_any A c U sd w2 (Rd.more hr2 hB2.size) (by omega)).mono ?_
  rintro e w3 ⟨r, rfl, hr, hb⟩
  have hB3 := hB2.trans (hb.mono hB2.size)
  have he3 := he2.below hb he2.lt
  have hr3 := Rd.below hr2 (hb.mono hB2.size)
  have HD := Lib.hid (dirIn_is hr)
  clear hr hb hB2 he2 hr2
  have HX1 := Lib.hid (show sd.data.toList = [] → X = U from fun h => HXD.out.trans (if_neg fun q => q.1 h))
  have HX2 := Lib.hid (show sd.data.toList ≠ [] → r.isSome = true → ((r.getD En.zero).k != 2) = false → X = U from fun _ h1 h2 => HXD.out.trans (if_neg fun h => by
    have h3 := h.2
    rw [HD.out, h1, Bool.true_and] at h3
    simp at h2 h3
    exact h3 h2))
  have HX3 := Lib.hid (show sd.data.toList ≠ [] → r.isSome = false → X = Tr.setP U ⟨sd, 2, ⟨#[]⟩, false⟩ from fun h0 h1 => HXD.out.trans (if_pos ⟨h0, by rw [HD.out, h1]; rfl⟩))
  have HX4 := Lib.hid (show sd.data.toList ≠ [] → ((r.getD En.zero).k != 2) = true → X = Tr.setP U ⟨sd, 2, ⟨#[]⟩, false⟩ from fun h0 h1 => HXD.out.trans (if_pos ⟨h0, by rw [HD.out]; simp at h1 ⊢; intro _; exact h1⟩))
  clear HD HXD
  generalize r.getD En.zero = d at HX2 HX4
  generalize r.isSome = ok at HX2 HX3
  obtain ⟨dp, dk, dt, dop⟩ := d
  simp only [En.agg, En.cells]
  dsimp only at HX2 HX4
  have hB4 := hB3.alloc hB3.size (.cells #[.string dp, .int .i64 dk, .string dt, .bool dop] 45)
  have he4 := he3.alloc (.cells #[.string dp, .int .i64 dk, .string dt, .bool dop] 45)
  have hd4 := Blk.new w3 45 [.string dp, .int .i64 dk, .string dt, .bool dop]
  have hr4 : EnRd (w3.alloc (.cells #[.string dp, .int .i64 dk, .string dt, .bool dop] 45)) w.heap.size A U := Rd.alloc hr3 hB3.size _
  clear hB3 he3 hr3
  have cI : ∀ W, EnRd W W.heap.size A U → sd.data.toList ≠ [] → Calls Tryz.prog 50 #[.slice A U.length c, .agg #[.string sd, .int .i64 2, .string ⟨#[]⟩, .bool false]] W (RefSetRel (Tr.setP U ⟨sd, 2, ⟨#[]⟩, false⟩) W) := fun W h1 h2 =>
    ih A c U ⟨sd, 2, ⟨#[]⟩, false⟩ W h1 (HOK.out.more (by omega)) (by omega) h2 hDL (by show sd.size < _; omega) (by show (0 : Nat) < 4294967281; decide)
  go_upto_region 3 with fail
  generalize w3.alloc (.cells #[.string dp, .int .i64 dk, .string dt, .bool dop] 45) = w4 at *
  generalize w3.heap.size = gd at *
  obtain ⟨d0, d1, d2, d3, df, dz⟩ := hd4.four
  have hcn : ∃ cnd : Bool, cnd = (!sd.toList.isEmpty && (!ok || (dk != 2))) := ⟨_, rfl⟩
  obtain ⟨cnd, hcnd⟩ := hcn
  have HXF : Hid (cnd = false → X = U) := Lib.hid (fun h => by
    rw [hcnd] at h
    rcases empty_cases sd with ⟨hE, g1, g2⟩ | ⟨hE, g1, g2⟩
    · exact HX1.out hE
    · rw [g2] at h
      cases ok
      · simp at h
      · exact HX2.out hE rfl (by simpa using h))
  have HXT : Hid (cnd = true → sd.data.toList ≠ [] ∧ X = Tr.setP U ⟨sd, 2, ⟨#[]⟩, false⟩) := Lib.hid (fun h => by
    rw [hcnd] at h
    rcases empty_cases sd with ⟨hE, g1, g2⟩ | ⟨hE, g1, g2⟩
    · rw [g2] at h; simp at h
    · rw [g2] at h
      cases ok
      · exact ⟨hE, HX3.out hE rfl⟩
      · exact ⟨hE, HX4.out hE (by simpa using h)⟩)
  clear HX1 HX2 HX3 HX4
  go_cut [33] (fun bv wx => bv = .bool cnd ∧ wx = w4)
  case first =>
    rcases empty_cases sd with ⟨hE, g1, g2⟩ | ⟨hE, g1, g2⟩
    · go_wp2_with fail
      go_meet
      case rel => exact ⟨by rw [hcnd, g2]; rfl, rfl⟩
    · rcases tk : (dk != 2) with _ | _ <;> cases ok
      · go_wp2_with fail
        go_meet
        case rel => exact ⟨by rw [hcnd, g2]; rfl, rfl⟩
      · go_wp2_with fail
        go_meet
        case rel => exact ⟨by rw [hcnd, g2, tk]; rfl, rfl⟩
      · go_wp2_with fail
        go_meet
        case rel => exact ⟨by rw [hcnd, g2]; rfl, rfl⟩
      · go_wp2_with fail
        go_meet
        case rel => exact ⟨by rw [hcnd, g2, tk]; rfl, rfl⟩
  case rest =>
  obtain ⟨rfl, rfl⟩ := hcut
  clear d0 d1 d2 d3 df dz hcnd
  go_upto_if 33 with fail
  go_cut [0] (fun v wx => ∃ A2 c2, v = .slice A2 X.length c2 ∧ EnRd wx wx.heap.size A2 X ∧ Blk wx w.heap.size 45 [.string ep, .int .i64 ek, .string et, .bool eo] ∧ Below w.heap.size w wx ∧ (0 < X.length → ∀ b, A2 = some b → b.block ≠ w.heap.size))
  case first =>
    cases cnd
    · have HXX := Lib.hid (HXF.out rfl)
      clear HXF HXT
      go_wp2_with fail
      go_meet
      case rel => exact ⟨A, c, by rw [HXX.out], by rw [HXX.out]; exact Rd.more hr4 hB4.size, he4, hB4, fun hn b hb => by
        rw [HXX.out] at hn
        obtain ⟨b2, o2, e2, hlt2, _⟩ := hr4.2 hn
        rw [hb] at e2; injection e2 with e2; subst e2
        show b2 ≠ w.heap.size
        omega⟩
    · have HXX := Lib.hid (HXT.out rfl)
      clear HXF HXT
      go_wp2_with fail
      refine (cI _ (Rd.more hr4 hB4.size) HXX.out.1).mono ?_
      rintro e w5 ⟨v5, rfl, ho5, hb⟩
      obtain ⟨A5, c5, rfl, hc5, hr5⟩ := EnOwn.rd ho5
      go_wp2_with fail
      go_meet
      case rel => exact ⟨A5, c5, by rw [HXX.out.2], by rw [HXX.out.2]; exact hr5, he4.below hb he4.lt, hB4.trans (hb.mono hB4.size), fun _ b hb2 => by
        subst hb2
        have h1 := (World.ownsRow.lt ho5 b.block rfl).1
        have h2 := he4.lt
        omega⟩
  case rest =>
  clear hr4 he4 hB4 cI HXF HXT
  obtain ⟨A2, c2, rfl, hrX, he5, hB5, hnb⟩ := hcut
  generalize wc = w5 at *
  obtain ⟨hxs, hxm, hxl⟩ := HXO.out
  have HXS := Lib.hid hxs
  have HXM := Lib.hid hxm
  clear hxs hxm HXO
  obtain ⟨e0, e1, e2, e3, ef, ez⟩ := he5.four
  go_wp2_with fail
  clear e0 e1 e2 e3 ef ez
  refine (refGet_any A2 c2 X ep w5 hrX (by omega)).mono ?_
  rintro e w6 ⟨r2, rfl, hr, hb⟩
  have hB6 := hB5.trans (hb.mono hB5.size)
  have he6 := he5.below hb he5.lt
  have hr6 : EnRd w6 w6.heap.size A2 X := (Rd.below hrX hb).more hb.size
  clear hb hB5 he5 hrX
  have HN := Lib.hid (show r2.isSome = false → res = Tr.ins ⟨ep, ek, et, eo⟩ X from fun h => by
    rw [HX.out]
    refine Tr.adj_none (hr.symm.trans ?_)
    cases r2
    · rfl
    · cases h)
  have HO := Lib.hid (show r2.isSome = true → ek ≠ 2 → res = Tr.ins ⟨ep, ek, et, eo⟩ X from fun h h2 => by
    rw [HX.out]
    cases r2 with
    | none => cases h
    | some y => exact Tr.adj_other hr.symm h2)
  have HD := Lib.hid (show r2.isSome = true → ek = 2 → res = Tr.ins ⟨ep, ek, et, (r2.getD En.zero).o || (r2.getD En.zero).k == 4⟩ X from fun h h2 => by
    rw [HX.out]
    cases r2 with
    | none => cases h
    | some y => exact Tr.adj_dir hr.symm h2)
  clear hr HX
  generalize r2.getD En.zero = y at HD
  generalize r2.isSome = ok2 at HN HO HD
  obtain ⟨yp, yk, yt, yo⟩ := y
  simp only [En.agg, En.cells]
  dsimp only at HD
  have hB7 := hB6.alloc hB6.size (.cells #[.string yp, .int .i64 yk, .string yt, .bool yo] 45)
  have he7 := he6.alloc (.cells #[.string yp, .int .i64 yk, .string yt, .bool yo] 45)
  have hy7 := Blk.new w6 45 [.string yp, .int .i64 yk, .string yt, .bool yo]
  have hr7 : EnRd (w6.alloc (.cells #[.string yp, .int .i64 yk, .string yt, .bool yo] 45)) (w6.alloc (.cells #[.string yp, .int .i64 yk, .string yt, .bool yo] 45)).heap.size A2 X := (Rd.alloc hr6 (Nat.le_refl _) _).more (by simp)
  have hgy : w.heap.size < w6.heap.size := he6.lt
  clear hB6 he6 hr6
  go_upto_region 6 with fail
  generalize w6.alloc (.cells #[.string yp, .int .i64 yk, .string yt, .bool yo] 45) = w7 at *
  generalize w6.heap.size = gy at *
  have fin : ∀ (q : Bool) (W : World), EnRd W W.heap.size A2 X → Below w.heap.size w W → Calls Tryz.prog 87 #[.slice A2 X.length c2, .agg #[.string ep, .int .i64 ek, .string et, .bool q]] W fun e w' => ∃ v, e = .returned v ∧ EnOwn w' w.heap.size v (Tr.ins ⟨ep, ek, et, q⟩ X) ∧ Below w.heap.size w w' := fun q W h1 h2 =>
    (with_any A2 c2 X ⟨ep, ek, et, q⟩ W h1 HXM.out HXS.out hep (by omega)).mono fun e w' ⟨v, k1, k2, k3⟩ => ⟨v, k1, own_base k2 h2.size, h2.trans (k3.mono h2.size)⟩
  obtain ⟨e0, e1, e2, e3, ef, ez⟩ := he7.four
  obtain ⟨y0, y1, y2, y3, yf, yz⟩ := hy7.four
  cases ok2
  · have HF := Lib.hid (HN.out rfl)
    clear HN HO HD
    go_wp2_with fail
    refine (fin eo w7 hr7 hB7).mono ?_
    rintro e w8 ⟨v8, rfl, ho8, hb8⟩
    go_wp2_with fail
    go_ret
    exact ⟨_, rfl, by rw [HF.out]; exact ho8, hb8⟩
  rcases tk : (ek == 2) with _ | _
  · have HF := Lib.hid (HO.out rfl (by simpa using tk))
    clear HN HO HD
    go_wp2_with fail
    refine (fin eo w7 hr7 hB7).mono ?_
    rintro e w8 ⟨v8, rfl, ho8, hb8⟩
    go_wp2_with fail
    go_ret
    exact ⟨_, rfl, by rw [HF.out]; exact ho8, hb8⟩
  have HDD := Lib.hid (HD.out rfl (by simpa using tk))
  clear HN HO HD
  have hr8 : ∀ q : Bool, EnRd (w7.setCell ⟨w.heap.size, 3, none⟩ (.bool q)) (w7.setCell ⟨w.heap.size, 3, none⟩ (.bool q)).heap.size A2 X := fun q => ⟨hr7.1, fun hn => by
    obtain ⟨b, o, e, hlt, hc⟩ := hr7.2 hn
    refine ⟨b, o, e, by simpa using hlt, fun j u hu => ?_⟩
    have hne : b ≠ w.heap.size := hnb hn _ e
    exact (World.cell?_of_block (a := ⟨b, o + j, none⟩) (Below.heap_setCell w7 ⟨w.heap.size, 3, none⟩ (.bool q) b hne)).trans (hc j u hu)⟩
  have hB8 : ∀ q : Bool, Below w.heap.size w (w7.setCell ⟨w.heap.size, 3, none⟩ (.bool q)) := fun q => hB7.setCell (p := ⟨w.heap.size, 3, none⟩) (Nat.le_refl _) (.bool q)
  have he8 : ∀ q : Bool, Blk (w7.setCell ⟨w.heap.size, 3, none⟩ (.bool q)) w.heap.size 45 [.string ep, .int .i64 ek, .string et, .bool q] := fun q => he7.set_ 3 (.bool q)
  have fin2 := fun q => fin q _ (hr8 q) (hB8 q)
  clear fin hr8 hB8 hnb
  have HE8 := Lib.hid he8
  clear he8
  cases yo
  · rcases ty : (yk == 4) with _ | _
    · have HF : Hid (res = Tr.ins ⟨ep, ek, et, false⟩ X) := Lib.hid (by rw [HDD.out, ty]; rfl)
      obtain ⟨f0, f1, f2, f3, ff, fz⟩ := (HE8.out false).four
      have cF := fin2 false
      clear fin2 HDD
      go_wp2_with fail
      refine cF.mono ?_
      rintro e w8 ⟨v8, rfl, ho8, hb8⟩
      go_wp2_with fail
      go_ret
      exact ⟨_, rfl, by rw [HF.out]; exact ho8, hb8⟩
    · have HF : Hid (res = Tr.ins ⟨ep, ek, et, true⟩ X) := Lib.hid (by rw [HDD.out, ty]; rfl)
      obtain ⟨f0, f1, f2, f3, ff, fz⟩ := (HE8.out true).four
      have cF := fin2 true
      clear fin2 HDD
      go_wp2_with fail
      refine cF.mono ?_
      rintro e w8 ⟨v8, rfl, ho8, hb8⟩
      go_wp2_with fail
      go_ret
      exact ⟨_, rfl, by rw [HF.out]; exact ho8, hb8⟩
  · have HF : Hid (res = Tr.ins ⟨ep, ek, et, true⟩ X) := Lib.hid (by rw [HDD.out]; rfl)
    obtain ⟨f0, f1, f2, f3, ff, fz⟩ := (HE8.out true).four
    have cF := fin2 true
    clear fin2 HDD
    go_wp2_with fail
    refine cF.mono ?_
    rintro e w8 ⟨v8, rfl, ho8, hb8⟩
    go_wp2_with fail
    go_ret
    exact ⟨_, rfl, by rw [HF.out]; exact ho8, hb8⟩

set_option maxHeartbeats 2000000 in
theorem refDrop_any (A AB : Option Addr) (c cB : Nat) (U B : List En) (s : ByteArray) (w : World) (hr : EnRd w w.heap.size A U) (hB : EnRd w w.heap.size AB B) (hok : Tr.Ok U 700000) (hlB : B.length ≤ 1000000) (hs0 : s.data.toList ≠ []) (hsz : s.size ≤ 80) :
    Calls Tryz.prog 54 #[.slice A U.length c, .slice AB B.length cB, .string s] w (RefSetRel (Tr.dropE B U s.data.toList) w) := by
  have hol := outside_le U s.data.toList
  have hul := hok.len
  have HOK : Hid (Tr.Ok (Tr.outside U s.data.toList) 700000) := Lib.hid ⟨Tr.srt_filter hok.srt _, fun x hx => hok.ne x (List.mem_filter.1 hx).1, fun x hx => hok.sm x (List.mem_filter.1 hx).1, by omega⟩
  have HS0 := Lib.hid hs0
  clear hok hs0
  unfold RefSetRel
  obtain ⟨res, hres⟩ : ∃ res, res = Tr.dropE B U s.data.toList := ⟨_, rfl⟩
  rw [← hres]
  unfold Tr.dropE at hres
  rw [white_is] at hres
  have cW := fun W h => refWithout_any A c U s W h (by omega) (by omega)
  obtain ⟨U2, hU2⟩ : ∃ U2, U2 = Tr.outside U s.data.toList := ⟨_, rfl⟩
  rw [← hU2] at HOK hres hol
  simp only [← hU2] at cW
  clear hU2
  have HR := Lib.hid hres
  clear hres
  go_enter Tryz.func54, Tryz.ntmps54
  go_wp2_with fail
  refine (cW w hr).mono ?_
  rintro e w1 ⟨v1, rfl, ho1, hb1⟩
  obtain ⟨A1, c1, rfl, hc1, hr1⟩ := EnOwn.rd ho1
  have hB1 := Rd.below hB hb1
  clear hr cW
  go_wp2_with fail
  refine (refGet_any AB cB B s w1 (Rd.more hB1 hb1.size) (by omega)).mono ?_
  rintro e w2 ⟨r, rfl, hrr, hb2⟩
  have hb12 := hb1.trans (hb2.mono hb1.size)
  have hr2 : EnRd w2 w2.heap.size A1 U2 := (Rd.below hr1 hb2).more hb2.size
  have ho2 : EnOwn w2 w.heap.size (.slice A1 U2.length c1) U2 := own_below ho1 hb2 (Nat.le_refl _)
  have HR2 : Hid (res = if r.isSome = true ∧ Tr.hides U2 s.data.toList = false then Tr.setP U2 ⟨s, 4, ⟨#[]⟩, false⟩ else U2) := Lib.hid (by rw [HR.out, hrr]; rfl)
  clear HR hrr hr1 ho1 hb1 hb2 hB hB1
  generalize r.getD En.zero = y
  generalize r.isSome = ok at *
  obtain ⟨yp, yk, yt, yo⟩ := y
  simp only [En.agg, En.cells]
  have hb3 := hb12.alloc hb12.size (.cells #[.string yp, .int .i64 yk, .string yt, .bool yo] 45)
  have hr3 : EnRd (w2.alloc (.cells #[.string yp, .int .i64 yk, .string yt, .bool yo] 45)) (w2.alloc (.cells #[.string yp, .int .i64 yk, .string yt, .bool yo] 45)).heap.size A1 U2 := (Rd.alloc hr2 (Nat.le_refl _) _).more (by simp)
  have ho3 : EnOwn (w2.alloc (.cells #[.string yp, .int .i64 yk, .string yt, .bool yo] 45)) w.heap.size (.slice A1 U2.length c1) U2 := own_alloc ho2 _
  clear hb12 hr2 ho2
  go_upto_region 3 with fail
  generalize w2.alloc (.cells #[.string yp, .int .i64 yk, .string yt, .bool yo] 45) = w3 at *
  cases ok
  · have HF := Lib.hid (HR2.out.trans (if_neg fun h => by cases h.1))
    clear HR2
    go_wp2_with fail
    go_ret
    exact ⟨_, rfl, by rw [HF.out]; exact ho3, hb3⟩
  · go_wp2_with fail
    refine (refHides_any A1 c1 U2 s w3 hr3 (by omega) (by omega)).mono ?_
    rintro e w4 ⟨rfl, hb⟩
    have hb4 := hb3.trans (hb.mono hb3.size)
    have hr4 : EnRd w4 w4.heap.size A1 U2 := (Rd.below hr3 hb).more hb.size
    have ho4 : EnOwn w4 w.heap.size (.slice A1 U2.length c1) U2 := own_below ho3 hb (Nat.le_refl _)
    clear hb hb3 hr3 ho3
    rcases th : Tr.hides U2 s.data.toList with _ | _
    · have HF := Lib.hid (HR2.out.trans (if_pos ⟨by first | rfl | trivial, th⟩))
      clear HR2 th
      go_wp2_with fail
      refine (refSet_any s.size A1 c1 U2 ⟨s, 4, ⟨#[]⟩, false⟩ w4 hr4 (HOK.out.more (by omega)) (by omega) HS0.out (Nat.le_of_eq (size_length s)) (by show s.size < _; omega) (by show (0 : Nat) < 4294967281; decide)).mono ?_
      rintro e w5 ⟨v5, rfl, ho5, hb⟩
      go_wp2_with fail
      go_ret
      exact ⟨_, rfl, by rw [HF.out]; exact own_base ho5 hb4.size, hb4.trans (hb.mono hb4.size)⟩
    · have HF := Lib.hid (HR2.out.trans (if_neg fun h => by rw [th] at h; cases h.2))
      clear HR2 th
      go_wp2_with fail
      go_ret
      exact ⟨_, rfl, by rw [HF.out]; exact ho4, hb4⟩

theorem done_any (A A' AV : Option Addr) (c c' cV : Nat) (u : Un) (V : List En) (w : World) :
    Calls Tryz.prog 49 #[.agg #[.slice A u.U.length c, .slice A' u.L.length c'], .slice AV V.length cV] w fun e w' => (if 80 < V.length then e = .returned (.tuple #[.agg #[.slice none 0 0, .slice none 0 0], .int .i64 5]) else e = .returned (.tuple #[.agg #[.slice AV V.length cV, .slice A' u.L.length c'], .int .i64 0])) ∧ Below w.heap.size w w' := by
  obtain ⟨U, L⟩ := u
  dsimp only
  have hB0 := ((Below.refl w.heap.size w).alloc (Nat.le_refl _) (.cells #[.slice A U.length c, .slice A' L.length c'] 33))
  have hB1 := hB0.alloc hB0.size (.cells #[.slice none 0 0, .slice none 0 0] 33)
  have hB2 := hB0.alloc hB0.size (.cells #[.slice AV V.length cV, .slice A' L.length c'] 33)
  clear hB0
  rcases t8 : decide ((80 : Int) < (V.length : Int)) with _ | _
  · have hn : ¬ 80 < V.length := by have := of_decide_eq_false t8; omega
    simp only [if_neg hn]
    clear hn
    go_enter Tryz.func49, Tryz.ntmps49
    go_wp2_with fail
    refine bodyPost_ret (v := .tuple #[.agg #[.slice AV V.length cV, .slice A' L.length c'], .int .i64 0]) ?_ rfl ⟨rfl, hB2⟩
    simp [results, Tryz.results49, go_sem]
  · have hn : 80 < V.length := by have := of_decide_eq_true t8; omega
    simp only [if_pos hn]
    clear hn
    go_enter Tryz.func49, Tryz.ntmps49
    go_wp2_with fail
    refine bodyPost_ret (v := .tuple #[.agg #[.slice none 0 0, .slice none 0 0], .int .i64 5]) ?_ rfl ⟨rfl, hB1⟩
    simp [results, Tryz.results49, go_sem]
end Go.Proofs.YtjppfhgkanbemabGreatDoor
