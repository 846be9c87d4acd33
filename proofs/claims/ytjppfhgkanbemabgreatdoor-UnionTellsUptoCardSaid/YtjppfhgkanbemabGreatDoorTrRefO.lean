/-
  The document's Hides, Over and Merge. (Printed by wip/genrefo.py.)
-/
import Derived.Test.YtjppfhgkanbemabGreatDoorTrRefC
namespace Go.Proofs.YtjppfhgkanbemabGreatDoor
open Go.RowKit Go.Shelf Go.Sort

set_option maxHeartbeats 4000000 in
theorem refHides_any (A : Option Addr) (c : Nat) (l : List En) (p : ByteArray) (w : World) (hl : EnRd w w.heap.size A l) (hp : p.size < 4294967281) (hn : l.length ≤ 2305843009213693952) :
    Calls Tryz.prog 93 #[.slice A l.length c, .string p] w fun e w' => e = .returned (.bool (Tr.hides l p.data.toList)) ∧ Below w.heap.size w w' := by
  go_enter Tryz.func93, Tryz.ntmps93
  go_wp2_with fail
  refine (refGet_any A c l p w hl hn).mono ?_
  rintro e w1 ⟨r, rfl, hr, hb⟩
  have hB1 := hb
  have HQ := Lib.hid (hides_step hr)
  clear hr hb
  generalize r.getD En.zero = d at HQ
  generalize r.isSome = ok at HQ
  obtain ⟨dp, dk, dt, dop⟩ := d
  simp only [En.agg, En.cells]
  dsimp only at HQ
  cases ok
  · go_wp2_with fail
    refine (refCut_any p _ (by omega)).mono ?_
    rintro e w3 ⟨rfl, hD⟩
    have hB3 := (hB1.alloc hB1.size (.cells #[.string dp, .int .i64 dk, .string dt, .bool dop] 45)).trans (hD.below (B := w.heap.size))
    clear hD
    obtain ⟨sd, hsd⟩ : ∃ sd : ByteArray, sd = ⟨(Pt.dirOf p.data.toList).toArray⟩ := ⟨_, rfl⟩
    have hsl : sd.data.toList = Pt.dirOf p.data.toList := by rw [hsd]
    have hst : Pt.str (Pt.dirOf p.data.toList) = .string sd := by rw [hsd]; rfl
    obtain ⟨sn, hsn⟩ : ∃ sn, Pt.str (Pt.nameOf p.data.toList) = .string sn := ⟨_, rfl⟩
    rw [hst, hsn]
    have hle : sd.size ≤ p.size := by have := (cut_len p).1; rw [← hsl, size_length] at this; exact this
    have HN : Hid (Tr.hides l p.data.toList = Tr.hidAll l sd.data.toList) := Lib.hid (by rw [HQ.out, Bool.false_and, Bool.false_or, hsl])
    clear hsd hsl hst hsn
    go_wp2_with fail
    go_loopw [7] (fun v wr => ∃ q : ByteArray, v = .string q ∧ q.size < 4294967281 ∧ Hid (Tr.hides l p.data.toList = Tr.hidAll l q.data.toList) ∧ Below w.heap.size w wr) (fun v _ => strLen v)
    case atStart => exact ⟨sd, rfl, by omega, HN, hB3⟩
    case round =>
      clear hB3 HN hle
      obtain ⟨q, rfl, hqs, HL, hB⟩ := hrel
      rcases empty_cases q with ⟨hE, g1, g2⟩ | ⟨hE, g1, g2⟩
      · have HF : Hid (Tr.hides l p.data.toList = false) := Lib.hid (by rw [HL.out, hE]; exact Tr.hidAll_nil l)
        clear hE
        go_wp2_with fail
        go_ret
        exact ⟨ret_bool HF.out.symm, hB⟩
      · have HE := Lib.hid hE
        clear hE
        go_wp2_with fail
        refine (refGet_any A c l q wr (((hl).below hB).more hB.size) hn).mono ?_
        rintro e w1 ⟨r, rfl, hr, hb⟩
        have hB1 := hB.trans (hb.mono hB.size)
        have HQ := Lib.hid (HL.out.trans (hidAll_step HE.out hr))
        clear hr hb hB HL
        generalize r.getD En.zero = d at HQ
        generalize r.isSome = ok at HQ
        obtain ⟨dp, dk, dt, dop⟩ := d
        simp only [En.agg, En.cells]
        dsimp only at HQ
        cases ok
        · go_wp2_with fail
          refine (refCut_any q _ (by omega)).mono ?_
          rintro e w3 ⟨rfl, hD⟩
          have hB3 := (hB1.alloc hB1.size (.cells #[.string dp, .int .i64 dk, .string dt, .bool dop] 45)).trans (hD.below (B := w.heap.size))
          clear hD
          obtain ⟨sd, hsd⟩ : ∃ sd : ByteArray, sd = ⟨(Pt.dirOf q.data.toList).toArray⟩ := ⟨_, rfl⟩
          have hsl : sd.data.toList = Pt.dirOf q.data.toList := by rw [hsd]
          have hst : Pt.str (Pt.dirOf q.data.toList) = .string sd := by rw [hsd]; rfl
          obtain ⟨sn, hsn⟩ : ∃ sn, Pt.str (Pt.nameOf q.data.toList) = .string sn := ⟨_, rfl⟩
          rw [hst, hsn]
          have hle : sd.size ≤ q.size := by have := (cut_len q).1; rw [← hsl, size_length] at this; exact this
          have hlt : sd.size < q.size := by have := Tr.dir_short HE.out; rw [← hsl, size_length, size_length] at this; exact this
          have HN : Hid (Tr.hides l p.data.toList = Tr.hidAll l sd.data.toList) := Lib.hid (by rw [HQ.out, Bool.false_and, Bool.false_or, hsl])
          clear hsd hsl hst hsn
          go_wp2_with fail
          go_roundw
          case rel => exact ⟨sd, rfl, by omega, HN, hB3⟩
          case measure => simp [strLen]; omega
        rcases tk : (dk != 2) with _ | _
        · cases dop
          · go_wp2_with fail
            refine (refCut_any q _ (by omega)).mono ?_
            rintro e w3 ⟨rfl, hD⟩
            have hB3 := (hB1.alloc hB1.size (.cells #[.string dp, .int .i64 dk, .string dt, .bool false] 45)).trans (hD.below (B := w.heap.size))
            clear hD
            obtain ⟨sd, hsd⟩ : ∃ sd : ByteArray, sd = ⟨(Pt.dirOf q.data.toList).toArray⟩ := ⟨_, rfl⟩
            have hsl : sd.data.toList = Pt.dirOf q.data.toList := by rw [hsd]
            have hst : Pt.str (Pt.dirOf q.data.toList) = .string sd := by rw [hsd]; rfl
            obtain ⟨sn, hsn⟩ : ∃ sn, Pt.str (Pt.nameOf q.data.toList) = .string sn := ⟨_, rfl⟩
            rw [hst, hsn]
            have hle : sd.size ≤ q.size := by have := (cut_len q).1; rw [← hsl, size_length] at this; exact this
            have hlt : sd.size < q.size := by have := Tr.dir_short HE.out; rw [← hsl, size_length, size_length] at this; exact this
            have HN : Hid (Tr.hides l p.data.toList = Tr.hidAll l sd.data.toList) := Lib.hid (by rw [HQ.out, tk, Bool.or_false, Bool.and_false, Bool.false_or, hsl])
            clear hsd hsl hst hsn
            go_wp2_with fail
            go_roundw
            case rel => exact ⟨sd, rfl, by omega, HN, hB3⟩
            case measure => simp [strLen]; omega
          · go_wp2_with fail
            go_ret
            exact ⟨ret_bool (by rw [HQ.out, tk, Bool.false_or, Bool.and_self, Bool.true_or]), hB1.alloc hB1.size _⟩
        · go_wp2_with fail
          go_ret
          exact ⟨ret_bool (by rw [HQ.out, tk, Bool.true_or, Bool.and_self, Bool.true_or]), hB1.alloc hB1.size _⟩
  rcases tk : (dk != 2) with _ | _
  · go_wp2_with fail
    refine (refCut_any p _ (by omega)).mono ?_
    rintro e w3 ⟨rfl, hD⟩
    have hB3 := (hB1.alloc hB1.size (.cells #[.string dp, .int .i64 dk, .string dt, .bool dop] 45)).trans (hD.below (B := w.heap.size))
    clear hD
    obtain ⟨sd, hsd⟩ : ∃ sd : ByteArray, sd = ⟨(Pt.dirOf p.data.toList).toArray⟩ := ⟨_, rfl⟩
    have hsl : sd.data.toList = Pt.dirOf p.data.toList := by rw [hsd]
    have hst : Pt.str (Pt.dirOf p.data.toList) = .string sd := by rw [hsd]; rfl
    obtain ⟨sn, hsn⟩ : ∃ sn, Pt.str (Pt.nameOf p.data.toList) = .string sn := ⟨_, rfl⟩
    rw [hst, hsn]
    have hle : sd.size ≤ p.size := by have := (cut_len p).1; rw [← hsl, size_length] at this; exact this
    have HN : Hid (Tr.hides l p.data.toList = Tr.hidAll l sd.data.toList) := Lib.hid (by rw [HQ.out, tk, Bool.and_false, Bool.false_or, hsl])
    clear hsd hsl hst hsn
    go_wp2_with fail
    go_loopw [7] (fun v wr => ∃ q : ByteArray, v = .string q ∧ q.size < 4294967281 ∧ Hid (Tr.hides l p.data.toList = Tr.hidAll l q.data.toList) ∧ Below w.heap.size w wr) (fun v _ => strLen v)
    case atStart => exact ⟨sd, rfl, by omega, HN, hB3⟩
    case round =>
      clear hB3 HN hle
      obtain ⟨q, rfl, hqs, HL, hB⟩ := hrel
      rcases empty_cases q with ⟨hE, g1, g2⟩ | ⟨hE, g1, g2⟩
      · have HF : Hid (Tr.hides l p.data.toList = false) := Lib.hid (by rw [HL.out, hE]; exact Tr.hidAll_nil l)
        clear hE
        go_wp2_with fail
        go_ret
        exact ⟨ret_bool HF.out.symm, hB⟩
      · have HE := Lib.hid hE
        clear hE
        go_wp2_with fail
        refine (refGet_any A c l q wr (((hl).below hB).more hB.size) hn).mono ?_
        rintro e w1 ⟨r, rfl, hr, hb⟩
        have hB1 := hB.trans (hb.mono hB.size)
        have HQ := Lib.hid (HL.out.trans (hidAll_step HE.out hr))
        clear hr hb hB HL
        generalize r.getD En.zero = d at HQ
        generalize r.isSome = ok at HQ
        obtain ⟨dp, dk, dt, dop⟩ := d
        simp only [En.agg, En.cells]
        dsimp only at HQ
        cases ok
        · go_wp2_with fail
          refine (refCut_any q _ (by omega)).mono ?_
          rintro e w3 ⟨rfl, hD⟩
          have hB3 := (hB1.alloc hB1.size (.cells #[.string dp, .int .i64 dk, .string dt, .bool dop] 45)).trans (hD.below (B := w.heap.size))
          clear hD
          obtain ⟨sd, hsd⟩ : ∃ sd : ByteArray, sd = ⟨(Pt.dirOf q.data.toList).toArray⟩ := ⟨_, rfl⟩
          have hsl : sd.data.toList = Pt.dirOf q.data.toList := by rw [hsd]
          have hst : Pt.str (Pt.dirOf q.data.toList) = .string sd := by rw [hsd]; rfl
          obtain ⟨sn, hsn⟩ : ∃ sn, Pt.str (Pt.nameOf q.data.toList) = .string sn := ⟨_, rfl⟩
          rw [hst, hsn]
          have hle : sd.size ≤ q.size := by have := (cut_len q).1; rw [← hsl, size_length] at this; exact this
          have hlt : sd.size < q.size := by have := Tr.dir_short HE.out; rw [← hsl, size_length, size_length] at this; exact this
          have HN : Hid (Tr.hides l p.data.toList = Tr.hidAll l sd.data.toList) := Lib.hid (by rw [HQ.out, Bool.false_and, Bool.false_or, hsl])
          clear hsd hsl hst hsn
          go_wp2_with fail
          go_roundw
          case rel => exact ⟨sd, rfl, by omega, HN, hB3⟩
          case measure => simp [strLen]; omega
        rcases tk : (dk != 2) with _ | _
        · cases dop
          · go_wp2_with fail
            refine (refCut_any q _ (by omega)).mono ?_
            rintro e w3 ⟨rfl, hD⟩
            have hB3 := (hB1.alloc hB1.size (.cells #[.string dp, .int .i64 dk, .string dt, .bool false] 45)).trans (hD.below (B := w.heap.size))
            clear hD
            obtain ⟨sd, hsd⟩ : ∃ sd : ByteArray, sd = ⟨(Pt.dirOf q.data.toList).toArray⟩ := ⟨_, rfl⟩
            have hsl : sd.data.toList = Pt.dirOf q.data.toList := by rw [hsd]
            have hst : Pt.str (Pt.dirOf q.data.toList) = .string sd := by rw [hsd]; rfl
            obtain ⟨sn, hsn⟩ : ∃ sn, Pt.str (Pt.nameOf q.data.toList) = .string sn := ⟨_, rfl⟩
            rw [hst, hsn]
            have hle : sd.size ≤ q.size := by have := (cut_len q).1; rw [← hsl, size_length] at this; exact this
            have hlt : sd.size < q.size := by have := Tr.dir_short HE.out; rw [← hsl, size_length, size_length] at this; exact this
            have HN : Hid (Tr.hides l p.data.toList = Tr.hidAll l sd.data.toList) := Lib.hid (by rw [HQ.out, tk, Bool.or_false, Bool.and_false, Bool.false_or, hsl])
            clear hsd hsl hst hsn
            go_wp2_with fail
            go_roundw
            case rel => exact ⟨sd, rfl, by omega, HN, hB3⟩
            case measure => simp [strLen]; omega
          · go_wp2_with fail
            go_ret
            exact ⟨ret_bool (by rw [HQ.out, tk, Bool.false_or, Bool.and_self, Bool.true_or]), hB1.alloc hB1.size _⟩
        · go_wp2_with fail
          go_ret
          exact ⟨ret_bool (by rw [HQ.out, tk, Bool.true_or, Bool.and_self, Bool.true_or]), hB1.alloc hB1.size _⟩
  · go_wp2_with fail
    go_ret
    exact ⟨ret_bool (by rw [HQ.out, tk, Bool.and_self, Bool.true_or]), hB1.alloc hB1.size _⟩

theorem keepR_yes {l t : List En} {k : Nat} (hk : k < t.length) (h : Tr.hides l t[k].P = false) : Tr.keepR l (t.take (k + 1)) = Tr.keepR l (t.take k) ++ [t[k]] := by
  rw [List.take_succ_eq_append_getElem hk]; unfold Tr.keepR; rw [List.filter_append]; simp [h]
theorem keepR_no {l t : List En} {k : Nat} (hk : k < t.length) (h : Tr.hides l t[k].P = true) : Tr.keepR l (t.take (k + 1)) = Tr.keepR l (t.take k) := by
  rw [List.take_succ_eq_append_getElem hk]; unfold Tr.keepR; rw [List.filter_append]; simp [h]
theorem insAll_snoc (xs a : List En) (x : En) : Tr.insAll (xs ++ [x]) a = Tr.ins x (Tr.insAll xs a) := by unfold Tr.insAll; rw [List.foldl_append]; rfl
theorem insAll_le : ∀ (xs a : List En), (Tr.insAll xs a).length ≤ a.length + xs.length
  | [], a => Nat.le_refl _
  | x :: xs, a => by
    have h1 := insAll_le xs (Tr.ins x a)
    have h2 := ins_le x a
    show (Tr.insAll xs (Tr.ins x a)).length ≤ _
    rw [List.length_cons]; omega

set_option maxHeartbeats 4000000 in
set_option maxRecDepth 100000 in
theorem refOver_any (A B : Option Addr) (c d : Nat) (l t : List En) (w : World) (hl : EnRd w w.heap.size A l) (ht : EnRd w w.heap.size B t) (hc : l.length ≤ c) (hd : t.length ≤ d) (hs : Sm l) (hst : Sm t) (hn : l.length ≤ 2305843009213693952) (hnt : t.length ≤ 2305843009213693952) :
    Calls Tryz.prog 70 #[.slice A l.length c, .slice B t.length d] w (OverRel l t w) := by
  obtain ⟨i0, hi, hz0, hz1, hz2⟩ := info_parts info_en
  have c1 := fun W h => refWrongT_any A c l true W h hc hs hn
  have c2 := fun W h => refWrongT_any B d t false W h hd hst hnt
  obtain ⟨pl, hpl⟩ : ∃ pr, pr = Tr.wrong l true := ⟨_, rfl⟩
  obtain ⟨pt, hpt⟩ : ∃ pr, pr = Tr.wrong t false := ⟨_, rfl⟩
  rw [← hpl] at c1
  rw [← hpt] at c2
  have HL := Lib.hid hpl.symm
  have HT := Lib.hid hpt.symm
  have HS := Lib.hid hs
  have HSt := Lib.hid hst
  obtain ⟨x, x'⟩ := pl
  obtain ⟨y, y'⟩ := pt
  clear hpl hpt hs hst
  dsimp only at c1 c2
  have hB := Below.refl w.heap.size w
  unfold OverRel
  go_enter Tryz.func70, Tryz.ntmps70
  go_wp2_with fail
  refine (c1 w hl).mono ?_
  rintro e w1 ⟨rfl, hb⟩
  have hB1 := hB.trans (hb.mono hB.size)
  clear hb hB c1
  have hB2 := hB1.alloc hB1.size (.cells #[.int .i64 x, .int .i64 x'] 51)
  have hq2 := Blk.new w1 51 [.int .i64 x, .int .i64 x']
  rcases tx : (x != 0) with _ | _
  rotate_left
  · have HO : Hid (Tr.over l t = ([], x)) := Lib.hid (by unfold Tr.over; rw [HL.out, if_pos (by simpa using tx)])
    go_wp2_with fail
    generalize w1.alloc (.cells #[.int .i64 x, .int .i64 x'] 51) = w2 at *
    generalize w1.heap.size = g1 at *
    obtain ⟨q0, q1, qf, qz⟩ := hq2.two
    go_quiet (fail)
    go_wp2_with fail
    go_ret2
    exact ⟨_, ret_over HO.out, by rw [HO.out]; exact EnOwn.nil _ _, below_drewN hB2 _⟩
  have HL0 : Hid ((Tr.wrong l true).1 = 0) := Lib.hid (by rw [HL.out]; simpa using tx)
  go_wp2_with fail
  generalize w1.alloc (.cells #[.int .i64 x, .int .i64 x'] 51) = w2 at *
  clear hq2 hB1
  refine (c2 w2 (((ht).below hB2).more hB2.size)).mono ?_
  rintro e w3 ⟨rfl, hb⟩
  have hB3 := hB2.trans (hb.mono hB2.size)
  clear hb hB2 c2
  have hB4 := hB3.alloc hB3.size (.cells #[.int .i64 y, .int .i64 y'] 51)
  have hq4 := Blk.new w3 51 [.int .i64 y, .int .i64 y']
  rcases ty : (y != 0) with _ | _
  rotate_left
  · have HO : Hid (Tr.over l t = ([], y)) := Lib.hid (by unfold Tr.over; rw [if_neg (by simp [HL0.out]), HT.out, if_pos (by simpa using ty)])
    go_wp2_with fail
    generalize w3.alloc (.cells #[.int .i64 y, .int .i64 y'] 51) = w4 at *
    generalize w3.heap.size = g3 at *
    obtain ⟨q0, q1, qf, qz⟩ := hq4.two
    go_quiet (fail)
    go_wp2_with fail
    go_ret2
    exact ⟨_, ret_over HO.out, by rw [HO.out]; exact EnOwn.nil _ _, below_drewN hB4 _⟩
  have HT0 : Hid ((Tr.wrong t false).1 = 0) := Lib.hid (by rw [HT.out]; simpa using ty)
  have hl80 := ((Tr.wrong_zero l true).1 HL0.out).1
  have ht80 := ((Tr.wrong_zero t false).1 HT0.out).1
  have RL := Lib.hid ((Tr.wrong_zero l true).1 HL0.out).2
  have RT := Lib.hid ((Tr.wrong_zero t false).1 HT0.out).2
  go_wp2_with fail
  generalize w3.alloc (.cells #[.int .i64 y, .int .i64 y'] 51) = w4 at *
  clear hq4 hB3
  go_loopw [8, 29] (fun v i wr => ∃ k : Nat, k ≤ t.length ∧ i = .int .i64 k ∧ EnOwn wr w.heap.size v (Tr.keepR l (t.take k)) ∧ Below w.heap.size w wr) (fun _ i _ => t.length - (intOf i).toNat)
  case atStart => exact ⟨0, Nat.zero_le _, rfl, EnOwn.nil _ _, hB4⟩
  case round =>
    obtain ⟨k, hk, rfl, hown, hB⟩ := hrel
    clear hB4
    by_cases hlt : k < t.length
    · obtain ⟨b, o, rfl, hb, h0, h1, h2, h3⟩ := (EnRd.at_ (ht.below hB) hlt)
      have KY := Lib.hid (keepR_yes (l := l) hlt)
      have KN := Lib.hid (keepR_no (l := l) hlt)
      have hle : (Tr.keepR l (t.take k)).length ≤ k := by
        have h1 := List.length_filter_le (fun e => !Tr.hides l e.P) (t.take k)
        rw [List.length_take] at h1
        exact Nat.le_trans h1 (by omega)
      have hsz := (HSt.out.at_ hlt).1
      generalize t[k] = z at h0 h1 h2 h3 KY KN hsz
      obtain ⟨yp, yk, yt, yo⟩ := z
      dsimp only at h0 h1 h2 h3 hsz
      go_wp2_with fail
      have hy5 := Blk.new wr 45 [.string yp, .int .i64 yk, .string yt, .bool yo]
      have hB5 := hB.alloc hB.size (.cells #[.string yp, .int .i64 yk, .string yt, .bool yo] 45)
      have ho5 := own_alloc hown (.cells #[.string yp, .int .i64 yk, .string yt, .bool yo] 45)
      clear h0 h1 h2 h3 hb hB hown
      generalize wr.alloc (.cells #[.string yp, .int .i64 yk, .string yt, .bool yo] 45) = w6 at *
      generalize wr.heap.size = gy at *
      refine (refHides_any A c l yp w6 (((hl).below hB5).more hB5.size) hsz hn).mono ?_
      rintro e w7 ⟨rfl, hb7⟩
      have hB7 := hB5.trans (hb7.mono hB5.size)
      have hy7 := hy5.below hb7 hy5.lt
      have ho7 := own_below ho5 hb7 (Nat.le_refl _)
      clear hb7 hB5 hy5 ho5
      obtain ⟨y0, y1, y2, y3, yfr, yz⟩ := hy7.four
      rcases th : Tr.hides l yp.data.toList with _ | _
      rotate_left
      · have HN := Lib.hid (KN.out th)
        go_wp2_with fail
        go_roundw
        case rel => exact ⟨k + 1, by omega, by go_num, by rw [HN.out]; exact ho7, hB7⟩
        case measure => simp [intOf]; omega
      have HN := Lib.hid (KY.out th)
      go_wp2_with (at_builtin; go_must (refine wpList_app1 w7 rfl _ _ _ rfl w.heap.size 45 i0 _ 4 48 Tryz.underlying30 hi hz0 hz1 hz2 rfl (by decide) u8 _ _ rfl ho7 [.string yp, .int .i64 yk, .string yt, .bool yo] rfl rfl (by simp [Value.oneCell']) (by omega) (by decide) hB7.size _ rfl ?_); intro v9 w9 own9 hg9 _)
      go_roundw
      case rel => exact ⟨k + 1, by omega, by go_num, EnOwn.snoc (y := ⟨yp, yk, yt, yo⟩) own9 HN.out, hB7.grown hg9 hB7.size (fun q e' => (World.ownsRow.lt ho7 q e').1)⟩
      case measure => simp [intOf]; omega
    · obtain rfl : k = t.length := by omega
      rw [List.take_length] at hown
      have hle0 : (Tr.keepR l t).length ≤ t.length := List.length_filter_le _ _
      go_wp2_with fail
      go_loopw [8, 45] (fun v i wr => ∃ k : Nat, k ≤ l.length ∧ i = .int .i64 k ∧ EnOwn wr w.heap.size v (Tr.insAll (Tr.shown (l.take k)) (Tr.keepR l t)) ∧ Below w.heap.size w wr) (fun _ i _ => l.length - (intOf i).toNat)
      case atStart => exact ⟨0, Nat.zero_le _, rfl, hown, hB⟩
      case round =>
        clear hown hB
        obtain ⟨k, hk, rfl, hown, hB⟩ := hrel
        by_cases hlt : k < l.length
        · obtain ⟨b, o, rfl, hb, h0, h1, h2, h3⟩ := (EnRd.at_ (hl.below hB) hlt)
          have KY := Lib.hid (shown_yes hlt)
          have KN := Lib.hid (shown_no hlt)
          have hle : (Tr.insAll (Tr.shown (l.take k)) (Tr.keepR l t)).length ≤ 200 := by
            have h1 := List.length_filter_le (fun e : En => e.k != 4) (l.take k)
            rw [List.length_take] at h1
            have h2 : (Tr.shown (l.take k)).length ≤ k := by unfold Tr.shown; rw [List.length_map]; exact Nat.le_trans h1 (by omega)
            have h3 := insAll_le (Tr.shown (l.take k)) (Tr.keepR l t)
            omega
          have hszl := HS.out.at_ hlt
          obtain ⟨acc, hacc⟩ : ∃ acc, acc = Tr.insAll (Tr.shown (l.take k)) (Tr.keepR l t) := ⟨_, rfl⟩
          have HASrt : Hid (Tr.Srt acc) := Lib.hid (by rw [hacc]; exact Tr.srt_insAll (Tr.srt_filter RT.out.2.1 _))
          have HASm : Hid (Sm acc) := Lib.hid (by
            intro e he
            rw [hacc, Tr.mem_insAll (Tr.srt_shown (RL.out.2.1.sublist (List.take_sublist _ _))) (show Tr.Srt (Tr.keepR l t) from Tr.srt_filter RT.out.2.1 _)] at he
            rcases he with h | ⟨h, _⟩
            · obtain ⟨x, hx, _, rfl⟩ := Tr.mem_shown.1 h
              exact HS.out x (List.mem_of_mem_take hx)
            · exact HSt.out e (List.mem_filter.1 h).1)
          rw [← hacc] at hown hle
          have HACC := Lib.hid hacc
          clear hacc
          generalize l[k] = z at h0 h1 h2 h3 KY KN hszl
          obtain ⟨yp, yk, yt, yo⟩ := z
          dsimp only at h0 h1 h2 h3 KY KN hszl
          have hB5 := hB.alloc hB.size (.cells #[.string yp, .int .i64 yk, .string yt, .bool yo] 45)
          have hB5' := hB.alloc hB.size (.cells #[.string yp, .int .i64 yk, .string yt, .bool false] 45)
          have ho5 := own_alloc hown (.cells #[.string yp, .int .i64 yk, .string yt, .bool yo] 45)
          have ho5' := own_alloc hown (.cells #[.string yp, .int .i64 yk, .string yt, .bool false] 45)
          rcases tk : (yk != 4) with _ | _
          · have HN := Lib.hid (KN.out tk)
            go_wp2_with fail
            go_roundw
            case rel => exact ⟨k + 1, by omega, by go_num, by rw [HN.out, ← HACC.out]; exact ho5, hB5⟩
            case measure => simp [intOf]; omega
          · have HN := Lib.hid (KY.out tk)
            obtain ⟨Aa, ca, hua, hca, rda⟩ := EnOwn.rd ho5'
            subst hua
            have hsz5 : w.heap.size ≤ (wr.alloc (.cells #[.string yp, .int .i64 yk, .string yt, .bool false] 45)).heap.size := hB5'.size
            have cW := with_any Aa ca acc ⟨yp, yk, yt, false⟩ (wr.alloc (.cells #[.string yp, .int .i64 yk, .string yt, .bool false] 45)) rda HASm.out HASrt.out hszl.1 (by omega)
            go_wp2_with fail
            refine cW.mono ?_
            rintro e w9 ⟨v9, rfl, own9, hb9⟩
            have hB9 := hB5'.trans (hb9.mono hsz5)
            go_wp2_with fail
            go_roundw
            case rel => exact ⟨k + 1, by omega, by go_num, by rw [HN.out, insAll_snoc, ← HACC.out]; exact own_base own9 hsz5, hB9⟩
            case measure => simp [intOf]; omega
        · obtain rfl : k = l.length := by omega
          rw [List.take_length] at hown
          have HO : Hid (Tr.over l t = if 80 < (Tr.overL l t).length then ([], 5) else (Tr.overL l t, 0)) := Lib.hid (by unfold Tr.over; rw [if_neg (by simp [HL0.out]), if_neg (by simp [HT0.out])])
          have hown : EnOwn wr w.heap.size u8 (Tr.overL l t) := hown
          generalize Tr.overL l t = res at HO hown
          obtain ⟨Aa, ca, rfl, hca, rda⟩ := EnOwn.rd hown
          by_cases h80 : 80 < res.length
          · have HO2 := Lib.hid (HO.out.trans (if_pos h80))
            go_wp2_with fail
            go_ret2
            exact ⟨_, ret_over HO2.out, by rw [HO2.out]; exact EnOwn.nil _ _, hB⟩
          · have HO2 := Lib.hid (HO.out.trans (if_neg h80))
            go_wp2_with fail
            go_ret2
            exact ⟨_, ret_over HO2.out, by rw [HO2.out]; exact hown, hB⟩

set_option maxHeartbeats 2000000 in
theorem refMerge_any (A : Option Addr) (c : Nat) (ls : List (List En)) (w : World) (hl : TsRd w w.heap.size A ls) (hs : Sms ls) :
    Calls Tryz.prog 35 #[.slice A ls.length c] w (MergeRel ls w) := by
  have HS := Lib.hid hs
  clear hs
  unfold MergeRel
  by_cases h5 : 5 < ls.length
  · have HM : Hid (Tr.merge ls = ([], 5)) := Lib.hid (by unfold Tr.merge; rw [if_pos h5])
    go_enter Tryz.func35, Tryz.ntmps35
    go_wp2_with fail
    go_ret2
    exact ⟨_, ret_merge HM.out, by rw [HM.out]; exact EnOwn.nil _ _, Below.refl _ _⟩
  have HM : Hid (Tr.merge ls = Tr.mergeL ls) := Lib.hid (by unfold Tr.merge; rw [if_neg h5])
  go_enter Tryz.func35, Tryz.ntmps35
  go_wp2_with fail
  go_loopw [4, 13] (fun v i wr => ∃ k : Nat, k ≤ ls.length ∧ i = .int .i64 ((ls.length - k : Nat) : Int) ∧ Hid ((Tr.mergeL (ls.drop k)).2 = 0) ∧ EnOwn wr w.heap.size v (Tr.mergeL (ls.drop k)).1 ∧ Below w.heap.size w wr) (fun _ i _ => ls.length - (intOf i).toNat)
  case atStart => exact ⟨ls.length, Nat.le_refl _, by rw [Nat.sub_self]; rfl, Lib.hid (by rw [List.drop_length]; rfl), by rw [List.drop_length]; exact EnOwn.nil _ _, Below.refl _ _⟩
  case round =>
    obtain ⟨k, hk, rfl, H0, hown, hB⟩ := hrel
    cases k with
    | zero =>
      have HZ : Hid (Tr.merge ls = ((Tr.mergeL ls).1, 0)) := Lib.hid (by rw [HM.out]; have := H0.out; rw [List.drop_zero] at this; rw [← this])
      rw [List.drop_zero] at hown
      rw [Nat.sub_zero]
      go_wp2_with fail
      go_ret2
      exact ⟨_, ret_merge HZ.out, by rw [HZ.out]; exact hown, hB⟩
    | succ m =>
      have hml : m < ls.length := by omega
      obtain ⟨j, hj⟩ : ∃ j, j = ls.length - (m + 1) := ⟨_, rfl⟩
      rw [← hj]
      have HJ : Hid (m + 1 + j = ls.length) := Lib.hid (by omega)
      have hjl : j < ls.length := by omega
      have hidx : IntKind.i64.wrap ((ls.length : Int) - 1) = (ls.length : Int) - 1 := IntWalk.i64_in _ (by omega)
      have hidx2 : IntKind.i64.wrap ((ls.length : Int) - 1 - (j : Int)) = (m : Int) := by rw [IntWalk.i64_in _ (by omega)]; omega
      clear hj
      obtain ⟨b, o, Am, cm, rfl, hb, hc1, hcl, hrd⟩ := (hl.below hB).at_ hml
      have HSt := Lib.hid (merge_step hml H0.out)
      have HR := Lib.hid (Tr.mergeL_right H0.out)
      have hsm := Lib.hid (HS.out _ (List.getElem_mem hml))
      have HE := Lib.hid (fun e => merge_err (ls := ls) (m := m) (e := e))
      have HG : Hid ((Tr.over ls[m] (Tr.mergeL (ls.drop (m + 1))).1).2 = 0 → (Tr.mergeL (ls.drop m)).2 = 0) := Lib.hid (fun h => by rw [HSt.out]; exact h)
      generalize ls[m] = x at hc1 hcl hrd HSt hsm HG
      obtain ⟨out, hout⟩ : ∃ out, out = (Tr.mergeL (ls.drop (m + 1))).1 := ⟨_, rfl⟩
      rw [← hout] at hown HSt HR HG
      clear hout
      obtain ⟨A2, c2, rfl, hc2, rd2⟩ := EnOwn.rd hown
      have cO := refOver_any Am A2 cm c2 x out wr (Rd.more hrd hB.size) rd2 hcl hc2 hsm.out.1 (Tr.right_sm HR.out.2) hsm.out.2 (by have := HR.out.1; omega)
      unfold OverRel at cO
      have HT : Hid (Tr.mergeL (ls.drop m) = Tr.over x out) := HSt
      clear HSt
      generalize hov : Tr.over x out = ov at cO HT HG
      have HOV := Lib.hid hov
      clear hov
      obtain ⟨res, err⟩ := ov
      dsimp only at cO HG
      go_wp2_with fail
      refine cO.mono ?_
      rintro e w1 ⟨v1, rfl, ho1, hb1⟩
      have hB1 := hB.trans (hb1.mono hB.size)
      have ho1' := own_base ho1 hB.size
      clear hb1 cO
      rcases te : (err != 0) with _ | _
      · have he0 : Hid (err = 0) := Lib.hid (by simpa using te)
        clear hidx hidx2
        go_wp2_with fail
        go_roundw
        case rel => exact ⟨m, by omega, by have := HJ.out; rw [show ls.length - m = j + 1 by omega]; go_num, Lib.hid (HG.out he0.out), by rw [HT.out]; exact ho1', hB1⟩
        case measure => simp [intOf]; omega
      · have HZ : Hid (Tr.merge ls = ([], err)) := Lib.hid (by rw [HM.out]; exact HE.out err (by rw [HT.out]) (by simpa using te))
        go_wp2_with fail
        go_ret2
        exact ⟨_, ret_merge HZ.out, by rw [HZ.out]; exact EnOwn.nil _ _, hB1⟩
end Go.Proofs.YtjppfhgkanbemabGreatDoor
