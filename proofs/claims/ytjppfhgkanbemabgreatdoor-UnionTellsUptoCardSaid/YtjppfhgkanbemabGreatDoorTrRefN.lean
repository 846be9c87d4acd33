/-
  The document's Names, List, SameTexts, Without.
-/
import Derived.Test.YtjppfhgkanbemabGreatDoorMH
import Derived.Test.YtjppfhgkanbemabGreatDoorMG
import Derived.Test.YtjppfhgkanbemabGreatDoorTrRefE
namespace Go.Proofs.YtjppfhgkanbemabGreatDoor
open Go.RowKit Go.Shelf Go.Sort

set_option maxHeartbeats 4000000 in
theorem refNames_any (A : Option Addr) (c : Nat) (l : List En) (p : ByteArray) (w : World) (hl : EnRd w w.heap.size A l) (hs : Sm l) (hn : l.length ≤ 4000000) :
    Calls Tryz.prog 91 #[.slice A l.length c, .string p] w fun e w' => ∃ v, e = .returned v ∧ StrOwn w' w.heap.size v (Tr.names l p.data.toList) ∧ Below w.heap.size w w' := by
  obtain ⟨i0, hi, hz0, hz1, hz2⟩ := info_parts info_str
  have HS := Lib.hid hs
  clear hs
  have hB0 := Below.refl w.heap.size w
  go_enter Tryz.func91, Tryz.ntmps91
  go_wp2_with fail
  go_loopw [5, 12] (fun v i wr => ∃ k : Nat, k ≤ l.length ∧ i = .int .i64 k ∧ StrOwn wr w.heap.size v (Tr.names (l.take k) p.data.toList) ∧ Below w.heap.size w wr) (fun _ i _ => l.length - (intOf i).toNat)
  case atStart => exact ⟨0, Nat.zero_le _, rfl, StrOwn.nil _ _, hB0⟩
  case round =>
    obtain ⟨k, hk, rfl, hown, hB⟩ := hrel
    clear hB0
    by_cases hlt : k < l.length
    · obtain ⟨b, o, rfl, hb, h0, h1, h2, h3⟩ := (EnRd.at_ (hl.below hB) hlt)
      have KY := Lib.hid (names_yes (p := p.data.toList) hlt)
      have KN := Lib.hid (names_no (p := p.data.toList) hlt)
      have hle : (Tr.names (l.take k) p.data.toList).length ≤ k := Nat.le_trans (names_le _ _) (by rw [List.length_take]; omega)
      have hsz := (HS.out.at_ hlt).1
      unfold En.P at KY KN
      generalize l[k] = z at h0 h1 h2 h3 KY KN hsz
      obtain ⟨yp, yk, yt, yo⟩ := z
      dsimp only at h0 h1 h2 h3 KY KN hsz
      go_wp2_with fail
      refine (refCut_any yp _ (by omega)).mono ?_
      rintro e w8 ⟨rfl, hD⟩
      have hB8 := (hB.alloc hB.size (.cells #[.string yp, .int .i64 yk, .string yt, .bool yo] 45)).trans (hD.below (B := w.heap.size))
      have ho8 : StrOwn w8 w.heap.size u5 _ := own_below (own_alloc hown (.cells #[.string yp, .int .i64 yk, .string yt, .bool yo] 45)) (hD.below (B := (wr.alloc (.cells #[.string yp, .int .i64 yk, .string yt, .bool yo] 45)).heap.size)) (Nat.le_refl _)
      clear hD h0 h1 h2 h3 hb hB hown
      obtain ⟨sd, hsd⟩ : ∃ sd : ByteArray, sd = ⟨(Pt.dirOf yp.data.toList).toArray⟩ := ⟨_, rfl⟩
      have hsl : sd.data.toList = Pt.dirOf yp.data.toList := by rw [hsd]
      have hst : Pt.str (Pt.dirOf yp.data.toList) = .string sd := by rw [hsd]; rfl
      obtain ⟨sn, hsn⟩ : ∃ sn, sn = (⟨(Pt.nameOf yp.data.toList).toArray⟩ : ByteArray) := ⟨_, rfl⟩
      have hsn2 : Pt.str (Pt.nameOf yp.data.toList) = .string sn := by rw [hsn]; rfl
      rw [← hsl] at KY KN
      have HSN := Lib.hid hsn2.symm
      rw [hst, hsn2]
      clear hsd hst hsn hsl hsn2
      rcases tq : (sd.toList == p.toList) with _ | _
      · have HN := Lib.hid (KN.out (by rw [toList_beq] at tq; simpa using tq))
        clear KY KN
        go_wp2_with fail
        go_roundw
        case rel => exact ⟨k + 1, by omega, by go_num, by rw [HN.out]; exact ho8, hB8⟩
        case measure => simp [intOf]; omega
      · have HN := Lib.hid (KY.out (by rw [toList_beq] at tq; simpa using tq))
        clear KY KN
        go_wp2_with (at_builtin; go_must (refine wpList_app1 w8 rfl _ _ _ rfl w.heap.size 9 i0 _ 1 16 Tryz.underlying41 hi hz0 hz1 hz2 rfl (by decide) u5 _ _ rfl ho8 [.string sn] rfl rfl (by simp [Value.oneCell']) (by omega) (by decide) hB8.size _ rfl ?_); intro v9 w9 own9 hg9 _)
        go_roundw
        case rel => exact ⟨k + 1, by omega, by go_num, StrOwn.snoc own9 HN.out HSN.out, hB8.grown hg9 hB8.size (fun q e' => (World.ownsRow.lt ho8 q e').1)⟩
        case measure => simp [intOf]; omega
    · obtain rfl : k = l.length := by omega
      rw [List.take_length] at hown
      go_wp2_with fail
      go_ret
      exact ⟨_, rfl, hown, hB⟩

theorem StrOwn.form {w : World} {b : Nat} {v : Value} {l : List Pt.Bs} (h : StrOwn w b v l) : ∃ A c, v = .slice A l.length c ∧ StrRd w w.heap.size A l := by
  rcases own_shape h with ⟨hv, h0⟩ | ⟨g, c, hv, _⟩
  · subst hv
    have : l = [] := List.length_eq_zero_iff.1 h0
    subst this
    exact ⟨_, _, rfl, Rd.nil⟩
  · subst hv
    exact ⟨_, _, rfl, Rd.of_own h⟩

set_option maxHeartbeats 4000000 in
theorem refList_any (A : Option Addr) (c : Nat) (l : List En) (p : ByteArray) (w : World) (hl : EnRd w w.heap.size A l) (hs : Sm l) (hn : l.length ≤ 4000000) :
    Calls Tryz.prog 103 #[.slice A l.length c, .string p] w (ListRel l p.data.toList w) := by
  have HS := Lib.hid hs
  clear hs
  have hB0 := Below.refl w.heap.size w
  unfold ListRel
  go_enter Tryz.func103, Tryz.ntmps103
  go_wp2_with fail
  refine (refGet_any A c l p w hl (by omega)).mono ?_
  rintro e w5 ⟨r, rfl, hr, hb⟩
  have hB5 := hB0.trans (hb.mono hB0.size)
  have HR := Lib.hid hr
  clear hr hb hB0
  have HN := Lib.hid (show r.isSome = false → Tr.list l p.data.toList = ([], 6) from fun h => list_bad (dirErr_none (by rw [← HR.out]; exact h)) (by decide))
  have HK := Lib.hid (show r.isSome = true → ((r.getD En.zero).k != 2) = true → Tr.list l p.data.toList = ([], 10) from fun h h2 => list_bad (dirErr_kind HR.out h h2) (by decide))
  have HG := Lib.hid (show r.isSome = true → ((r.getD En.zero).k != 2) = false → Tr.list l p.data.toList = (Tr.names l p.data.toList, 0) from fun h h2 => list_good (dirErr_ok HR.out h h2))
  clear HR
  generalize r.getD En.zero = d at HN HK HG
  generalize r.isSome = ok at HN HK HG
  obtain ⟨dp, dk, dt, dop⟩ := d
  simp only [En.agg, En.cells]
  dsimp only at HN HK HG
  have hB6 := hB5.alloc hB5.size (.cells #[.string dp, .int .i64 dk, .string dt, .bool dop] 45)
  clear hB5
  cases ok
  · have HO := Lib.hid (HN.out rfl)
    go_wp2_with fail
    go_ret2
    exact ⟨_, ret_list HO.out, by rw [HO.out]; exact StrOwn.nil _ _, hB6⟩
  rcases tk : (dk != 2) with _ | _
  rotate_left
  · have HO := Lib.hid (HK.out rfl tk)
    go_wp2_with fail
    go_ret2
    exact ⟨_, ret_list HO.out, by rw [HO.out]; exact StrOwn.nil _ _, hB6⟩
  have HO := Lib.hid (HG.out rfl tk)
  clear HN HK HG
  go_wp2_with fail
  generalize w5.alloc (.cells #[.string dp, .int .i64 dk, .string dt, .bool dop] 45) = w6 at *
  refine (refNames_any A c l p w6 ((hl.below hB6).more hB6.size) HS.out hn).mono ?_
  rintro e w7 ⟨v, rfl, ho, hb⟩
  have hB7 := hB6.trans (hb.mono hB6.size)
  have ho : StrOwn w7 w.heap.size v _ := own_base ho hB6.size
  clear hb
  go_wp2_with fail
  go_ret2
  exact ⟨_, ret_list HO.out, by rw [HO.out]; exact ho, hB7⟩

set_option maxHeartbeats 1600000 in
theorem sameTexts_any (A B : Option Addr) (c d : Nat) (l m : List Pt.Bs) (w : World) (hl : StrRd w w.heap.size A l) (hm : StrRd w w.heap.size B m) (hbl : l.length ≤ 9223372036854775807) (he : l = m) :
    Calls Tryz.prog 62 #[.slice A l.length c, .slice B m.length d] w fun e w' => e = .returned (.bool true) ∧ Below w.heap.size w w' := by
  subst he
  go_enter Tryz.func62, Tryz.ntmps62
  go_wp2_with fail
  go_loopw [13] (fun i wr => ∃ k : Nat, k ≤ l.length ∧ i = .int .i64 k ∧ Below w.heap.size w wr) (fun i _ => l.length - (intOf i).toNat)
  case atStart => exact ⟨0, Nat.zero_le _, rfl, Below.refl _ _⟩
  case round =>
    obtain ⟨k, hk, rfl, hB0⟩ := hrel
    by_cases hlt : k < l.length
    · obtain ⟨bl, ol, rfl, hbl, h0⟩ := StrRd.at_ (Rd.below hl hB0) hlt
      obtain ⟨bm, om, rfl, hbm, g0⟩ := StrRd.at_ (Rd.below hm hB0) hlt
      obtain ⟨sy, hsy⟩ : ∃ sy, Pt.str l[k] = .string sy := ⟨_, rfl⟩
      rw [hsy] at h0 g0
      clear hsy
      go_wp2_with fail
      refine wp_region_quiet_lit (by kernel_rfl) (by kernel_rfl) ?_
      repeat (first | go_big_quiet_step (fail) | quiet_step (fail))
      refine wpQuiet_nil ?_
      intro w2 hw'
      obtain ⟨nq, hw''⟩ := hw'
      subst hw''
      have hB2 := below_drewN hB0 nq
      go_wp2_with fail
      go_roundw
      case rel => exact ⟨k + 1, hlt, by go_num, hB2⟩
      case measure => simp [intOf]; omega
    · go_wp2_with fail
      go_ret
      exact ⟨rfl, hB0⟩
end Go.Proofs.YtjppfhgkanbemabGreatDoor
