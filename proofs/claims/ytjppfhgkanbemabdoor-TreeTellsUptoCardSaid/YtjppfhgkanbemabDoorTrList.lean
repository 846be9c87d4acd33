/-
  tree.List.
-/
import Derived.Test.YtjppfhgkanbemabDoorTrRem
import Derived.Test.YtjppfhgkanbemabDoorPtSplit
namespace Go.Proofs.YtjppfhgkanbemabDoor
open Go.RowKit Go.Shelf Go.Sort

theorem names_yes {l : List En} {p : Pt.Bs} {k : Nat} (hk : k < l.length) (h : Pt.dirOf l[k].P = p) : Tr.names (l.take (k + 1)) p = Tr.names (l.take k) p ++ [Pt.nameOf l[k].P] := by
  unfold Tr.names
  rw [List.take_succ_eq_append_getElem hk]
  rw [List.filter_append, List.map_append, List.filter_cons_of_pos (by simpa using h)]; rfl
theorem names_no {l : List En} {p : Pt.Bs} {k : Nat} (hk : k < l.length) (h : Pt.dirOf l[k].P ≠ p) : Tr.names (l.take (k + 1)) p = Tr.names (l.take k) p := by
  unfold Tr.names
  rw [List.take_succ_eq_append_getElem hk]
  rw [List.filter_append, List.map_append, List.filter_cons_of_neg (by simpa using h)]; simp
theorem names_le (l : List En) (p : Pt.Bs) : (Tr.names l p).length ≤ l.length := by
  unfold Tr.names; rw [List.length_map]; exact List.length_filter_le _ _
theorem list_bad {l : List En} {p : Pt.Bs} {e : Int} (h : Tr.dirErr l p = e) (he : e ≠ 0) : Tr.list l p = ([], e) := by unfold Tr.list; rw [h, if_pos he]
theorem list_good {l : List En} {p : Pt.Bs} (h : Tr.dirErr l p = 0) : Tr.list l p = (Tr.names l p, 0) := by unfold Tr.list; rw [h, if_neg (by simp)]
theorem ret_list {l : List En} {m : List Pt.Bs} {p : Pt.Bs} {e : Int} {v : Value} (h : Tr.list l p = (m, e)) : Ending.returned (.tuple #[v, .int .i64 e]) = .returned (.tuple #[v, .int .i64 (Tr.list l p).2]) := by rw [h]
theorem StrOwn.nil (w : World) (base : Nat) : StrOwn w base (.slice none 0 0) [] := World.ownsRow_nil _ _ _ _

/-- What List answers. -/
def ListRel (l : List En) (p : Pt.Bs) (w : World) (e : Ending) (w' : World) : Prop :=
  ∃ v, e = .returned (.tuple #[v, .int .i64 (Tr.list l p).2]) ∧ StrOwn w' w.heap.size v (Tr.list l p).1 ∧ Below w.heap.size w w'

set_option maxHeartbeats 4000000 in
theorem list_any (A : Option Addr) (c : Nat) (l : List En) (p : ByteArray) (w : World) (hl : EnRd w w.heap.size A l) (hs : Sm l) (hsrt : Tr.Srt l) (hp : p.size < 4294967281) (hn : l.length ≤ 4000000) :
    Calls Tryd.prog 19 #[.slice A l.length c, .string p] w (ListRel l p.data.toList w) := by
  obtain ⟨i0, hi, hz0, hz1, hz2⟩ := info_parts info_str
  have HS := Lib.hid hs
  clear hs
  have hB0 := Below.refl w.heap.size w
  unfold ListRel
  go_enter Tryd.func19, Tryd.ntmps19
  go_wp2_with fail
  refine (get_any A c l p w hl HS.out hp (by omega)).mono ?_
  rintro e w5 ⟨r, rfl, hr, hb⟩
  have hB5 := hB0.trans (hb.mono hB0.size)
  have HR := Lib.hid (hr.2 (.inl hsrt))
  clear hr hb hB0
  have HN := Lib.hid (show r.isSome = false → Tr.list l p.data.toList = ([], 6) from fun h => list_bad (dirErr_none (by rw [← HR.out]; exact h)) (by decide))
  have HK := Lib.hid (show r.isSome = true → ((r.getD En.zero).k != 2) = true → Tr.list l p.data.toList = ([], 10) from fun h h2 => list_bad (dirErr_kind HR.out h h2) (by decide))
  have HG := Lib.hid (show r.isSome = true → ((r.getD En.zero).k != 2) = false → Tr.list l p.data.toList = (Tr.names l p.data.toList, 0) from fun h h2 => list_good (dirErr_ok HR.out h h2))
  clear HR
  generalize r.getD En.zero = d at HN HK HG
  generalize r.isSome = ok at HN HK HG
  obtain ⟨dp, dk, dt, dop⟩ := d
  simp only [En.agg, En.cells]
  dsimp only at HN HK HG
  have hB6 := hB5.alloc hB5.size (.cells #[.string dp, .int .i64 dk, .string dt, .bool dop] 32)
  clear hB5
  cases ok
  · have HO := Lib.hid (HN.out rfl)
    go_wp2_with fail
    go_ret2
    exact ⟨_, ret_list HO.out, by rw [HO.out]; exact StrOwn.nil _ _, hB6⟩
  rcases tk : (dk != 2) with _ | _
  rotate_left
  · have HO := Lib.hid (HK.out rfl tk)
    go_wp2_with fail
    go_ret2
    exact ⟨_, ret_list HO.out, by rw [HO.out]; exact StrOwn.nil _ _, hB6⟩
  have HO := Lib.hid (HG.out rfl tk)
  clear HN HK HG
  go_wp2_with fail
  generalize w5.alloc (.cells #[.string dp, .int .i64 dk, .string dt, .bool dop] 32) = w6 at *
  go_loopw [8, 28] (fun v i wr => ∃ k : Nat, k ≤ l.length ∧ i = .int .i64 k ∧ StrOwn wr w.heap.size v (Tr.names (l.take k) p.data.toList) ∧ Below w.heap.size w wr) (fun _ i _ => l.length - (intOf i).toNat)
  case atStart => exact ⟨0, Nat.zero_le _, rfl, StrOwn.nil _ _, hB6⟩
  case round =>
    obtain ⟨k, hk, rfl, hown, hB⟩ := hrel
    clear hB6
    by_cases hlt : k < l.length
    · obtain ⟨b, o, rfl, hb, h0, h1, h2, h3⟩ := (EnRd.at_ (hl.below hB) hlt)
      have KY := Lib.hid (names_yes (p := p.data.toList) hlt)
      have KN := Lib.hid (names_no (p := p.data.toList) hlt)
      have hle : (Tr.names (l.take k) p.data.toList).length ≤ k := Nat.le_trans (names_le _ _) (by rw [List.length_take]; omega)
      have hsz := (HS.out.at_ hlt).1
      unfold En.P at KY KN
      generalize l[k] = z at h0 h1 h2 h3 KY KN hsz
      obtain ⟨yp, yk, yt, yo⟩ := z
      dsimp only at h0 h1 h2 h3 KY KN hsz
      go_wp2_with fail
      refine (cut_any yp _ (by omega)).mono ?_
      rintro e w8 ⟨rfl, hD⟩
      have hB8 := (hB.alloc hB.size (.cells #[.string yp, .int .i64 yk, .string yt, .bool yo] 32)).trans (hD.below (B := w.heap.size))
      have ho8 : StrOwn w8 w.heap.size u8 _ := own_below (own_alloc hown (.cells #[.string yp, .int .i64 yk, .string yt, .bool yo] 32)) (hD.below (B := (wr.alloc (.cells #[.string yp, .int .i64 yk, .string yt, .bool yo] 32)).heap.size)) (Nat.le_refl _)
      clear hD h0 h1 h2 h3 hb hB hown
      obtain ⟨sd, hsd⟩ : ∃ sd : ByteArray, sd = ⟨(Pt.dirOf yp.data.toList).toArray⟩ := ⟨_, rfl⟩
      have hsl : sd.data.toList = Pt.dirOf yp.data.toList := by rw [hsd]
      have hst : Pt.str (Pt.dirOf yp.data.toList) = .string sd := by rw [hsd]; rfl
      obtain ⟨sn, hsn⟩ : ∃ sn, sn = (⟨(Pt.nameOf yp.data.toList).toArray⟩ : ByteArray) := ⟨_, rfl⟩
      have hsn2 : Pt.str (Pt.nameOf yp.data.toList) = .string sn := by rw [hsn]; rfl
      rw [← hsl] at KY KN
      have HSN := Lib.hid hsn2.symm
      rw [hst, hsn2]
      clear hsd hst hsn hsl hsn2
      rcases tq : (sd.toList == p.toList) with _ | _
      · have HN := Lib.hid (KN.out (by rw [toList_beq] at tq; simpa using tq))
        clear KY KN
        go_wp2_with fail
        go_roundw
        case rel => exact ⟨k + 1, by omega, by go_num, by rw [HN.out]; exact ho8, hB8⟩
        case measure => simp [intOf]; omega
      · have HN := Lib.hid (KY.out (by rw [toList_beq] at tq; simpa using tq))
        clear KY KN
        go_wp2_with (at_builtin; go_must (refine wpList_app1 w8 rfl _ _ _ rfl w.heap.size 9 i0 _ 1 16 Tryd.underlying39 hi hz0 hz1 hz2 rfl (by decide) u8 _ _ rfl ho8 [.string sn] rfl rfl (by simp [Value.oneCell']) (by omega) (by decide) hB8.size _ rfl ?_); intro v9 w9 own9 hg9 _)
        go_roundw
        case rel => exact ⟨k + 1, by omega, by go_num, StrOwn.snoc own9 HN.out HSN.out, hB8.grown hg9 hB8.size (fun q e' => (World.ownsRow.lt ho8 q e').1)⟩
        case measure => simp [intOf]; omega
    · obtain rfl : k = l.length := by omega
      rw [List.take_length] at hown
      go_wp2_with fail
      go_ret2
      exact ⟨_, ret_list HO.out, by rw [HO.out]; exact hown, hB⟩
end Go.Proofs.YtjppfhgkanbemabDoor
