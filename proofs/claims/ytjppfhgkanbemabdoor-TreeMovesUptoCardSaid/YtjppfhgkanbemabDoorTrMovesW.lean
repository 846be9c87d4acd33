/-
  The walk of TreeMoves: it returns true. (Printed by wip/gentmoves.py.)
-/
import Derived.Test.YtjppfhgkanbemabDoorTrRight
import Derived.Test.YtjppfhgkanbemabDoorTrMvLaw
namespace Go.Proofs.YtjppfhgkanbemabDoor
open Go.RowKit Go.Shelf Go.Sort

theorem moves_mv {l : List En} {s d q : ByteArray} (h : Tr.moveErr l s.data.toList d.data.toList = 0) (hq : ¬ (q.data.toList = d.data.toList ∧ s.data.toList ≠ d.data.toList)) (hm : Tr.mv s.data.toList q.data.toList) {r : Option En} (hr : r = Tr.get l q.data.toList) (hok : r.isSome = true) :
    Tr.get (Tr.sortL (Tr.movedL l s.data.toList d.data.toList)) (d ++ q.extract s.size q.size).data.toList = some ⟨d ++ q.extract s.size q.size, (r.getD En.zero).k, (r.getD En.zero).t, (r.getD En.zero).o⟩ := by
  cases r with
  | none => cases hok
  | some e =>
    have h2 := Tr.move_get h hq hr.symm
    rw [if_pos hm, Tr.ren_mv hm] at h2
    have h3 := ren_bytes (s := s) (d := d) (y := q)
    rw [h3] at h2
    have h4 : (d ++ q.extract s.size q.size).data.toList = d.data.toList ++ q.data.toList.drop s.data.toList.length := by rw [← h3]
    rw [h4]
    exact h2
theorem moves_not {l : List En} {s d q : ByteArray} (h : Tr.moveErr l s.data.toList d.data.toList = 0) (hq : ¬ (q.data.toList = d.data.toList ∧ s.data.toList ≠ d.data.toList)) (hm : ¬ Tr.mv s.data.toList q.data.toList) {r : Option En} (hr : r = Tr.get l q.data.toList) (hok : r.isSome = true) :
    Tr.get (Tr.sortL (Tr.movedL l s.data.toList d.data.toList)) q.data.toList = some (r.getD En.zero) := by
  cases r with
  | none => cases hok
  | some e =>
    have h2 := Tr.move_get h hq hr.symm
    rw [if_neg hm, Tr.ren_not hm] at h2
    exact h2

set_option maxHeartbeats 8000000 in
set_option maxRecDepth 100000 in
theorem treeMoves_any (A : Option Addr) (c : Nat) (l : List En) (s d q : ByteArray) (w : World) (hl : EnRd w w.heap.size A l) (hc : l.length ≤ c) (hs : Sm l) (hsz : s.size ≤ 1048576) (hdz : d.size ≤ 1048576) (hqz : q.size ≤ 1048576) (hn : l.length ≤ 1048576) :
    Calls Tryd.prog 3 #[.slice A l.length c, .string s, .string d, .string q] w fun e w' => e = .returned (.bool true) ∧ Below w.heap.size w w' := by
  have hfd := field_faultC
  have HS := Lib.hid hs
  have hs' : s.size < 4294967281 := by omega
  have hd : d.size < 4294967281 := by omega
  clear hs
  go_enter Tryd.func3, Tryd.ntmps3
  go_wp2_with fail
  refine (trAlive_any w).mono ?_
  rintro e w1 ⟨rfl, hB1⟩
  go_wp2_with fail
  have cM := move_any A c l s d w1 ((hl.below hB1).more hB1.size) hc HS.out hs' hd (by omega)
  unfold MoveRel at cM
  obtain ⟨ov, hov⟩ : ∃ ov, ov = Tr.move l s.data.toList d.data.toList := ⟨_, rfl⟩
  rw [← hov] at cM
  have HO := Lib.hid hov.symm
  clear hov
  obtain ⟨m, err⟩ := ov
  dsimp only at cM
  refine cM.mono ?_
  rintro e w2 ⟨v, rfl, ho, hb⟩
  have hB2 := hB1.trans (hb.mono hB1.size)
  obtain ⟨A2, c2, rfl, hc2, rd2⟩ := EnOwn.rd ho
  clear ho hb hB1 cM
  rcases te : (err != 0) with _ | _
  rotate_left
  · have hm : m = [] := by
      have h := Tr.move_none (t := l) (s := s.data.toList) (d := d.data.toList) (by rw [HO.out]; simpa using te)
      rw [HO.out] at h; exact h
    subst hm
    rw [show ([] : List En).length = 0 from rfl]
    go_wp2_with fail
    go_ret
    exact ⟨rfl, hB2⟩
  have hme : Tr.moveErr l s.data.toList d.data.toList = 0 := by
    have h := HO.out
    unfold Tr.move at h
    by_cases h0 : Tr.moveErr l s.data.toList d.data.toList = 0
    · exact h0
    · rw [if_pos h0] at h
      injection h with _ h
      rw [h] at h0
      exact absurd (by simpa using te) h0
  have hmm : m = Tr.sortL (Tr.movedL l s.data.toList d.data.toList) := by
    have h := HO.out
    rw [(Tr.move_ok hme).2.2.2.2] at h
    injection h with h _
    exact h.symm
  have RT := Lib.hid (Tr.move_ok hme).2.1
  have RM := Lib.hid (show m.length ≤ 80 ∧ Tr.Right false m from by rw [hmm]; exact ⟨Nat.le_trans (Tr.move_len _ _ _) (Tr.move_ok hme).1, Tr.move_right hme⟩)
  have HBACK := Lib.hid (show Tr.get l d.data.toList = none → Tr.move m d.data.toList s.data.toList = (l, 0) from fun h => by rw [hmm]; exact Tr.move_back hme h)
  have HMM := Lib.hid hmm
  have HS0 := Lib.hid (show s.data.toList ≠ [] from by obtain ⟨_, _, h, _⟩ := Tr.moves_ok (Tr.move_ok hme).2.2.1; exact h)
  have HUD := Lib.hid (show (s.data.toList == d.data.toList) = false → Pt.under d.data.toList s.data.toList = false from fun h0 => by
    obtain ⟨_, _, _, _, h⟩ := Tr.moves_ok (Tr.move_ok hme).2.2.1
    rcases h with h | h
    · rw [h] at h0; simp at h0
    · exact h.1)
  have HME := Lib.hid hme
  have hwm : Hid ((Tr.wrong m false).1 = 0) := Lib.hid ((Tr.wrong_zero m false).2 RM.out)
  have hml := RM.out.1
  have HSM := Lib.hid (Tr.right_sm RM.out.2)
  clear hmm hme HO
  go_wp2_with fail
  have cW := wrongT_any A2 c2 m w2 rd2 hc2 HSM.out (by omega)
  obtain ⟨pw, hpw⟩ : ∃ pw, pw = Tr.wrong m false := ⟨_, rfl⟩
  rw [← hpw] at cW hwm
  obtain ⟨z1, z2⟩ := pw
  dsimp only at cW hwm
  obtain rfl : z1 = 0 := hwm.out
  clear hpw hwm
  refine cW.mono ?_
  rintro e w3 ⟨rfl, hb⟩
  have hB3 := hB2.trans (hb.mono hB2.size)
  have rd3 := (Rd.below rd2 hb).more hb.size
  clear hb hB2 cW rd2
  go_wp2_with fail
  refine (get_any A c l q w3 ((hl.below hB3).more hB3.size) HS.out (by omega) (by omega)).mono ?_
  rintro e w4 ⟨r, rfl, hr, hb⟩
  have hB4 := hB3.trans (hb.mono hB3.size)
  have rd4 := (Rd.below rd3 hb).more hb.size
  have HR := Lib.hid (hr.2 (.inl RT.out.2.1))
  clear hr hb hB3 rd3
  have HQM := Lib.hid (show ¬ (q.data.toList = d.data.toList ∧ s.data.toList ≠ d.data.toList) → Tr.mv s.data.toList q.data.toList → r.isSome = true → Tr.get m (d ++ q.extract s.size q.size).data.toList = some ⟨d ++ q.extract s.size q.size, (r.getD En.zero).k, (r.getD En.zero).t, (r.getD En.zero).o⟩ from fun h1 h2 h3 => by rw [HMM.out]; exact moves_mv HME.out h1 h2 HR.out h3)
  have HQN := Lib.hid (show ¬ (q.data.toList = d.data.toList ∧ s.data.toList ≠ d.data.toList) → ¬ Tr.mv s.data.toList q.data.toList → r.isSome = true → Tr.get m q.data.toList = some (r.getD En.zero) from fun h1 h2 h3 => by rw [HMM.out]; exact moves_not HME.out h1 h2 HR.out h3)
  clear HR HMM HME
  generalize r.getD En.zero = x at HQM HQN
  generalize r.isSome = ok at HQM HQN
  obtain ⟨up, uk, ut, uo⟩ := x
  simp only [En.agg, En.cells]
  dsimp only at HQM
  rcases tqs : (q.toList == s.toList) with _ | _
  rotate_left
  · have hqs : q.data.toList = s.data.toList := by rw [toList_beq] at tqs; simpa using tqs
    have hle : s.size ≤ q.size := by
      have := congrArg List.length hqs
      rw [size_length, size_length] at this; omega
    rcases tqd : (q.toList == d.toList) with _ | _ <;> rcases tsd : (s.toList == d.toList) with _ | _
    · have tsd2 := bne_of tsd
      obtain ⟨np, hnp⟩ : ∃ np, np = d ++ q.extract s.size q.size := ⟨_, rfl⟩
      have hnz : np.size ≤ 4294967280 := by rw [hnp]; simp; omega
      have HQ := Lib.hid (HQM.out (fun h => by rw [toList_beq] at tqd; simp [h.1] at tqd) (.inl hqs))
      rw [← hnp] at HQ
      clear HQM HQN
      go_wp2_with fail
      rw [← hnp]
      clear hnp
      have hB5 := hB4.alloc hB4.size (.cells #[.string np, .int .i64 uk, .string ut, .bool uo] 32)
      have hu5 := Blk.new w4 32 [.string np, .int .i64 uk, .string ut, .bool uo]
      have rd5 := (Rd.alloc rd4 (Nat.le_refl _) (.cells #[.string np, .int .i64 uk, .string ut, .bool uo] 32)).more (B' := (w4.alloc (.cells #[.string np, .int .i64 uk, .string ut, .bool uo] 32)).heap.size) (by rw [World.size_alloc]; exact Nat.le_succ _)
      generalize w4.alloc (.cells #[.string np, .int .i64 uk, .string ut, .bool uo] 32) = w5 at *
      generalize w4.heap.size = gu at *
      clear rd4 hB4
      refine (get_any A2 c2 m np w5 rd5 HSM.out (by omega) (by omega)).mono ?_
      rintro e w6 ⟨r2, rfl, hr, hb⟩
      have HR2 := Lib.hid (hr.2 (.inl RM.out.2.2.1))
      have rd6 := (Rd.below rd5 hb).more hb.size
      have hB6 := hB5.trans (hb.mono hB5.size)
      have hu6 := hu5.below hb hu5.lt
      clear hr hb hB5 hu5 rd5
      cases ok
      · generalize r2.getD En.zero = x at *
        generalize r2.isSome = ok2 at *
        obtain ⟨ap, ak, att, ao⟩ := x
        simp only [En.agg, En.cells]
        clear HR2 HQ
        have hB7 := hB6.alloc hB6.size (.cells #[.string ap, .int .i64 ak, .string att, .bool ao] 32)
        have hv7 := Blk.new w6 32 [.string ap, .int .i64 ak, .string att, .bool ao]
        have hu7 := hu6.alloc (.cells #[.string ap, .int .i64 ak, .string att, .bool ao] 32)
        have rd7 := (Rd.alloc rd6 (Nat.le_refl _) (.cells #[.string ap, .int .i64 ak, .string att, .bool ao] 32)).more (B' := (w6.alloc (.cells #[.string ap, .int .i64 ak, .string att, .bool ao] 32)).heap.size) (by rw [World.size_alloc]; exact Nat.le_succ _)
        obtain ⟨u0, u1, u2, u3, ufr, uz⟩ := hu7.four
        obtain ⟨v0, v1, v2, v3, vfr, vz⟩ := hv7.four
        go_wp2_with fail
        generalize w6.alloc (.cells #[.string ap, .int .i64 ak, .string att, .bool ao] 32) = w7 at *
        clear hB6 hu6 rd6 hu7 hv7
        clear u0 u1 u2 u3 ufr uz v0 v1 v2 v3 vfr vz
        refine (get_any A c l d w7 ((hl.below hB7).more hB7.size) HS.out hd (by omega)).mono ?_
        rintro e w8 ⟨r3, rfl, hr, hb⟩
        have HR3 := Lib.hid (hr.2 (.inl RT.out.2.1))
        have rd8 := (Rd.below rd7 hb).more hb.size
        have hB8 := hB7.trans (hb.mono hB7.size)
        have HNO := Lib.hid (show r3.isSome = false → Tr.get l d.data.toList = none from fun h => by rw [← HR3.out]; exact Option.not_isSome_iff_eq_none.1 (by rw [h]; decide))
        clear hr hb hB7 rd7 HR3
        generalize r3.getD En.zero = x at *
        generalize r3.isSome = ok3 at HNO
        obtain ⟨ep, ek, et, eo⟩ := x
        simp only [En.agg, En.cells]
        have hB9 := hB8.alloc hB8.size (.cells #[.string ep, .int .i64 ek, .string et, .bool eo] 32)
        have rd9 := (Rd.alloc rd8 (Nat.le_refl _) (.cells #[.string ep, .int .i64 ek, .string et, .bool eo] 32)).more (B' := (w8.alloc (.cells #[.string ep, .int .i64 ek, .string et, .bool eo] 32)).heap.size) (by rw [World.size_alloc]; exact Nat.le_succ _)
        cases ok3
        rotate_left
        · go_wp2_with fail
          go_ret
          exact ⟨rfl, hB9⟩
        have HBK := Lib.hid (HBACK.out (HNO.out rfl))
        clear HNO HBACK
        go_wp2_with fail
        generalize w8.alloc (.cells #[.string ep, .int .i64 ek, .string et, .bool eo] 32) = w9 at *
        have cM := move_any A2 c2 m d s w9 rd9 hc2 HSM.out hd hs' (by omega)
        unfold MoveRel at cM
        rw [HBK.out] at cM
        dsimp only at cM
        refine cM.mono ?_
        rintro e w10 ⟨v10, rfl, ho, hb⟩
        have hB10 := hB9.trans (hb.mono hB9.size)
        obtain ⟨A3, c3, rfl, hc3, rd10⟩ := EnOwn.rd ho
        clear ho hb hB9 cM
        go_wp2_with fail
        refine (same_any A A3 c c3 l l w10 ((hl.below hB10).more hB10.size) rd10 (by omega) rfl).mono ?_
        rintro e w11 ⟨rfl, hb⟩
        have hB11 := hB10.trans (hb.mono hB10.size)
        go_wp2_with fail
        go_ret
        exact ⟨rfl, hB11⟩
      · have h2 := HR2.out.trans (HQ.out rfl)
        subst h2
        clear HR2 HQ
        rw [show ((some (⟨np, uk, ut, uo⟩ : En)).getD En.zero).agg = .agg #[.string np, .int .i64 uk, .string ut, .bool uo] from rfl, show (some (⟨np, uk, ut, uo⟩ : En)).isSome = true from rfl]
        have hB7 := hB6.alloc hB6.size (.cells #[.string np, .int .i64 uk, .string ut, .bool uo] 32)
        have hv7 := Blk.new w6 32 [.string np, .int .i64 uk, .string ut, .bool uo]
        have hu7 := hu6.alloc (.cells #[.string np, .int .i64 uk, .string ut, .bool uo] 32)
        have rd7 := (Rd.alloc rd6 (Nat.le_refl _) (.cells #[.string np, .int .i64 uk, .string ut, .bool uo] 32)).more (B' := (w6.alloc (.cells #[.string np, .int .i64 uk, .string ut, .bool uo] 32)).heap.size) (by rw [World.size_alloc]; exact Nat.le_succ _)
        obtain ⟨u0, u1, u2, u3, ufr, uz⟩ := hu7.four
        obtain ⟨v0, v1, v2, v3, vfr, vz⟩ := hv7.four
        go_wp2_with fail
        generalize w6.alloc (.cells #[.string np, .int .i64 uk, .string ut, .bool uo] 32) = w7 at *
        clear hB6 hu6 rd6 hu7 hv7
        clear u0 u1 u2 u3 ufr uz v0 v1 v2 v3 vfr vz
        refine (get_any A c l d w7 ((hl.below hB7).more hB7.size) HS.out hd (by omega)).mono ?_
        rintro e w8 ⟨r3, rfl, hr, hb⟩
        have HR3 := Lib.hid (hr.2 (.inl RT.out.2.1))
        have rd8 := (Rd.below rd7 hb).more hb.size
        have hB8 := hB7.trans (hb.mono hB7.size)
        have HNO := Lib.hid (show r3.isSome = false → Tr.get l d.data.toList = none from fun h => by rw [← HR3.out]; exact Option.not_isSome_iff_eq_none.1 (by rw [h]; decide))
        clear hr hb hB7 rd7 HR3
        generalize r3.getD En.zero = x at *
        generalize r3.isSome = ok3 at HNO
        obtain ⟨ep, ek, et, eo⟩ := x
        simp only [En.agg, En.cells]
        have hB9 := hB8.alloc hB8.size (.cells #[.string ep, .int .i64 ek, .string et, .bool eo] 32)
        have rd9 := (Rd.alloc rd8 (Nat.le_refl _) (.cells #[.string ep, .int .i64 ek, .string et, .bool eo] 32)).more (B' := (w8.alloc (.cells #[.string ep, .int .i64 ek, .string et, .bool eo] 32)).heap.size) (by rw [World.size_alloc]; exact Nat.le_succ _)
        cases ok3
        rotate_left
        · go_wp2_with fail
          go_ret
          exact ⟨rfl, hB9⟩
        have HBK := Lib.hid (HBACK.out (HNO.out rfl))
        clear HNO HBACK
        go_wp2_with fail
        generalize w8.alloc (.cells #[.string ep, .int .i64 ek, .string et, .bool eo] 32) = w9 at *
        have cM := move_any A2 c2 m d s w9 rd9 hc2 HSM.out hd hs' (by omega)
        unfold MoveRel at cM
        rw [HBK.out] at cM
        dsimp only at cM
        refine cM.mono ?_
        rintro e w10 ⟨v10, rfl, ho, hb⟩
        have hB10 := hB9.trans (hb.mono hB9.size)
        obtain ⟨A3, c3, rfl, hc3, rd10⟩ := EnOwn.rd ho
        clear ho hb hB9 cM
        go_wp2_with fail
        refine (same_any A A3 c c3 l l w10 ((hl.below hB10).more hB10.size) rd10 (by omega) rfl).mono ?_
        rintro e w11 ⟨rfl, hb⟩
        have hB11 := hB10.trans (hb.mono hB10.size)
        go_wp2_with fail
        go_ret
        exact ⟨rfl, hB11⟩
    · have tsd2 := bne_of tsd
      obtain ⟨np, hnp⟩ : ∃ np, np = d ++ q.extract s.size q.size := ⟨_, rfl⟩
      have hnz : np.size ≤ 4294967280 := by rw [hnp]; simp; omega
      have HQ := Lib.hid (HQM.out (fun h => by rw [toList_beq] at tqd; simp [h.1] at tqd) (.inl hqs))
      rw [← hnp] at HQ
      clear HQM HQN
      go_wp2_with fail
      rw [← hnp]
      clear hnp
      have hB5 := hB4.alloc hB4.size (.cells #[.string np, .int .i64 uk, .string ut, .bool uo] 32)
      have hu5 := Blk.new w4 32 [.string np, .int .i64 uk, .string ut, .bool uo]
      have rd5 := (Rd.alloc rd4 (Nat.le_refl _) (.cells #[.string np, .int .i64 uk, .string ut, .bool uo] 32)).more (B' := (w4.alloc (.cells #[.string np, .int .i64 uk, .string ut, .bool uo] 32)).heap.size) (by rw [World.size_alloc]; exact Nat.le_succ _)
      generalize w4.alloc (.cells #[.string np, .int .i64 uk, .string ut, .bool uo] 32) = w5 at *
      generalize w4.heap.size = gu at *
      clear rd4 hB4
      refine (get_any A2 c2 m np w5 rd5 HSM.out (by omega) (by omega)).mono ?_
      rintro e w6 ⟨r2, rfl, hr, hb⟩
      have HR2 := Lib.hid (hr.2 (.inl RM.out.2.2.1))
      have rd6 := (Rd.below rd5 hb).more hb.size
      have hB6 := hB5.trans (hb.mono hB5.size)
      have hu6 := hu5.below hb hu5.lt
      clear hr hb hB5 hu5 rd5
      cases ok
      · generalize r2.getD En.zero = x at *
        generalize r2.isSome = ok2 at *
        obtain ⟨ap, ak, att, ao⟩ := x
        simp only [En.agg, En.cells]
        clear HR2 HQ
        have hB7 := hB6.alloc hB6.size (.cells #[.string ap, .int .i64 ak, .string att, .bool ao] 32)
        have hv7 := Blk.new w6 32 [.string ap, .int .i64 ak, .string att, .bool ao]
        have hu7 := hu6.alloc (.cells #[.string ap, .int .i64 ak, .string att, .bool ao] 32)
        have rd7 := (Rd.alloc rd6 (Nat.le_refl _) (.cells #[.string ap, .int .i64 ak, .string att, .bool ao] 32)).more (B' := (w6.alloc (.cells #[.string ap, .int .i64 ak, .string att, .bool ao] 32)).heap.size) (by rw [World.size_alloc]; exact Nat.le_succ _)
        obtain ⟨u0, u1, u2, u3, ufr, uz⟩ := hu7.four
        obtain ⟨v0, v1, v2, v3, vfr, vz⟩ := hv7.four
        go_wp2_with fail
        generalize w6.alloc (.cells #[.string ap, .int .i64 ak, .string att, .bool ao] 32) = w7 at *
        clear hB6 hu6 rd6 hu7 hv7
        clear u0 u1 u2 u3 ufr uz v0 v1 v2 v3 vfr vz
        refine (get_any A c l d w7 ((hl.below hB7).more hB7.size) HS.out hd (by omega)).mono ?_
        rintro e w8 ⟨r3, rfl, hr, hb⟩
        have HR3 := Lib.hid (hr.2 (.inl RT.out.2.1))
        have rd8 := (Rd.below rd7 hb).more hb.size
        have hB8 := hB7.trans (hb.mono hB7.size)
        have HNO := Lib.hid (show r3.isSome = false → Tr.get l d.data.toList = none from fun h => by rw [← HR3.out]; exact Option.not_isSome_iff_eq_none.1 (by rw [h]; decide))
        clear hr hb hB7 rd7 HR3
        generalize r3.getD En.zero = x at *
        generalize r3.isSome = ok3 at HNO
        obtain ⟨ep, ek, et, eo⟩ := x
        simp only [En.agg, En.cells]
        have hB9 := hB8.alloc hB8.size (.cells #[.string ep, .int .i64 ek, .string et, .bool eo] 32)
        have rd9 := (Rd.alloc rd8 (Nat.le_refl _) (.cells #[.string ep, .int .i64 ek, .string et, .bool eo] 32)).more (B' := (w8.alloc (.cells #[.string ep, .int .i64 ek, .string et, .bool eo] 32)).heap.size) (by rw [World.size_alloc]; exact Nat.le_succ _)
        cases ok3
        rotate_left
        · go_wp2_with fail
          go_ret
          exact ⟨rfl, hB9⟩
        have HBK := Lib.hid (HBACK.out (HNO.out rfl))
        clear HNO HBACK
        go_wp2_with fail
        generalize w8.alloc (.cells #[.string ep, .int .i64 ek, .string et, .bool eo] 32) = w9 at *
        have cM := move_any A2 c2 m d s w9 rd9 hc2 HSM.out hd hs' (by omega)
        unfold MoveRel at cM
        rw [HBK.out] at cM
        dsimp only at cM
        refine cM.mono ?_
        rintro e w10 ⟨v10, rfl, ho, hb⟩
        have hB10 := hB9.trans (hb.mono hB9.size)
        obtain ⟨A3, c3, rfl, hc3, rd10⟩ := EnOwn.rd ho
        clear ho hb hB9 cM
        go_wp2_with fail
        refine (same_any A A3 c c3 l l w10 ((hl.below hB10).more hB10.size) rd10 (by omega) rfl).mono ?_
        rintro e w11 ⟨rfl, hb⟩
        have hB11 := hB10.trans (hb.mono hB10.size)
        go_wp2_with fail
        go_ret
        exact ⟨rfl, hB11⟩
      · have h2 := HR2.out.trans (HQ.out rfl)
        subst h2
        clear HR2 HQ
        rw [show ((some (⟨np, uk, ut, uo⟩ : En)).getD En.zero).agg = .agg #[.string np, .int .i64 uk, .string ut, .bool uo] from rfl, show (some (⟨np, uk, ut, uo⟩ : En)).isSome = true from rfl]
        have hB7 := hB6.alloc hB6.size (.cells #[.string np, .int .i64 uk, .string ut, .bool uo] 32)
        have hv7 := Blk.new w6 32 [.string np, .int .i64 uk, .string ut, .bool uo]
        have hu7 := hu6.alloc (.cells #[.string np, .int .i64 uk, .string ut, .bool uo] 32)
        have rd7 := (Rd.alloc rd6 (Nat.le_refl _) (.cells #[.string np, .int .i64 uk, .string ut, .bool uo] 32)).more (B' := (w6.alloc (.cells #[.string np, .int .i64 uk, .string ut, .bool uo] 32)).heap.size) (by rw [World.size_alloc]; exact Nat.le_succ _)
        obtain ⟨u0, u1, u2, u3, ufr, uz⟩ := hu7.four
        obtain ⟨v0, v1, v2, v3, vfr, vz⟩ := hv7.four
        go_wp2_with fail
        generalize w6.alloc (.cells #[.string np, .int .i64 uk, .string ut, .bool uo] 32) = w7 at *
        clear hB6 hu6 rd6 hu7 hv7
        clear u0 u1 u2 u3 ufr uz v0 v1 v2 v3 vfr vz
        refine (get_any A c l d w7 ((hl.below hB7).more hB7.size) HS.out hd (by omega)).mono ?_
        rintro e w8 ⟨r3, rfl, hr, hb⟩
        have HR3 := Lib.hid (hr.2 (.inl RT.out.2.1))
        have rd8 := (Rd.below rd7 hb).more hb.size
        have hB8 := hB7.trans (hb.mono hB7.size)
        have HNO := Lib.hid (show r3.isSome = false → Tr.get l d.data.toList = none from fun h => by rw [← HR3.out]; exact Option.not_isSome_iff_eq_none.1 (by rw [h]; decide))
        clear hr hb hB7 rd7 HR3
        generalize r3.getD En.zero = x at *
        generalize r3.isSome = ok3 at HNO
        obtain ⟨ep, ek, et, eo⟩ := x
        simp only [En.agg, En.cells]
        have hB9 := hB8.alloc hB8.size (.cells #[.string ep, .int .i64 ek, .string et, .bool eo] 32)
        have rd9 := (Rd.alloc rd8 (Nat.le_refl _) (.cells #[.string ep, .int .i64 ek, .string et, .bool eo] 32)).more (B' := (w8.alloc (.cells #[.string ep, .int .i64 ek, .string et, .bool eo] 32)).heap.size) (by rw [World.size_alloc]; exact Nat.le_succ _)
        cases ok3
        rotate_left
        · go_wp2_with fail
          go_ret
          exact ⟨rfl, hB9⟩
        have HBK := Lib.hid (HBACK.out (HNO.out rfl))
        clear HNO HBACK
        go_wp2_with fail
        generalize w8.alloc (.cells #[.string ep, .int .i64 ek, .string et, .bool eo] 32) = w9 at *
        have cM := move_any A2 c2 m d s w9 rd9 hc2 HSM.out hd hs' (by omega)
        unfold MoveRel at cM
        rw [HBK.out] at cM
        dsimp only at cM
        refine cM.mono ?_
        rintro e w10 ⟨v10, rfl, ho, hb⟩
        have hB10 := hB9.trans (hb.mono hB9.size)
        obtain ⟨A3, c3, rfl, hc3, rd10⟩ := EnOwn.rd ho
        clear ho hb hB9 cM
        go_wp2_with fail
        refine (same_any A A3 c c3 l l w10 ((hl.below hB10).more hB10.size) rd10 (by omega) rfl).mono ?_
        rintro e w11 ⟨rfl, hb⟩
        have hB11 := hB10.trans (hb.mono hB10.size)
        go_wp2_with fail
        go_ret
        exact ⟨rfl, hB11⟩
    · exfalso
      rw [toList_beq] at tqd tsd
      rw [hqs, tsd] at tqd
      cases tqd
    · have tsd2 := bne_of tsd
      obtain ⟨np, hnp⟩ : ∃ np, np = d ++ q.extract s.size q.size := ⟨_, rfl⟩
      have hnz : np.size ≤ 4294967280 := by rw [hnp]; simp; omega
      have HQ := Lib.hid (HQM.out (fun h => h.2 (by rw [toList_beq] at tsd; simpa using tsd)) (.inl hqs))
      rw [← hnp] at HQ
      clear HQM HQN
      go_wp2_with fail
      rw [← hnp]
      clear hnp
      have hB5 := hB4.alloc hB4.size (.cells #[.string np, .int .i64 uk, .string ut, .bool uo] 32)
      have hu5 := Blk.new w4 32 [.string np, .int .i64 uk, .string ut, .bool uo]
      have rd5 := (Rd.alloc rd4 (Nat.le_refl _) (.cells #[.string np, .int .i64 uk, .string ut, .bool uo] 32)).more (B' := (w4.alloc (.cells #[.string np, .int .i64 uk, .string ut, .bool uo] 32)).heap.size) (by rw [World.size_alloc]; exact Nat.le_succ _)
      generalize w4.alloc (.cells #[.string np, .int .i64 uk, .string ut, .bool uo] 32) = w5 at *
      generalize w4.heap.size = gu at *
      clear rd4 hB4
      refine (get_any A2 c2 m np w5 rd5 HSM.out (by omega) (by omega)).mono ?_
      rintro e w6 ⟨r2, rfl, hr, hb⟩
      have HR2 := Lib.hid (hr.2 (.inl RM.out.2.2.1))
      have rd6 := (Rd.below rd5 hb).more hb.size
      have hB6 := hB5.trans (hb.mono hB5.size)
      have hu6 := hu5.below hb hu5.lt
      clear hr hb hB5 hu5 rd5
      cases ok
      · generalize r2.getD En.zero = x at *
        generalize r2.isSome = ok2 at *
        obtain ⟨ap, ak, att, ao⟩ := x
        simp only [En.agg, En.cells]
        clear HR2 HQ
        have hB7 := hB6.alloc hB6.size (.cells #[.string ap, .int .i64 ak, .string att, .bool ao] 32)
        have hv7 := Blk.new w6 32 [.string ap, .int .i64 ak, .string att, .bool ao]
        have hu7 := hu6.alloc (.cells #[.string ap, .int .i64 ak, .string att, .bool ao] 32)
        have rd7 := (Rd.alloc rd6 (Nat.le_refl _) (.cells #[.string ap, .int .i64 ak, .string att, .bool ao] 32)).more (B' := (w6.alloc (.cells #[.string ap, .int .i64 ak, .string att, .bool ao] 32)).heap.size) (by rw [World.size_alloc]; exact Nat.le_succ _)
        obtain ⟨u0, u1, u2, u3, ufr, uz⟩ := hu7.four
        obtain ⟨v0, v1, v2, v3, vfr, vz⟩ := hv7.four
        go_wp2_with fail
        generalize w6.alloc (.cells #[.string ap, .int .i64 ak, .string att, .bool ao] 32) = w7 at *
        clear hB6 hu6 rd6 hu7 hv7
        clear u0 u1 u2 u3 ufr uz v0 v1 v2 v3 vfr vz
        refine (get_any A c l d w7 ((hl.below hB7).more hB7.size) HS.out hd (by omega)).mono ?_
        rintro e w8 ⟨r3, rfl, hr, hb⟩
        have HR3 := Lib.hid (hr.2 (.inl RT.out.2.1))
        have rd8 := (Rd.below rd7 hb).more hb.size
        have hB8 := hB7.trans (hb.mono hB7.size)
        have HNO := Lib.hid (show r3.isSome = false → Tr.get l d.data.toList = none from fun h => by rw [← HR3.out]; exact Option.not_isSome_iff_eq_none.1 (by rw [h]; decide))
        clear hr hb hB7 rd7 HR3
        generalize r3.getD En.zero = x at *
        generalize r3.isSome = ok3 at HNO
        obtain ⟨ep, ek, et, eo⟩ := x
        simp only [En.agg, En.cells]
        have hB9 := hB8.alloc hB8.size (.cells #[.string ep, .int .i64 ek, .string et, .bool eo] 32)
        have rd9 := (Rd.alloc rd8 (Nat.le_refl _) (.cells #[.string ep, .int .i64 ek, .string et, .bool eo] 32)).more (B' := (w8.alloc (.cells #[.string ep, .int .i64 ek, .string et, .bool eo] 32)).heap.size) (by rw [World.size_alloc]; exact Nat.le_succ _)
        cases ok3
        rotate_left
        · go_wp2_with fail
          go_ret
          exact ⟨rfl, hB9⟩
        have HBK := Lib.hid (HBACK.out (HNO.out rfl))
        clear HNO HBACK
        go_wp2_with fail
        generalize w8.alloc (.cells #[.string ep, .int .i64 ek, .string et, .bool eo] 32) = w9 at *
        have cM := move_any A2 c2 m d s w9 rd9 hc2 HSM.out hd hs' (by omega)
        unfold MoveRel at cM
        rw [HBK.out] at cM
        dsimp only at cM
        refine cM.mono ?_
        rintro e w10 ⟨v10, rfl, ho, hb⟩
        have hB10 := hB9.trans (hb.mono hB9.size)
        obtain ⟨A3, c3, rfl, hc3, rd10⟩ := EnOwn.rd ho
        clear ho hb hB9 cM
        go_wp2_with fail
        refine (same_any A A3 c c3 l l w10 ((hl.below hB10).more hB10.size) rd10 (by omega) rfl).mono ?_
        rintro e w11 ⟨rfl, hb⟩
        have hB11 := hB10.trans (hb.mono hB10.size)
        go_wp2_with fail
        go_ret
        exact ⟨rfl, hB11⟩
      · have h2 := HR2.out.trans (HQ.out rfl)
        subst h2
        clear HR2 HQ
        rw [show ((some (⟨np, uk, ut, uo⟩ : En)).getD En.zero).agg = .agg #[.string np, .int .i64 uk, .string ut, .bool uo] from rfl, show (some (⟨np, uk, ut, uo⟩ : En)).isSome = true from rfl]
        have hB7 := hB6.alloc hB6.size (.cells #[.string np, .int .i64 uk, .string ut, .bool uo] 32)
        have hv7 := Blk.new w6 32 [.string np, .int .i64 uk, .string ut, .bool uo]
        have hu7 := hu6.alloc (.cells #[.string np, .int .i64 uk, .string ut, .bool uo] 32)
        have rd7 := (Rd.alloc rd6 (Nat.le_refl _) (.cells #[.string np, .int .i64 uk, .string ut, .bool uo] 32)).more (B' := (w6.alloc (.cells #[.string np, .int .i64 uk, .string ut, .bool uo] 32)).heap.size) (by rw [World.size_alloc]; exact Nat.le_succ _)
        obtain ⟨u0, u1, u2, u3, ufr, uz⟩ := hu7.four
        obtain ⟨v0, v1, v2, v3, vfr, vz⟩ := hv7.four
        go_wp2_with fail
        generalize w6.alloc (.cells #[.string np, .int .i64 uk, .string ut, .bool uo] 32) = w7 at *
        clear hB6 hu6 rd6 hu7 hv7
        clear u0 u1 u2 u3 ufr uz v0 v1 v2 v3 vfr vz
        refine (get_any A c l d w7 ((hl.below hB7).more hB7.size) HS.out hd (by omega)).mono ?_
        rintro e w8 ⟨r3, rfl, hr, hb⟩
        have HR3 := Lib.hid (hr.2 (.inl RT.out.2.1))
        have rd8 := (Rd.below rd7 hb).more hb.size
        have hB8 := hB7.trans (hb.mono hB7.size)
        have HNO := Lib.hid (show r3.isSome = false → Tr.get l d.data.toList = none from fun h => by rw [← HR3.out]; exact Option.not_isSome_iff_eq_none.1 (by rw [h]; decide))
        clear hr hb hB7 rd7 HR3
        generalize r3.getD En.zero = x at *
        generalize r3.isSome = ok3 at HNO
        obtain ⟨ep, ek, et, eo⟩ := x
        simp only [En.agg, En.cells]
        have hB9 := hB8.alloc hB8.size (.cells #[.string ep, .int .i64 ek, .string et, .bool eo] 32)
        have rd9 := (Rd.alloc rd8 (Nat.le_refl _) (.cells #[.string ep, .int .i64 ek, .string et, .bool eo] 32)).more (B' := (w8.alloc (.cells #[.string ep, .int .i64 ek, .string et, .bool eo] 32)).heap.size) (by rw [World.size_alloc]; exact Nat.le_succ _)
        cases ok3
        rotate_left
        · go_wp2_with fail
          go_ret
          exact ⟨rfl, hB9⟩
        have HBK := Lib.hid (HBACK.out (HNO.out rfl))
        clear HNO HBACK
        go_wp2_with fail
        generalize w8.alloc (.cells #[.string ep, .int .i64 ek, .string et, .bool eo] 32) = w9 at *
        have cM := move_any A2 c2 m d s w9 rd9 hc2 HSM.out hd hs' (by omega)
        unfold MoveRel at cM
        rw [HBK.out] at cM
        dsimp only at cM
        refine cM.mono ?_
        rintro e w10 ⟨v10, rfl, ho, hb⟩
        have hB10 := hB9.trans (hb.mono hB9.size)
        obtain ⟨A3, c3, rfl, hc3, rd10⟩ := EnOwn.rd ho
        clear ho hb hB9 cM
        go_wp2_with fail
        refine (same_any A A3 c c3 l l w10 ((hl.below hB10).more hB10.size) rd10 (by omega) rfl).mono ?_
        rintro e w11 ⟨rfl, hb⟩
        have hB11 := hB10.trans (hb.mono hB10.size)
        go_wp2_with fail
        go_ret
        exact ⟨rfl, hB11⟩
  have hqs : ¬ q.data.toList = s.data.toList := by rw [toList_beq] at tqs; simpa using tqs
  rcases tu : Pt.under q.data.toList s.data.toList with _ | _
  · rcases tqd : (q.toList == d.toList) with _ | _ <;> rcases tsd : (s.toList == d.toList) with _ | _
    · have tsd2 := bne_of tsd
      have HQ := Lib.hid (HQN.out (fun h => by rw [toList_beq] at tqd; simp [h.1] at tqd) (fun h => h.elim hqs (fun h => by rw [tu] at h; cases h)))
      clear HQM HQN
      go_wp2_with fail
      refine (under_any q s _ (by omega)).mono ?_
      rintro e w' ⟨rfl, rfl⟩
      rw [tu]
      go_wp2_with fail
      have hB5 := hB4.alloc hB4.size (.cells #[.string up, .int .i64 uk, .string ut, .bool uo] 32)
      have hu5 := Blk.new w4 32 [.string up, .int .i64 uk, .string ut, .bool uo]
      have rd5 := (Rd.alloc rd4 (Nat.le_refl _) (.cells #[.string up, .int .i64 uk, .string ut, .bool uo] 32)).more (B' := (w4.alloc (.cells #[.string up, .int .i64 uk, .string ut, .bool uo] 32)).heap.size) (by rw [World.size_alloc]; exact Nat.le_succ _)
      generalize w4.alloc (.cells #[.string up, .int .i64 uk, .string ut, .bool uo] 32) = w5 at *
      generalize w4.heap.size = gu at *
      clear rd4 hB4
      refine (get_any A2 c2 m q w5 rd5 HSM.out (by omega) (by omega)).mono ?_
      rintro e w6 ⟨r2, rfl, hr, hb⟩
      have HR2 := Lib.hid (hr.2 (.inl RM.out.2.2.1))
      have rd6 := (Rd.below rd5 hb).more hb.size
      have hB6 := hB5.trans (hb.mono hB5.size)
      have hu6 := hu5.below hb hu5.lt
      clear hr hb hB5 hu5 rd5
      cases ok
      · generalize r2.getD En.zero = x at *
        generalize r2.isSome = ok2 at *
        obtain ⟨ap, ak, att, ao⟩ := x
        simp only [En.agg, En.cells]
        clear HR2 HQ
        have hB7 := hB6.alloc hB6.size (.cells #[.string ap, .int .i64 ak, .string att, .bool ao] 32)
        have hv7 := Blk.new w6 32 [.string ap, .int .i64 ak, .string att, .bool ao]
        have hu7 := hu6.alloc (.cells #[.string ap, .int .i64 ak, .string att, .bool ao] 32)
        have rd7 := (Rd.alloc rd6 (Nat.le_refl _) (.cells #[.string ap, .int .i64 ak, .string att, .bool ao] 32)).more (B' := (w6.alloc (.cells #[.string ap, .int .i64 ak, .string att, .bool ao] 32)).heap.size) (by rw [World.size_alloc]; exact Nat.le_succ _)
        obtain ⟨u0, u1, u2, u3, ufr, uz⟩ := hu7.four
        obtain ⟨v0, v1, v2, v3, vfr, vz⟩ := hv7.four
        go_wp2_with fail
        generalize w6.alloc (.cells #[.string ap, .int .i64 ak, .string att, .bool ao] 32) = w7 at *
        clear hB6 hu6 rd6 hu7 hv7
        clear u0 u1 u2 u3 ufr uz v0 v1 v2 v3 vfr vz
        refine (get_any A c l d w7 ((hl.below hB7).more hB7.size) HS.out hd (by omega)).mono ?_
        rintro e w8 ⟨r3, rfl, hr, hb⟩
        have HR3 := Lib.hid (hr.2 (.inl RT.out.2.1))
        have rd8 := (Rd.below rd7 hb).more hb.size
        have hB8 := hB7.trans (hb.mono hB7.size)
        have HNO := Lib.hid (show r3.isSome = false → Tr.get l d.data.toList = none from fun h => by rw [← HR3.out]; exact Option.not_isSome_iff_eq_none.1 (by rw [h]; decide))
        clear hr hb hB7 rd7 HR3
        generalize r3.getD En.zero = x at *
        generalize r3.isSome = ok3 at HNO
        obtain ⟨ep, ek, et, eo⟩ := x
        simp only [En.agg, En.cells]
        have hB9 := hB8.alloc hB8.size (.cells #[.string ep, .int .i64 ek, .string et, .bool eo] 32)
        have rd9 := (Rd.alloc rd8 (Nat.le_refl _) (.cells #[.string ep, .int .i64 ek, .string et, .bool eo] 32)).more (B' := (w8.alloc (.cells #[.string ep, .int .i64 ek, .string et, .bool eo] 32)).heap.size) (by rw [World.size_alloc]; exact Nat.le_succ _)
        cases ok3
        rotate_left
        · go_wp2_with fail
          go_ret
          exact ⟨rfl, hB9⟩
        have HBK := Lib.hid (HBACK.out (HNO.out rfl))
        clear HNO HBACK
        go_wp2_with fail
        generalize w8.alloc (.cells #[.string ep, .int .i64 ek, .string et, .bool eo] 32) = w9 at *
        have cM := move_any A2 c2 m d s w9 rd9 hc2 HSM.out hd hs' (by omega)
        unfold MoveRel at cM
        rw [HBK.out] at cM
        dsimp only at cM
        refine cM.mono ?_
        rintro e w10 ⟨v10, rfl, ho, hb⟩
        have hB10 := hB9.trans (hb.mono hB9.size)
        obtain ⟨A3, c3, rfl, hc3, rd10⟩ := EnOwn.rd ho
        clear ho hb hB9 cM
        go_wp2_with fail
        refine (same_any A A3 c c3 l l w10 ((hl.below hB10).more hB10.size) rd10 (by omega) rfl).mono ?_
        rintro e w11 ⟨rfl, hb⟩
        have hB11 := hB10.trans (hb.mono hB10.size)
        go_wp2_with fail
        go_ret
        exact ⟨rfl, hB11⟩
      · have h2 := HR2.out.trans (HQ.out rfl)
        subst h2
        clear HR2 HQ
        rw [show ((some (⟨up, uk, ut, uo⟩ : En)).getD En.zero).agg = .agg #[.string up, .int .i64 uk, .string ut, .bool uo] from rfl, show (some (⟨up, uk, ut, uo⟩ : En)).isSome = true from rfl]
        have hB7 := hB6.alloc hB6.size (.cells #[.string up, .int .i64 uk, .string ut, .bool uo] 32)
        have hv7 := Blk.new w6 32 [.string up, .int .i64 uk, .string ut, .bool uo]
        have hu7 := hu6.alloc (.cells #[.string up, .int .i64 uk, .string ut, .bool uo] 32)
        have rd7 := (Rd.alloc rd6 (Nat.le_refl _) (.cells #[.string up, .int .i64 uk, .string ut, .bool uo] 32)).more (B' := (w6.alloc (.cells #[.string up, .int .i64 uk, .string ut, .bool uo] 32)).heap.size) (by rw [World.size_alloc]; exact Nat.le_succ _)
        obtain ⟨u0, u1, u2, u3, ufr, uz⟩ := hu7.four
        obtain ⟨v0, v1, v2, v3, vfr, vz⟩ := hv7.four
        go_wp2_with fail
        generalize w6.alloc (.cells #[.string up, .int .i64 uk, .string ut, .bool uo] 32) = w7 at *
        clear hB6 hu6 rd6 hu7 hv7
        clear u0 u1 u2 u3 ufr uz v0 v1 v2 v3 vfr vz
        refine (get_any A c l d w7 ((hl.below hB7).more hB7.size) HS.out hd (by omega)).mono ?_
        rintro e w8 ⟨r3, rfl, hr, hb⟩
        have HR3 := Lib.hid (hr.2 (.inl RT.out.2.1))
        have rd8 := (Rd.below rd7 hb).more hb.size
        have hB8 := hB7.trans (hb.mono hB7.size)
        have HNO := Lib.hid (show r3.isSome = false → Tr.get l d.data.toList = none from fun h => by rw [← HR3.out]; exact Option.not_isSome_iff_eq_none.1 (by rw [h]; decide))
        clear hr hb hB7 rd7 HR3
        generalize r3.getD En.zero = x at *
        generalize r3.isSome = ok3 at HNO
        obtain ⟨ep, ek, et, eo⟩ := x
        simp only [En.agg, En.cells]
        have hB9 := hB8.alloc hB8.size (.cells #[.string ep, .int .i64 ek, .string et, .bool eo] 32)
        have rd9 := (Rd.alloc rd8 (Nat.le_refl _) (.cells #[.string ep, .int .i64 ek, .string et, .bool eo] 32)).more (B' := (w8.alloc (.cells #[.string ep, .int .i64 ek, .string et, .bool eo] 32)).heap.size) (by rw [World.size_alloc]; exact Nat.le_succ _)
        cases ok3
        rotate_left
        · go_wp2_with fail
          go_ret
          exact ⟨rfl, hB9⟩
        have HBK := Lib.hid (HBACK.out (HNO.out rfl))
        clear HNO HBACK
        go_wp2_with fail
        generalize w8.alloc (.cells #[.string ep, .int .i64 ek, .string et, .bool eo] 32) = w9 at *
        have cM := move_any A2 c2 m d s w9 rd9 hc2 HSM.out hd hs' (by omega)
        unfold MoveRel at cM
        rw [HBK.out] at cM
        dsimp only at cM
        refine cM.mono ?_
        rintro e w10 ⟨v10, rfl, ho, hb⟩
        have hB10 := hB9.trans (hb.mono hB9.size)
        obtain ⟨A3, c3, rfl, hc3, rd10⟩ := EnOwn.rd ho
        clear ho hb hB9 cM
        go_wp2_with fail
        refine (same_any A A3 c c3 l l w10 ((hl.below hB10).more hB10.size) rd10 (by omega) rfl).mono ?_
        rintro e w11 ⟨rfl, hb⟩
        have hB11 := hB10.trans (hb.mono hB10.size)
        go_wp2_with fail
        go_ret
        exact ⟨rfl, hB11⟩
    · have tsd2 := bne_of tsd
      have HQ := Lib.hid (HQN.out (fun h => by rw [toList_beq] at tqd; simp [h.1] at tqd) (fun h => h.elim hqs (fun h => by rw [tu] at h; cases h)))
      clear HQM HQN
      go_wp2_with fail
      refine (under_any q s _ (by omega)).mono ?_
      rintro e w' ⟨rfl, rfl⟩
      rw [tu]
      go_wp2_with fail
      have hB5 := hB4.alloc hB4.size (.cells #[.string up, .int .i64 uk, .string ut, .bool uo] 32)
      have hu5 := Blk.new w4 32 [.string up, .int .i64 uk, .string ut, .bool uo]
      have rd5 := (Rd.alloc rd4 (Nat.le_refl _) (.cells #[.string up, .int .i64 uk, .string ut, .bool uo] 32)).more (B' := (w4.alloc (.cells #[.string up, .int .i64 uk, .string ut, .bool uo] 32)).heap.size) (by rw [World.size_alloc]; exact Nat.le_succ _)
      generalize w4.alloc (.cells #[.string up, .int .i64 uk, .string ut, .bool uo] 32) = w5 at *
      generalize w4.heap.size = gu at *
      clear rd4 hB4
      refine (get_any A2 c2 m q w5 rd5 HSM.out (by omega) (by omega)).mono ?_
      rintro e w6 ⟨r2, rfl, hr, hb⟩
      have HR2 := Lib.hid (hr.2 (.inl RM.out.2.2.1))
      have rd6 := (Rd.below rd5 hb).more hb.size
      have hB6 := hB5.trans (hb.mono hB5.size)
      have hu6 := hu5.below hb hu5.lt
      clear hr hb hB5 hu5 rd5
      cases ok
      · generalize r2.getD En.zero = x at *
        generalize r2.isSome = ok2 at *
        obtain ⟨ap, ak, att, ao⟩ := x
        simp only [En.agg, En.cells]
        clear HR2 HQ
        have hB7 := hB6.alloc hB6.size (.cells #[.string ap, .int .i64 ak, .string att, .bool ao] 32)
        have hv7 := Blk.new w6 32 [.string ap, .int .i64 ak, .string att, .bool ao]
        have hu7 := hu6.alloc (.cells #[.string ap, .int .i64 ak, .string att, .bool ao] 32)
        have rd7 := (Rd.alloc rd6 (Nat.le_refl _) (.cells #[.string ap, .int .i64 ak, .string att, .bool ao] 32)).more (B' := (w6.alloc (.cells #[.string ap, .int .i64 ak, .string att, .bool ao] 32)).heap.size) (by rw [World.size_alloc]; exact Nat.le_succ _)
        obtain ⟨u0, u1, u2, u3, ufr, uz⟩ := hu7.four
        obtain ⟨v0, v1, v2, v3, vfr, vz⟩ := hv7.four
        go_wp2_with fail
        generalize w6.alloc (.cells #[.string ap, .int .i64 ak, .string att, .bool ao] 32) = w7 at *
        clear hB6 hu6 rd6 hu7 hv7
        clear u0 u1 u2 u3 ufr uz v0 v1 v2 v3 vfr vz
        refine (get_any A c l d w7 ((hl.below hB7).more hB7.size) HS.out hd (by omega)).mono ?_
        rintro e w8 ⟨r3, rfl, hr, hb⟩
        have HR3 := Lib.hid (hr.2 (.inl RT.out.2.1))
        have rd8 := (Rd.below rd7 hb).more hb.size
        have hB8 := hB7.trans (hb.mono hB7.size)
        have HNO := Lib.hid (show r3.isSome = false → Tr.get l d.data.toList = none from fun h => by rw [← HR3.out]; exact Option.not_isSome_iff_eq_none.1 (by rw [h]; decide))
        clear hr hb hB7 rd7 HR3
        generalize r3.getD En.zero = x at *
        generalize r3.isSome = ok3 at HNO
        obtain ⟨ep, ek, et, eo⟩ := x
        simp only [En.agg, En.cells]
        have hB9 := hB8.alloc hB8.size (.cells #[.string ep, .int .i64 ek, .string et, .bool eo] 32)
        have rd9 := (Rd.alloc rd8 (Nat.le_refl _) (.cells #[.string ep, .int .i64 ek, .string et, .bool eo] 32)).more (B' := (w8.alloc (.cells #[.string ep, .int .i64 ek, .string et, .bool eo] 32)).heap.size) (by rw [World.size_alloc]; exact Nat.le_succ _)
        cases ok3
        rotate_left
        · go_wp2_with fail
          go_ret
          exact ⟨rfl, hB9⟩
        have HBK := Lib.hid (HBACK.out (HNO.out rfl))
        clear HNO HBACK
        go_wp2_with fail
        generalize w8.alloc (.cells #[.string ep, .int .i64 ek, .string et, .bool eo] 32) = w9 at *
        have cM := move_any A2 c2 m d s w9 rd9 hc2 HSM.out hd hs' (by omega)
        unfold MoveRel at cM
        rw [HBK.out] at cM
        dsimp only at cM
        refine cM.mono ?_
        rintro e w10 ⟨v10, rfl, ho, hb⟩
        have hB10 := hB9.trans (hb.mono hB9.size)
        obtain ⟨A3, c3, rfl, hc3, rd10⟩ := EnOwn.rd ho
        clear ho hb hB9 cM
        go_wp2_with fail
        refine (same_any A A3 c c3 l l w10 ((hl.below hB10).more hB10.size) rd10 (by omega) rfl).mono ?_
        rintro e w11 ⟨rfl, hb⟩
        have hB11 := hB10.trans (hb.mono hB10.size)
        go_wp2_with fail
        go_ret
        exact ⟨rfl, hB11⟩
      · have h2 := HR2.out.trans (HQ.out rfl)
        subst h2
        clear HR2 HQ
        rw [show ((some (⟨up, uk, ut, uo⟩ : En)).getD En.zero).agg = .agg #[.string up, .int .i64 uk, .string ut, .bool uo] from rfl, show (some (⟨up, uk, ut, uo⟩ : En)).isSome = true from rfl]
        have hB7 := hB6.alloc hB6.size (.cells #[.string up, .int .i64 uk, .string ut, .bool uo] 32)
        have hv7 := Blk.new w6 32 [.string up, .int .i64 uk, .string ut, .bool uo]
        have hu7 := hu6.alloc (.cells #[.string up, .int .i64 uk, .string ut, .bool uo] 32)
        have rd7 := (Rd.alloc rd6 (Nat.le_refl _) (.cells #[.string up, .int .i64 uk, .string ut, .bool uo] 32)).more (B' := (w6.alloc (.cells #[.string up, .int .i64 uk, .string ut, .bool uo] 32)).heap.size) (by rw [World.size_alloc]; exact Nat.le_succ _)
        obtain ⟨u0, u1, u2, u3, ufr, uz⟩ := hu7.four
        obtain ⟨v0, v1, v2, v3, vfr, vz⟩ := hv7.four
        go_wp2_with fail
        generalize w6.alloc (.cells #[.string up, .int .i64 uk, .string ut, .bool uo] 32) = w7 at *
        clear hB6 hu6 rd6 hu7 hv7
        clear u0 u1 u2 u3 ufr uz v0 v1 v2 v3 vfr vz
        refine (get_any A c l d w7 ((hl.below hB7).more hB7.size) HS.out hd (by omega)).mono ?_
        rintro e w8 ⟨r3, rfl, hr, hb⟩
        have HR3 := Lib.hid (hr.2 (.inl RT.out.2.1))
        have rd8 := (Rd.below rd7 hb).more hb.size
        have hB8 := hB7.trans (hb.mono hB7.size)
        have HNO := Lib.hid (show r3.isSome = false → Tr.get l d.data.toList = none from fun h => by rw [← HR3.out]; exact Option.not_isSome_iff_eq_none.1 (by rw [h]; decide))
        clear hr hb hB7 rd7 HR3
        generalize r3.getD En.zero = x at *
        generalize r3.isSome = ok3 at HNO
        obtain ⟨ep, ek, et, eo⟩ := x
        simp only [En.agg, En.cells]
        have hB9 := hB8.alloc hB8.size (.cells #[.string ep, .int .i64 ek, .string et, .bool eo] 32)
        have rd9 := (Rd.alloc rd8 (Nat.le_refl _) (.cells #[.string ep, .int .i64 ek, .string et, .bool eo] 32)).more (B' := (w8.alloc (.cells #[.string ep, .int .i64 ek, .string et, .bool eo] 32)).heap.size) (by rw [World.size_alloc]; exact Nat.le_succ _)
        cases ok3
        rotate_left
        · go_wp2_with fail
          go_ret
          exact ⟨rfl, hB9⟩
        have HBK := Lib.hid (HBACK.out (HNO.out rfl))
        clear HNO HBACK
        go_wp2_with fail
        generalize w8.alloc (.cells #[.string ep, .int .i64 ek, .string et, .bool eo] 32) = w9 at *
        have cM := move_any A2 c2 m d s w9 rd9 hc2 HSM.out hd hs' (by omega)
        unfold MoveRel at cM
        rw [HBK.out] at cM
        dsimp only at cM
        refine cM.mono ?_
        rintro e w10 ⟨v10, rfl, ho, hb⟩
        have hB10 := hB9.trans (hb.mono hB9.size)
        obtain ⟨A3, c3, rfl, hc3, rd10⟩ := EnOwn.rd ho
        clear ho hb hB9 cM
        go_wp2_with fail
        refine (same_any A A3 c c3 l l w10 ((hl.below hB10).more hB10.size) rd10 (by omega) rfl).mono ?_
        rintro e w11 ⟨rfl, hb⟩
        have hB11 := hB10.trans (hb.mono hB10.size)
        go_wp2_with fail
        go_ret
        exact ⟨rfl, hB11⟩
    · have tsd2 := bne_of tsd
      clear HQM HQN
      go_wp2_with fail
      refine (under_any q s _ (by omega)).mono ?_
      rintro e w' ⟨rfl, rfl⟩
      rw [tu]
      go_wp2_with fail
      go_ret
      exact ⟨rfl, hB4.alloc hB4.size _⟩
    · have tsd2 := bne_of tsd
      have HQ := Lib.hid (HQN.out (fun h => h.2 (by rw [toList_beq] at tsd; simpa using tsd)) (fun h => h.elim hqs (fun h => by rw [tu] at h; cases h)))
      clear HQM HQN
      go_wp2_with fail
      refine (under_any q s _ (by omega)).mono ?_
      rintro e w' ⟨rfl, rfl⟩
      rw [tu]
      go_wp2_with fail
      have hB5 := hB4.alloc hB4.size (.cells #[.string up, .int .i64 uk, .string ut, .bool uo] 32)
      have hu5 := Blk.new w4 32 [.string up, .int .i64 uk, .string ut, .bool uo]
      have rd5 := (Rd.alloc rd4 (Nat.le_refl _) (.cells #[.string up, .int .i64 uk, .string ut, .bool uo] 32)).more (B' := (w4.alloc (.cells #[.string up, .int .i64 uk, .string ut, .bool uo] 32)).heap.size) (by rw [World.size_alloc]; exact Nat.le_succ _)
      generalize w4.alloc (.cells #[.string up, .int .i64 uk, .string ut, .bool uo] 32) = w5 at *
      generalize w4.heap.size = gu at *
      clear rd4 hB4
      refine (get_any A2 c2 m q w5 rd5 HSM.out (by omega) (by omega)).mono ?_
      rintro e w6 ⟨r2, rfl, hr, hb⟩
      have HR2 := Lib.hid (hr.2 (.inl RM.out.2.2.1))
      have rd6 := (Rd.below rd5 hb).more hb.size
      have hB6 := hB5.trans (hb.mono hB5.size)
      have hu6 := hu5.below hb hu5.lt
      clear hr hb hB5 hu5 rd5
      cases ok
      · generalize r2.getD En.zero = x at *
        generalize r2.isSome = ok2 at *
        obtain ⟨ap, ak, att, ao⟩ := x
        simp only [En.agg, En.cells]
        clear HR2 HQ
        have hB7 := hB6.alloc hB6.size (.cells #[.string ap, .int .i64 ak, .string att, .bool ao] 32)
        have hv7 := Blk.new w6 32 [.string ap, .int .i64 ak, .string att, .bool ao]
        have hu7 := hu6.alloc (.cells #[.string ap, .int .i64 ak, .string att, .bool ao] 32)
        have rd7 := (Rd.alloc rd6 (Nat.le_refl _) (.cells #[.string ap, .int .i64 ak, .string att, .bool ao] 32)).more (B' := (w6.alloc (.cells #[.string ap, .int .i64 ak, .string att, .bool ao] 32)).heap.size) (by rw [World.size_alloc]; exact Nat.le_succ _)
        obtain ⟨u0, u1, u2, u3, ufr, uz⟩ := hu7.four
        obtain ⟨v0, v1, v2, v3, vfr, vz⟩ := hv7.four
        go_wp2_with fail
        generalize w6.alloc (.cells #[.string ap, .int .i64 ak, .string att, .bool ao] 32) = w7 at *
        clear hB6 hu6 rd6 hu7 hv7
        clear u0 u1 u2 u3 ufr uz v0 v1 v2 v3 vfr vz
        refine (get_any A c l d w7 ((hl.below hB7).more hB7.size) HS.out hd (by omega)).mono ?_
        rintro e w8 ⟨r3, rfl, hr, hb⟩
        have HR3 := Lib.hid (hr.2 (.inl RT.out.2.1))
        have rd8 := (Rd.below rd7 hb).more hb.size
        have hB8 := hB7.trans (hb.mono hB7.size)
        have HNO := Lib.hid (show r3.isSome = false → Tr.get l d.data.toList = none from fun h => by rw [← HR3.out]; exact Option.not_isSome_iff_eq_none.1 (by rw [h]; decide))
        clear hr hb hB7 rd7 HR3
        generalize r3.getD En.zero = x at *
        generalize r3.isSome = ok3 at HNO
        obtain ⟨ep, ek, et, eo⟩ := x
        simp only [En.agg, En.cells]
        have hB9 := hB8.alloc hB8.size (.cells #[.string ep, .int .i64 ek, .string et, .bool eo] 32)
        have rd9 := (Rd.alloc rd8 (Nat.le_refl _) (.cells #[.string ep, .int .i64 ek, .string et, .bool eo] 32)).more (B' := (w8.alloc (.cells #[.string ep, .int .i64 ek, .string et, .bool eo] 32)).heap.size) (by rw [World.size_alloc]; exact Nat.le_succ _)
        cases ok3
        rotate_left
        · go_wp2_with fail
          go_ret
          exact ⟨rfl, hB9⟩
        have HBK := Lib.hid (HBACK.out (HNO.out rfl))
        clear HNO HBACK
        go_wp2_with fail
        generalize w8.alloc (.cells #[.string ep, .int .i64 ek, .string et, .bool eo] 32) = w9 at *
        have cM := move_any A2 c2 m d s w9 rd9 hc2 HSM.out hd hs' (by omega)
        unfold MoveRel at cM
        rw [HBK.out] at cM
        dsimp only at cM
        refine cM.mono ?_
        rintro e w10 ⟨v10, rfl, ho, hb⟩
        have hB10 := hB9.trans (hb.mono hB9.size)
        obtain ⟨A3, c3, rfl, hc3, rd10⟩ := EnOwn.rd ho
        clear ho hb hB9 cM
        go_wp2_with fail
        refine (same_any A A3 c c3 l l w10 ((hl.below hB10).more hB10.size) rd10 (by omega) rfl).mono ?_
        rintro e w11 ⟨rfl, hb⟩
        have hB11 := hB10.trans (hb.mono hB10.size)
        go_wp2_with fail
        go_ret
        exact ⟨rfl, hB11⟩
      · have h2 := HR2.out.trans (HQ.out rfl)
        subst h2
        clear HR2 HQ
        rw [show ((some (⟨up, uk, ut, uo⟩ : En)).getD En.zero).agg = .agg #[.string up, .int .i64 uk, .string ut, .bool uo] from rfl, show (some (⟨up, uk, ut, uo⟩ : En)).isSome = true from rfl]
        have hB7 := hB6.alloc hB6.size (.cells #[.string up, .int .i64 uk, .string ut, .bool uo] 32)
        have hv7 := Blk.new w6 32 [.string up, .int .i64 uk, .string ut, .bool uo]
        have hu7 := hu6.alloc (.cells #[.string up, .int .i64 uk, .string ut, .bool uo] 32)
        have rd7 := (Rd.alloc rd6 (Nat.le_refl _) (.cells #[.string up, .int .i64 uk, .string ut, .bool uo] 32)).more (B' := (w6.alloc (.cells #[.string up, .int .i64 uk, .string ut, .bool uo] 32)).heap.size) (by rw [World.size_alloc]; exact Nat.le_succ _)
        obtain ⟨u0, u1, u2, u3, ufr, uz⟩ := hu7.four
        obtain ⟨v0, v1, v2, v3, vfr, vz⟩ := hv7.four
        go_wp2_with fail
        generalize w6.alloc (.cells #[.string up, .int .i64 uk, .string ut, .bool uo] 32) = w7 at *
        clear hB6 hu6 rd6 hu7 hv7
        clear u0 u1 u2 u3 ufr uz v0 v1 v2 v3 vfr vz
        refine (get_any A c l d w7 ((hl.below hB7).more hB7.size) HS.out hd (by omega)).mono ?_
        rintro e w8 ⟨r3, rfl, hr, hb⟩
        have HR3 := Lib.hid (hr.2 (.inl RT.out.2.1))
        have rd8 := (Rd.below rd7 hb).more hb.size
        have hB8 := hB7.trans (hb.mono hB7.size)
        have HNO := Lib.hid (show r3.isSome = false → Tr.get l d.data.toList = none from fun h => by rw [← HR3.out]; exact Option.not_isSome_iff_eq_none.1 (by rw [h]; decide))
        clear hr hb hB7 rd7 HR3
        generalize r3.getD En.zero = x at *
        generalize r3.isSome = ok3 at HNO
        obtain ⟨ep, ek, et, eo⟩ := x
        simp only [En.agg, En.cells]
        have hB9 := hB8.alloc hB8.size (.cells #[.string ep, .int .i64 ek, .string et, .bool eo] 32)
        have rd9 := (Rd.alloc rd8 (Nat.le_refl _) (.cells #[.string ep, .int .i64 ek, .string et, .bool eo] 32)).more (B' := (w8.alloc (.cells #[.string ep, .int .i64 ek, .string et, .bool eo] 32)).heap.size) (by rw [World.size_alloc]; exact Nat.le_succ _)
        cases ok3
        rotate_left
        · go_wp2_with fail
          go_ret
          exact ⟨rfl, hB9⟩
        have HBK := Lib.hid (HBACK.out (HNO.out rfl))
        clear HNO HBACK
        go_wp2_with fail
        generalize w8.alloc (.cells #[.string ep, .int .i64 ek, .string et, .bool eo] 32) = w9 at *
        have cM := move_any A2 c2 m d s w9 rd9 hc2 HSM.out hd hs' (by omega)
        unfold MoveRel at cM
        rw [HBK.out] at cM
        dsimp only at cM
        refine cM.mono ?_
        rintro e w10 ⟨v10, rfl, ho, hb⟩
        have hB10 := hB9.trans (hb.mono hB9.size)
        obtain ⟨A3, c3, rfl, hc3, rd10⟩ := EnOwn.rd ho
        clear ho hb hB9 cM
        go_wp2_with fail
        refine (same_any A A3 c c3 l l w10 ((hl.below hB10).more hB10.size) rd10 (by omega) rfl).mono ?_
        rintro e w11 ⟨rfl, hb⟩
        have hB11 := hB10.trans (hb.mono hB10.size)
        go_wp2_with fail
        go_ret
        exact ⟨rfl, hB11⟩
  · have hle : s.size ≤ q.size := Nat.le_of_lt (by
      have := Tr.under_len HS0.out tu
      rw [size_length, size_length] at this; exact this)
    rcases tqd : (q.toList == d.toList) with _ | _ <;> rcases tsd : (s.toList == d.toList) with _ | _
    · have tsd2 := bne_of tsd
      obtain ⟨np, hnp⟩ : ∃ np, np = d ++ q.extract s.size q.size := ⟨_, rfl⟩
      have hnz : np.size ≤ 4294967280 := by rw [hnp]; simp; omega
      have HQ := Lib.hid (HQM.out (fun h => by rw [toList_beq] at tqd; simp [h.1] at tqd) (.inr tu))
      rw [← hnp] at HQ
      clear HQM HQN
      go_wp2_with fail
      refine (under_any q s _ (by omega)).mono ?_
      rintro e w' ⟨rfl, rfl⟩
      rw [tu]
      go_wp2_with fail
      rw [← hnp]
      clear hnp
      have hB5 := hB4.alloc hB4.size (.cells #[.string np, .int .i64 uk, .string ut, .bool uo] 32)
      have hu5 := Blk.new w4 32 [.string np, .int .i64 uk, .string ut, .bool uo]
      have rd5 := (Rd.alloc rd4 (Nat.le_refl _) (.cells #[.string np, .int .i64 uk, .string ut, .bool uo] 32)).more (B' := (w4.alloc (.cells #[.string np, .int .i64 uk, .string ut, .bool uo] 32)).heap.size) (by rw [World.size_alloc]; exact Nat.le_succ _)
      generalize w4.alloc (.cells #[.string np, .int .i64 uk, .string ut, .bool uo] 32) = w5 at *
      generalize w4.heap.size = gu at *
      clear rd4 hB4
      refine (get_any A2 c2 m np w5 rd5 HSM.out (by omega) (by omega)).mono ?_
      rintro e w6 ⟨r2, rfl, hr, hb⟩
      have HR2 := Lib.hid (hr.2 (.inl RM.out.2.2.1))
      have rd6 := (Rd.below rd5 hb).more hb.size
      have hB6 := hB5.trans (hb.mono hB5.size)
      have hu6 := hu5.below hb hu5.lt
      clear hr hb hB5 hu5 rd5
      cases ok
      · generalize r2.getD En.zero = x at *
        generalize r2.isSome = ok2 at *
        obtain ⟨ap, ak, att, ao⟩ := x
        simp only [En.agg, En.cells]
        clear HR2 HQ
        have hB7 := hB6.alloc hB6.size (.cells #[.string ap, .int .i64 ak, .string att, .bool ao] 32)
        have hv7 := Blk.new w6 32 [.string ap, .int .i64 ak, .string att, .bool ao]
        have hu7 := hu6.alloc (.cells #[.string ap, .int .i64 ak, .string att, .bool ao] 32)
        have rd7 := (Rd.alloc rd6 (Nat.le_refl _) (.cells #[.string ap, .int .i64 ak, .string att, .bool ao] 32)).more (B' := (w6.alloc (.cells #[.string ap, .int .i64 ak, .string att, .bool ao] 32)).heap.size) (by rw [World.size_alloc]; exact Nat.le_succ _)
        obtain ⟨u0, u1, u2, u3, ufr, uz⟩ := hu7.four
        obtain ⟨v0, v1, v2, v3, vfr, vz⟩ := hv7.four
        go_wp2_with fail
        generalize w6.alloc (.cells #[.string ap, .int .i64 ak, .string att, .bool ao] 32) = w7 at *
        clear hB6 hu6 rd6 hu7 hv7
        clear u0 u1 u2 u3 ufr uz v0 v1 v2 v3 vfr vz
        refine (get_any A c l d w7 ((hl.below hB7).more hB7.size) HS.out hd (by omega)).mono ?_
        rintro e w8 ⟨r3, rfl, hr, hb⟩
        have HR3 := Lib.hid (hr.2 (.inl RT.out.2.1))
        have rd8 := (Rd.below rd7 hb).more hb.size
        have hB8 := hB7.trans (hb.mono hB7.size)
        have HNO := Lib.hid (show r3.isSome = false → Tr.get l d.data.toList = none from fun h => by rw [← HR3.out]; exact Option.not_isSome_iff_eq_none.1 (by rw [h]; decide))
        clear hr hb hB7 rd7 HR3
        generalize r3.getD En.zero = x at *
        generalize r3.isSome = ok3 at HNO
        obtain ⟨ep, ek, et, eo⟩ := x
        simp only [En.agg, En.cells]
        have hB9 := hB8.alloc hB8.size (.cells #[.string ep, .int .i64 ek, .string et, .bool eo] 32)
        have rd9 := (Rd.alloc rd8 (Nat.le_refl _) (.cells #[.string ep, .int .i64 ek, .string et, .bool eo] 32)).more (B' := (w8.alloc (.cells #[.string ep, .int .i64 ek, .string et, .bool eo] 32)).heap.size) (by rw [World.size_alloc]; exact Nat.le_succ _)
        cases ok3
        rotate_left
        · go_wp2_with fail
          go_ret
          exact ⟨rfl, hB9⟩
        have HBK := Lib.hid (HBACK.out (HNO.out rfl))
        clear HNO HBACK
        go_wp2_with fail
        generalize w8.alloc (.cells #[.string ep, .int .i64 ek, .string et, .bool eo] 32) = w9 at *
        have cM := move_any A2 c2 m d s w9 rd9 hc2 HSM.out hd hs' (by omega)
        unfold MoveRel at cM
        rw [HBK.out] at cM
        dsimp only at cM
        refine cM.mono ?_
        rintro e w10 ⟨v10, rfl, ho, hb⟩
        have hB10 := hB9.trans (hb.mono hB9.size)
        obtain ⟨A3, c3, rfl, hc3, rd10⟩ := EnOwn.rd ho
        clear ho hb hB9 cM
        go_wp2_with fail
        refine (same_any A A3 c c3 l l w10 ((hl.below hB10).more hB10.size) rd10 (by omega) rfl).mono ?_
        rintro e w11 ⟨rfl, hb⟩
        have hB11 := hB10.trans (hb.mono hB10.size)
        go_wp2_with fail
        go_ret
        exact ⟨rfl, hB11⟩
      · have h2 := HR2.out.trans (HQ.out rfl)
        subst h2
        clear HR2 HQ
        rw [show ((some (⟨np, uk, ut, uo⟩ : En)).getD En.zero).agg = .agg #[.string np, .int .i64 uk, .string ut, .bool uo] from rfl, show (some (⟨np, uk, ut, uo⟩ : En)).isSome = true from rfl]
        have hB7 := hB6.alloc hB6.size (.cells #[.string np, .int .i64 uk, .string ut, .bool uo] 32)
        have hv7 := Blk.new w6 32 [.string np, .int .i64 uk, .string ut, .bool uo]
        have hu7 := hu6.alloc (.cells #[.string np, .int .i64 uk, .string ut, .bool uo] 32)
        have rd7 := (Rd.alloc rd6 (Nat.le_refl _) (.cells #[.string np, .int .i64 uk, .string ut, .bool uo] 32)).more (B' := (w6.alloc (.cells #[.string np, .int .i64 uk, .string ut, .bool uo] 32)).heap.size) (by rw [World.size_alloc]; exact Nat.le_succ _)
        obtain ⟨u0, u1, u2, u3, ufr, uz⟩ := hu7.four
        obtain ⟨v0, v1, v2, v3, vfr, vz⟩ := hv7.four
        go_wp2_with fail
        generalize w6.alloc (.cells #[.string np, .int .i64 uk, .string ut, .bool uo] 32) = w7 at *
        clear hB6 hu6 rd6 hu7 hv7
        clear u0 u1 u2 u3 ufr uz v0 v1 v2 v3 vfr vz
        refine (get_any A c l d w7 ((hl.below hB7).more hB7.size) HS.out hd (by omega)).mono ?_
        rintro e w8 ⟨r3, rfl, hr, hb⟩
        have HR3 := Lib.hid (hr.2 (.inl RT.out.2.1))
        have rd8 := (Rd.below rd7 hb).more hb.size
        have hB8 := hB7.trans (hb.mono hB7.size)
        have HNO := Lib.hid (show r3.isSome = false → Tr.get l d.data.toList = none from fun h => by rw [← HR3.out]; exact Option.not_isSome_iff_eq_none.1 (by rw [h]; decide))
        clear hr hb hB7 rd7 HR3
        generalize r3.getD En.zero = x at *
        generalize r3.isSome = ok3 at HNO
        obtain ⟨ep, ek, et, eo⟩ := x
        simp only [En.agg, En.cells]
        have hB9 := hB8.alloc hB8.size (.cells #[.string ep, .int .i64 ek, .string et, .bool eo] 32)
        have rd9 := (Rd.alloc rd8 (Nat.le_refl _) (.cells #[.string ep, .int .i64 ek, .string et, .bool eo] 32)).more (B' := (w8.alloc (.cells #[.string ep, .int .i64 ek, .string et, .bool eo] 32)).heap.size) (by rw [World.size_alloc]; exact Nat.le_succ _)
        cases ok3
        rotate_left
        · go_wp2_with fail
          go_ret
          exact ⟨rfl, hB9⟩
        have HBK := Lib.hid (HBACK.out (HNO.out rfl))
        clear HNO HBACK
        go_wp2_with fail
        generalize w8.alloc (.cells #[.string ep, .int .i64 ek, .string et, .bool eo] 32) = w9 at *
        have cM := move_any A2 c2 m d s w9 rd9 hc2 HSM.out hd hs' (by omega)
        unfold MoveRel at cM
        rw [HBK.out] at cM
        dsimp only at cM
        refine cM.mono ?_
        rintro e w10 ⟨v10, rfl, ho, hb⟩
        have hB10 := hB9.trans (hb.mono hB9.size)
        obtain ⟨A3, c3, rfl, hc3, rd10⟩ := EnOwn.rd ho
        clear ho hb hB9 cM
        go_wp2_with fail
        refine (same_any A A3 c c3 l l w10 ((hl.below hB10).more hB10.size) rd10 (by omega) rfl).mono ?_
        rintro e w11 ⟨rfl, hb⟩
        have hB11 := hB10.trans (hb.mono hB10.size)
        go_wp2_with fail
        go_ret
        exact ⟨rfl, hB11⟩
    · have tsd2 := bne_of tsd
      obtain ⟨np, hnp⟩ : ∃ np, np = d ++ q.extract s.size q.size := ⟨_, rfl⟩
      have hnz : np.size ≤ 4294967280 := by rw [hnp]; simp; omega
      have HQ := Lib.hid (HQM.out (fun h => by rw [toList_beq] at tqd; simp [h.1] at tqd) (.inr tu))
      rw [← hnp] at HQ
      clear HQM HQN
      go_wp2_with fail
      refine (under_any q s _ (by omega)).mono ?_
      rintro e w' ⟨rfl, rfl⟩
      rw [tu]
      go_wp2_with fail
      rw [← hnp]
      clear hnp
      have hB5 := hB4.alloc hB4.size (.cells #[.string np, .int .i64 uk, .string ut, .bool uo] 32)
      have hu5 := Blk.new w4 32 [.string np, .int .i64 uk, .string ut, .bool uo]
      have rd5 := (Rd.alloc rd4 (Nat.le_refl _) (.cells #[.string np, .int .i64 uk, .string ut, .bool uo] 32)).more (B' := (w4.alloc (.cells #[.string np, .int .i64 uk, .string ut, .bool uo] 32)).heap.size) (by rw [World.size_alloc]; exact Nat.le_succ _)
      generalize w4.alloc (.cells #[.string np, .int .i64 uk, .string ut, .bool uo] 32) = w5 at *
      generalize w4.heap.size = gu at *
      clear rd4 hB4
      refine (get_any A2 c2 m np w5 rd5 HSM.out (by omega) (by omega)).mono ?_
      rintro e w6 ⟨r2, rfl, hr, hb⟩
      have HR2 := Lib.hid (hr.2 (.inl RM.out.2.2.1))
      have rd6 := (Rd.below rd5 hb).more hb.size
      have hB6 := hB5.trans (hb.mono hB5.size)
      have hu6 := hu5.below hb hu5.lt
      clear hr hb hB5 hu5 rd5
      cases ok
      · generalize r2.getD En.zero = x at *
        generalize r2.isSome = ok2 at *
        obtain ⟨ap, ak, att, ao⟩ := x
        simp only [En.agg, En.cells]
        clear HR2 HQ
        have hB7 := hB6.alloc hB6.size (.cells #[.string ap, .int .i64 ak, .string att, .bool ao] 32)
        have hv7 := Blk.new w6 32 [.string ap, .int .i64 ak, .string att, .bool ao]
        have hu7 := hu6.alloc (.cells #[.string ap, .int .i64 ak, .string att, .bool ao] 32)
        have rd7 := (Rd.alloc rd6 (Nat.le_refl _) (.cells #[.string ap, .int .i64 ak, .string att, .bool ao] 32)).more (B' := (w6.alloc (.cells #[.string ap, .int .i64 ak, .string att, .bool ao] 32)).heap.size) (by rw [World.size_alloc]; exact Nat.le_succ _)
        obtain ⟨u0, u1, u2, u3, ufr, uz⟩ := hu7.four
        obtain ⟨v0, v1, v2, v3, vfr, vz⟩ := hv7.four
        go_wp2_with fail
        generalize w6.alloc (.cells #[.string ap, .int .i64 ak, .string att, .bool ao] 32) = w7 at *
        clear hB6 hu6 rd6 hu7 hv7
        clear u0 u1 u2 u3 ufr uz v0 v1 v2 v3 vfr vz
        refine (get_any A c l d w7 ((hl.below hB7).more hB7.size) HS.out hd (by omega)).mono ?_
        rintro e w8 ⟨r3, rfl, hr, hb⟩
        have HR3 := Lib.hid (hr.2 (.inl RT.out.2.1))
        have rd8 := (Rd.below rd7 hb).more hb.size
        have hB8 := hB7.trans (hb.mono hB7.size)
        have HNO := Lib.hid (show r3.isSome = false → Tr.get l d.data.toList = none from fun h => by rw [← HR3.out]; exact Option.not_isSome_iff_eq_none.1 (by rw [h]; decide))
        clear hr hb hB7 rd7 HR3
        generalize r3.getD En.zero = x at *
        generalize r3.isSome = ok3 at HNO
        obtain ⟨ep, ek, et, eo⟩ := x
        simp only [En.agg, En.cells]
        have hB9 := hB8.alloc hB8.size (.cells #[.string ep, .int .i64 ek, .string et, .bool eo] 32)
        have rd9 := (Rd.alloc rd8 (Nat.le_refl _) (.cells #[.string ep, .int .i64 ek, .string et, .bool eo] 32)).more (B' := (w8.alloc (.cells #[.string ep, .int .i64 ek, .string et, .bool eo] 32)).heap.size) (by rw [World.size_alloc]; exact Nat.le_succ _)
        cases ok3
        rotate_left
        · go_wp2_with fail
          go_ret
          exact ⟨rfl, hB9⟩
        have HBK := Lib.hid (HBACK.out (HNO.out rfl))
        clear HNO HBACK
        go_wp2_with fail
        generalize w8.alloc (.cells #[.string ep, .int .i64 ek, .string et, .bool eo] 32) = w9 at *
        have cM := move_any A2 c2 m d s w9 rd9 hc2 HSM.out hd hs' (by omega)
        unfold MoveRel at cM
        rw [HBK.out] at cM
        dsimp only at cM
        refine cM.mono ?_
        rintro e w10 ⟨v10, rfl, ho, hb⟩
        have hB10 := hB9.trans (hb.mono hB9.size)
        obtain ⟨A3, c3, rfl, hc3, rd10⟩ := EnOwn.rd ho
        clear ho hb hB9 cM
        go_wp2_with fail
        refine (same_any A A3 c c3 l l w10 ((hl.below hB10).more hB10.size) rd10 (by omega) rfl).mono ?_
        rintro e w11 ⟨rfl, hb⟩
        have hB11 := hB10.trans (hb.mono hB10.size)
        go_wp2_with fail
        go_ret
        exact ⟨rfl, hB11⟩
      · have h2 := HR2.out.trans (HQ.out rfl)
        subst h2
        clear HR2 HQ
        rw [show ((some (⟨np, uk, ut, uo⟩ : En)).getD En.zero).agg = .agg #[.string np, .int .i64 uk, .string ut, .bool uo] from rfl, show (some (⟨np, uk, ut, uo⟩ : En)).isSome = true from rfl]
        have hB7 := hB6.alloc hB6.size (.cells #[.string np, .int .i64 uk, .string ut, .bool uo] 32)
        have hv7 := Blk.new w6 32 [.string np, .int .i64 uk, .string ut, .bool uo]
        have hu7 := hu6.alloc (.cells #[.string np, .int .i64 uk, .string ut, .bool uo] 32)
        have rd7 := (Rd.alloc rd6 (Nat.le_refl _) (.cells #[.string np, .int .i64 uk, .string ut, .bool uo] 32)).more (B' := (w6.alloc (.cells #[.string np, .int .i64 uk, .string ut, .bool uo] 32)).heap.size) (by rw [World.size_alloc]; exact Nat.le_succ _)
        obtain ⟨u0, u1, u2, u3, ufr, uz⟩ := hu7.four
        obtain ⟨v0, v1, v2, v3, vfr, vz⟩ := hv7.four
        go_wp2_with fail
        generalize w6.alloc (.cells #[.string np, .int .i64 uk, .string ut, .bool uo] 32) = w7 at *
        clear hB6 hu6 rd6 hu7 hv7
        clear u0 u1 u2 u3 ufr uz v0 v1 v2 v3 vfr vz
        refine (get_any A c l d w7 ((hl.below hB7).more hB7.size) HS.out hd (by omega)).mono ?_
        rintro e w8 ⟨r3, rfl, hr, hb⟩
        have HR3 := Lib.hid (hr.2 (.inl RT.out.2.1))
        have rd8 := (Rd.below rd7 hb).more hb.size
        have hB8 := hB7.trans (hb.mono hB7.size)
        have HNO := Lib.hid (show r3.isSome = false → Tr.get l d.data.toList = none from fun h => by rw [← HR3.out]; exact Option.not_isSome_iff_eq_none.1 (by rw [h]; decide))
        clear hr hb hB7 rd7 HR3
        generalize r3.getD En.zero = x at *
        generalize r3.isSome = ok3 at HNO
        obtain ⟨ep, ek, et, eo⟩ := x
        simp only [En.agg, En.cells]
        have hB9 := hB8.alloc hB8.size (.cells #[.string ep, .int .i64 ek, .string et, .bool eo] 32)
        have rd9 := (Rd.alloc rd8 (Nat.le_refl _) (.cells #[.string ep, .int .i64 ek, .string et, .bool eo] 32)).more (B' := (w8.alloc (.cells #[.string ep, .int .i64 ek, .string et, .bool eo] 32)).heap.size) (by rw [World.size_alloc]; exact Nat.le_succ _)
        cases ok3
        rotate_left
        · go_wp2_with fail
          go_ret
          exact ⟨rfl, hB9⟩
        have HBK := Lib.hid (HBACK.out (HNO.out rfl))
        clear HNO HBACK
        go_wp2_with fail
        generalize w8.alloc (.cells #[.string ep, .int .i64 ek, .string et, .bool eo] 32) = w9 at *
        have cM := move_any A2 c2 m d s w9 rd9 hc2 HSM.out hd hs' (by omega)
        unfold MoveRel at cM
        rw [HBK.out] at cM
        dsimp only at cM
        refine cM.mono ?_
        rintro e w10 ⟨v10, rfl, ho, hb⟩
        have hB10 := hB9.trans (hb.mono hB9.size)
        obtain ⟨A3, c3, rfl, hc3, rd10⟩ := EnOwn.rd ho
        clear ho hb hB9 cM
        go_wp2_with fail
        refine (same_any A A3 c c3 l l w10 ((hl.below hB10).more hB10.size) rd10 (by omega) rfl).mono ?_
        rintro e w11 ⟨rfl, hb⟩
        have hB11 := hB10.trans (hb.mono hB10.size)
        go_wp2_with fail
        go_ret
        exact ⟨rfl, hB11⟩
    · exfalso
      rw [toList_beq] at tqd tsd
      have h1 := eq_of_beq tqd
      rw [h1, HUD.out tsd] at tu
      cases tu
    · have tsd2 := bne_of tsd
      obtain ⟨np, hnp⟩ : ∃ np, np = d ++ q.extract s.size q.size := ⟨_, rfl⟩
      have hnz : np.size ≤ 4294967280 := by rw [hnp]; simp; omega
      have HQ := Lib.hid (HQM.out (fun h => h.2 (by rw [toList_beq] at tsd; simpa using tsd)) (.inr tu))
      rw [← hnp] at HQ
      clear HQM HQN
      go_wp2_with fail
      refine (under_any q s _ (by omega)).mono ?_
      rintro e w' ⟨rfl, rfl⟩
      rw [tu]
      go_wp2_with fail
      rw [← hnp]
      clear hnp
      have hB5 := hB4.alloc hB4.size (.cells #[.string np, .int .i64 uk, .string ut, .bool uo] 32)
      have hu5 := Blk.new w4 32 [.string np, .int .i64 uk, .string ut, .bool uo]
      have rd5 := (Rd.alloc rd4 (Nat.le_refl _) (.cells #[.string np, .int .i64 uk, .string ut, .bool uo] 32)).more (B' := (w4.alloc (.cells #[.string np, .int .i64 uk, .string ut, .bool uo] 32)).heap.size) (by rw [World.size_alloc]; exact Nat.le_succ _)
      generalize w4.alloc (.cells #[.string np, .int .i64 uk, .string ut, .bool uo] 32) = w5 at *
      generalize w4.heap.size = gu at *
      clear rd4 hB4
      refine (get_any A2 c2 m np w5 rd5 HSM.out (by omega) (by omega)).mono ?_
      rintro e w6 ⟨r2, rfl, hr, hb⟩
      have HR2 := Lib.hid (hr.2 (.inl RM.out.2.2.1))
      have rd6 := (Rd.below rd5 hb).more hb.size
      have hB6 := hB5.trans (hb.mono hB5.size)
      have hu6 := hu5.below hb hu5.lt
      clear hr hb hB5 hu5 rd5
      cases ok
      · generalize r2.getD En.zero = x at *
        generalize r2.isSome = ok2 at *
        obtain ⟨ap, ak, att, ao⟩ := x
        simp only [En.agg, En.cells]
        clear HR2 HQ
        have hB7 := hB6.alloc hB6.size (.cells #[.string ap, .int .i64 ak, .string att, .bool ao] 32)
        have hv7 := Blk.new w6 32 [.string ap, .int .i64 ak, .string att, .bool ao]
        have hu7 := hu6.alloc (.cells #[.string ap, .int .i64 ak, .string att, .bool ao] 32)
        have rd7 := (Rd.alloc rd6 (Nat.le_refl _) (.cells #[.string ap, .int .i64 ak, .string att, .bool ao] 32)).more (B' := (w6.alloc (.cells #[.string ap, .int .i64 ak, .string att, .bool ao] 32)).heap.size) (by rw [World.size_alloc]; exact Nat.le_succ _)
        obtain ⟨u0, u1, u2, u3, ufr, uz⟩ := hu7.four
        obtain ⟨v0, v1, v2, v3, vfr, vz⟩ := hv7.four
        go_wp2_with fail
        generalize w6.alloc (.cells #[.string ap, .int .i64 ak, .string att, .bool ao] 32) = w7 at *
        clear hB6 hu6 rd6 hu7 hv7
        clear u0 u1 u2 u3 ufr uz v0 v1 v2 v3 vfr vz
        refine (get_any A c l d w7 ((hl.below hB7).more hB7.size) HS.out hd (by omega)).mono ?_
        rintro e w8 ⟨r3, rfl, hr, hb⟩
        have HR3 := Lib.hid (hr.2 (.inl RT.out.2.1))
        have rd8 := (Rd.below rd7 hb).more hb.size
        have hB8 := hB7.trans (hb.mono hB7.size)
        have HNO := Lib.hid (show r3.isSome = false → Tr.get l d.data.toList = none from fun h => by rw [← HR3.out]; exact Option.not_isSome_iff_eq_none.1 (by rw [h]; decide))
        clear hr hb hB7 rd7 HR3
        generalize r3.getD En.zero = x at *
        generalize r3.isSome = ok3 at HNO
        obtain ⟨ep, ek, et, eo⟩ := x
        simp only [En.agg, En.cells]
        have hB9 := hB8.alloc hB8.size (.cells #[.string ep, .int .i64 ek, .string et, .bool eo] 32)
        have rd9 := (Rd.alloc rd8 (Nat.le_refl _) (.cells #[.string ep, .int .i64 ek, .string et, .bool eo] 32)).more (B' := (w8.alloc (.cells #[.string ep, .int .i64 ek, .string et, .bool eo] 32)).heap.size) (by rw [World.size_alloc]; exact Nat.le_succ _)
        cases ok3
        rotate_left
        · go_wp2_with fail
          go_ret
          exact ⟨rfl, hB9⟩
        have HBK := Lib.hid (HBACK.out (HNO.out rfl))
        clear HNO HBACK
        go_wp2_with fail
        generalize w8.alloc (.cells #[.string ep, .int .i64 ek, .string et, .bool eo] 32) = w9 at *
        have cM := move_any A2 c2 m d s w9 rd9 hc2 HSM.out hd hs' (by omega)
        unfold MoveRel at cM
        rw [HBK.out] at cM
        dsimp only at cM
        refine cM.mono ?_
        rintro e w10 ⟨v10, rfl, ho, hb⟩
        have hB10 := hB9.trans (hb.mono hB9.size)
        obtain ⟨A3, c3, rfl, hc3, rd10⟩ := EnOwn.rd ho
        clear ho hb hB9 cM
        go_wp2_with fail
        refine (same_any A A3 c c3 l l w10 ((hl.below hB10).more hB10.size) rd10 (by omega) rfl).mono ?_
        rintro e w11 ⟨rfl, hb⟩
        have hB11 := hB10.trans (hb.mono hB10.size)
        go_wp2_with fail
        go_ret
        exact ⟨rfl, hB11⟩
      · have h2 := HR2.out.trans (HQ.out rfl)
        subst h2
        clear HR2 HQ
        rw [show ((some (⟨np, uk, ut, uo⟩ : En)).getD En.zero).agg = .agg #[.string np, .int .i64 uk, .string ut, .bool uo] from rfl, show (some (⟨np, uk, ut, uo⟩ : En)).isSome = true from rfl]
        have hB7 := hB6.alloc hB6.size (.cells #[.string np, .int .i64 uk, .string ut, .bool uo] 32)
        have hv7 := Blk.new w6 32 [.string np, .int .i64 uk, .string ut, .bool uo]
        have hu7 := hu6.alloc (.cells #[.string np, .int .i64 uk, .string ut, .bool uo] 32)
        have rd7 := (Rd.alloc rd6 (Nat.le_refl _) (.cells #[.string np, .int .i64 uk, .string ut, .bool uo] 32)).more (B' := (w6.alloc (.cells #[.string np, .int .i64 uk, .string ut, .bool uo] 32)).heap.size) (by rw [World.size_alloc]; exact Nat.le_succ _)
        obtain ⟨u0, u1, u2, u3, ufr, uz⟩ := hu7.four
        obtain ⟨v0, v1, v2, v3, vfr, vz⟩ := hv7.four
        go_wp2_with fail
        generalize w6.alloc (.cells #[.string np, .int .i64 uk, .string ut, .bool uo] 32) = w7 at *
        clear hB6 hu6 rd6 hu7 hv7
        clear u0 u1 u2 u3 ufr uz v0 v1 v2 v3 vfr vz
        refine (get_any A c l d w7 ((hl.below hB7).more hB7.size) HS.out hd (by omega)).mono ?_
        rintro e w8 ⟨r3, rfl, hr, hb⟩
        have HR3 := Lib.hid (hr.2 (.inl RT.out.2.1))
        have rd8 := (Rd.below rd7 hb).more hb.size
        have hB8 := hB7.trans (hb.mono hB7.size)
        have HNO := Lib.hid (show r3.isSome = false → Tr.get l d.data.toList = none from fun h => by rw [← HR3.out]; exact Option.not_isSome_iff_eq_none.1 (by rw [h]; decide))
        clear hr hb hB7 rd7 HR3
        generalize r3.getD En.zero = x at *
        generalize r3.isSome = ok3 at HNO
        obtain ⟨ep, ek, et, eo⟩ := x
        simp only [En.agg, En.cells]
        have hB9 := hB8.alloc hB8.size (.cells #[.string ep, .int .i64 ek, .string et, .bool eo] 32)
        have rd9 := (Rd.alloc rd8 (Nat.le_refl _) (.cells #[.string ep, .int .i64 ek, .string et, .bool eo] 32)).more (B' := (w8.alloc (.cells #[.string ep, .int .i64 ek, .string et, .bool eo] 32)).heap.size) (by rw [World.size_alloc]; exact Nat.le_succ _)
        cases ok3
        rotate_left
        · go_wp2_with fail
          go_ret
          exact ⟨rfl, hB9⟩
        have HBK := Lib.hid (HBACK.out (HNO.out rfl))
        clear HNO HBACK
        go_wp2_with fail
        generalize w8.alloc (.cells #[.string ep, .int .i64 ek, .string et, .bool eo] 32) = w9 at *
        have cM := move_any A2 c2 m d s w9 rd9 hc2 HSM.out hd hs' (by omega)
        unfold MoveRel at cM
        rw [HBK.out] at cM
        dsimp only at cM
        refine cM.mono ?_
        rintro e w10 ⟨v10, rfl, ho, hb⟩
        have hB10 := hB9.trans (hb.mono hB9.size)
        obtain ⟨A3, c3, rfl, hc3, rd10⟩ := EnOwn.rd ho
        clear ho hb hB9 cM
        go_wp2_with fail
        refine (same_any A A3 c c3 l l w10 ((hl.below hB10).more hB10.size) rd10 (by omega) rfl).mono ?_
        rintro e w11 ⟨rfl, hb⟩
        have hB11 := hB10.trans (hb.mono hB10.size)
        go_wp2_with fail
        go_ret
        exact ⟨rfl, hB11⟩
end Go.Proofs.YtjppfhgkanbemabDoor
