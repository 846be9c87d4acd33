/-
  The walk of LayerSeen: it returns true.
-/
import Derived.Test.YtjppfhgkanbemaaDoorTrAlive
import Derived.Deep.CutBlock
import Derived.Deep.DeepCutAuto
namespace Go.Proofs.YtjppfhgkanbemaaDoor
open Go.RowKit Go.Shelf Go.Sort

theorem field_fault (a b : Int) (W : World) : (Instr.field 40 (.agg #[.int .i64 a, .int .i64 b]) 0).run Tryd.prog W = .ok (.int .i64 a) W := by kernel_rfl
theorem p_ne {y : En} {p : ByteArray} (h : (y.p.toList == p.toList) = false) : y.P ≠ p.data.toList := by
  rw [beq_eq_false_iff_ne, Lib.toList_data, Lib.toList_data] at h; exact h
theorem p_eq {y : En} {p : ByteArray} (h : (y.p.toList == p.toList) = true) : y.P = p.data.toList := by
  rw [beq_iff_eq, Lib.toList_data, Lib.toList_data] at h; exact h

set_option maxHeartbeats 4000000 in
set_option maxRecDepth 100000 in
theorem layerSeen_any (A B : Option Addr) (c d : Nat) (l t : List En) (p : ByteArray) (w : World) (hl : EnRd w w.heap.size A l) (ht : EnRd w w.heap.size B t) (hc : l.length ≤ c) (hd : t.length ≤ d) (hs : Sm l) (hst : Sm t) (hn : l.length ≤ 2305843009213693952) (hnt : t.length ≤ 2305843009213693952) (hp : p.size < 4294967281) :
    Calls Tryd.prog 6 #[.slice A l.length c, .slice B t.length d, .string p] w fun e w' => e = .returned (.bool true) ∧ Below w.heap.size w w' := by
  have hfd := field_fault
  have HS := Lib.hid hs
  have HSt := Lib.hid hst
  clear hs hst
  have hB := Below.refl w.heap.size w
  go_enter Tryd.func6, Tryd.ntmps6
  go_wp2_with fail
  refine (layAlive_any w).mono ?_
  rintro e w1 ⟨rfl, hb⟩
  replace hB := hb
  clear hb
  have cO := over_any A B c d l t w1 ((hl.below hB).more hB.size) ((ht.below hB).more hB.size) hc hd HS.out HSt.out hn hnt
  unfold OverRel at cO
  obtain ⟨ov, hov⟩ : ∃ ov, ov = Tr.over l t := ⟨_, rfl⟩
  rw [← hov] at cO
  have HO := Lib.hid hov.symm
  clear hov
  obtain ⟨res, err⟩ := ov
  dsimp only at cO
  go_wp2_with fail
  refine cO.mono ?_
  rintro e w2 ⟨v, rfl, ho2, hb⟩
  replace hB := hB.trans (hb.mono hB.size)
  clear hb cO
  rcases te : (err != 0) with _ | _
  rotate_left
  · have hr : res = [] := by
      have := Tr.over_none (l := l) (t := t) (by rw [HO.out]; simpa using te)
      rw [HO.out] at this; exact this
    subst hr
    obtain ⟨A2, c2, rfl, _, _⟩ := EnOwn.rd ho2
    clear ho2
    rw [show ([] : List En).length = 0 from rfl]
    go_wp2_with fail
    go_ret
    exact ⟨rfl, hB⟩
  have he0 : err = 0 := by simpa using te
  have HK := Lib.hid (Tr.over_ok (l := l) (t := t) (by rw [HO.out]; exact he0))
  have HR : Hid (res = Tr.overL l t) := Lib.hid (by have h := HK.out.2.2.2.2.2; rw [HO.out] at h; exact congrArg Prod.fst h)
  have RR := Lib.hid (show res.length ≤ 80 ∧ Tr.Right false res from by rw [HR.out]; exact ⟨HK.out.2.2.2.2.1, Tr.over_right HK.out.2.1 HK.out.2.2.2.1⟩)
  have hwr : Hid ((Tr.wrong res false).1 = 0) := Lib.hid ((Tr.wrong_zero res false).2 RR.out)
  clear he0 HO
  obtain ⟨A2, c2, rfl, hc2, rd2⟩ := EnOwn.rd ho2
  have hn2 : res.length ≤ 2305843009213693952 := by have := RR.out.1; omega
  have cW := wrongT_any A2 c2 res w2 rd2 hc2 (Tr.right_sm RR.out.2) hn2
  clear ho2
  obtain ⟨pw, hpw⟩ : ∃ pw, pw = Tr.wrong res false := ⟨_, rfl⟩
  rw [← hpw] at cW hwr
  obtain ⟨z1, z2⟩ := pw
  dsimp only at cW hwr
  obtain rfl : z1 = 0 := hwr.out
  clear hpw hwr
  have HEr := Lib.hid (show err = 0 from by simpa using te)
  go_wp2_with fail
  refine cW.mono ?_
  rintro e w3 ⟨rfl, hb⟩
  have rd3 := (Rd.below rd2 hb).more hb.size
  replace hB := hB.trans (hb.mono hB.size)
  clear hb cW rd2
  rcases empty_cases p with ⟨_, g1, g2⟩ | ⟨hP, g1, g2⟩
  · go_wp2_with fail
    go_ret
    exact ⟨rfl, hB⟩
  have HP := Lib.hid hP
  clear hP
  go_wp2_with fail
  refine (get_any A2 c2 res p w3 rd3 (Tr.right_sm RR.out.2) hp hn2).mono ?_
  rintro e w4 ⟨r, rfl, hr, hb⟩
  replace hB := hB.trans (hb.mono hB.size)
  have HG : Hid (r = Tr.get (Tr.overL l t) p.data.toList) := Lib.hid (by rw [← HR.out]; exact hr.2 (.inl RR.out.2.2.1))
  clear hb hr rd3 RR HR hc2 hn2
  obtain ⟨a, ha⟩ : ∃ a, a = r.getD En.zero := ⟨_, rfl⟩
  obtain ⟨ok, hok⟩ : ∃ ok, ok = r.isSome := ⟨_, rfl⟩
  rw [← ha, ← hok]
  have HA := Lib.hid ha
  have HOK := Lib.hid hok
  clear ha hok
  obtain ⟨ap, ak, at_, ao⟩ := a
  simp only [En.agg, En.cells]
  go_upto_block 0 with fail
  have hB4 := hB.alloc hB.size (.cells #[.string ap, .int .i64 ak, .string at_, .bool ao] 43)
  have hq4 := Blk.new w4 43 [.string ap, .int .i64 ak, .string at_, .bool ao]
  have hgq : w.heap.size ≤ w4.heap.size := hB.size
  clear hB
  generalize w4.alloc (.cells #[.string ap, .int .i64 ak, .string at_, .bool ao] 43) = w5 at *
  generalize w4.heap.size = gq at *
  go_wp2_with fail
  go_loopw [46] (fun i wr => ∃ k : Nat, k ≤ l.length ∧ i = .int .i64 k ∧ Hid (∀ y ∈ l.take k, y.P ≠ p.data.toList) ∧ Blk wr gq 43 [.string ap, .int .i64 ak, .string at_, .bool ao] ∧ Below w.heap.size w wr) (fun i _ => l.length - (intOf i).toNat)
  case atStart => exact ⟨0, Nat.zero_le _, rfl, Lib.hid (fun y hy => by simp at hy), hq4, hB4⟩
  case round =>
    clear hB4 hq4
    obtain ⟨k, hk, rfl, HNo, hq, hB⟩ := hrel
    by_cases hlt : k < l.length
    · obtain ⟨b, o, rfl, hb, h0, h1, h2, h3⟩ := (EnRd.at_ (hl.below hB) hlt)
      have HSeen := Lib.hid (fun e => Tr.seen_own HK.out.2.1 HK.out.2.2.2.1 HP.out (List.getElem_mem hlt) e)
      have HNx : Hid (l[k].P ≠ p.data.toList → ∀ y ∈ l.take (k + 1), y.P ≠ p.data.toList) := Lib.hid (fun h y hy => by
        rw [List.take_succ_eq_append_getElem hlt, List.mem_append, List.mem_singleton] at hy
        rcases hy with hy | rfl
        · exact HNo.out y hy
        · exact h)
      have hgb : gq < wr.heap.size := hq.lt
      generalize l[k] = y at h0 h1 h2 h3 HSeen HNx
      obtain ⟨yp, yk, yt, yo⟩ := y
      dsimp only at h0 h1 h2 h3
      rcases hpe : (yp.toList == p.toList) with _ | _
      · have HN := Lib.hid (HNx.out (p_ne hpe))
        have hq6 := hq.alloc (.cells #[.string yp, .int .i64 yk, .string yt, .bool yo] 43)
        have hB6 := hB.alloc hB.size (.cells #[.string yp, .int .i64 yk, .string yt, .bool yo] 43)
        go_wp2_with fail
        go_roundw
        case rel => exact ⟨k + 1, by omega, by go_num, HN, hq6, hB6⟩
        case measure => simp [intOf]; omega
      · have HS1 := Lib.hid (HG.out.trans (HSeen.out (p_eq hpe)))
        have hB6 := hB.alloc hB.size (.cells #[.string yp, .int .i64 yk, .string yt, .bool false] 43)
        have hq6 := hq.alloc (.cells #[.string yp, .int .i64 yk, .string yt, .bool false] 43)
        obtain ⟨q0, q1, q2, q3, qf, qz⟩ := hq6.four
        rcases tk : (yk != 4) with _ | _
        · have hr : r = none := by rw [HS1.out, if_pos (by simpa using tk)]
          have hok : ok = false := by rw [HOK.out, hr]; rfl
          subst hok
          clear hr
          go_wp2_with fail
          go_ret
          exact ⟨rfl, hB6⟩
        · have hr : r = some ⟨yp, yk, yt, false⟩ := by rw [HS1.out, if_neg (by simpa using tk)]; rfl
          have hok : ok = true := by rw [HOK.out, hr]; rfl
          have ha := HA.out
          rw [hr] at ha
          simp only [Option.getD_some, En.mk.injEq] at ha
          obtain ⟨rfl, rfl, rfl, rfl⟩ := ha
          subst hok
          clear hr
          go_wp2_with fail
          go_ret
          exact ⟨rfl, hB6⟩
    · obtain rfl : k = l.length := by omega
      have HS1 : Hid (r = if Tr.hides l p.data.toList then none else Tr.get t p.data.toList) := Lib.hid (HG.out.trans (Tr.seen_low HK.out.2.1 HK.out.2.2.2.1 HP.out (fun y hy => HNo.out y (by rw [List.take_length]; exact hy))))
      clear HNo HG
      go_wp2_with fail
      refine (get_any B d t p wr ((ht.below hB).more hB.size) HSt.out hp hnt).mono ?_
      rintro e w6 ⟨r2, rfl, hr2, hb⟩
      have hB6 := hB.trans (hb.mono hB.size)
      have hq6 := hq.below hb hq.lt
      have HG2 := Lib.hid (hr2.2 (.inl HK.out.2.2.2.1.2.1))
      clear hr2 hb hB hq
      rcases r2 with _ | z
      · have hr : r = none := by rw [HS1.out, ← HG2.out]; split <;> rfl
        have hok : ok = false := by rw [HOK.out, hr]; rfl
        subst hok
        clear hr
        have hB7 := hB6.alloc hB6.size (.cells #[.string ⟨#[]⟩, .int .i64 0, .string ⟨#[]⟩, .bool false] 43)
        simp only [Option.getD_none, Option.isSome_none, En.zero, En.agg, En.cells]
        go_wp2_with fail
        go_ret
        exact ⟨rfl, hB7⟩
      · obtain ⟨zp, zk, zt, zo⟩ := z
        have hB7 := hB6.alloc hB6.size (.cells #[.string zp, .int .i64 zk, .string zt, .bool zo] 43)
        have hq7 := hq6.alloc (.cells #[.string zp, .int .i64 zk, .string zt, .bool zo] 43)
        have hz7 := Blk.new w6 43 [.string zp, .int .i64 zk, .string zt, .bool zo]
        simp only [Option.getD_some, Option.isSome_some, En.agg, En.cells]
        go_wp2_with fail
        clear hB6 hq6
        generalize w6.alloc (.cells #[.string zp, .int .i64 zk, .string zt, .bool zo] 43) = w7 at *
        generalize w6.heap.size = gz at *
        refine (hides_any A c l p w7 ((hl.below hB7).more hB7.size) HS.out HK.out.2.1.2.1 hp hn).mono ?_
        rintro e w8 ⟨rfl, hb⟩
        have hB8 := hB7.trans (hb.mono hB7.size)
        have hq8 := hq7.below hb hq7.lt
        have hz8 := hz7.below hb hz7.lt
        clear hb hB7 hq7 hz7
        obtain ⟨q0, q1, q2, q3, qf, qz⟩ := hq8.four
        obtain ⟨z0, z1, z2, z3, zf, zz⟩ := hz8.four
        rcases th : Tr.hides l p.data.toList with _ | _
        · have hr : r = some ⟨zp, zk, zt, zo⟩ := by rw [HS1.out, th, ← HG2.out]; rfl
          have hok : ok = true := by rw [HOK.out, hr]; rfl
          have ha := HA.out
          rw [hr] at ha
          simp only [Option.getD_some, En.mk.injEq] at ha
          obtain ⟨rfl, rfl, rfl, rfl⟩ := ha
          subst hok
          clear hr
          go_wp2_with fail
          go_ret
          exact ⟨rfl, hB8⟩
        · have hr : r = none := by rw [HS1.out, th]; rfl
          have hok : ok = false := by rw [HOK.out, hr]; rfl
          subst hok
          clear hr
          go_wp2_with fail
          go_ret
          exact ⟨rfl, hB8⟩
end Go.Proofs.YtjppfhgkanbemaaDoor
