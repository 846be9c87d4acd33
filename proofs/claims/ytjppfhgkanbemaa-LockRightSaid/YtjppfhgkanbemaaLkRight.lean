/-
  The walk of tracelaw5.LockRight: it answers true.
-/
import Derived.Test.YtjppfhgkanbemaaLkByteLaw
namespace Go.Proofs.Ytjppfhgkanbemaa
open Go.RowKit

set_option maxHeartbeats 4000000 in
set_option maxRecDepth 100000 in
theorem lockRight_any (A F : Option Addr) (c cf : Nat) (l : List Lk) (fr : List Bool) (w : World) (hl : LkRd w w.heap.size A l) (hbig : l.length ≤ 9223372036854775807)
    (hf : Rd w w.heap.size 1 F fr.length (fr.map Value.bool)) (hfbig : fr.length ≤ 9223372036854775807) :
    Calls Try.prog 4 #[.slice A l.length c, .slice F fr.length cf] w fun e w' => e = .returned (.bool true) ∧ Below w.heap.size w w' := by
  have hfd := field_fault
  go_enter Try.func4, Try.ntmps4
  go_wp2_with fail
  refine (alive_any w).mono ?_
  rintro e w0 ⟨rfl, hB⟩
  go_wp2_with fail
  go_loopw [5, 14] (fun v i wr => ∃ (k : Nat) (M : Option Addr) (cm : Nat) (m : List Lk), k ≤ l.length ∧ i = .int .i64 k ∧ v = .slice M m.length cm ∧ m.length ≤ cm ∧ m.length ≤ 40 ∧ LkRd wr wr.heap.size M m ∧ Below w.heap.size w wr) (fun _ i _ => l.length - (intOf i).toNat)
  case atStart => exact ⟨0, none, 0, [], Nat.zero_le _, rfl, rfl, Nat.le_refl _, by decide, Rd.nil, hB⟩
  case round =>
    obtain ⟨k, M, cm, m, hk, rfl, rfl, hmc, hm40, hmr, hB0⟩ := hrel
    clear hB
    by_cases hlt : k < l.length
    · obtain ⟨bl, ol, rfl, hbl, hat⟩ := (LkRd.at_ (hl.below hB0) hlt)
      obtain ⟨h0, h1, h2, h3⟩ := hat
      generalize l[k] = y at h0 h1 h2 h3
      obtain ⟨yo, yf, yt, ya⟩ := y
      dsimp only at h0 h1 h2 h3
      go_wp2_with fail
      clear h0 h1 h2 h3
      have hB1 := hB0.alloc hB0.size (.cells #[.int .i64 yo, .int .i64 yf, .int .i64 yt, .bool ya] 24)
      have hy1 : Blk (wr.alloc (.cells #[.int .i64 yo, .int .i64 yf, .int .i64 yt, .bool ya] 24)) wr.heap.size 24 [.int .i64 yo, .int .i64 yf, .int .i64 yt, .bool ya] := Blk.new _ _ _
      have hm1 : LkRd (wr.alloc (.cells #[.int .i64 yo, .int .i64 yf, .int .i64 yt, .bool ya] 24)) (wr.alloc (.cells #[.int .i64 yo, .int .i64 yf, .int .i64 yt, .bool ya] 24)).heap.size M m := (Rd.alloc hmr (Nat.le_refl _) _).more (by simp)
      clear hB0 hmr
      generalize wr.alloc (.cells #[.int .i64 yo, .int .i64 yf, .int .i64 yt, .bool ya] 24) = w1 at *
      generalize wr.heap.size = gy at *
      obtain ⟨q0, q1, q2, q3, qf, qz⟩ := hy1.four
      refine (take_any M cm m ⟨yo, yf, yt, ya⟩ w1 hm1 hmc (by omega)).mono ?_
      rintro e w2 ⟨v2, m2, err2, rfl, hr2, hw2, hb⟩
      have ml2 := take_le hr2
      obtain ⟨M2, c2, rfl, hc2, mr2⟩ := hw2.rd
      have hm2 := (Rd.below hm1 hb).more hb.size
      clear hw2 hm1
      have hB2 := hB1.trans (hb.mono hB1.size)
      have hy2 := hy1.below hb hy1.lt
      clear hB1 hy1 q0 q1 q2 q3 qf qz hb
      obtain ⟨q0, q1, q2, q3, qf, qz⟩ := hy2.four
      by_cases hk2 : k < fr.length
      · obtain ⟨bf, of, rfl, hbf, hcf⟩ := (hf.below hB2).2 (by omega)
        have hcb := hcf k (.bool fr[k]) (by rw [List.getElem?_map, List.getElem?_eq_getElem hk2]; rfl)
        clear hcf
        generalize fr[k] = fb at hcb
        rcases fb with _ | _
        · rcases t : (err2 != 0) with _ | _
          · have e0 : err2 = 0 := by simpa using t
            subst e0
            clear t
            have Hz : Hid ((Lk.wrong m2).1 = 0) := Lib.hid ((Lk.wrong_zero _).2 ⟨ml2, (take_zero hr2).2.2.2.2.1⟩)
            clear hr2
            go_wp2_with fail
            have cw := wrong_any M2 c2 m2 w2 mr2 hc2 (by omega)
            generalize hwl : Lk.wrong m2 = wl at cw Hz
            obtain ⟨we, wa⟩ := wl
            obtain rfl : we = 0 := Hz.out
            clear hwl Hz
            refine cw.mono ?_
            rintro e w9 ⟨rfl, hb⟩
            clear cw
            have hB9 := hB2.trans (hb.mono hB2.size)
            have mr9 := (Rd.below mr2 hb).more hb.size
            go_wp2_with fail
            go_roundw
            case rel => exact ⟨k + 1, M2, c2, m2, hlt, by go_num, rfl, hc2, ml2, mr9, hB9⟩
            case measure => simp [intOf]; omega
          · have e0 : m2 = [] := take_none hr2 (by simpa using t)
            subst e0
            clear hr2
            go_wp2_with fail
            go_roundw
            case rel => exact ⟨k + 1, M, cm, m, hlt, by go_num, rfl, hmc, hm40, hm2, hB2⟩
            case measure => simp [intOf]; omega
        · go_wp2_with fail
          refine (free_any M cm m ⟨yo, yf, yt, ya⟩ w2 hm2 hmc (by omega)).mono ?_
          rintro e w3 ⟨v3, m3, err3, rfl, hr3, hw3, hb⟩
          have ml3 := free_le hr3
          obtain ⟨M3, c3, rfl, hc3, mr3⟩ := hw3.rd
          have hm3 := (Rd.below hm2 hb).more hb.size
          clear hw3 hm2 mr2 hr2
          have hB3 := hB2.trans (hb.mono hB2.size)
          have hy3 := hy2.below hb hy2.lt
          clear hB2 hy2 q0 q1 q2 q3 qf qz hb
          obtain ⟨q0, q1, q2, q3, qf, qz⟩ := hy3.four
          rcases t : (err3 != 0) with _ | _
          · have e0 : err3 = 0 := by simpa using t
            subst e0
            clear t
            have Hz : Hid ((Lk.wrong m3).1 = 0) := Lib.hid ((Lk.wrong_zero _).2 ⟨ml3, (free_zero hr3).2.2.2.1⟩)
            clear hr3
            go_wp2_with fail
            have cw := wrong_any M3 c3 m3 w3 mr3 hc3 (by omega)
            generalize hwl : Lk.wrong m3 = wl at cw Hz
            obtain ⟨we, wa⟩ := wl
            obtain rfl : we = 0 := Hz.out
            clear hwl Hz
            refine cw.mono ?_
            rintro e w9 ⟨rfl, hb⟩
            clear cw
            have hB9 := hB3.trans (hb.mono hB3.size)
            have mr9 := (Rd.below mr3 hb).more hb.size
            go_wp2_with fail
            go_roundw
            case rel => exact ⟨k + 1, M3, c3, m3, hlt, by go_num, rfl, hc3, ml3, mr9, hB9⟩
            case measure => simp [intOf]; omega
          · have e0 : m3 = [] := free_none hr3 (by simpa using t)
            subst e0
            clear hr3
            go_wp2_with fail
            go_roundw
            case rel => exact ⟨k + 1, M, cm, m, hlt, by go_num, rfl, hmc, hm40, hm3, hB3⟩
            case measure => simp [intOf]; omega
      · rcases t : (err2 != 0) with _ | _
        · have e0 : err2 = 0 := by simpa using t
          subst e0
          clear t
          have Hz : Hid ((Lk.wrong m2).1 = 0) := Lib.hid ((Lk.wrong_zero _).2 ⟨ml2, (take_zero hr2).2.2.2.2.1⟩)
          clear hr2
          go_wp2_with fail
          have cw := wrong_any M2 c2 m2 w2 mr2 hc2 (by omega)
          generalize hwl : Lk.wrong m2 = wl at cw Hz
          obtain ⟨we, wa⟩ := wl
          obtain rfl : we = 0 := Hz.out
          clear hwl Hz
          refine cw.mono ?_
          rintro e w9 ⟨rfl, hb⟩
          clear cw
          have hB9 := hB2.trans (hb.mono hB2.size)
          have mr9 := (Rd.below mr2 hb).more hb.size
          go_wp2_with fail
          go_roundw
          case rel => exact ⟨k + 1, M2, c2, m2, hlt, by go_num, rfl, hc2, ml2, mr9, hB9⟩
          case measure => simp [intOf]; omega
        · have e0 : m2 = [] := take_none hr2 (by simpa using t)
          subst e0
          clear hr2
          go_wp2_with fail
          go_roundw
          case rel => exact ⟨k + 1, M, cm, m, hlt, by go_num, rfl, hmc, hm40, hm2, hB2⟩
          case measure => simp [intOf]; omega
    · go_wp2_with fail
      go_ret
      exact ⟨rfl, hB0⟩

end Go.Proofs.Ytjppfhgkanbemaa
