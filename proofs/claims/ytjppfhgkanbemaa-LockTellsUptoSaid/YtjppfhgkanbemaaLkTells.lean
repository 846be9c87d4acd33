/-
  The walk of LockTells: it returns true. (Printed by wip/gentells.py.)
-/
import Derived.Test.YtjppfhgkanbemaaLkSet
import Derived.Test.YtjppfhgkanbemaaLkSame
import Derived.Test.YtjppfhgkanbemaaLkAlive
import Derived.Deep.CutBlock
import Derived.Deep.DeepCutAuto
namespace Go.Proofs.Ytjppfhgkanbemaa
open Go.RowKit

theorem leave_yes {l : List Lk} {k : Nat} (hk : k < l.length) (o : Int) (h : (l[k].o != o) = true) : Lk.leave (l.take (k + 1)) o = Lk.leave (l.take k) o ++ [l[k]] := by
  rw [List.take_succ_eq_append_getElem hk]; unfold Lk.leave; rw [List.filter_append]; simp [h]
theorem leave_no {l : List Lk} {k : Nat} (hk : k < l.length) (o : Int) (h : (l[k].o != o) = false) : Lk.leave (l.take (k + 1)) o = Lk.leave (l.take k) o := by
  rw [List.take_succ_eq_append_getElem hk]; unfold Lk.leave; rw [List.filter_append]; simp [h]

set_option maxHeartbeats 16000000 in
set_option maxRecDepth 100000 in
theorem lockTells_any (A : Option Addr) (c : Nat) (l : List Lk) (x : Lk) (w : World) (hl : LkRd w w.heap.size A l) (hc : l.length ≤ c) (hbig : l.length ≤ 2000000) :
    Calls Try.prog 3 #[.slice A l.length c, .agg #[.int .i64 x.o, .int .i64 x.f, .int .i64 x.t, .bool x.a]] w fun e w' => e = .returned (.bool true) ∧ Below w.heap.size w w' := by
  obtain ⟨i0, hi, hz0, hz1, hz2⟩ := info_parts info_lk
  obtain ⟨xo, xf, xt, xa⟩ := x
  dsimp only
  have hB0 : Below w.heap.size w (w.alloc (.cells #[.int .i64 xo, .int .i64 xf, .int .i64 xt, .bool xa] 24)) := (Below.refl _ _).alloc (Nat.le_refl _) _
  have hx0 := Blk.new w 24 [.int .i64 xo, .int .i64 xf, .int .i64 xt, .bool xa]
  go_enter Try.func3, Try.ntmps3
  go_wp2_with fail
  generalize w.alloc (.cells #[.int .i64 xo, .int .i64 xf, .int .i64 xt, .bool xa] 24) = w0 at *
  refine (wrong_any A c l w0 ((hl.below hB0).more hB0.size) hc (by omega)).mono ?_
  rintro e w1 ⟨rfl, hb1⟩
  have hB1 := hB0.trans (hb1.mono hB0.size)
  have hx1 := hx0.below hb1 hx0.lt
  clear hB0 hx0 hb1
  go_wp2_with fail
  refine (refWrong_any A c l w1 ((hl.below hB1).more hB1.size) hc (by omega)).mono ?_
  rintro e w2 ⟨rfl, hb2⟩
  have hB2 := hB1.trans (hb2.mono hB1.size)
  have hx2 := hx1.below hb2 hx1.lt
  clear hB1 hx1 hb2
  generalize (Lk.wrong l).1 = e1
  generalize (Lk.wrong l).2 = p1
  obtain ⟨x0, x1, x2, x3, xfr, xz⟩ := hx2.four
  go_wp2_with fail
  refine (meets_any A c l ⟨xo, xf, xt, xa⟩ w2 ((hl.below hB2).more hB2.size) (by omega)).mono ?_
  rintro e w3 ⟨rfl, hb3⟩
  have hB3 := hB2.trans (hb3.mono hB2.size)
  have hx3 := hx2.below hb3 hx2.lt
  clear hB2 hx2 hb3 x0 x1 x2 x3 xfr xz
  have HM := Lib.hid (fun (k : Nat) (hk : k < l.length) (h1 : ∀ y ∈ l.take k, Lk.clash y ⟨xo, xf, xt, xa⟩ = false) (h2 : Lk.clash l[k] ⟨xo, xf, xt, xa⟩ = true) => Lk.meets_found hk h1 h2)
  have HO := Lib.hid (fun (h1 : ∀ y ∈ l, Lk.clash y ⟨xo, xf, xt, xa⟩ = false) => (show Lk.meets l ⟨xo, xf, xt, xa⟩ = none by unfold Lk.meets; rw [List.find?_eq_none]; intro y hy; simp [h1 y hy]))
  generalize Lk.meets l ⟨xo, xf, xt, xa⟩ = mm at HM HO
  obtain ⟨⟨mo, mf, mt, ma⟩, hmm⟩ : ∃ my : Lk, my = mm.getD Lk.zero := ⟨_, rfl⟩
  rw [← hmm]
  have HMM := Lib.hid hmm
  clear hmm
  obtain ⟨mb, hmb⟩ : ∃ mb, mb = mm.isSome := ⟨_, rfl⟩
  rw [← hmb]
  have HMB := Lib.hid hmb
  clear hmb
  simp only [Lk.agg, Lk.cells]
  go_upto_block 0 with fail
  have hx4 := hx3.alloc (.cells #[.int .i64 mo, .int .i64 mf, .int .i64 mt, .bool ma] 24)
  have hB4 := hB3.alloc hB3.size (.cells #[.int .i64 mo, .int .i64 mf, .int .i64 mt, .bool ma] 24)
  have hy4 := Blk.new w3 24 [.int .i64 mo, .int .i64 mf, .int .i64 mt, .bool ma]
  have hgy : w.heap.size < w3.heap.size := hx3.lt
  clear hx3 hB3
  generalize w3.alloc (.cells #[.int .i64 mo, .int .i64 mf, .int .i64 mt, .bool ma] 24) = w4 at *
  generalize w3.heap.size = gy at *
  go_cut [6] (fun ok wx => ok = .bool false ∧ Blk wx w.heap.size 24 [.int .i64 xo, .int .i64 xf, .int .i64 xt, .bool xa] ∧ Blk wx gy 24 [.int .i64 0, .int .i64 0, .int .i64 0, .bool false] ∧ Below w.heap.size w wx)
  case first =>
    go_wp2_with fail
    go_loopw [6, 30] (fun ok i wr => ∃ k : Nat, k ≤ l.length ∧ i = .int .i64 k ∧ ok = .bool mb ∧ Hid (∀ y ∈ l.take k, Lk.clash y ⟨xo, xf, xt, xa⟩ = false) ∧ Blk wr w.heap.size 24 [.int .i64 xo, .int .i64 xf, .int .i64 xt, .bool xa] ∧ Blk wr gy 24 [.int .i64 mo, .int .i64 mf, .int .i64 mt, .bool ma] ∧ Below w.heap.size w wr) (fun _ i _ => l.length - (intOf i).toNat)
    case atStart => exact ⟨0, Nat.zero_le _, rfl, rfl, Lib.hid (fun y hy => by simp at hy), hx4, hy4, hB4⟩
    case round =>
      obtain ⟨k, hk, rfl, rfl, HC, hx5, hy5, hB5⟩ := hrel
      clear hx4 hy4 hB4
      obtain ⟨x0, x1, x2, x3, xfr, xz⟩ := hx5.four
      by_cases hlt : k < l.length
      · obtain ⟨b, o, hA, hbl, z0, z1, z2, z3⟩ := (LkRd.at_ (hl.below hB5) hlt)
        subst hA
        have HF := Lib.hid (HM.out k hlt HC.out)
        have HS := Lib.hid (show Lk.clash l[k] ⟨xo, xf, xt, xa⟩ = false → ∀ y ∈ l.take (k + 1), Lk.clash y ⟨xo, xf, xt, xa⟩ = false from fun h y hy => by
          rw [List.take_succ_eq_append_getElem hlt] at hy
          rcases List.mem_append.1 hy with hy | hy
          · exact HC.out y hy
          · rw [List.mem_singleton.1 hy]; exact h)
        generalize l[k] = z at z0 z1 z2 z3 HF HS
        obtain ⟨zo, zf, zt, za⟩ := z
        dsimp only at z0 z1 z2 z3
        go_wp2_with fail
        refine (refClash_any ⟨zo, zf, zt, za⟩ ⟨xo, xf, xt, xa⟩ _).mono ?_
        rintro e w6 ⟨rfl, hb6⟩
        have q3 := hB5.alloc hB5.size (.cells #[.int .i64 zo, .int .i64 zf, .int .i64 zt, .bool za] 24)
        have hB6 := q3.trans (hb6.mono q3.size)
        have hx6 := (hx5.alloc (.cells #[.int .i64 zo, .int .i64 zf, .int .i64 zt, .bool za] 24)).below hb6 (by simp; omega)
        have hy6 := (hy5.alloc (.cells #[.int .i64 zo, .int .i64 zf, .int .i64 zt, .bool za] 24)).below hb6 (by have := hy5.lt; simp; omega)
        have hz6 := (Blk.new wr 24 [.int .i64 zo, .int .i64 zf, .int .i64 zt, .bool za]).below hb6 (by simp)
        have hgz : w.heap.size < wr.heap.size := hx5.lt
        clear q3 hb6 x0 x1 x2 x3 xfr xz z0 z1 z2 z3 hx5 hy5 hB5
        generalize wr.heap.size = gz at *
        obtain ⟨x0, x1, x2, x3, xfr, xz⟩ := hx6.four
        obtain ⟨y0, y1, y2, y3, yfr, yz⟩ := hy6.four
        obtain ⟨z0, z1, z2, z3, zfr, zz⟩ := hz6.four
        rcases hcl : Lk.clash ⟨zo, zf, zt, za⟩ ⟨xo, xf, xt, xa⟩ with _ | _
        · have HN := Lib.hid (HS.out hcl)
          go_wp2_with fail
          go_roundw
          case rel => exact ⟨k + 1, by omega, by go_num, rfl, HN, hx6, hy6, hB6⟩
          case measure => simp [intOf]; omega
        · have hmm := HF.out hcl
          have h1 := HMM.out
          have h2 := HMB.out
          rw [hmm] at h1 h2
          simp only [Option.getD_some, Lk.mk.injEq] at h1
          obtain ⟨rfl, rfl, rfl, rfl⟩ := h1
          obtain rfl : mb = true := h2
          clear hmm
          have hneY : w.heap.size ≠ gy := by omega
          go_wp2_with fail
          go_meet
          case rel => exact ⟨rfl, (((hx6.far hneY _).far hneY _).far hneY _).far hneY _, (((hy6.set_ 0 _).set_ 1 _).set_ 2 _).set_ 3 _, (((hB6.setCell (by show w.heap.size ≤ gy; omega) _).setCell (by show w.heap.size ≤ gy; omega) _).setCell (by show w.heap.size ≤ gy; omega) _).setCell (by show w.heap.size ≤ gy; omega) _⟩
      · obtain rfl : k = l.length := by omega
        have hmm := HO.out (by have h := HC.out; rw [List.take_length] at h; exact h)
        have h1 := HMM.out
        have h2 := HMB.out
        rw [hmm] at h1 h2
        simp only [Option.getD_none, Lk.zero, Lk.mk.injEq] at h1
        obtain ⟨rfl, rfl, rfl, rfl⟩ := h1
        obtain rfl : mb = false := h2
        clear hmm
        go_wp2_with fail
        go_meet
        case rel => exact ⟨rfl, hx5, hy5, hB5⟩
  case rest =>
    clear hx4 hy4 hB4 HM HO HMM HMB
    obtain ⟨rfl, hx5, hy5, hB5⟩ := hcut
    obtain ⟨x0, x1, x2, x3, xfr, xz⟩ := hx5.four
    obtain ⟨y0, y1, y2, y3, yfr, yz⟩ := hy5.four
    go_upto_if 53 with fail
    go_cut [9] (fun h wx => h = .int .i64 (Lk.way xa) ∧ wx = wc)
    case first =>
      cases xa
      · go_wp2_with fail
        go_meet
        case rel => exact ⟨rfl, rfl⟩
      · go_wp2_with fail
        go_meet
        case rel => exact ⟨rfl, rfl⟩
    case rest =>
      obtain ⟨rfl, hwc⟩ := hcut
      subst hwc
      clear hy5 y0 y1 y2 y3 yfr yz
      have hBa := hB5
      have hxa := hx5
      clear hB5 hx5
      go_wp2_with fail
      refine (take_any A c l ⟨xo, xf, xt, xa⟩ _ ((hl.below hBa).more hBa.size) hc (by omega)).mono ?_
      rintro e w5 ⟨v5, m5, err5, rfl, hT, ho5, hb5⟩
      have hB5 := hBa.trans (hb5.mono hBa.size)
      have hx5 := hxa.below hb5 hxa.lt
      have hm5 := take_le hT
      obtain ⟨A5, c5, rfl, hc5, rd5⟩ := LkOwn.rd ho5
      clear hb5 ho5 hBa hxa x0 x1 x2 x3 xfr xz
      obtain ⟨x0, x1, x2, x3, xfr, xz⟩ := hx5.four
      go_wp2_with fail
      refine (setLock_any A c l ⟨xo, xf, xt, xa⟩ (Lk.way xa) _ ((hl.below hB5).more hB5.size) hc (by omega) (.inr ⟨xa, rfl⟩)).mono ?_
      rintro e w6 ⟨v6, m6, err6, rfl, ho6, hS, hb6⟩
      obtain ⟨rfl, rfl⟩ := take_set hT hS
      have hB6 := hB5.trans (hb6.mono hB5.size)
      have hx6 := hx5.below hb6 hx5.lt
      have rd5' := (Rd.below rd5 hb6).more hb6.size
      obtain ⟨A6, c6, rfl, hc6, rd6⟩ := LkOwn.rd ho6
      clear hb6 ho6 hT hS rd5 hB5 hx5 x0 x1 x2 x3 xfr xz
      obtain ⟨x0, x1, x2, x3, xfr, xz⟩ := hx6.four
      go_wp2_with fail
      refine (sameLocks_any A5 A6 c5 c6 m5 m5 _ rd5' rd6 (by omega) (by omega) rfl).mono ?_
      rintro e w7 ⟨rfl, hb7⟩
      have hB7 := hB6.trans (hb7.mono hB6.size)
      have hx7 := hx6.below hb7 hx6.lt
      clear hb7 rd5' rd6 hB6 hx6 x0 x1 x2 x3 xfr xz hc5 hc6 hm5
      obtain ⟨x0, x1, x2, x3, xfr, xz⟩ := hx7.four
      go_wp2_with fail
      refine (free_any A c l ⟨xo, xf, xt, xa⟩ _ ((hl.below hB7).more hB7.size) hc (by omega)).mono ?_
      rintro e w8 ⟨v8, m8, err8, rfl, hT, ho8, hb8⟩
      have hB8 := hB7.trans (hb8.mono hB7.size)
      have hx8 := hx7.below hb8 hx7.lt
      have hm8 := free_le hT
      obtain ⟨A8, c8, rfl, hc8, rd8⟩ := LkOwn.rd ho8
      clear hb8 ho8 hB7 hx7 x0 x1 x2 x3 xfr xz
      obtain ⟨x0, x1, x2, x3, xfr, xz⟩ := hx8.four
      go_wp2_with fail
      refine (setLock_any A c l ⟨xo, xf, xt, xa⟩ 0 _ ((hl.below hB8).more hB8.size) hc (by omega) (.inl rfl)).mono ?_
      rintro e w9 ⟨v9, m9, err9, rfl, ho9, hS, hb9⟩
      obtain ⟨rfl, rfl⟩ := free_set hT hS
      have hB9 := hB8.trans (hb9.mono hB8.size)
      have hx9 := hx8.below hb9 hx8.lt
      have rd8' := (Rd.below rd8 hb9).more hb9.size
      obtain ⟨A9, c9, rfl, hc9, rd9⟩ := LkOwn.rd ho9
      clear hb9 ho9 hT hS rd8 hB8 hx8 x0 x1 x2 x3 xfr xz
      obtain ⟨x0, x1, x2, x3, xfr, xz⟩ := hx9.four
      go_wp2_with fail
      refine (sameLocks_any A8 A9 c8 c9 m8 m8 _ rd8' rd9 (by omega) (by omega) rfl).mono ?_
      rintro e w10 ⟨rfl, hb10⟩
      have hB10 := hB9.trans (hb10.mono hB9.size)
      have hx10 := hx9.below hb10 hx9.lt
      clear hb10 rd8' rd9 hB9 hx9 x0 x1 x2 x3 xfr xz hc8 hc9 hm8
      obtain ⟨x0, x1, x2, x3, xfr, xz⟩ := hx10.four
      go_wp2_with fail
      go_loopw [14, 99] (fun v i wr => ∃ k : Nat, k ≤ l.length ∧ i = .int .i64 k ∧ LkOwn wr (w.heap.size + 1) v (Lk.leave (l.take k) xo) ∧ Blk wr w.heap.size 24 [.int .i64 xo, .int .i64 xf, .int .i64 xt, .bool xa] ∧ Below w.heap.size w wr) (fun _ i _ => l.length - (intOf i).toNat)
      case atStart => exact ⟨0, Nat.zero_le _, rfl, World.ownsRow_nil _ _ _ _, hx10, hB10⟩
      case round =>
        obtain ⟨k, hk, rfl, hown, hx11, hB11⟩ := hrel
        clear x0 x1 x2 x3 xfr xz hB10 hx10
        obtain ⟨x0, x1, x2, x3, xfr, xz⟩ := hx11.four
        by_cases hlt : k < l.length
        · obtain ⟨b, o, rfl, hbl, z0, z1, z2, z3⟩ := (LkRd.at_ (hl.below hB11) hlt)
          have HY := Lib.hid (leave_yes hlt xo)
          have HNO := Lib.hid (leave_no hlt xo)
          have hle : (Lk.leave (l.take k) xo).length ≤ k := by
            have h1 := List.length_filter_le (fun y : Lk => y.o != xo) (l.take k)
            rw [List.length_take] at h1
            exact Nat.le_trans h1 (by omega)
          generalize l[k] = z at z0 z1 z2 z3 HY HNO
          obtain ⟨zo, zf, zt, za⟩ := z
          dsimp only at z0 z1 z2 z3 HY HNO
          have hx12 := hx11.alloc (.cells #[.int .i64 zo, .int .i64 zf, .int .i64 zt, .bool za] 24)
          have hB12 := hB11.alloc hB11.size (.cells #[.int .i64 zo, .int .i64 zf, .int .i64 zt, .bool za] 24)
          have ho12 := own_alloc hown (.cells #[.int .i64 zo, .int .i64 zf, .int .i64 zt, .bool za] 24)
          have hne : some w.heap.size ≠ u14.ownBlock := own_ne hown (.inl (Nat.lt_succ_self _))
          rcases t1 : (zo != xo) with _ | _
          · have HT := Lib.hid (HNO.out t1)
            go_wp2_with fail
            go_roundw
            case rel => exact ⟨k + 1, by omega, by go_num, by rw [HT.out]; exact ho12, hx12, hB12⟩
            case measure => simp [intOf]; omega
          · have HT := Lib.hid (HY.out t1)
            go_wp2_with (at_builtin; go_must (refine wpList_app1 (wr.alloc (.cells #[.int .i64 zo, .int .i64 zf, .int .i64 zt, .bool za] 24)) rfl _ _ _ rfl (w.heap.size + 1) 24 i0 _ 4 32 Try.underlying22 hi hz0 hz1 hz2 rfl (by decide) u14 _ _ rfl ho12 [.int .i64 zo, .int .i64 zf, .int .i64 zt, .bool za] (by rw [World.size_alloc]; rfl) rfl (by simp [Value.oneCell']) (by omega) (by decide) (by have := hx12.lt; omega) _ rfl ?_); intro v13 w13 own13 hg13 _)
            go_roundw
            case rel => exact ⟨k + 1, by omega, by go_num, LkOwn.snoc (y := ⟨zo, zf, zt, za⟩) own13 HT.out, hx12.grown hg13 hne, hB12.grown hg13 hB12.size (fun q e' => by have := (World.ownsRow.lt ho12 q e').1; omega)⟩
            case measure => simp [intOf]; omega
        · obtain rfl : k = l.length := by omega
          rw [List.take_length] at hown
          go_wp2_with fail
          refine (leaveL_any A c l xo _ ((hl.below hB11).more hB11.size) (by omega)).mono ?_
          rintro e w14 ⟨v14, rfl, ho14, hb14⟩
          have hB14 := hB11.trans (hb14.mono hB11.size)
          have hown14 := own_below hown hb14 (Nat.le_refl _)
          have hle : (Lk.leave l xo).length ≤ l.length := List.length_filter_le _ _
          obtain ⟨A14, c14, rfl, hc14, rd14⟩ := LkOwn.rd ho14
          obtain ⟨A15, c15, e15, hc15, rd15⟩ := LkOwn.rd hown14
          subst e15
          clear x0 x1 x2 x3 xfr xz hB11 hx11 hb14 ho14 hown hown14
          go_wp2_with fail
          refine (sameLocks_any A14 A15 c14 c15 (Lk.leave l xo) (Lk.leave l xo) _ rd14 rd15 (by omega) (by omega) rfl).mono ?_
          rintro e w16 ⟨rfl, hb16⟩
          go_wp2_with fail
          go_ret
          exact ⟨rfl, hB14.trans (hb16.mono hB14.size)⟩
end Go.Proofs.Ytjppfhgkanbemaa
