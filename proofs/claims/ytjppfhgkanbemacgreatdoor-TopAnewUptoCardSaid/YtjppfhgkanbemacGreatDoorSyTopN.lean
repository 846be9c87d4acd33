/-
  TopAnew's own walk.
-/
import Derived.Test.YtjppfhgkanbemacGreatDoorSyTopA
import Derived.Test.YtjppfhgkanbemacGreatDoorSyTop2
namespace Go.Proofs.YtjppfhgkanbemacGreatDoor
open Go.RowKit Go.Shelf Go.Sort

def newL (p : ByteArray) : List Ca := [Sy.atC 8 Sy.dirAB Sy.noE, Sy.atC 8 Sy.dirBB Sy.noE, Sy.atC 7 Sy.dirB Sy.noE, Sy.atC 6 Sy.dirB Sy.noE, Sy.openA p 26, Sy.atC 11 Sy.dirB Sy.noE]
theorem new_sm {p : ByteArray} (hp : p.size ≤ 1048576) : ∀ x ∈ newL p, CaSm x := fun x hx => by
  simp only [newL, List.mem_cons, List.mem_nil_iff, or_false] at hx
  have z : (0 : Nat) ≤ 1048576 := by omega
  have z3 : (3 : Nat) ≤ 1048576 := by omega
  have z5 : (5 : Nat) ≤ 1048576 := by omega
  rcases hx with rfl | rfl | rfl | rfl | rfl | rfl
  · exact ⟨z5, z, z⟩
  · exact ⟨z5, z, z⟩
  · exact ⟨z3, z, z⟩
  · exact ⟨z3, z, z⟩
  · exact ⟨hp, z, z⟩
  · exact ⟨z3, z, z⟩
theorem str_data (s : ByteArray) : Pt.str s.data.toList = .string s := by
  unfold Pt.str
  obtain ⟨⟨l⟩⟩ := s
  rfl

set_option maxHeartbeats 4000000 in
set_option maxRecDepth 100000 in
theorem topAnew_any (name : ByteArray) (hnz : name.size ≤ 1048576) (w : World) : Calls Tryz.prog 9 #[.string name] w fun e w' => e = .returned (.bool true) ∧ Below w.heap.size w w' := by
  have cN := fun W => named_any name W (by unfold maxLen; omega)
  obtain ⟨nm, hnm⟩ : ∃ nm, nm = Pt.named name.data.toList := ⟨_, rfl⟩
  rw [← hnm] at cN
  have HNM := Lib.hid hnm
  clear hnm
  go_enter Tryz.func9, Tryz.ntmps9
  go_wp2_with fail
  refine (topAlive_any w).mono ?_
  rintro e w0 ⟨rfl, hB0⟩
  cases nm
  · go_wp2_with (go_at_call 29; refine (cN w0).mono ?_; rintro e w0 ⟨rfl, rfl⟩)
    go_ret
    exact ⟨rfl, hB0⟩
  obtain ⟨s, a4, han, he4, htl⟩ := Sy.anew (name := name) (p := ⟨#[100, 105, 114, 47]⟩ ++ name) HNM.out.symm (by rw [data_app]; rfl)
  have hpl : ∃ u T n, Sy.play Sy.bU (newL (⟨#[100, 105, 114, 47]⟩ ++ name)) = ((u, T, n), [.ok, .ok, .ok, .ok, a4, ⟨0, 0, Sy.noE, [name.data.toList]⟩], 0) ∧ T.length = 2 := ⟨_, s.T, _, by
    rw [Sy.play_ok (by rw [Sy.bU_wrong]) (by show (6 : Nat) ≤ 80; omega)]
    have e : newL (⟨#[100, 105, 114, 47]⟩ ++ name) = Sy.anewL ++ [Sy.openA (⟨#[100, 105, 114, 47]⟩ ++ name) 26, Sy.atC 11 Sy.dirB Sy.noE] := rfl
    rw [e, han], htl⟩
  obtain ⟨u, T, n, hpl, hTl⟩ := hpl
  have hsm := new_sm (show ((⟨#[100, 105, 114, 47]⟩ : ByteArray) ++ name).size ≤ 1048576 by
    have h1 := Sy.named_len HNM.out.symm
    rw [size_length] at h1
    rw [ByteArray.size_append]
    show 4 + name.size ≤ _
    omega)
  have HP := Lib.hid hpl
  have HSM := Lib.hid hsm
  have HTL := Lib.hid hTl
  have HE4 := Lib.hid he4
  clear hpl han hsm hTl htl he4
  go_wp2_with (go_at_call 29; refine (cN w0).mono ?_; rintro e w0 ⟨rfl, rfl⟩)
  clear cN
  refine (tAt_any 8 ⟨#[100, 105, 114, 47, 97]⟩ ⟨#[]⟩ w0).mono ?_
  rintro e w1 ⟨rfl, hb⟩
  have hB1 := hB0.trans (hb.mono hB0.size)
  clear hb
  go_wp2_with fail
  refine (tAt_any 8 ⟨#[100, 105, 114, 47, 98]⟩ ⟨#[]⟩ w1).mono ?_
  rintro e w2 ⟨rfl, hb⟩
  have hB2 := hB1.trans (hb.mono hB1.size)
  clear hb
  go_wp2_with fail
  refine (tAt_any 7 ⟨#[100, 105, 114]⟩ ⟨#[]⟩ w2).mono ?_
  rintro e w3 ⟨rfl, hb⟩
  have hB3 := hB2.trans (hb.mono hB2.size)
  clear hb
  go_wp2_with fail
  refine (tAt_any 6 ⟨#[100, 105, 114]⟩ ⟨#[]⟩ w3).mono ?_
  rintro e w4 ⟨rfl, hb⟩
  have hB4 := hB3.trans (hb.mono hB3.size)
  clear hb
  go_wp2_with fail
  have cO := tOpen_any ((⟨#[100, 105, 114, 47]⟩ : ByteArray) ++ name) 26 w4
  refine cO.mono ?_
  rintro e w5 ⟨rfl, hb⟩
  have hB5 := hB4.trans (hb.mono hB4.size)
  clear hb
  go_wp2_with fail
  refine (tAt_any 11 ⟨#[100, 105, 114]⟩ ⟨#[]⟩ w5).mono ?_
  rintro e w6 ⟨rfl, hb⟩
  have hB6 := hB5.trans (hb.mono hB5.size)
  clear hb hB0 hB1 hB2 hB3 hB4 hB5
  clear cO
  generalize (⟨#[100, 105, 114, 47]⟩ : ByteArray) ++ name = pn at *
  have hB7 := hB6.alloc hB6.size (.cells ((newL pn).flatMap Ca.cells).toArray 50)
  have hl7 : Blk (w6.alloc (.cells ((newL pn).flatMap Ca.cells).toArray 50)) w6.heap.size 50 ((newL pn).flatMap Ca.cells) := Blk.new w6 _ _
  go_upto_region 6 with fail
  change Code.wp _ _ _ _ (w6.alloc (.cells ((newL pn).flatMap Ca.cells).toArray 50))
  generalize w6.alloc (.cells ((newL pn).flatMap Ca.cells).toArray 50) = w7 at *
  generalize w6.heap.size = gl at *
  clear hB6
  go_wp2_with fail
  refine (base_any w7).mono ?_
  rintro e w8 ⟨Ab, rfl, hrb, hb⟩
  have hB8 := hB7.trans (hb.mono hB7.size)
  have cP := play_any none Ab (some ⟨gl, 0, none⟩) 0 1 6 Sy.bU (newL pn) w8 hrb bU_sm (cas_blk (hl7.below hb hl7.lt)) HSM.out (by show (6 : Nat) ≤ 4000000; omega)
  rw [HP.out] at cP
  unfold PlayRel at cP
  dsimp only at cP
  have HC := Lib.hid cP
  clear cP hrb hb HP hl7
  go_wp2_with fail
  refine HC.out.mono ?_
  rintro e w9 ⟨Aq, Aq', cq, cq', AT, cT, v, rfl, -, -, -, hO, hb⟩
  have hB9 := hB8.trans (hb.mono hB8.size)
  clear hb HC hB7 hB8
  obtain ⟨l, hl⟩ : ∃ l : List An, l = [.ok, .ok, .ok, .ok, a4, ⟨0, 0, Sy.noE, [name.data.toList]⟩] := ⟨_, rfl⟩
  have hl6 : l.length = 6 := by rw [hl]; rfl
  have hz : ∀ k, (hk : k < l.length) → l[k].err = 0 := fun k hk => by
    subst hl
    match k, hk with
    | 0, _ => rfl
    | 1, _ => rfl
    | 2, _ => rfl
    | 3, _ => rfl
    | 4, _ => exact HE4.out
    | 5, _ => rfl
    | k + 6, hk => exact absurd hk (by show ¬ k + 6 < 6; omega)
  have h5 : ∀ hk : 5 < l.length, l[5].names = [name.data.toList] := fun hk => by subst hl; rfl
  rw [← hl] at hO
  clear hl
  have hb10 := (Below.refl w9.heap.size w9).alloc (Nat.le_refl _) (.cells #[.slice Aq u.U.length cq, .slice Aq' u.L.length cq', .slice AT T.length cT, .int .i64 n] 33)
  have hB10 := hB9.trans (hb10.mono hB9.size)
  have hs10 := Blk.new w9 33 [.slice Aq u.U.length cq, .slice Aq' u.L.length cq', .slice AT T.length cT, .int .i64 n]
  have hO10 : AnsRd (w9.alloc (.cells #[.slice Aq u.U.length cq, .slice Aq' u.L.length cq', .slice AT T.length cT, .int .i64 n] 33)) v l := by
    obtain ⟨A, c, vs, hv, h1, h2, h3⟩ := hO
    exact ⟨A, c, vs, hv, h1, (Rd.below h2 hb10).more hb10.size, fun k hk => by
      obtain ⟨Ak, ck, e1, e2⟩ := h3 k hk
      exact ⟨Ak, ck, e1, (Rd.below e2 hb10).more hb10.size⟩⟩
  have HZ := Lib.hid hz
  have H5 := Lib.hid h5
  clear hz h5 hO hb10 hB9
  go_upto_region 7 with fail
  change Code.wp _ _ _ _ (w9.alloc (.cells #[.slice Aq u.U.length cq, .slice Aq' u.L.length cq', .slice AT T.length cT, .int .i64 n] 33))
  generalize w9.alloc (.cells #[.slice Aq u.U.length cq, .slice Aq' u.L.length cq', .slice AT T.length cT, .int .i64 n] 33) = w10 at *
  generalize w9.heap.size = gs at *
  obtain ⟨Aa, ca, rfl, hat⟩ := hO10.at_
  have HAT := Lib.hid hat
  rw [hl6]
  clear hO10 hat
  go_wp2_with fail
  go_loopw [34] (fun i wr => ∃ k : Nat, k ≤ 6 ∧ i = .int .i64 k ∧ Below w10.heap.size w10 wr) (fun i _ => 6 - (intOf i).toNat)
  case atStart => exact ⟨0, Nat.zero_le _, rfl, Below.refl _ _⟩
  case round =>
    obtain ⟨k, hk, rfl, hB⟩ := hrel
    by_cases hlt : k < 6
    · have hkl : k < l.length := by omega
      obtain ⟨b, o, Ak, ck, rfl, hbz, p0, p1, p2, p3, -⟩ := HAT.out k hkl
      have hx := HZ.out k hkl
      generalize l[k] = x at p0 p1 p2 p3 hx
      rw [hx] at p0
      replace p0 : wr.cell? ⟨b, o + k * 4, none⟩ = _ := (hB.cell (p := ⟨b, o + k * 4, none⟩) hbz).trans p0
      replace p1 : wr.cell? ⟨b, o + k * 4 + 1, none⟩ = _ := (hB.cell (p := ⟨b, o + k * 4 + 1, none⟩) hbz).trans p1
      replace p2 : wr.cell? ⟨b, o + k * 4 + 2, none⟩ = _ := (hB.cell (p := ⟨b, o + k * 4 + 2, none⟩) hbz).trans p2
      replace p3 : wr.cell? ⟨b, o + k * 4 + 3, none⟩ = _ := (hB.cell (p := ⟨b, o + k * 4 + 3, none⟩) hbz).trans p3
      have hb1 := hB.alloc hB.size (.cells #[.int .i64 0, .int .i64 x.n, .string x.text, .slice Ak x.names.length ck] 41)
      go_wp2_with fail
      go_roundw
      case rel => exact ⟨k + 1, hlt, by go_num, hb1⟩
      case measure => simp [intOf]; omega
    · obtain rfl : k = 6 := by omega
      obtain ⟨b, o, Ak, ck, rfl, hbz, -, -, -, p3, pn⟩ := HAT.out 5 (by omega)
      rw [H5.out (by omega)] at p3 pn
      obtain ⟨bn, on, rfl, hbn, x0⟩ := StrRd.at_ pn (k := 0) (by show (0 : Nat) < 1; omega)
      have x0 : w10.cell? ⟨bn, on + 0, none⟩ = some (Pt.str name.data.toList) := x0
      rw [str_data] at x0
      have p3 : w10.cell? ⟨b, o + 23, none⟩ = some (.slice (some ⟨bn, on, none⟩) 1 ck) := p3
      replace p3 := (hB.cell (p := ⟨b, o + 23, none⟩) hbz).trans p3
      replace x0 := (hB.cell (p := ⟨bn, on + 0, none⟩) hbn).trans x0
      have p3' : wr.cell? ⟨b, o + 20 + 3, none⟩ = _ := p3
      have x0' : wr.cell? ⟨bn, on, none⟩ = _ := x0
      have hs := hs10.below hB hs10.lt
      rw [HTL.out] at hs
      obtain ⟨s0, s1, s2, s3, sf, sz⟩ := hs.four
      have f4 : (name.toList == name.toList) = true := by simp
      have hBw := hB10.trans (hB.mono hB10.size)
      clear hs10 pn hB10
      go_wp2_with fail
      go_ret
      exact ⟨rfl, hBw⟩
end Go.Proofs.YtjppfhgkanbemacGreatDoor
