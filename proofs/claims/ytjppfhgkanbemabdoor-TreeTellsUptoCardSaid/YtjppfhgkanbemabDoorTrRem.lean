/-
  tree.Remove.
-/
import Derived.Test.YtjppfhgkanbemabDoorTrPut
namespace Go.Proofs.YtjppfhgkanbemabDoor
open Go.RowKit Go.Shelf Go.Sort

theorem ret_rem {l m : List En} {p : Pt.Bs} {e : Int} {v : Value} (h : Tr.remove l p = (m, e)) : Ending.returned (.tuple #[v, .int .i64 e]) = .returned (.tuple #[v, .int .i64 (Tr.remove l p).2]) := by rw [h]
theorem rem_bad {l : List En} {p : Pt.Bs} {e : Int} (h : Tr.removeErr l p = e) (he : e ≠ 0) : Tr.remove l p = ([], e) := by unfold Tr.remove; rw [h, if_pos he]
theorem rem_good {l m : List En} {p : Pt.Bs} (h : Tr.removeErr l p = 0) (hm : Tr.without l p = m) : Tr.remove l p = (m, 0) := by unfold Tr.remove; rw [h, if_neg (by simp), hm]

/-- What Remove answers. -/
def RemRel (l : List En) (p : Pt.Bs) (w : World) (e : Ending) (w' : World) : Prop :=
  ∃ v, e = .returned (.tuple #[v, .int .i64 (Tr.remove l p).2]) ∧ EnOwn w' w.heap.size v (Tr.remove l p).1 ∧ Below w.heap.size w w'

set_option maxHeartbeats 4000000 in
set_option maxRecDepth 100000 in
theorem remove_any (A : Option Addr) (c : Nat) (l : List En) (p : ByteArray) (w : World) (hl : EnRd w w.heap.size A l) (hc : l.length ≤ c) (hs : Sm l) (hp : p.size < 4294967281) (hn : l.length ≤ 2305843009213693952) :
    Calls Tryd.prog 24 #[.slice A l.length c, .string p] w (RemRel l p.data.toList w) := by
  have c1 := fun W h => wrongT_any A c l W h hc hs hn
  obtain ⟨pt, hpt⟩ : ∃ pr, pr = Tr.wrong l false := ⟨_, rfl⟩
  rw [← hpt] at c1
  have HT := Lib.hid hpt.symm
  have HS := Lib.hid hs
  obtain ⟨y, y'⟩ := pt
  clear hpt hs
  dsimp only at c1
  have hB0 := Below.refl w.heap.size w
  unfold RemRel
  go_enter Tryd.func24, Tryd.ntmps24
  go_wp2_with fail
  refine (c1 w hl).mono ?_
  rintro e w1 ⟨rfl, hb⟩
  have hB1 := hB0.trans (hb.mono hB0.size)
  clear hb hB0 c1
  have hB2 := hB1.alloc hB1.size (.cells #[.int .i64 y, .int .i64 y'] 29)
  have hq2 := Blk.new w1 29 [.int .i64 y, .int .i64 y']
  clear hB1
  rcases ty : (y != 0) with _ | _
  rotate_left
  · have HO : Hid (Tr.remove l p.data.toList = ([], y)) := Lib.hid (rem_bad (by unfold Tr.removeErr; rw [HT.out, if_pos (by simpa using ty)]) (by simpa using ty))
    go_wp2_with fail
    generalize w1.alloc (.cells #[.int .i64 y, .int .i64 y'] 29) = w2 at *
    generalize w1.heap.size = g1 at *
    obtain ⟨q0, q1, qf, qz⟩ := hq2.two
    go_quiet (fail)
    go_wp2_with fail
    go_ret2
    exact ⟨_, ret_rem HO.out, by rw [HO.out]; exact EnOwn.nil _ _, below_drewN hB2 _⟩
  have HT0 : Hid ((Tr.wrong l false).1 = 0) := Lib.hid (by rw [HT.out]; simpa using ty)
  have hl80 := ((Tr.wrong_zero l false).1 HT0.out).1
  have RT := Lib.hid ((Tr.wrong_zero l false).1 HT0.out).2
  have HE2 := Lib.hid (show ∀ e, (if p.data.toList = [] ∨ Tr.get l p.data.toList = none then 6 else if Tr.full l p.data.toList = true then 11 else 0) = e → Tr.removeErr l p.data.toList = e from fun e he => by unfold Tr.removeErr; rw [if_neg (by simp [HT0.out]), he])
  go_wp2_with fail
  generalize w1.alloc (.cells #[.int .i64 y, .int .i64 y'] 29) = w2 at *
  clear hq2
  refine (find_any A c l p w2 ((hl.below hB2).more hB2.size) HS.out hp hn).mono ?_
  rintro e w3 ⟨k, b, rfl, hf, hb⟩
  have hB3 := hB2.trans (hb.mono hB2.size)
  clear hb hB2
  cases b
  · have HO : Hid (Tr.remove l p.data.toList = ([], 6)) := Lib.hid (rem_bad (HE2.out 6 (by
      by_cases h0 : p.data.toList = []
      · exact if_pos (.inl h0)
      · exact if_pos (.inr ((find_get hf RT.out.2.1 h0).2 rfl)))) (by decide))
    clear hf HE2
    go_wp2_with fail
    go_ret2
    exact ⟨_, ret_rem HO.out, by rw [HO.out]; exact EnOwn.nil _ _, hB3⟩
  obtain ⟨hlt, hke⟩ := hf.2.1 rfl
  have hp0 : p.data.toList ≠ [] := fun h => Tr.right_ne RT.out (List.getElem_mem hlt) (hke.trans h)
  have hget := (find_get hf RT.out.2.1 hp0).1 rfl
  have hfull := Tr.full_next RT.out.2.1 hlt (by rw [hke]; exact hp0)
  rw [hke] at hfull
  have HF1 := Lib.hid (show Tr.full l p.data.toList = true → Tr.remove l p.data.toList = ([], 11) from fun h => rem_bad (HE2.out 11 (by rw [if_neg (by rw [hget]; simp [hp0]), if_pos h])) (by decide))
  have HF0 := Lib.hid (show Tr.full l p.data.toList = false → Tr.remove l p.data.toList = (delAt l k, 0) from fun h => rem_good (HE2.out 0 (by rw [if_neg (by rw [hget]; simp [hp0]), if_neg (by rw [h]; decide)])) (without_at RT.out.2.1 hlt hke))
  clear hget hp0 hke hf HE2
  have hw1 : IntKind.i64.wrap ((k : Int) + 1) = (k : Int) + 1 := IntWalk.i64_in _ (by omega)
  by_cases h1 : k + 1 < l.length
  · rw [dif_pos h1] at hfull
    have h1' : (k : Int) + 1 < (l.length : Int) := by omega
    obtain ⟨bb, o, rfl, hbb, h0, h2, h3, h4⟩ := EnRd.at_ (hl.below hB3) h1
    have hcu := fun W => under_any l[k + 1].p p W (by omega)
    unfold En.P at hfull
    rw [← hfull] at hcu
    generalize l[k + 1] = zz at h0 h2 h3 h4 hfull hcu
    clear hfull
    obtain ⟨zp, zk, zt, zo⟩ := zz
    dsimp only at h0 h2 h3 h4 hcu
    generalize Tr.full l p.data.toList = fu at hcu HF1 HF0
    cases fu
    · have HO := Lib.hid (HF0.out rfl)
      clear HF1 HF0
      go_wp2_with fail
      refine (hcu w3).mono ?_
      rintro e w3 ⟨rfl, rfl⟩
      go_wp2_with fail
      refine (eclone_any _ c l w3 ((hl.below hB3).more hB3.size) (by omega)).mono ?_
      rintro e w4 ⟨v4, rfl, ho4, hb⟩
      have hB4 := hB3.trans (hb.mono hB3.size)
      have ho4 : EnOwn w4 w.heap.size v4 l := own_base ho4 hB3.size
      clear hb
      go_wp2_with fail
      rcases own_shape ho4 with ⟨_, hv0⟩ | ⟨g, cap, hv4, hbg, hgz, hcap⟩
      · omega
      subst hv4
      refine (edelete_any w.heap.size g cap k l w4 ho4 hlt (by omega)).mono ?_
      rintro e w5 ⟨v5, rfl, ho5, hg5⟩
      have hB5 := below_grown hB4 hg5 hB4.size (fun q e => by injection e with e; subst e; exact hbg)
      go_wp2_with fail
      go_ret2
      exact ⟨_, ret_rem HO.out, by rw [HO.out]; exact ho5, hB5⟩
    · have HO := Lib.hid (HF1.out rfl)
      clear HF1 HF0
      go_wp2_with fail
      refine (hcu w3).mono ?_
      rintro e w3 ⟨rfl, rfl⟩
      go_wp2_with fail
      go_ret2
      exact ⟨_, ret_rem HO.out, by rw [HO.out]; exact EnOwn.nil _ _, hB3⟩
  · rw [dif_neg h1] at hfull
    have h1' : ¬ ((k : Int) + 1 < (l.length : Int)) := by omega
    have HO := Lib.hid (HF0.out hfull)
    clear HF1 HF0 hfull
    go_wp2_with fail
    refine (eclone_any _ c l w3 ((hl.below hB3).more hB3.size) (by omega)).mono ?_
    rintro e w4 ⟨v4, rfl, ho4, hb⟩
    have hB4 := hB3.trans (hb.mono hB3.size)
    have ho4 : EnOwn w4 w.heap.size v4 l := own_base ho4 hB3.size
    clear hb
    go_wp2_with fail
    rcases own_shape ho4 with ⟨_, hv0⟩ | ⟨g, cap, hv4, hbg, hgz, hcap⟩
    · omega
    subst hv4
    refine (edelete_any w.heap.size g cap k l w4 ho4 hlt (by omega)).mono ?_
    rintro e w5 ⟨v5, rfl, ho5, hg5⟩
    have hB5 := below_grown hB4 hg5 hB4.size (fun q e => by injection e with e; subst e; exact hbg)
    go_wp2_with fail
    go_ret2
    exact ⟨_, ret_rem HO.out, by rw [HO.out]; exact ho5, hB5⟩
end Go.Proofs.YtjppfhgkanbemabDoor
