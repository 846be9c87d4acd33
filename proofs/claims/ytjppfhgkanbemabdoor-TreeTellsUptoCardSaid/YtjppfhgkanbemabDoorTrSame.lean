/-
  The document's Same, for trees that are one; layer.Merge.
-/
import Derived.Test.YtjppfhgkanbemabDoorTrLay
import Derived.BigQuiet
namespace Go.Proofs.YtjppfhgkanbemabDoor
open Go.RowKit Go.Shelf Go.Sort

set_option maxHeartbeats 1600000 in
theorem same_any (A B : Option Addr) (c d : Nat) (l m : List En) (w : World) (hl : EnRd w w.heap.size A l) (hm : EnRd w w.heap.size B m) (hbl : l.length ≤ 9223372036854775807) (he : l = m) :
    Calls Tryd.prog 16 #[.slice A l.length c, .slice B m.length d] w fun e w' => e = .returned (.bool true) ∧ Below w.heap.size w w' := by
  subst he
  go_enter Tryd.func16, Tryd.ntmps16
  go_wp2_with fail
  go_loopw [13] (fun i wr => ∃ k : Nat, k ≤ l.length ∧ i = .int .i64 k ∧ Below w.heap.size w wr) (fun i _ => l.length - (intOf i).toNat)
  case atStart => exact ⟨0, Nat.zero_le _, rfl, Below.refl _ _⟩
  case round =>
    obtain ⟨k, hk, rfl, hB0⟩ := hrel
    by_cases hlt : k < l.length
    · obtain ⟨bl, ol, rfl, hbl, hat⟩ := (EnRd.at_ (hl.below hB0) hlt)
      obtain ⟨bm, om, rfl, hbm, hbt⟩ := (EnRd.at_ (hm.below hB0) hlt)
      obtain ⟨h0, h1, h2, h3⟩ := hat
      obtain ⟨g0, g1, g2, g3⟩ := hbt
      generalize l[k] = y at h0 h1 h2 h3 g0 g1 g2 g3
      obtain ⟨yp, yk, yt, yo⟩ := y
      dsimp only at h0 h1 h2 h3 g0 g1 g2 g3
      go_wp2_with fail
      refine wp_region_quiet_lit (by kernel_rfl) (by kernel_rfl) ?_
      repeat (first | go_big_quiet_step (fail) | quiet_step (fail))
      refine wpQuiet_nil ?_
      intro w2 hw'
      obtain ⟨nq, hw''⟩ := hw'
      subst hw''
      have hB2 := below_drewN hB0 nq
      go_wp2_with fail
      go_roundw
      case rel => exact ⟨k + 1, hlt, by go_num, hB2⟩
      case measure => simp [intOf]; omega
    · go_wp2_with fail
      go_ret
      exact ⟨rfl, hB0⟩

/-- A slice of trees. -/
def TsRd (w : World) (B : Nat) (A : Option Addr) (ls : List (List En)) : Prop :=
  ∃ vs : List Value, Rd w B 1 A ls.length vs ∧ ∀ k (h : k < ls.length), ∃ Ak ck, vs[k]? = some (.slice Ak ls[k].length ck) ∧ ls[k].length ≤ ck ∧ EnRd w B Ak ls[k]
theorem TsRd.below {w w' : World} {B : Nat} {A : Option Addr} {ls : List (List En)} (h : TsRd w B A ls) (hb : Below B w w') : TsRd w' B A ls := by
  obtain ⟨vs, h1, h2⟩ := h
  refine ⟨vs, h1.below hb, fun k hk => ?_⟩
  obtain ⟨Ak, ck, e, hc, hr⟩ := h2 k hk
  exact ⟨Ak, ck, e, hc, Rd.below hr hb⟩
theorem TsRd.more {w : World} {B B' : Nat} {A : Option Addr} {ls : List (List En)} (h : TsRd w B A ls) (hB : B ≤ B') : TsRd w B' A ls := by
  obtain ⟨vs, h1, h2⟩ := h
  refine ⟨vs, h1.more hB, fun k hk => ?_⟩
  obtain ⟨Ak, ck, e, hc, hr⟩ := h2 k hk
  exact ⟨Ak, ck, e, hc, Rd.more hr hB⟩
theorem TsRd.at_ {w : World} {B : Nat} {A : Option Addr} {ls : List (List En)} (h : TsRd w B A ls) {k : Nat} (hk : k < ls.length) :
    ∃ b o Ak ck, A = some ⟨b, o, none⟩ ∧ b < B ∧ w.cell? ⟨b, o + k, none⟩ = some (.slice Ak ls[k].length ck) ∧ ls[k].length ≤ ck ∧ EnRd w B Ak ls[k] := by
  obtain ⟨vs, h1, h2⟩ := h
  obtain ⟨b, o, e, hb, hc⟩ := h1.2 (by omega)
  obtain ⟨Ak, ck, e2, hc2, hr⟩ := h2 k hk
  exact ⟨b, o, Ak, ck, e, hb, hc k _ e2, hc2, hr⟩
/-- All trees are of a size that the program bears. -/
def Sms (ls : List (List En)) : Prop := ∀ l ∈ ls, Sm l ∧ l.length ≤ 2305843009213693952
theorem merge_err : ∀ {ls : List (List En)} {m : Nat} {e : Int}, (Tr.mergeL (ls.drop m)).2 = e → e ≠ 0 → Tr.mergeL ls = ([], e)
  | ls, 0, e, h, he => by
    have h : (Tr.mergeL ls).2 = e := h
    have h2 := Tr.mergeL_none (ls := ls) (by rw [h]; exact he)
    rw [← h, ← h2]
  | [], m + 1, e, h, he => by rw [List.drop_nil] at h; exact absurd h.symm he
  | x :: r, m + 1, e, h, he => by
    have ih := merge_err (ls := r) (m := m) h he
    rw [Tr.mergeL, if_pos (by rw [ih]; exact he), ih]
theorem merge_step {ls : List (List En)} {m : Nat} (hm : m < ls.length) (h : (Tr.mergeL (ls.drop (m + 1))).2 = 0) : Tr.mergeL (ls.drop m) = Tr.over ls[m] (Tr.mergeL (ls.drop (m + 1))).1 := by
  rw [List.drop_eq_getElem_cons hm, Tr.mergeL_cons h]
theorem ret_merge {ls : List (List En)} {m : List En} {e : Int} {v : Value} (h : Tr.merge ls = (m, e)) : Ending.returned (.tuple #[v, .int .i64 e]) = .returned (.tuple #[v, .int .i64 (Tr.merge ls).2]) := by rw [h]

/-- What Merge answers. -/
def MergeRel (ls : List (List En)) (w : World) (e : Ending) (w' : World) : Prop :=
  ∃ v, e = .returned (.tuple #[v, .int .i64 (Tr.merge ls).2]) ∧ EnOwn w' w.heap.size v (Tr.merge ls).1 ∧ Below w.heap.size w w'

set_option maxHeartbeats 2000000 in
theorem merge_any (A : Option Addr) (c : Nat) (ls : List (List En)) (w : World) (hl : TsRd w w.heap.size A ls) (hs : Sms ls) :
    Calls Tryd.prog 59 #[.slice A ls.length c] w (MergeRel ls w) := by
  have HS := Lib.hid hs
  clear hs
  unfold MergeRel
  by_cases h5 : 5 < ls.length
  · have HM : Hid (Tr.merge ls = ([], 5)) := Lib.hid (by unfold Tr.merge; rw [if_pos h5])
    go_enter Tryd.func59, Tryd.ntmps59
    go_wp2_with fail
    go_ret2
    exact ⟨_, ret_merge HM.out, by rw [HM.out]; exact EnOwn.nil _ _, Below.refl _ _⟩
  have HM : Hid (Tr.merge ls = Tr.mergeL ls) := Lib.hid (by unfold Tr.merge; rw [if_neg h5])
  go_enter Tryd.func59, Tryd.ntmps59
  go_wp2_with fail
  go_loopw [4, 5] (fun v i wr => ∃ k : Nat, k ≤ ls.length ∧ i = .int .i64 ((k : Int) - 1) ∧ Hid ((Tr.mergeL (ls.drop k)).2 = 0) ∧ EnOwn wr w.heap.size v (Tr.mergeL (ls.drop k)).1 ∧ Below w.heap.size w wr) (fun _ i _ => (intOf i + 1).toNat)
  case atStart =>
    refine ⟨ls.length, Nat.le_refl _, ?_, Lib.hid (by rw [List.drop_length]; rfl), by rw [List.drop_length]; exact EnOwn.nil _ _, Below.refl _ _⟩
    first | rfl | (congr 1; exact IntWalk.i64_in _ (by omega))
  case round =>
    obtain ⟨k, hk, rfl, H0, hown, hB⟩ := hrel
    cases k with
    | zero =>
      have HZ : Hid (Tr.merge ls = ((Tr.mergeL ls).1, 0)) := Lib.hid (by rw [HM.out]; have := H0.out; rw [List.drop_zero] at this; rw [← this])
      rw [List.drop_zero] at hown
      go_wp2_with fail
      go_ret2
      exact ⟨_, ret_merge HZ.out, by rw [HZ.out]; exact hown, hB⟩
    | succ m =>
      have e1 : ((m + 1 : Nat) : Int) - 1 = (m : Int) := by omega
      rw [e1]
      have hml : m < ls.length := by omega
      obtain ⟨b, o, Am, cm, rfl, hb, hc1, hcl, hrd⟩ := (hl.below hB).at_ hml
      have HSt := Lib.hid (merge_step hml H0.out)
      have HR := Lib.hid (Tr.mergeL_right H0.out)
      have hsm := Lib.hid (HS.out _ (List.getElem_mem hml))
      have HE := Lib.hid (fun e => merge_err (ls := ls) (m := m) (e := e))
      have HG : Hid ((Tr.over ls[m] (Tr.mergeL (ls.drop (m + 1))).1).2 = 0 → (Tr.mergeL (ls.drop m)).2 = 0) := Lib.hid (fun h => by rw [HSt.out]; exact h)
      generalize ls[m] = x at hc1 hcl hrd HSt hsm HG
      obtain ⟨out, hout⟩ : ∃ out, out = (Tr.mergeL (ls.drop (m + 1))).1 := ⟨_, rfl⟩
      rw [← hout] at hown HSt HR HG
      clear hout
      obtain ⟨A2, c2, rfl, hc2, rd2⟩ := EnOwn.rd hown
      have cO := over_any Am A2 cm c2 x out wr (Rd.more hrd hB.size) rd2 hcl hc2 hsm.out.1 (Tr.right_sm HR.out.2) hsm.out.2 (by have := HR.out.1; omega)
      unfold OverRel at cO
      have HT : Hid (Tr.mergeL (ls.drop m) = Tr.over x out) := HSt
      clear HSt
      generalize hov : Tr.over x out = ov at cO HT HG
      have HOV := Lib.hid hov
      clear hov
      obtain ⟨res, err⟩ := ov
      dsimp only at cO HG
      go_wp2_with fail
      refine cO.mono ?_
      rintro e w1 ⟨v1, rfl, ho1, hb1⟩
      have hB1 := hB.trans (hb1.mono hB.size)
      have ho1' := own_base ho1 hB.size
      clear hb1 cO
      rcases te : (err != 0) with _ | _
      · have he0 : Hid (err = 0) := Lib.hid (by simpa using te)
        go_wp2_with fail
        go_roundw
        case rel => exact ⟨m, by omega, by go_num, Lib.hid (HG.out he0.out), by rw [HT.out]; exact ho1', hB1⟩
        case measure => simp [intOf]
      · have HZ : Hid (Tr.merge ls = ([], err)) := Lib.hid (by rw [HM.out]; exact HE.out err (by rw [HT.out]) (by simpa using te))
        go_wp2_with fail
        go_ret2
        exact ⟨_, ret_merge HZ.out, by rw [HZ.out]; exact EnOwn.nil _ _, hB1⟩
end Go.Proofs.YtjppfhgkanbemabDoor
