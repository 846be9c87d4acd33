/-
  slices.IndexFunc and slices.DeleteFunc at entries, where drop calls them. (Printed by wip/genundel.py.)
  (*change).drop. (Printed by wip/genundrop.py.)
  (*change).end. (Printed by wip/genunend.py.)
  union.Put and union.Remove. (Printed by wip/genunput.py.)
  union.Move. (Printed by wip/genunmove.py.)
  The document's SameUnion at equal unions. (Printed by wip/genunsl.py.)
-/
import Derived.Test.YtjppfhgkanbemacGreatDoorMH
import Derived.Test.YtjppfhgkanbemacGreatDoorMB
import Derived.Test.YtjppfhgkanbemacGreatDoorUnSetW
import Derived.Deep.RegionLaw
import Derived.Test.YtjppfhgkanbemacGreatDoorMI
namespace Go.Proofs.YtjppfhgkanbemacGreatDoor
open Go.RowKit Go.Shelf Go.Sort

/-- Is an entry at a path, or below it? -/
def gone (s : ByteArray) (x : En) : Bool := x.p.toList == s.toList || Pt.under x.P s.data.toList
theorem gone_filter (l : List En) (s : ByteArray) : l.filter (fun x => !gone s x) = Tr.outside l s.data.toList := by
  unfold Tr.outside
  refine List.filter_congr fun x _ => ?_
  unfold gone
  rw [toList_beq, Bool.not_or]
  rfl
theorem drop1_any (g : Nat) (x : En) (s : ByteArray) (w : World) (hx : w.cell? ⟨g, 0, none⟩ = some (.string s)) (hg : g < w.heap.size) (hs : s.size < 4294967281) :
    Calls Tryz.prog 128 #[.agg #[.string x.p, .int .i64 x.k, .string x.t, .bool x.o], .pointer (some ⟨g, 0, none⟩)] w fun e w' => e = .returned (.bool (gone s x)) ∧ Below w.heap.size w w' := by
  obtain ⟨xp, xk, xt, xo⟩ := x
  unfold gone
  dsimp only
  rcases t : (xp.toList == s.toList) with _ | _
  · go_enter Tryz.func128, Tryz.ntmps128
    go_wp2_with fail
    refine (under_any xp s _ (by omega)).mono ?_
    rintro e w3 ⟨rfl, rfl⟩
    go_wp2_with fail
    go_ret
    exact ⟨rfl, (Below.refl _ _).alloc (Nat.le_refl _) _⟩
  · go_enter Tryz.func128, Tryz.ntmps128
    go_wp2_with fail
    go_ret
    exact ⟨rfl, (Below.refl _ _).alloc (Nat.le_refl _) _⟩
/-- The place of the first element of which p is true. -/
def IdxRelE {α : Type} (p : α → Bool) (l : List α) (i : Int) : Prop :=
  (i = -1 ∧ ∀ x ∈ l, p x = false) ∨ ∃ k : Nat, i = k ∧ ∃ hk : k < l.length, p l[k] = true ∧ ∀ x ∈ l.take k, p x = false

set_option maxHeartbeats 800000 in
theorem indexD_any (A : Option Addr) (c g : Nat) (l : List En) (s : ByteArray) (w : World) (hl : EnRd w w.heap.size A l) (hbig : l.length ≤ 9223372036854775807) (hx : w.cell? ⟨g, 0, none⟩ = some (.string s)) (hg : g < w.heap.size) (HZ : s.size < 4294967281) :
    Calls Tryz.prog 157 #[.slice A l.length c, .func (.func 128) #[] #[.pointer (some ⟨g, 0, none⟩)]] w fun e w' => ∃ i : Int, e = .returned (.int .i64 i) ∧ IdxRelE (gone s) l i ∧ Below w.heap.size w w' := by
  go_enter Tryz.func157, Tryz.ntmps157
  go_wp2
  go_loopw [8] (fun i wr => ∃ k : Nat, k ≤ l.length ∧ i = .int .i64 k ∧ Hid (∀ x ∈ l.take k, gone s x = false) ∧ Below w.heap.size w wr) (fun i _ => l.length - (intOf i).toNat)
  case atStart => exact ⟨0, Nat.zero_le _, rfl, (show ∀ x ∈ l.take 0, gone s x = false by simp), Below.refl _ _⟩
  case round =>
    obtain ⟨k, hk, rfl, hno, hB⟩ := hrel
    by_cases hlt : k < l.length
    · obtain ⟨b, o, rfl, hb, h0, h1, h2, h3⟩ := (EnRd.at_ (hl.below hB) hlt)
      have hbx : wr.cell? ⟨g, 0, none⟩ = some (.string s) := (hB.cell hg).trans hx
      have hgz : g < wr.heap.size := Nat.lt_of_lt_of_le hg hB.size
      have Hst : Hid (∀ y, l[k] = y → gone s y = false → ∀ x ∈ l.take (k + 1), gone s x = false) := by
        intro y hy h x hx
        rw [List.take_succ_eq_append_getElem hlt, List.mem_append] at hx
        rcases hx with hx | hx
        · exact hno.out x hx
        · simp at hx; rw [hx, hy]; exact h
      have Hfd : Hid (∀ y, l[k] = y → gone s y = true → IdxRelE (gone s) l k) := fun y hy h => .inr ⟨k, rfl, hlt, by rw [hy]; exact h, hno.out⟩
      generalize hy : l[k] = y at h0 h1 h2 h3
      have Hy := Lib.hid hy
      clear hy
      go_wp2_with fail
      refine (drop1_any g y s _ hbx hgz HZ).mono ?_
      rintro e w1 ⟨rfl, hb1⟩
      have hB1 := hB.trans (hb1.mono hB.size)
      rcases hc : gone s y with _ | _
      · go_wp2_with fail
        go_roundw
        case rel => exact ⟨k + 1, hlt, by go_num, Hst.out y Hy.out hc, hB1⟩
        case measure => simp [intOf]; omega
      · go_wp2_with fail
        go_ret
        exact ⟨_, rfl, Hfd.out y Hy.out hc, hB1⟩
    · go_wp2_with fail
      go_ret
      refine ⟨_, rfl, .inl ⟨rfl, ?_⟩, hB⟩
      have := hno.out
      rw [List.take_of_length_le (by omega)] at this
      exact this

/-- What DeleteFunc's loop has come to: the row r, i elements kept out of the first j. -/
structure DelInvE {α : Type} (p : α → Bool) (l r : List α) (i j : Nat) : Prop where
  len : r.length = l.length
  lt : i < j
  le : j ≤ l.length
  kept : r.take i = (l.take j).filter fun x => !p x
  rest : r.drop j = l.drop j

section
variable {α : Type} {p : α → Bool} {l r : List α} {i j : Nat}
theorem DelInvE.start {k : Nat} (hk : k < l.length) (hp : p l[k] = true) (hno : ∀ x ∈ l.take k, p x = false) : DelInvE p l l k (k + 1) := by
  refine ⟨rfl, by omega, hk, ?_, rfl⟩
  rw [List.take_succ_eq_append_getElem hk, List.filter_append]
  have e : (l.take k).filter (fun x => !p x) = l.take k := by
    rw [List.filter_eq_self]
    intro x hx
    simp [hno x hx]
  rw [e]
  simp [hp]
theorem DelInvE.at_ (h : DelInvE p l r i j) (hj : j < l.length) : r[j]'(by rw [h.len]; exact hj) = l[j] := by
  have := congrArg (fun q => q[0]?) h.rest
  simp only [List.getElem?_drop, Nat.add_zero] at this
  rw [List.getElem?_eq_getElem (by rw [h.len]; exact hj), List.getElem?_eq_getElem hj] at this
  injection this
theorem DelInvE.skip (h : DelInvE p l r i j) (hj : j < l.length) {x : α} (hx : l[j] = x) (hp : p x = true) : DelInvE p l r i (j + 1) := by
  refine ⟨h.len, by have := h.lt; omega, hj, ?_, ?_⟩
  · rw [h.kept, List.take_succ_eq_append_getElem hj, List.filter_append, hx]
    simp [hp]
  · rw [← List.drop_drop, h.rest, List.drop_drop]
theorem DelInvE.keep (h : DelInvE p l r i j) (hj : j < l.length) {x : α} (hx : l[j] = x) (hp : p x = false) : DelInvE p l (r.set i x) (i + 1) (j + 1) := by
  have hi : i < r.length := by rw [h.len]; have := h.lt; omega
  refine ⟨by rw [List.length_set]; exact h.len, by have := h.lt; omega, hj, ?_, ?_⟩
  · rw [List.take_succ_eq_append_getElem (by rw [List.length_set]; exact hi), List.take_succ_eq_append_getElem hj, List.filter_append, hx, ← h.kept, List.take_set_of_le (Nat.le_refl _)]
    simp [hp]
  · rw [List.drop_set_of_lt (by have := h.lt; omega), ← List.drop_drop, h.rest, List.drop_drop]
theorem DelInvE.done (h : DelInvE p l r i l.length) : r.take i = l.filter fun x => !p x := by
  rw [h.kept, List.take_length]
end
theorem eidx_none {l : List En} {s : ByteArray} (h : ∀ x ∈ l, gone s x = false) : l.filter (fun x => !gone s x) = l := by
  rw [List.filter_eq_self]
  intro x hx
  simp only [h x hx]
  rfl


set_option maxHeartbeats 1600000 in
theorem deleteD_any (base g cap gb : Nat) (l : List En) (s : ByteArray) (w : World) (ho : EnOwn w base (.slice (some ⟨g, 0, none⟩) l.length cap) l) (hbig : l.length ≤ 2000000) (hx : w.cell? ⟨gb, 0, none⟩ = some (.string s)) (hgb : gb < w.heap.size) (hne : gb ≠ g) (HZ : s.size < 4294967281) :
    Calls Tryz.prog 127 #[.slice (some ⟨g, 0, none⟩) l.length cap, .func (.func 128) #[] #[.pointer (some ⟨gb, 0, none⟩)]] w fun e w' => ∃ v, e = .returned v ∧ EnOwn w' base v (l.filter fun x => !gone s x) ∧ w.grownBy w' (some g) ∧ v.ownBlock = some g := by
  have hl : EnRd w w.heap.size (some ⟨g, 0, none⟩) l := Rd.of_own ho
  have hcap : l.length ≤ cap := by
    rcases own_shape ho with ⟨h, _⟩ | ⟨g', c', h, _, _, hc⟩
    · cases h
    · injection h with _ _ h; rw [h]; exact hc
  go_enter Tryz.func127, Tryz.ntmps127
  go_wp2_with fail
  refine (indexD_any _ cap gb l s w hl (by omega) hx hgb HZ).mono ?_
  rintro e w1 ⟨i, rfl, hi, hb⟩
  have ho1 := own_below ho hb (Nat.le_refl _)
  have hg1 : w.grownBy w1 (some g) := grown_of_below (World.grownBy.refl w _) hb
  have hx1 : w1.cell? ⟨gb, 0, none⟩ = some (.string s) := (hb.cell hgb).trans hx
  have hz1 : gb < w1.heap.size := Nat.lt_of_lt_of_le hgb hb.size
  clear hx hgb hb hl ho
  rcases hi with ⟨rfl, hno⟩ | ⟨k, rfl, hk, hp, hno⟩
  · have Hn := Lib.hid (eidx_none hno)
    clear hno
    go_wp2_with fail
    go_ret
    exact ⟨_, rfl, by rw [Hn.out]; exact ho1, hg1, rfl⟩
  · have Hd := Lib.hid (DelInvE.start (p := (gone s)) hk hp hno)
    clear hp hno
    have hk1 : ((k : Int) == -1) = false := by simp
    go_wp2_with fail
    go_loopw [5, 6] (fun vi vj wr => ∃ (i j : Nat) (r : List En), vi = .int .i64 i ∧ vj = .int .i64 j ∧ j ≤ l.length ∧ i < l.length ∧ Hid (DelInvE (gone s) l r i j) ∧ wr.ownsRow base 53 4 (.slice (some ⟨g, 0, none⟩) l.length cap) l.length (En.flat r) ∧ w.grownBy wr (some g) ∧ wr.cell? ⟨gb, 0, none⟩ = some (.string s) ∧ gb < wr.heap.size) (fun _ j _ => l.length - (intOf j).toNat)
    case atStart => exact ⟨k, k + 1, l, rfl, by go_num, hk, hk, Hd, ho1, hg1, hx1, hz1⟩
    case round =>
      clear Hd ho1 hg1 hx1 hz1 hk1 hk
      obtain ⟨i, j, r, rfl, rfl, hjl, hil, Hd, hor, hgr, hxr, hzr⟩ := hrel
      by_cases hj : j < l.length
      · have hrl : j < r.length := by rw [Hd.out.len]; exact hj
        have Hr := Lib.hid (Hd.out.at_ hj)
        obtain ⟨f0, f1, f2, f3⟩ := eflat_at r j hrl
        have h0 := (hor.cellAt (j * 4 + 0) (by omega)).trans f0
        have h1 := (hor.cellAt (j * 4 + 1) (by omega)).trans f1
        have h2 := (hor.cellAt (j * 4 + 2) (by omega)).trans f2
        have h3 := (hor.cellAt (j * 4 + 3) (by omega)).trans f3
        clear f0 f1 f2 f3
        simp only [Nat.add_zero] at h0
        generalize hy : r[j] = y at *
        have Hl := Lib.hid (Hr.out.symm)
        clear hy Hr
        obtain ⟨yp, yk, yt, yo⟩ := y
        dsimp only at h0 h1 h2 h3
        have hgz : g < wr.heap.size := by rcases own_shape hor with ⟨hh, _⟩ | ⟨g', c', hh, _, hz, _⟩; · cases hh
                                          · injection hh with hh; injection hh with hh; injection hh with hh; rw [hh]; exact hz
        go_wp2_with fail
        clear h0 h1 h2 h3
        have ho2 := own_alloc hor (.cells #[.string yp, .int .i64 yk, .string yt, .bool yo] 53)
        have hg2 := grown_alloc hgr (.cells #[.string yp, .int .i64 yk, .string yt, .bool yo] 53)
        have hx2 := (World.cell?_alloc_lt wr (.cells #[.string yp, .int .i64 yk, .string yt, .bool yo] 53) ⟨gb, 0, none⟩ hzr).trans hxr
        have hz2 : gb < (wr.alloc (.cells #[.string yp, .int .i64 yk, .string yt, .bool yo] 53)).heap.size := by simp; omega
        have hy2 : Blk (wr.alloc (.cells #[.string yp, .int .i64 yk, .string yt, .bool yo] 53)) wr.heap.size 53 [.string yp, .int .i64 yk, .string yt, .bool yo] := Blk.new _ _ _
        clear hor hgr hxr hzr
        generalize wr.alloc (.cells #[.string yp, .int .i64 yk, .string yt, .bool yo] 53) = w2 at *
        generalize wr.heap.size = gy at *
        refine (drop1_any gb ⟨yp, yk, yt, yo⟩ s _ hx2 hz2 HZ).mono ?_
        rintro e w3 ⟨rfl, hb⟩
        have ho3 := own_below ho2 hb (Nat.le_refl _)
        have hg3 := grown_of_below hg2 hb
        have hx3 := (hb.cell (p := ⟨gb, 0, none⟩) hz2).trans hx2
        have hz3 := Nat.lt_of_lt_of_le hz2 hb.size
        have hy3 := hy2.below hb hy2.lt
        clear ho2 hg2 hx2 hz2 hy2 hb
        obtain ⟨y0, y1, y2, y3, yfr, yz⟩ := hy3.four
        dsimp only
        rcases hc : gone s ⟨yp, yk, yt, yo⟩ with _ | _
        · have q0 : i * 4 < l.length * 4 := by omega
          have hil4 : i * 4 + 3 < (En.flat r).length := by rw [eflat_len, Hd.out.len]; omega
          have c0 : ∃ u, w3.cell? ⟨g, i * 4, none⟩ = some u := ⟨_, (ho3.cellAt _ (by omega)).trans (List.getElem?_eq_getElem (by omega))⟩
          have c1 : ∃ u, w3.cell? ⟨g, i * 4 + 1, none⟩ = some u := ⟨_, (ho3.cellAt _ (by omega)).trans (List.getElem?_eq_getElem (by omega))⟩
          have c2 : ∃ u, w3.cell? ⟨g, i * 4 + 2, none⟩ = some u := ⟨_, (ho3.cellAt _ (by omega)).trans (List.getElem?_eq_getElem (by omega))⟩
          have c3 : ∃ u, w3.cell? ⟨g, i * 4 + 3, none⟩ = some u := ⟨_, (ho3.cellAt _ (by omega)).trans (List.getElem?_eq_getElem (by omega))⟩
          obtain ⟨u0, c0⟩ := c0
          obtain ⟨u1, c1⟩ := c1
          obtain ⟨u2, c2⟩ := c2
          obtain ⟨u3, c3⟩ := c3
          have fz : ∀ q, w3.frozen? ⟨g, q, none⟩ = false := fun q => ho3.frozenAt q
          clear hil4
          go_wp2_with fail
          go_roundw
          case rel =>
            obtain ⟨o4, g4⟩ := own_four ho3 (i * 4) (.string yp) (.int .i64 yk) (.string yt) (.bool yo)
            rw [eflat_set r i (by rw [Hd.out.len]; exact hil) ⟨yp, yk, yt, yo⟩] at o4
            have hd := Hd.out.keep hj Hl.out hc
            have hfar : ∀ (W : World) q (u : Value), (W.setCell ⟨g, q, none⟩ u).cell? ⟨gb, 0, none⟩ = W.cell? ⟨gb, 0, none⟩ := fun W q u => World.cell?_setCell_other W ⟨g, q, none⟩ ⟨gb, 0, none⟩ u (by intro h; injection h with h; omega)
            exact ⟨i + 1, j + 1, _, by go_num, by go_num, by omega, by have := hd.lt; omega, hd, o4, grown_trans_row hg3 g4, by rw [hfar, hfar, hfar, hfar]; exact hx3, Nat.lt_of_lt_of_le hz3 g4.size⟩
          case measure => simp [intOf]; omega
        · go_wp2_with fail
          go_roundw
          case rel => exact ⟨i, j + 1, r, rfl, by go_num, by omega, hil, Hd.out.skip hj Hl.out hc, ho3, hg3, hx3, hz3⟩
          case measure => simp [intOf]; omega
      · have ej : j = l.length := by omega
        subst ej
        have hic : i ≤ cap := by omega
        obtain ⟨w9, hrun, ho9, hg9⟩ := run_clear_own (P := Tryz.prog) (size := 4) 23 0 (.agg #[.string ⟨#[]⟩, .int .i64 0, .string ⟨#[]⟩, .bool false]) Tryz.underlying23 zero_en rfl (by simp [Value.cells, Value.oneCell']) hor i (cap - i) (some ⟨g, i * 4, none⟩) (by omega) (fun _ => rfl)
        go_wp2_with fail
        go_ret
        refine ⟨_, rfl, ?_, grown_trans_row hgr hg9, rfl⟩
        rw [eflat_take] at ho9
        have hd := Hd.out.done
        have hli : (l.filter fun x => !gone s x).length = i := by
          rw [← hd, List.length_take, Hd.out.len]
          omega
        unfold EnOwn
        rw [hli, ← hd]
        exact ho9

theorem deleteD_nil (gb : Nat) (s : ByteArray) (w : World) (hx : w.cell? ⟨gb, 0, none⟩ = some (.string s)) (hgb : gb < w.heap.size) (HZ : s.size < 4294967281) :
    Calls Tryz.prog 127 #[.slice none 0 0, .func (.func 128) #[] #[.pointer (some ⟨gb, 0, none⟩)]] w fun e w' => e = .returned (.slice none 0 0) ∧ Below w.heap.size w w' := by
  go_enter Tryz.func127, Tryz.ntmps127
  go_wp2_with fail
  refine (indexD_any none 0 gb [] s w Rd.nil (by simp) hx hgb HZ).mono ?_
  rintro e w1 ⟨i, rfl, hi, hb⟩
  rcases hi with ⟨rfl, _⟩ | ⟨k, rfl, hk, _⟩
  · go_wp2_with fail
    go_ret
    exact ⟨rfl, hb⟩
  · simp at hk

end Go.Proofs.YtjppfhgkanbemacGreatDoor

namespace Go.Proofs.YtjppfhgkanbemacGreatDoor
open Go.RowKit Go.Shelf Go.Sort

/-- DeleteFunc at a row of the call's own, nil or not. -/
theorem deleteG_any (base gb : Nat) (vU : Value) (l : List En) (s : ByteArray) (w : World) (ho : EnOwn w base vU l) (hbig : l.length ≤ 2000000) (hx : w.cell? ⟨gb, 0, none⟩ = some (.string s)) (hgb : gb < w.heap.size) (hne : some gb ≠ vU.ownBlock) (HZ : s.size < 4294967281) :
    Calls Tryz.prog 127 #[vU, .func (.func 128) #[] #[.pointer (some ⟨gb, 0, none⟩)]] w fun e w' => ∃ v, e = .returned v ∧ EnOwn w' base v (Tr.outside l s.data.toList) ∧ w.grownBy w' vU.ownBlock ∧ (∀ k, v.ownBlock = some k → vU.ownBlock = some k) := by
  rcases own_shape ho with ⟨hv, h0⟩ | ⟨g, cap, hv, hbg, hgz, hcap⟩
  · subst hv
    have e : l = [] := List.length_eq_zero_iff.1 h0
    subst e
    refine (deleteD_nil gb s w hx hgb HZ).mono ?_
    rintro e w' ⟨rfl, hb⟩
    exact ⟨_, rfl, EnOwn.nil _ _, grown_of_below (World.grownBy.refl w none) hb, fun k h => h⟩
  · subst hv
    refine (deleteD_any base g cap gb l s w ho hbig hx hgb (fun h => hne (by rw [h]; rfl)) HZ).mono ?_
    rintro e w' ⟨v, rfl, h1, h2, h3⟩
    exact ⟨v, rfl, by rw [← gone_filter]; exact h1, h2, fun k h => by rw [h3] at h; exact h⟩
theorem white_is (s : ByteArray) : Tr.whiteEn s.data.toList = ⟨s, 4, ⟨#[]⟩, false⟩ := by
  unfold Tr.whiteEn; congr 1

set_option maxHeartbeats 4000000 in
set_option maxRecDepth 100000 in
theorem drop_any (gc base : Nat) (vU vB x2 x3 : Value) (U B : List En) (s : ByteArray) (w : World) (hc : Blk w gc 150 [vU, vB, x2, x3]) (ho : EnOwn w base vU U) (hk : Kp w base gc vB B) (hgb : gc < base) (hbw : base ≤ w.heap.size)
    (hsrt : Tr.Srt U) (hnem : ∀ x ∈ U, x.P ≠ []) (hsm : Sm U) (hsB : Tr.Srt B) (hmB : Sm B) (hlB : B.length ≤ 1000000) (hs0 : s.data.toList ≠ []) (hsz : s.size < 4294967281) (hlen : U.length + s.size ≤ 900000) :
    Calls Tryz.prog 96 #[.pointer (some ⟨gc, 0, none⟩), .string s] w (SetRel gc base vB x2 x3 vU (Tr.dropE B U s.data.toList) w) := by
  have HSR := Lib.hid (show Tr.Srt (Tr.outside U s.data.toList) from Tr.srt_filter hsrt _)
  have HNE := Lib.hid (show ∀ x ∈ Tr.outside U s.data.toList, x.P ≠ [] from fun x hx => hnem x (List.mem_filter.1 hx).1)
  have HSM := Lib.hid (show Sm (Tr.outside U s.data.toList) from fun x hx => hsm x (List.mem_filter.1 hx).1)
  have HOL := outside_le U s.data.toList
  have HB := Lib.hid (And.intro hsB hmB)
  have HS0 := Lib.hid hs0
  clear hsrt hnem hsm hsB hmB hs0
  unfold SetRel
  obtain ⟨res, hres⟩ : ∃ res, res = Tr.dropE B U s.data.toList := ⟨_, rfl⟩
  rw [← hres]
  unfold Tr.dropE at hres
  rw [white_is] at hres
  obtain ⟨U2, hU2⟩ : ∃ U2, U2 = Tr.outside U s.data.toList := ⟨_, rfl⟩
  have cD := fun W gb v h1 h2 h3 h4 h5 => deleteG_any base gb v U s W h1 h2 h3 h4 h5 hsz
  rw [← hU2] at HSR HNE HSM HOL hres
  simp only [← hU2] at cD
  clear hU2
  have HR := Lib.hid hres
  clear hres
  have hp1 := Blk.new w 9 [.string s]
  have hc1 := hc.alloc (.cells #[.string s] 9)
  have ho1 : EnOwn _ base vU U := own_alloc ho (.cells #[.string s] 9)
  have hg1 := GrX.of (g := gc) (row := vU.ownBlock) ((Below.refl w.heap.size w).alloc (Nat.le_refl _) (.cells #[.string s] 9)) (Nat.le_refl _)
  have hk1 := hk.keep (hg1.belowX hbw (own_lt ho))
  have hne : some w.heap.size ≠ vU.ownBlock := own_ne ho (.inr (Nat.le_refl _))
  have hvb := own_lt ho
  have hgw : w.heap.size ≠ gc := by omega
  have hs1 : base ≤ (w.alloc (.cells #[.string s] 9)).heap.size := by rw [World.size_alloc]; omega
  clear hc ho hk
  obtain ⟨rU, hrU⟩ : ∃ rU, rU = vU.ownBlock := ⟨_, rfl⟩
  rw [← hrU] at hg1 hne hvb ⊢
  obtain ⟨A, cU, hvU, hcU, hrd⟩ := EnOwn.rd ho1
  subst hvU
  obtain ⟨k0, k1, k2, k3, kf, kz⟩ := hc1.four
  go_enter Tryz.func96, Tryz.ntmps96
  go_wp2_with fail
  clear k0 k1 k2 k3 kf kz hrd
  generalize w.alloc (.cells #[.string s] 9) = w1 at *
  refine (cD w1 w.heap.size _ ho1 (by omega) (hp1.cell 0) hp1.lt (by rw [← hrU]; exact hne)).mono ?_
  rintro e w2 ⟨v2, rfl, ho2, hg2, hat⟩
  rw [← hrU] at hg2 hat
  have hc2 := hc1.grown hg2 (by rw [hrU]; exact own_ne ho1 (.inl hgb))
  have hp2 := hp1.grown hg2 hne
  have hg3 := hg1.trans (GrX.grown (g := gc) hg2 (fun k e => .inl (hat k e)))
  have hk2 := hk1.keep (BelowX.grown hg2 hs1 hvb)
  have hs2 := Nat.le_trans hs1 hg2.size
  have hn2 : some w.heap.size ≠ v2.ownBlock := fun e => hne (hat _ e.symm).symm
  clear hc1 hp1 hg1 hk1 hg2 hat ho1 hs1 cD
  obtain ⟨A2, c2, hv2, hcc, hrd2⟩ := EnOwn.rd ho2
  subst hv2
  have hc3 : Blk (w2.setCell ⟨gc, 0, none⟩ (.slice A2 U2.length c2)) gc 150 [.slice A2 U2.length c2, vB, x2, x3] := hc2.set_ 0 _
  have hp3 := hp2.far (p := ⟨gc, 0, none⟩) hgw (.slice A2 U2.length c2)
  have hk3 := hk2.keep (BelowX.set w2 0 (.slice A2 U2.length c2))
  have ho3 : EnOwn (w2.setCell ⟨gc, 0, none⟩ (.slice A2 U2.length c2)) base (.slice A2 U2.length c2) U2 := own_far ho2 (own_ne ho2 (.inl hgb)) 0 _
  have hg4 := hg3.trans (GrX.set gc (Value.slice A2 U2.length c2).ownBlock w2 0 (.slice A2 U2.length c2))
  have hs3 : base ≤ (w2.setCell ⟨gc, 0, none⟩ (.slice A2 U2.length c2)).heap.size := by simpa using hs2
  obtain ⟨AB, cB, hvB, hcB, hrB, hnB⟩ := hk3
  subst hvB
  obtain ⟨k0, k1, k2, k3, kf, kz⟩ := hc2.four
  obtain ⟨p0, pf, pz⟩ := hp2.one
  go_upto_region 2 with fail
  clear k0 k1 k2 k3 kf kz p0 pf pz hk2 hc2 hp2 hg3 ho2 hs2 hrd2
  have hsz3 : w.heap.size ≤ (w2.setCell ⟨gc, 0, none⟩ (.slice A2 U2.length c2)).heap.size := hg4.size
  generalize w2.setCell ⟨gc, 0, none⟩ (.slice A2 U2.length c2) = w3 at *
  obtain ⟨k0, k1, k2, k3, kf, kz⟩ := hc3.four
  obtain ⟨p0, pf, pz⟩ := hp3.one
  have hrB3 : EnRd w3 w3.heap.size AB B := Rd.more hrB hs3
  go_cut [5] (fun bv wx => ∃ (k : Nat) (b : Bool), bv = .bool b ∧ FindRel B s.data.toList k b ∧ Blk wx gc 150 [.slice A2 U2.length c2, .slice AB B.length cB, x2, x3] ∧ EnOwn wx base (.slice A2 U2.length c2) U2 ∧ Blk wx w.heap.size 9 [.string s] ∧ GrX gc rU (Value.slice A2 U2.length c2).ownBlock w wx)
  case first =>
    go_region_held3 (fun W => W.cell? ⟨gc, 1, none⟩ = some (.slice AB B.length cB) ∧ W.cell? ⟨w.heap.size, 0, none⟩ = some (.string s)) (first | exact ⟨k1, p0⟩ | exact hS6 | go_keep) (first | (go_at_call 45; refine (find_any AB cB B s _ (by exact hrB3) HB.out.2 hsz (by omega)).mono ?_; rintro e w6 ⟨k, b, rfl, hf, hb⟩; have hS6 : w6.cell? ⟨gc, 1, none⟩ = some (.slice AB B.length cB) ∧ w6.cell? ⟨w.heap.size, 0, none⟩ = some (.string s) := ⟨(hb.cell (p := ⟨gc, 1, none⟩) hc3.lt).trans k1, (hb.cell (p := ⟨w.heap.size, 0, none⟩) hp3.lt).trans p0⟩))
    all_goals
      go_wp2_with fail
      go_meet
      case rel =>
        have hb' : Below w3.heap.size w3 w6 := ((Below.refl _ w3).drew).trans hb
        exact ⟨k, b, rfl, hf, hc3.below hb' hc3.lt, own_below ho3 hb' (Nat.le_refl _), hp3.below hb' hp3.lt, hg4.trans (GrX.of hb' (Nat.le_refl _))⟩
  case rest =>
    clear k0 k1 k2 k3 kf kz p0 pf pz hrB3 hc3 hp3 hg4 ho3 hs3 hrB hsz3
    obtain ⟨k, b, rfl, hf, hc4, ho4, hp4, hg4⟩ := hcut
    generalize wc = w4 at *
    have hsz4 : w.heap.size ≤ w4.heap.size := hg4.size
    have hs4 := Nat.le_trans hbw hsz4
    have hbs := find_is hf HB.out.1 HS0.out
    clear hf
    obtain ⟨k0, k1, k2, k3, kf, kz⟩ := hc4.four
    obtain ⟨p0, pf, pz⟩ := hp4.one
    cases b
    · have HF : Hid (res = U2) := Lib.hid (by rw [HR.out, if_neg]; intro h; rw [← hbs] at h; exact absurd h.1 (by decide))
      clear HR hbs
      go_wp2_with fail
      go_quiet (fail)
      go_wp2_with fail
      refine bodyPost_end (results_none Tryz.results96 _ _ _) rfl ?_
      exact ⟨rfl, _, hc4.drewN nq, by rw [HF.out]; exact ho4, hg4.drewN nq⟩
    · have HR2 : Hid (res = if Tr.hides U2 s.data.toList = false then Tr.setP U2 ⟨s, 4, ⟨#[]⟩, false⟩ else U2) := Lib.hid (by
        rw [HR.out]
        by_cases h : Tr.hides U2 s.data.toList = false
        · rw [if_pos ⟨hbs.symm, h⟩, if_pos h]; rfl
        · rw [if_neg (fun q => h q.2), if_neg h])
      clear HR hbs
      have hrd4 : EnRd w4 w4.heap.size A2 U2 := by
        obtain ⟨Aq, cq, hq, _, hr⟩ := EnOwn.rd ho4
        injection hq with q1 q2 q3
        rw [q1]; exact hr
      go_upto_region 3 with fail
      go_cut [33] (fun bv wx => bv = .bool (!Tr.hides U2 s.data.toList) ∧ Blk wx gc 150 [.slice A2 U2.length c2, .slice AB B.length cB, x2, x3] ∧ EnOwn wx base (.slice A2 U2.length c2) U2 ∧ Blk wx w.heap.size 9 [.string s] ∧ GrX gc rU (Value.slice A2 U2.length c2).ownBlock w wx)
      case first =>
        go_region_held3 (fun W => W.cell? ⟨gc, 0, none⟩ = some (.slice A2 U2.length c2) ∧ W.cell? ⟨w.heap.size, 0, none⟩ = some (.string s)) (first | exact ⟨k0, p0⟩ | exact hS6 | go_keep) (first | (go_at_call 64; refine (hides_any A2 c2 U2 s _ (by exact hrd4) HSM.out HSR.out hsz (by omega)).mono ?_; rintro e w6 ⟨rfl, hb⟩; have hS6 : w6.cell? ⟨gc, 0, none⟩ = some (.slice A2 U2.length c2) ∧ w6.cell? ⟨w.heap.size, 0, none⟩ = some (.string s) := ⟨(hb.cell (p := ⟨gc, 0, none⟩) hc4.lt).trans k0, (hb.cell (p := ⟨w.heap.size, 0, none⟩) hp4.lt).trans p0⟩))
        all_goals
          go_wp2_with fail
          go_meet
          case rel =>
            have hb' : Below w4.heap.size w4 w6 := ((Below.refl _ w4).drew).trans hb
            exact ⟨rfl, hc4.below hb' hc4.lt, own_below ho4 hb' (Nat.le_refl _), hp4.below hb' hp4.lt, hg4.trans (GrX.of hb' (Nat.le_refl _))⟩
      case rest =>
        clear k0 k1 k2 k3 kf kz p0 pf pz hc4 hp4 hg4 ho4 hs4 hrd4 hsz4
        obtain ⟨rfl, hc5, ho5, hp5, hg5⟩ := hcut
        generalize wc = w5 at *
        have hsz5 : w.heap.size ≤ w5.heap.size := hg5.size
        have hs5 := Nat.le_trans hbw hsz5
        obtain ⟨p0, pf, pz⟩ := hp5.one
        rcases th : Tr.hides U2 s.data.toList with _ | _
        · have HF := Lib.hid (HR2.out.trans (if_pos th))
          clear HR2 th
          go_wp2_with fail
          clear p0 pf pz
          refine (set_any s.size gc base (.slice AB B.length cB) x2 x3 (.slice A2 U2.length c2) U2 ⟨s, 4, ⟨#[]⟩, false⟩ w5 hc5 ho5 hgb hs5 HSR.out HNE.out HSM.out HS0.out (by show s.data.toList.length ≤ s.size; rw [size_length]; exact Nat.le_refl _) hsz (by show (0 : Nat) < 4294967281; decide) (by omega)).mono ?_
          rintro e w6 ⟨rfl, v6, hc6, ho6, hg6⟩
          go_wp2_with fail
          refine bodyPost_end (results_none Tryz.results96 _ _ _) rfl ?_
          exact ⟨rfl, v6, hc6, by rw [HF.out]; exact ho6, hg5.trans hg6⟩
        · have HF := Lib.hid (HR2.out.trans (if_neg (by rw [th]; decide)))
          clear HR2 th
          go_wp2_with fail
          refine bodyPost_end (results_none Tryz.results96 _ _ _) rfl ?_
          exact ⟨rfl, _, hc5, by rw [HF.out]; exact ho5, hg5⟩
end Go.Proofs.YtjppfhgkanbemacGreatDoor

namespace Go.Proofs.YtjppfhgkanbemacGreatDoor
open Go.RowKit Go.Shelf Go.Sort

/-- A row of trees of the call's own, and trees behind a bound, none in the row. -/
def TsFree (w : World) (base : Nat) (v : Value) (ls : List (List En)) : Prop :=
  ∃ vs : List Value, w.ownsRow base 23 1 v ls.length vs ∧ ∀ k (h : k < ls.length), ∃ Ak ck, vs[k]? = some (.slice Ak ls[k].length ck) ∧ ls[k].length ≤ ck ∧ EnRd w w.heap.size Ak ls[k] ∧ (0 < ls[k].length → ∀ a, Ak = some a → base ≤ a.block ∧ some a.block ≠ v.ownBlock)
theorem TsFree.nil (w : World) (base : Nat) : TsFree w base (.slice none 0 0) [] := ⟨[], World.ownsRow_nil _ _ _ _, fun k h => absurd h (Nat.not_lt_zero k)⟩
theorem TsFree.below {w w' : World} {base : Nat} {v : Value} {ls : List (List En)} (h : TsFree w base v ls) (hb : Below w.heap.size w w') : TsFree w' base v ls := by
  obtain ⟨vs, h1, h2⟩ := h
  refine ⟨vs, own_below h1 hb (Nat.le_refl _), fun k hk => ?_⟩
  obtain ⟨Ak, ck, f1, f2, f3, f4⟩ := h2 k hk
  exact ⟨Ak, ck, f1, f2, (Rd.below f3 hb).more hb.size, f4⟩
theorem TsFree.far {w : World} {base g : Nat} {v : Value} {ls : List (List En)} (h : TsFree w base v ls) (hg : g < base) (i : Nat) (u : Value) : TsFree (w.setCell ⟨g, i, none⟩ u) base v ls := by
  obtain ⟨vs, h1, h2⟩ := h
  refine ⟨vs, own_far h1 (own_ne h1 (.inl hg)) i u, fun k hk => ?_⟩
  obtain ⟨Ak, ck, f1, f2, f3, f4⟩ := h2 k hk
  refine ⟨Ak, ck, f1, f2, ⟨f3.1, fun hn => ?_⟩, f4⟩
  obtain ⟨b, o, e, hlt, hc⟩ := f3.2 hn
  refine ⟨b, o, e, by simpa using hlt, fun j u' hu => ?_⟩
  have hne : b ≠ g := fun e2 => by have := (f4 hn _ e).1; change base ≤ b at this; omega
  exact (World.cell?_of_block (a := ⟨b, o + j, none⟩) (Below.heap_setCell w ⟨g, i, none⟩ u b hne)).trans (hc j u' hu)
theorem TsFree.rd {w : World} {base : Nat} {v : Value} {ls : List (List En)} (h : TsFree w base v ls) : ∃ A c, v = .slice A ls.length c ∧ TsRd w w.heap.size A ls ∧ (A = none → c = 0) := by
  obtain ⟨vs, h1, h2⟩ := h
  have key : ∀ A, Rd w w.heap.size 1 A ls.length vs → TsRd w w.heap.size A ls := fun A hr => ⟨vs, hr, fun k hk => by
    obtain ⟨Ak, ck, f1, f2, f3, _⟩ := h2 k hk
    exact ⟨Ak, ck, f1, f2, f3⟩⟩
  rcases own_shape h1 with ⟨rfl, h0⟩ | ⟨g, cap, rfl, _, _, hc⟩
  · have e : ls = [] := List.length_eq_zero_iff.1 h0
    subst e
    exact ⟨none, 0, rfl, TsRd.nil _ _ _, fun _ => rfl⟩
  · exact ⟨some ⟨g, 0, none⟩, cap, rfl, key _ (Rd.of_own h1), fun h => by cases h⟩

section
variable {w : World} {a : Act} {o : Oper} {Q : Exit → Act → World → Prop} {base gl : Nat} {v : Value} {ls : List (List En)} {m : List En} {Ak : Option Addr} {ck : Nat}
set_option maxRecDepth 100000 in
theorem run_appFree (ty : TypeId) (hown : TsFree w base v ls) (hx : Blk w gl 23 [.slice Ak m.length ck]) (hm : EnRd w w.heap.size Ak m) (hc : m.length ≤ ck) (hk : 0 < m.length → ∀ a, Ak = some a → base ≤ a.block ∧ some a.block ≠ v.ownBlock) (hlen : ls.length ≤ 4000000) (hbase : base ≤ w.heap.size) :
    ∃ v' w', (Builtin.append_ #[24, 24] ty #[v, .slice (some ⟨gl, 0, none⟩) 1 1]).run Tryz.prog w = .ok v' w' ∧ TsFree w' base v' (ls ++ [m]) ∧ w.grownBy w' v.ownBlock := by
  obtain ⟨i0, hi, hz0, hz1, hz2⟩ := info_parts info_tr
  obtain ⟨vs, hvs, hel⟩ := hown
  have hr : Rd w w.heap.size 1 (some ⟨gl, 0, none⟩) 1 [.slice Ak m.length ck] := ⟨rfl, fun _ => ⟨_, 0, rfl, hx.lt, fun j u hu => by rw [Nat.zero_add]; exact (hx.cell j).trans hu⟩⟩
  obtain ⟨v', w', h2, h3, h4, hat⟩ := run_appR (P := Tryz.prog) w base 24 ty 23 i0 _ 1 24 Tryz.underlying24 hi hz0 hz1 hz2 rfl (by decide) v ls.length vs hvs (some ⟨gl, 0, none⟩) 1 1 [.slice Ak m.length ck] hr (fun h => by cases h) (fun u hu => by rw [List.mem_singleton.1 hu]; rfl) (by unfold maxLen; omega) (by omega) hbase
  have keep : ∀ (B : Option Addr) (l : List En), EnRd w w.heap.size B l → (0 < l.length → ∀ a, B = some a → base ≤ a.block ∧ some a.block ≠ v.ownBlock) → EnRd w' w'.heap.size B l ∧ (0 < l.length → ∀ a, B = some a → base ≤ a.block ∧ some a.block ≠ v'.ownBlock) := fun B l hB hne => by
    refine ⟨⟨hB.1, fun hn => ?_⟩, fun hn a ha => ⟨(hne hn a ha).1, fun e2 => ?_⟩⟩
    · obtain ⟨b, o, e, hlt, hcl⟩ := hB.2 hn
      refine ⟨b, o, e, Nat.lt_of_lt_of_le hlt h4.size, fun j u hu => ?_⟩
      exact (World.cell?_of_block (a := ⟨b, o + j, none⟩) (h4.block b hlt (hne hn _ e).2)).trans (hcl j u hu)
    · obtain ⟨b, o, e, hlt, _⟩ := hB.2 hn
      rw [e] at ha
      injection ha with ha
      subst ha
      rcases hat with h | h
      · exact (hne hn _ e).2 (e2.trans h)
      · rw [h] at e2; injection e2 with e2; change b = w.heap.size at e2; omega
  have hl : vs.length = ls.length := by have := hvs.1; omega
  refine ⟨v', w', h2, ⟨vs ++ [.slice Ak m.length ck], by rw [List.length_append]; exact h3, fun k hk' => ?_⟩, h4⟩
  rw [List.length_append] at hk'
  by_cases e : k < ls.length
  · obtain ⟨Ak', ck', f1, f2, f3, f4⟩ := hel k e
    obtain ⟨f5, f6⟩ := keep _ _ f3 f4
    rw [List.getElem_append_left e]
    exact ⟨Ak', ck', by rw [List.getElem?_append_left (by omega)]; exact f1, f2, f5, f6⟩
  · have ek : k = ls.length := by simp at hk'; omega
    subst ek
    obtain ⟨f5, f6⟩ := keep _ _ hm hk
    rw [List.getElem_append_right (Nat.le_refl _)]
    simp only [Nat.sub_self, List.getElem_cons_zero]
    exact ⟨Ak, ck, by rw [List.getElem?_append_right (by omega), hl, Nat.sub_self]; rfl, hc, f5, f6⟩
theorem step_appFree {ops : Array Oper} {K : Act → World → Prop} {E : Prop} (W : World) (hgd : o.guard = none) (s x : Operand) (ho : o.op = .call { callee := .builtin .append, args := #[s, x], argTypes := #[24, 24] })
    (hs : a.eval s = v) (hown : TsFree w base v ls) (hxe : a.eval x = .slice (some ⟨gl, 0, none⟩) 1 1) (hx : Blk w gl 23 [.slice Ak m.length ck]) (hm : EnRd w w.heap.size Ak m) (hc : m.length ≤ ck) (hk : 0 < m.length → ∀ a, Ak = some a → base ≤ a.block ∧ some a.block ≠ v.ownBlock) (hlen : ls.length ≤ 4000000) (hbase : base ≤ w.heap.size) (hW : W = w)
    (h : ∀ v' w', TsFree w' base v' (ls ++ [m]) → w.grownBy w' v.ownBlock → K (a.put o.dst v') w') : if Region.wanted o (yielded ops a.tmps) = true then Oper.wp Tryz.prog o a W K Q else E := by
  have hw : Region.wanted o (yielded ops a.tmps) = true := by simp [Region.wanted, hgd]
  rw [if_pos hw]
  subst hW
  obtain ⟨v', w', h2, h3, h4⟩ := run_appFree (ty := o.type) hown hx hm hc hk hlen hbase
  exact Lib.wp_append_run _ s x _ _ ho _ _ hs hxe v' w' h2 (h v' w' h3 h4)
end

theorem rd_far {w w' : World} {lo size n : Nat} {A : Option Addr} {xs : List Value} (h : Rd w w.heap.size size A n xs) (hlo : 0 < n → ∀ a, A = some a → lo ≤ a.block) (hs : w.heap.size ≤ w'.heap.size) (hk : ∀ k, lo ≤ k → k < w.heap.size → w'.heap[k]? = w.heap[k]?) : Rd w' w'.heap.size size A n xs :=
  ⟨h.1, fun hn => by
    obtain ⟨b, o, e, hlt, hc⟩ := h.2 hn
    refine ⟨b, o, e, by omega, fun j u hu => ?_⟩
    exact (World.cell?_of_block (a := ⟨b, o + j, none⟩) (hk b (hlo hn _ e) hlt)).trans (hc j u hu)⟩
/-- A union reads off wherever the blocks from lo on lie as they do here. -/
def UnFar (lo : Nat) (w : World) (A A' : Option Addr) (c c' : Nat) (u : Un) : Prop :=
  ∀ w' : World, w.heap.size ≤ w'.heap.size → (∀ k, lo ≤ k → k < w.heap.size → w'.heap[k]? = w.heap[k]?) → UnRd w' w'.heap.size A A' c c' u
theorem UnFar.here {lo : Nat} {w : World} {A A' : Option Addr} {c c' : Nat} {u : Un} (h : UnFar lo w A A' c c' u) : UnRd w w.heap.size A A' c c' u := h w (Nat.le_refl _) fun _ _ _ => rfl
theorem UnFar.less {lo lo' : Nat} {w : World} {A A' : Option Addr} {c c' : Nat} {u : Un} (h : UnFar lo w A A' c c' u) (hl : lo' ≤ lo) : UnFar lo' w A A' c c' u := fun w' hs hk => h w' hs fun k h1 h2 => hk k (by omega) h2
theorem UnFar.on {lo : Nat} {w w' : World} {A A' : Option Addr} {c c' : Nat} {u : Un} (h : UnFar lo w A A' c c' u) (hs : w.heap.size ≤ w'.heap.size) (hk : ∀ k, lo ≤ k → k < w.heap.size → w'.heap[k]? = w.heap[k]?) : UnFar lo w' A A' c c' u := fun w2 hs2 hk2 => h w2 (Nat.le_trans hs hs2) fun k h1 h2 => (hk2 k h1 (Nat.lt_of_lt_of_le h2 hs)).trans (hk k h1 h2)
theorem UnFar.below {lo : Nat} {w w' : World} {A A' : Option Addr} {c c' : Nat} {u : Un} (h : UnFar lo w A A' c c' u) (hb : Below w.heap.size w w') : UnFar lo w' A A' c c' u := h.on hb.size fun k _ hk => hb.block k hk
theorem UnFar.set {lo : Nat} {w : World} {A A' : Option Addr} {c c' : Nat} {u : Un} (h : UnFar lo w A A' c c' u) {p : Addr} (hp : p.block < lo) (x : Value) : UnFar lo (w.setCell p x) A A' c c' u := h.on (by simp) fun k h1 _ => Below.heap_setCell w p x k (by omega)
theorem UnFar.zero (lo : Nat) (w : World) : UnFar lo w none none 0 0 Un.zero := fun _ _ _ => ⟨Rd.nil, Nat.le_refl _, TsRd.nil _ _ _, fun _ => rfl⟩
/-- What a change answers: a union and an error. -/
def UnResL (lo : Nat) (r : Un × Int) (w : World) (e : Ending) (w' : World) : Prop :=
  ∃ A A' c c', e = .returned (.tuple #[.agg #[.slice A r.1.U.length c, .slice A' r.1.L.length c'], .int .i64 r.2]) ∧ UnFar lo w' A A' c c' r.1 ∧ Below w.heap.size w w'
theorem UnResL.none {lo : Nat} {w w' : World} {e : Int} (h : Below w.heap.size w w') : UnResL lo (Un.zero, e) w (.returned (.tuple #[.agg #[.slice none 0 0, .slice none 0 0], .int .i64 e])) w' :=
  ⟨_, _, _, _, rfl, UnFar.zero lo w', h⟩
theorem un_far {w : World} {lo base base' : Nat} {v vL : Value} {V : List En} {L : List (List En)} (h1 : EnOwn w base v V) (h2 : TsFree w base' vL L) (hl : lo ≤ base) (hl' : lo ≤ base') : ∃ A A' c c', v = .slice A V.length c ∧ vL = .slice A' L.length c' ∧ UnFar lo w A A' c c' ⟨V, L⟩ := by
  obtain ⟨A, c, rfl, hc, hr⟩ := EnOwn.rd h1
  obtain ⟨A', c', rfl, hr', hn⟩ := h2.rd
  refine ⟨A, A', c, c', rfl, rfl, fun w' hs hk => ⟨rd_far hr (fun _ a ha => ?_) hs hk, hc, ?_, hn⟩⟩
  · subst ha
    have := (World.ownsRow.lt h1 a.block rfl).1
    omega
  · obtain ⟨vs, g1, g2⟩ := h2
    refine ⟨vs, rd_far (lo := lo) (Rd.of_own g1) (fun _ a ha => ?_) hs hk, fun k hk' => ?_⟩
    · subst ha
      have := (World.ownsRow.lt g1 a.block rfl).1
      omega
    · obtain ⟨Ak, ck, f1, f2, f3, f4⟩ := g2 k hk'
      exact ⟨Ak, ck, f1, f2, rd_far (lo := lo) f3 (fun hn a ha => Nat.le_trans hl' (f4 hn a ha).1) hs hk⟩

set_option maxHeartbeats 4000000 in
set_option maxRecDepth 100000 in
theorem end_any (gc gu base : Nat) (x1 x2 x3 vU : Value) (V : List En) (A A' : Option Addr) (c c' : Nat) (u : Un) (w : World) (hc : Blk w gc 150 [vU, x1, x2, x3]) (ho : EnOwn w base vU V) (hbw : base ≤ w.heap.size) (hq : Blk w gu 26 [.slice A u.U.length c, .slice A' u.L.length c']) (hl : TsRd w w.heap.size A' u.L) (hL : u.L.length ≤ 1000) (hLL : ∀ l ∈ u.L, l.length ≤ 2000000) (hV : V.length ≤ 2000000) :
    Calls Tryz.prog 94 #[.pointer (some ⟨gc, 0, none⟩), .pointer (some ⟨gu, 0, none⟩)] w (UnResL base (Tr.fin u V) w) := by
  obtain ⟨U, L⟩ := u
  dsimp only at hq hl hL hLL
  obtain ⟨AV, cV, hvV, hcV, hrV⟩ := EnOwn.rd ho
  subst hvV
  obtain ⟨r, hr⟩ : ∃ r, r = Tr.fin ⟨U, L⟩ V := ⟨_, rfl⟩
  have HR : Hid (r = if 80 < V.length then (Un.zero, 5) else (⟨V, L⟩, 0)) := Lib.hid hr
  rw [← hr]
  clear hr
  have hB0 := (Below.refl w.heap.size w).alloc (Nat.le_refl _) (.cells #[.slice none 0 0, .slice none 0 0] 26)
  have hz0 := Blk.new w 26 [.slice none 0 0, .slice none 0 0]
  have hc0 := hc.alloc (.cells #[.slice none 0 0, .slice none 0 0] 26)
  have hq0 := hq.alloc (.cells #[.slice none 0 0, .slice none 0 0] 26)
  have hsz0 : (w.alloc (.cells #[.slice none 0 0, .slice none 0 0] 26)).heap.size = w.heap.size + 1 := World.size_alloc _ _
  have HLL := Lib.hid hLL
  clear hLL hrV
  obtain ⟨k0, k1, k2, k3, kf, kz⟩ := hc0.four
  go_enter Tryz.func94, Tryz.ntmps94
  go_upto_region 1 with fail
  clear hc hq
  rcases t8 : decide ((80 : Int) < (V.length : Int)) with _ | _
  rotate_left
  · have HF : Hid (r = (Un.zero, 5)) := Lib.hid (HR.out.trans (if_pos (by have := of_decide_eq_true t8; omega)))
    obtain ⟨z0, z1, zf, zz⟩ := hz0.two
    go_wp2_with fail
    refine bodyPost_ret (v := .tuple #[.agg #[.slice none 0 0, .slice none 0 0], .int .i64 5]) ?_ rfl ?_
    · simp [results, Tryz.results94, go_sem, z0, z1]
    rw [HF.out]
    exact UnResL.none hB0
  · have HF : Hid (r = (⟨V, L⟩, 0)) := Lib.hid (HR.out.trans (if_neg (by have := of_decide_eq_false t8; omega)))
    have hB1 := hB0.alloc hB0.size (.cells #[.slice AV V.length cV, .slice none 0 0] 26)
    have hz1 := hz0.alloc (.cells #[.slice AV V.length cV, .slice none 0 0] 26)
    have hq1 := hq0.alloc (.cells #[.slice AV V.length cV, .slice none 0 0] 26)
    have hw1 := Blk.new (w.alloc (.cells #[.slice none 0 0, .slice none 0 0] 26)) 26 [.slice AV V.length cV, .slice none 0 0]
    rw [hsz0] at hw1
    have hsz1 : ((w.alloc (.cells #[.slice none 0 0, .slice none 0 0] 26)).alloc (.cells #[.slice AV V.length cV, .slice none 0 0] 26)).heap.size = w.heap.size + 2 := by rw [World.size_alloc, hsz0]
    have hgu := hq0.lt
    go_upto_region 4 with fail
    clear k0 k1 k2 k3 kf kz hc0 hq0 hz0 hB0
    generalize (w.alloc (.cells #[.slice none 0 0, .slice none 0 0] 26)).alloc (.cells #[.slice AV V.length cV, .slice none 0 0] 26) = w1 at *
    obtain ⟨q0, q1, qf, qz⟩ := hq1.two
    go_wp2_with fail
    clear q0 q1 qf qz
    go_loopw [26] (fun i wr => ∃ (k : Nat) (vk : Value), k ≤ L.length ∧ i = .int .i64 k ∧ Blk wr (w.heap.size + 1) 26 [.slice AV V.length cV, vk] ∧ Blk wr w.heap.size 26 [.slice none 0 0, .slice none 0 0] ∧ TsFree wr (w.heap.size + 2) vk (L.take k) ∧ Below w.heap.size w wr ∧ w.heap.size + 2 ≤ wr.heap.size) (fun i _ => L.length - (intOf i).toNat)
    case atStart => exact ⟨0, .slice none 0 0, Nat.zero_le _, rfl, hw1, hz1, TsFree.nil _ _, hB1, Nat.le_of_eq hsz1.symm⟩
    case round =>
      clear hw1 hz1 hB1 hsz1 hq1
      obtain ⟨k, vk, hk, rfl, hwr, hzr, hfr, hB, hsz⟩ := hrel
      by_cases hlt : k < L.length
      · obtain ⟨ws, hrw, hel⟩ := (hl.below hB)
        obtain ⟨Ak, ck, f1, f2, f3⟩ := hel k hlt
        have hlk := HLL.out L[k] (List.getElem_mem hlt)
        have HT : Hid (L.take (k + 1) = L.take k ++ [L[k]]) := Lib.hid (List.take_succ_eq_append_getElem hlt)
        have f3 := f3.more hB.size
        obtain ⟨b, o, hA, hb, hcell⟩ := hrw.2 (by omega)
        have h0 := hcell k _ f1
        subst hA
        clear hel hrw hcell f1
        generalize L[k] = m at f2 f3 hlk HT h0
        obtain ⟨z0, z1, zf, zz⟩ := hwr.two
        go_wp2_with fail
        have f3' : EnRd wr.drew wr.drew.heap.size Ak m := f3
        have hfr' : TsFree wr.drew (w.heap.size + 2) vk (L.take k) := hfr
        have hkl : (L.take k).length ≤ 4000000 := by rw [List.length_take]; omega
        have hvk : ∀ q, vk.ownBlock = some q → w.heap.size + 2 ≤ q ∧ q < wr.heap.size := fun q e => by
          obtain ⟨vs, g1, _⟩ := hfr
          exact World.ownsRow.lt g1 q e
        go_region_law (first
            | (refine step_appFree (w := w2.alloc (.cells #[.slice A2 m.length c2] 23)) _ rfl _ _ rfl rfl hfr3 rfl hlit hr2' hc2 hne2 hkl (Nat.le_trans hsz hb3.size) rfl ?_
               intro v4 w4 hfr4 hg4
               have hwr4 := hwr3.grown hg4 (fun e => by have := (hvk _ e.symm).1; omega)
               obtain ⟨z0, z1, zf, zz⟩ := hwr4.two
               obtain ⟨A4, c4, hv4, _, _⟩ := hfr4.rd
               rw [show (L.take k ++ [m]).length = k + 1 by rw [List.length_append, List.length_take]; simp; omega] at hv4
               subst hv4)
            | (go_simp; go_at_call 39; refine (eclone_any Ak ck m _ (by exact f3') hlk).mono ?_; rintro e w2 ⟨v2, rfl, ho2, hb2⟩
               have hb2' : Below wr.heap.size wr w2 := ((Below.refl _ wr).drew).trans hb2
               obtain ⟨A2, c2, hv2, hc2, hr2⟩ := EnOwn.rd ho2
               have hne2 : 0 < m.length → ∀ a, A2 = some a → w.heap.size + 2 ≤ a.block ∧ some a.block ≠ vk.ownBlock := fun _ a ha => by
                 subst hv2
                 subst ha
                 have g2 : wr.heap.size ≤ a.block := (World.ownsRow.lt ho2 a.block rfl).1
                 exact ⟨by omega, fun e => by have := (hvk _ e.symm).2; omega⟩
               subst hv2
               have hwr2 := hwr.below hb2' hwr.lt
               have hfr2 := hfr.below hb2'
               have hlit := Blk.new w2 23 [.slice A2 m.length c2]
               have hr2' : EnRd (w2.alloc (.cells #[.slice A2 m.length c2] 23)) (w2.alloc (.cells #[.slice A2 m.length c2] 23)).heap.size A2 m := (Rd.alloc hr2 (Nat.le_refl _) _).more (by simp)
               have hfr3 : TsFree (w2.alloc (.cells #[.slice A2 m.length c2] 23)) (w.heap.size + 2) vk (L.take k) := hfr2.below ((Below.refl _ _).alloc (Nat.le_refl _) _)
               have hb3 := hb2'.alloc hb2'.size (.cells #[.slice A2 m.length c2] 23)
               have hwr3 := hwr2.alloc (.cells #[.slice A2 m.length c2] 23)
               obtain ⟨z0, z1, zf, zz⟩ := hwr2.two))
        all_goals
          have hzr4 := ((hzr.below hb2' hzr.lt).alloc (.cells #[.slice A2 m.length c2] 23)).grown hg4 (fun e => by have := (hvk _ e.symm).1; omega)
          have hB4 := (hB.trans (hb3.mono hB.size)).grown hg4 (Nat.le_trans hB.size hb3.size) (fun q e => by have := (hvk q e).1; omega)
          have hs4 : w.heap.size + 2 ≤ w4.heap.size := Nat.le_trans (Nat.le_trans hsz hb3.size) hg4.size
          clear z0 z1 zf zz
          go_wp2_with fail
          go_roundw
          case rel => exact ⟨k + 1, .slice A4 (k + 1) c4, hlt, by go_num, hwr4.set_ 1 _, hzr4.far (p := ⟨w.heap.size + 1, 1, none⟩) (by show w.heap.size ≠ w.heap.size + 1; omega) _, by rw [HT.out]; exact hfr4.far (by omega) 1 _, hB4.setCell (p := ⟨w.heap.size + 1, 1, none⟩) (by show w.heap.size ≤ w.heap.size + 1; omega) _, by simpa using hs4⟩
          case measure => simp [intOf]; omega
      · obtain rfl : k = L.length := by omega
        rw [List.take_length] at hfr
        have hown : EnOwn wr base (.slice AV V.length cV) V := own_below ho hB (Nat.le_refl _)
        have hne : some w.heap.size ≠ (Value.slice AV V.length cV).ownBlock := own_ne ho (.inr (Nat.le_refl _))
        obtain ⟨A6, A6', c6, c6', e1, e2, hfar⟩ := un_far (lo := base) (own_far (own_far hown hne 0 (.slice AV V.length cV)) hne 1 vk) ((hfr.far (g := w.heap.size) (by omega) 0 (.slice AV V.length cV)).far (g := w.heap.size) (by omega) 1 vk) (Nat.le_refl _) (by omega)
        injection e1 with a1 a2 a3
        subst a1 a3 e2
        obtain ⟨z0, z1, zf, zz⟩ := hwr.two
        obtain ⟨y0, y1, yf, yz⟩ := hzr.two
        go_wp2_with fail
        refine bodyPost_ret (v := .tuple #[.agg #[.slice AV V.length cV, .slice A6' L.length c6'], .int .i64 0]) ?_ rfl ?_
        · simp [results, Tryz.results94, go_sem, y0, y1]
        rw [HF.out]
        exact ⟨_, _, _, _, rfl, hfar, (hB.setCell (p := ⟨w.heap.size, 0, none⟩) (Nat.le_refl _) _).setCell (p := ⟨w.heap.size, 1, none⟩) (Nat.le_refl _) _⟩
end Go.Proofs.YtjppfhgkanbemacGreatDoor

namespace Go.Proofs.YtjppfhgkanbemacGreatDoor
open Go.RowKit Go.Shelf Go.Sort

/-- What a fine union's parts are, in one. -/
structure Tr.Parts (u : Un) (S : List En) : Prop where
  ur : Tr.Right true u.U
  ul : u.U.length ≤ 80
  sr : Tr.Right false S
  sl : S.length ≤ 80
  br : Tr.Right false (Tr.belowU u)
  bl : (Tr.belowU u).length ≤ 80
  ll : u.L.length ≤ 4
  lls : ∀ l ∈ u.L, l.length ≤ 80
theorem Tr.parts {u : Un} (h : (Tr.seenU u).2 = 0) : Tr.Parts u (Tr.seenU u).1 := by
  have hf := Tr.seenU_zero.1 h
  obtain ⟨a1, a2, a3, a4, a5, a6, a7, a8⟩ := Tr.fine_parts hf
  refine ⟨a2, a1, by rw [a5]; exact a8, by rw [a5]; exact a6, a4, a3, hf.1, fun l hl => (Tr.mergeL_layers hf.2 l ?_).1⟩
  exact List.mem_cons_of_mem _ hl
theorem Tr.put_zero {t : List En} {e : En} (h : (Tr.put t e).2 = 0) : Tr.putErr t e = 0 := by
  unfold Tr.put at h
  by_cases hp : Tr.putErr t e = 0
  · exact hp
  · rw [if_pos hp] at h; exact h
theorem Tr.rem_zero {t : List En} {p : Pt.Bs} (h : (Tr.remove t p).2 = 0) : Tr.removeErr t p = 0 := by
  unfold Tr.remove at h
  by_cases hp : Tr.removeErr t p = 0
  · exact hp
  · rw [if_pos hp] at h; exact h
theorem Tr.put_fit {t : List En} {e : En} (h : (Tr.put t e).2 = 0) : e.P ≠ [] ∧ e.p.size ≤ 80 := by
  obtain ⟨_, _, h3, _⟩ := Tr.put_ok (Tr.put_zero h)
  have h4 := Tr.entry_clean h3
  have h5 := Tr.clean_len h4
  have h6 : e.P.length = e.p.size := size_length e.p
  exact ⟨Tr.clean_ne h4, by omega⟩
theorem Tr.get_fit {b : Bool} {t : List En} {p : ByteArray} (ht : Tr.Right b t) (h0 : p.data.toList ≠ []) (h : Tr.get t p.data.toList ≠ none) : p.size ≤ 80 := by
  rcases g : Tr.get t p.data.toList with _ | x
  · exact absurd g h
  · obtain ⟨h1, h2⟩ := Tr.get_some h0 g
    have h3 := Tr.clean_len (Tr.entry_clean (ht.1 x h1))
    rw [h2, size_length] at h3
    exact h3
theorem Tr.rem_fit {t : List En} {p : ByteArray} (h : (Tr.remove t p.data.toList).2 = 0) : p.data.toList ≠ [] ∧ p.size ≤ 80 := by
  obtain ⟨_, h2, h3, h4, _⟩ := Tr.remove_ok (Tr.rem_zero h)
  exact ⟨h3, Tr.get_fit h2 h3 h4⟩
theorem Tr.putU_bad {u : Un} {e : En} {x : Int} (h : (Tr.seenU u).2 = x) (hx : x ≠ 0) : Tr.putU u e = (Un.zero, x) := by unfold Tr.putU; rw [h, if_pos hx]
theorem Tr.putU_no {u : Un} {e : En} {x : Int} (h : (Tr.seenU u).2 = 0) (h2 : (Tr.put (Tr.seenU u).1 e).2 = x) (hx : x ≠ 0) : Tr.putU u e = (Un.zero, x) := by unfold Tr.putU; rw [h, if_neg (by simp), h2, if_pos hx]
theorem Tr.putU_ok {u : Un} {e : En} (h : (Tr.seenU u).2 = 0) (h2 : (Tr.put (Tr.seenU u).1 e).2 = 0) : Tr.putU u e = Tr.fin u (Tr.setP u.U e) := by unfold Tr.putU; rw [h, if_neg (by simp), h2, if_neg (by simp)]
theorem Tr.remU_bad {u : Un} {p : Pt.Bs} {x : Int} (h : (Tr.seenU u).2 = x) (hx : x ≠ 0) : Tr.removeU u p = (Un.zero, x) := by unfold Tr.removeU; rw [h, if_pos hx]
theorem Tr.remU_no {u : Un} {p : Pt.Bs} {x : Int} (h : (Tr.seenU u).2 = 0) (h2 : (Tr.remove (Tr.seenU u).1 p).2 = x) (hx : x ≠ 0) : Tr.removeU u p = (Un.zero, x) := by unfold Tr.removeU; rw [h, if_neg (by simp), h2, if_pos hx]
theorem Tr.remU_ok {u : Un} {p : Pt.Bs} (h : (Tr.seenU u).2 = 0) (h2 : (Tr.remove (Tr.seenU u).1 p).2 = 0) : Tr.removeU u p = Tr.fin u (Tr.dropE (Tr.belowU u) u.U p) := by unfold Tr.removeU; rw [h, if_neg (by simp), h2, if_neg (by simp)]
theorem Tr.drop_le (B U : List En) (p : Pt.Bs) : (Tr.dropE B U p).length ≤ U.length + p.length + 1 := by
  have h1 := outside_le U p
  unfold Tr.dropE
  split
  · have h2 := Tr.setE_le p.length (Tr.outside U p) (Tr.whiteEn p)
    omega
  · omega
theorem Kp.below {w w' : World} {base g : Nat} {v : Value} {l : List En} (h : Kp w base g v l) (hb : Below w.heap.size w w') (hB : base ≤ w.heap.size) : Kp w' base g v l := h.keep (BelowX.of hb hB)

set_option maxHeartbeats 8000000 in
set_option maxRecDepth 100000 in
theorem putU_any (A A' : Option Addr) (c c' : Nat) (u : Un) (xp : ByteArray) (xk : Int) (xt : ByteArray) (xo : Bool) (w : World) (hu : UnRd w w.heap.size A A' c c' u) (hs : UnSm u) (hxp : xp.size < 4294967281) (hxt : xt.size < 4294967281) :
    Calls Tryz.prog 69 #[.agg #[.slice A u.U.length c, .slice A' u.L.length c'], .agg #[.string xp, .int .i64 xk, .string xt, .bool xo]] w (UnResL w.heap.size (Tr.putU u ⟨xp, xk, xt, xo⟩) w) := by
  have HS := Lib.hid hs
  have HU := Lib.hid hu
  clear hs hu
  obtain ⟨R, hR⟩ : ∃ R, R = Tr.putU u ⟨xp, xk, xt, xo⟩ := ⟨_, rfl⟩
  rw [← hR]
  have HPT := Lib.hid (Tr.parts (u := u))
  have HPB : Hid ((Tr.seenU u).2 ≠ 0 → R = (Un.zero, (Tr.seenU u).2)) := Lib.hid (fun h => hR.trans (Tr.putU_bad rfl h))
  have HPN : Hid ((Tr.seenU u).2 = 0 → (Tr.put (Tr.seenU u).1 ⟨xp, xk, xt, xo⟩).2 ≠ 0 → R = (Un.zero, (Tr.put (Tr.seenU u).1 ⟨xp, xk, xt, xo⟩).2)) := Lib.hid (fun h h2 => hR.trans (Tr.putU_no h rfl h2))
  have HPO : Hid ((Tr.seenU u).2 = 0 → (Tr.put (Tr.seenU u).1 ⟨xp, xk, xt, xo⟩).2 = 0 → R = Tr.fin u (Tr.setP u.U ⟨xp, xk, xt, xo⟩) ∧ (⟨xp, xk, xt, xo⟩ : En).P ≠ [] ∧ xp.size ≤ 80) := Lib.hid (fun h h2 => ⟨hR.trans (Tr.putU_ok h h2), Tr.put_fit h2⟩)
  clear hR
  have hB0 := ((Below.refl w.heap.size w).alloc (Nat.le_refl _) (.cells #[.slice A u.U.length c, .slice A' u.L.length c'] 26))
  have hq0 := Blk.new w 26 [.slice A u.U.length c, .slice A' u.L.length c']
  have hB0 := hB0.alloc hB0.size (.cells #[.string xp, .int .i64 xk, .string xt, .bool xo] 53)
  have hq0 := hq0.alloc (.cells #[.string xp, .int .i64 xk, .string xt, .bool xo] 53)
  have hx0 := Blk.new (w.alloc (.cells #[.slice A u.U.length c, .slice A' u.L.length c'] 26)) 53 [.string xp, .int .i64 xk, .string xt, .bool xo]
  have hB0 := hB0.alloc hB0.size (.cells #[.slice none 0 0, .slice none 0 0] 26)
  have hq0 := hq0.alloc (.cells #[.slice none 0 0, .slice none 0 0] 26)
  have hx0 := hx0.alloc (.cells #[.slice none 0 0, .slice none 0 0] 26)
  have hz0 := Blk.new ((w.alloc (.cells #[.slice A u.U.length c, .slice A' u.L.length c'] 26)).alloc (.cells #[.string xp, .int .i64 xk, .string xt, .bool xo] 53)) 26 [.slice none 0 0, .slice none 0 0]
  have hsz0 : (((w.alloc (.cells #[.slice A u.U.length c, .slice A' u.L.length c'] 26)).alloc (.cells #[.string xp, .int .i64 xk, .string xt, .bool xo] 53)).alloc (.cells #[.slice none 0 0, .slice none 0 0] 26)).heap.size = w.heap.size + 3 := by simp only [World.size_alloc]
  simp only [World.size_alloc] at hz0 hx0
  go_enter Tryz.func69, Tryz.ntmps69
  go_upto_region 1 with fail
  generalize (((w.alloc (.cells #[.slice A u.U.length c, .slice A' u.L.length c'] 26)).alloc (.cells #[.string xp, .int .i64 xk, .string xt, .bool xo] 53)).alloc (.cells #[.slice none 0 0, .slice none 0 0] 26)) = w0 at *
  have hU0 : UnRd w0 w0.heap.size A A' c c' u := (HU.out.below hB0).more hB0.size
  have cB := begin_any w.heap.size A A' c c' u w0 hq0 hU0 HS.out
  unfold BeginRel at cB
  clear hU0
  obtain ⟨T, hT⟩ : ∃ T, T = Tr.seenU u := ⟨_, rfl⟩
  rw [← hT] at cB HPT HPB HPN HPO
  clear hT
  obtain ⟨S, se⟩ := T
  dsimp only at cB HPT HPB HPN HPO
  go_wp2_with fail
  refine cB.mono ?_
  rintro e w4 ⟨gc, base, B, rfl, hch, hBB, hgc, hb⟩
  have HBB := Lib.hid hBB
  have hB4 := hB0.trans (hb.mono hB0.size)
  have hq4 := hq0.below hb hq0.lt
  have hz4 := hz0.below hb hz0.lt
  have hx4 := hx0.below hb hx0.lt
  have hgb := hch.lt
  have hbw := hch.size
  obtain ⟨vU, vB, vS, hc4, ho4, hkB, hkS⟩ := hch.ex
  clear hb hBB hB0 hq0 hz0 hx0 hch cB
  obtain ⟨AS, cS, hvS, hcS, hrS, hnS⟩ := hkS
  subst hvS
  obtain ⟨k0, k1, k2, k3, kf, kz⟩ := hc4.four
  rcases te : (se != 0) with _ | _
  rotate_left
  · have HF := Lib.hid (HPB.out (by simpa using te))
    obtain ⟨z0, z1, zf, zz⟩ := hz4.two
    go_wp2_with fail
    go_region
    all_goals
      go_wp2_with fail
      refine bodyPost_ret (v := .tuple #[.agg #[.slice none 0 0, .slice none 0 0], .int .i64 se]) ?_ rfl ?_
      · simp [results, Tryz.results69, go_sem, z0, z1]
      rw [HF.out]
      exact UnResL.none (((hB4.setCell (p := ⟨w.heap.size + 1 + 1, 0, none⟩) (by show w.heap.size ≤ w.heap.size + 1 + 1; omega) (.slice none 0 0)).setCell (p := ⟨w.heap.size + 1 + 1, 1, none⟩) (by show w.heap.size ≤ w.heap.size + 1 + 1; omega) (.slice none 0 0)).drew)
  have hse : se = 0 := by simpa using te
  have HP := Lib.hid (HPT.out hse)
  have HN := Lib.hid (HPN.out hse)
  have HO := Lib.hid (HPO.out hse)
  have hBe : B = Tr.belowU u := HBB.out hse
  subst hBe
  clear HPT HPN HPO HPB HBB te
  subst hse
  go_upto_region 4 with fail
  obtain ⟨e0, e1, e2, e3, ef, ez⟩ := hx4.four
  have hrS4 : EnRd w4 w4.heap.size AS S := Rd.more hrS hbw
  obtain ⟨pe, hpe⟩ : ∃ pe, pe = (Tr.put S ⟨xp, xk, xt, xo⟩).2 := ⟨_, rfl⟩
  rw [← hpe] at HN HO
  go_cut [8] (fun ev wx => ev = .int .i64 pe ∧ Below w4.heap.size w4 wx)
  case first =>
    go_region_held3 (fun W => W.cell? ⟨gc, 2, none⟩ = some (.slice AS S.length cS) ∧ W.cell? ⟨w.heap.size + 1, 0, none⟩ = some (.string xp) ∧ W.cell? ⟨w.heap.size + 1, 1, none⟩ = some (.int .i64 xk) ∧ W.cell? ⟨w.heap.size + 1, 2, none⟩ = some (.string xt) ∧ W.cell? ⟨w.heap.size + 1, 3, none⟩ = some (.bool xo))
      (first | exact ⟨k2, e0, e1, e2, e3⟩ | exact hS6 | go_keep)
      (first | (go_at_call 92; refine (put_any AS cS S xp xk xt xo _ (by exact hrS4) hcS (Tr.right_sm HP.out.sr) hxp hxt (by have := HP.out.sl; omega)).mono ?_; rintro e w6 ⟨v6, rfl, _, hb6⟩; have hS6 : w6.cell? ⟨gc, 2, none⟩ = some (.slice AS S.length cS) ∧ w6.cell? ⟨w.heap.size + 1, 0, none⟩ = some (.string xp) ∧ w6.cell? ⟨w.heap.size + 1, 1, none⟩ = some (.int .i64 xk) ∧ w6.cell? ⟨w.heap.size + 1, 2, none⟩ = some (.string xt) ∧ w6.cell? ⟨w.heap.size + 1, 3, none⟩ = some (.bool xo) := ⟨(hb6.cell (p := ⟨gc, 2, none⟩) hc4.lt).trans k2, (hb6.cell (p := ⟨w.heap.size + 1, 0, none⟩) hx4.lt).trans e0, (hb6.cell (p := ⟨w.heap.size + 1, 1, none⟩) hx4.lt).trans e1, (hb6.cell (p := ⟨w.heap.size + 1, 2, none⟩) hx4.lt).trans e2, (hb6.cell (p := ⟨w.heap.size + 1, 3, none⟩) hx4.lt).trans e3⟩))
    all_goals
      go_wp2_with fail
      go_meet
      case rel => exact ⟨by rw [hpe], ((Below.refl _ w4).drew).trans hb6⟩
  case rest =>
  obtain ⟨rfl, hb5⟩ := hcut
  clear hpe
  generalize wc = w5 at *
  have hx5 := hx4.below hb5 hx4.lt
  have hB5 := hB4.trans (hb5.mono hB4.size)
  have hq5 := hq4.below hb5 hq4.lt
  have hz5 := hz4.below hb5 hz4.lt
  have hc5 := hc4.below hb5 hc4.lt
  have ho5 : EnOwn w5 base vU u.U := own_below ho4 hb5 (Nat.le_refl _)
  have hkB5 := hkB.below hb5 hbw
  have hbw5 := Nat.le_trans hbw hb5.size
  clear hb5 hB4 hq4 hz4 hx4 hc4 ho4 hkB hbw hrS hrS4 k0 k1 k2 k3 kf kz e0 e1 e2 e3 ef ez
  rcases tp : (pe != 0) with _ | _
  rotate_left
  · have HF := Lib.hid (HN.out (by simpa using tp))
    obtain ⟨z0, z1, zf, zz⟩ := hz5.two
    go_wp2_with fail
    refine bodyPost_ret (v := .tuple #[.agg #[.slice none 0 0, .slice none 0 0], .int .i64 pe]) ?_ rfl ?_
    · simp [results, Tryz.results69, go_sem, z0, z1]
    rw [HF.out]
    exact UnResL.none ((hB5.setCell (p := ⟨w.heap.size + 1 + 1, 0, none⟩) (by show w.heap.size ≤ w.heap.size + 1 + 1; omega) (.slice none 0 0)).setCell (p := ⟨w.heap.size + 1 + 1, 1, none⟩) (by show w.heap.size ≤ w.heap.size + 1 + 1; omega) (.slice none 0 0))
  have HF := Lib.hid (HO.out (by simpa using tp)).1
  have hfit := (HO.out (by simpa using tp)).2
  clear HN HO
  obtain ⟨e0, e1, e2, e3, ef, ez⟩ := hx5.four
  have HLEN : Hid ((Tr.setP u.U ⟨xp, xk, xt, xo⟩).length ≤ 2000000) := Lib.hid (by
    have h1 := Tr.setP_le u.U ⟨xp, xk, xt, xo⟩
    have h2 := HP.out.ul
    have h3 : (⟨xp, xk, xt, xo⟩ : En).P.length = xp.size := size_length xp
    have h4 := hfit.2
    omega)
  go_wp2_with fail
  clear e0 e1 e2 e3 ef ez
  refine (set_any xp.size gc base vB _ _ vU u.U ⟨xp, xk, xt, xo⟩ w5 hc5 ho5 hgb hbw5 HP.out.ur.2.1 (fun y hy => Tr.right_ne HP.out.ur hy) (Tr.right_sm HP.out.ur) hfit.1 (Nat.le_of_eq (size_length xp)) hxp hxt (by have := HP.out.ul; have := hfit.2; omega)).mono ?_
  rintro e w6 ⟨rfl, v6, hc6, ho6, hg6⟩
  have hx56 : BelowX base gc w5 w6 := hg6.belowX hbw5 (own_lt ho5)
  have hq6 := hq5.keepX hx56 (by omega) (by omega)
  have hz6 := hz5.keepX hx56 (by omega) (by omega)
  have hB6 := hB5.trans (hx56.below (by omega) (by omega))
  have hbw6 : base ≤ w6.heap.size := Nat.le_trans hbw5 hx56.size
  clear hg6 hx56 hq5 hz5 hc5 ho5 hB5
  go_wp2_with fail
  have hl6 : TsRd w6 w6.heap.size A' u.L := ((HU.out.below hB6).more hB6.size).low
  refine (end_any gc w.heap.size base vB _ _ v6 _ A A' c c' u w6 hc6 ho6 hbw6 hq6 hl6 (by have := HP.out.ll; omega) (fun l hl => by have := HP.out.lls l hl; omega) HLEN.out).mono ?_
  rintro e w7 ⟨A7, A7', c7, c7', rfl, hf7, hb7⟩
  have hz7 := hz6.below hb7 hz6.lt
  have hB7 := hB6.trans (hb7.mono hB6.size)
  rw [← HF.out] at hf7
  rw [← HF.out]
  obtain ⟨z0, z1, zf, zz⟩ := hz7.two
  go_wp2_with fail
  refine bodyPost_ret (v := .tuple #[.agg #[.slice A7 R.1.U.length c7, .slice A7' R.1.L.length c7'], .int .i64 R.2]) ?_ rfl ?_
  · simp [results, Tryz.results69, go_sem, z0, z1]
  exact ⟨_, _, _, _, rfl, ((hf7.set (p := ⟨w.heap.size + 1 + 1, 0, none⟩) (by show w.heap.size + 1 + 1 < base; omega) _).set (p := ⟨w.heap.size + 1 + 1, 1, none⟩) (by show w.heap.size + 1 + 1 < base; omega) _).less (by omega), (hB7.setCell (p := ⟨w.heap.size + 1 + 1, 0, none⟩) (by show w.heap.size ≤ w.heap.size + 1 + 1; omega) _).setCell (p := ⟨w.heap.size + 1 + 1, 1, none⟩) (by show w.heap.size ≤ w.heap.size + 1 + 1; omega) _⟩

set_option maxHeartbeats 8000000 in
set_option maxRecDepth 100000 in
theorem removeU_any (A A' : Option Addr) (c c' : Nat) (u : Un) (s : ByteArray) (w : World) (hu : UnRd w w.heap.size A A' c c' u) (hs : UnSm u) (hsz : s.size < 4294967281) :
    Calls Tryz.prog 71 #[.agg #[.slice A u.U.length c, .slice A' u.L.length c'], .string s] w (UnResL w.heap.size (Tr.removeU u s.data.toList) w) := by
  have HS := Lib.hid hs
  have HU := Lib.hid hu
  clear hs hu
  obtain ⟨R, hR⟩ : ∃ R, R = Tr.removeU u s.data.toList := ⟨_, rfl⟩
  rw [← hR]
  have HPT := Lib.hid (Tr.parts (u := u))
  have HPB : Hid ((Tr.seenU u).2 ≠ 0 → R = (Un.zero, (Tr.seenU u).2)) := Lib.hid (fun h => hR.trans (Tr.remU_bad rfl h))
  have HPN : Hid ((Tr.seenU u).2 = 0 → (Tr.remove (Tr.seenU u).1 s.data.toList).2 ≠ 0 → R = (Un.zero, (Tr.remove (Tr.seenU u).1 s.data.toList).2)) := Lib.hid (fun h h2 => hR.trans (Tr.remU_no h rfl h2))
  have HPO : Hid ((Tr.seenU u).2 = 0 → (Tr.remove (Tr.seenU u).1 s.data.toList).2 = 0 → R = Tr.fin u (Tr.dropE (Tr.belowU u) u.U s.data.toList) ∧ s.data.toList ≠ [] ∧ s.size ≤ 80) := Lib.hid (fun h h2 => ⟨hR.trans (Tr.remU_ok h h2), Tr.rem_fit h2⟩)
  clear hR
  have hB0 := ((Below.refl w.heap.size w).alloc (Nat.le_refl _) (.cells #[.slice A u.U.length c, .slice A' u.L.length c'] 26))
  have hq0 := Blk.new w 26 [.slice A u.U.length c, .slice A' u.L.length c']
  have hB0 := hB0.alloc hB0.size (.cells #[.slice none 0 0, .slice none 0 0] 26)
  have hq0 := hq0.alloc (.cells #[.slice none 0 0, .slice none 0 0] 26)
  have hz0 := Blk.new (w.alloc (.cells #[.slice A u.U.length c, .slice A' u.L.length c'] 26)) 26 [.slice none 0 0, .slice none 0 0]
  have hsz0 : ((w.alloc (.cells #[.slice A u.U.length c, .slice A' u.L.length c'] 26)).alloc (.cells #[.slice none 0 0, .slice none 0 0] 26)).heap.size = w.heap.size + 2 := by simp only [World.size_alloc]
  simp only [World.size_alloc] at hz0
  go_enter Tryz.func71, Tryz.ntmps71
  go_upto_region 1 with fail
  generalize ((w.alloc (.cells #[.slice A u.U.length c, .slice A' u.L.length c'] 26)).alloc (.cells #[.slice none 0 0, .slice none 0 0] 26)) = w0 at *
  have hU0 : UnRd w0 w0.heap.size A A' c c' u := (HU.out.below hB0).more hB0.size
  have cB := begin_any w.heap.size A A' c c' u w0 hq0 hU0 HS.out
  unfold BeginRel at cB
  clear hU0
  obtain ⟨T, hT⟩ : ∃ T, T = Tr.seenU u := ⟨_, rfl⟩
  rw [← hT] at cB HPT HPB HPN HPO
  clear hT
  obtain ⟨S, se⟩ := T
  dsimp only at cB HPT HPB HPN HPO
  go_wp2_with fail
  refine cB.mono ?_
  rintro e w4 ⟨gc, base, B, rfl, hch, hBB, hgc, hb⟩
  have HBB := Lib.hid hBB
  have hB4 := hB0.trans (hb.mono hB0.size)
  have hq4 := hq0.below hb hq0.lt
  have hz4 := hz0.below hb hz0.lt
  have hgb := hch.lt
  have hbw := hch.size
  obtain ⟨vU, vB, vS, hc4, ho4, hkB, hkS⟩ := hch.ex
  clear hb hBB hB0 hq0 hz0 hch cB
  obtain ⟨AS, cS, hvS, hcS, hrS, hnS⟩ := hkS
  subst hvS
  obtain ⟨k0, k1, k2, k3, kf, kz⟩ := hc4.four
  rcases te : (se != 0) with _ | _
  rotate_left
  · have HF := Lib.hid (HPB.out (by simpa using te))
    obtain ⟨z0, z1, zf, zz⟩ := hz4.two
    go_wp2_with fail
    go_region
    all_goals
      go_wp2_with fail
      refine bodyPost_ret (v := .tuple #[.agg #[.slice none 0 0, .slice none 0 0], .int .i64 se]) ?_ rfl ?_
      · simp [results, Tryz.results71, go_sem, z0, z1]
      rw [HF.out]
      exact UnResL.none (((hB4.setCell (p := ⟨w.heap.size + 1, 0, none⟩) (by show w.heap.size ≤ w.heap.size + 1; omega) (.slice none 0 0)).setCell (p := ⟨w.heap.size + 1, 1, none⟩) (by show w.heap.size ≤ w.heap.size + 1; omega) (.slice none 0 0)).drew)
  have hse : se = 0 := by simpa using te
  have HP := Lib.hid (HPT.out hse)
  have HN := Lib.hid (HPN.out hse)
  have HO := Lib.hid (HPO.out hse)
  have hBe : B = Tr.belowU u := HBB.out hse
  subst hBe
  clear HPT HPN HPO HPB HBB te
  subst hse
  have hrS4 : EnRd w4 w4.heap.size AS S := Rd.more hrS hbw
  go_wp2_with fail
  refine (remove_any AS cS S s w4 hrS4 hcS (Tr.right_sm HP.out.sr) hsz (by have := HP.out.sl; omega)).mono ?_
  rintro e w5 ⟨v5, rfl, _, hb5⟩
  have hB5 := hB4.trans (hb5.mono hB4.size)
  have hq5 := hq4.below hb5 hq4.lt
  have hz5 := hz4.below hb5 hz4.lt
  have hc5 := hc4.below hb5 hc4.lt
  have ho5 : EnOwn w5 base vU u.U := own_below ho4 hb5 (Nat.le_refl _)
  have hkB5 := hkB.below hb5 hbw
  have hbw5 := Nat.le_trans hbw hb5.size
  clear hb5 hB4 hq4 hz4 hc4 ho4 hkB hbw hrS hrS4 k0 k1 k2 k3 kf kz
  generalize (Tr.remove S s.data.toList).2 = pe at *
  rcases tp : (pe != 0) with _ | _
  rotate_left
  · have HF := Lib.hid (HN.out (by simpa using tp))
    obtain ⟨z0, z1, zf, zz⟩ := hz5.two
    go_wp2_with fail
    refine bodyPost_ret (v := .tuple #[.agg #[.slice none 0 0, .slice none 0 0], .int .i64 pe]) ?_ rfl ?_
    · simp [results, Tryz.results71, go_sem, z0, z1]
    rw [HF.out]
    exact UnResL.none ((hB5.setCell (p := ⟨w.heap.size + 1, 0, none⟩) (by show w.heap.size ≤ w.heap.size + 1; omega) (.slice none 0 0)).setCell (p := ⟨w.heap.size + 1, 1, none⟩) (by show w.heap.size ≤ w.heap.size + 1; omega) (.slice none 0 0))
  have HF := Lib.hid (HO.out (by simpa using tp)).1
  have hfit := (HO.out (by simpa using tp)).2
  clear HN HO
  have HLEN : Hid ((Tr.dropE (Tr.belowU u) u.U s.data.toList).length ≤ 2000000) := Lib.hid (by
    have h1 := Tr.drop_le (Tr.belowU u) u.U s.data.toList
    have h2 := HP.out.ul
    have h3 := size_length s
    have h4 := hfit.2
    omega)
  go_wp2_with fail
  refine (drop_any gc base vU vB _ _ u.U (Tr.belowU u) s w5 hc5 ho5 hkB5 hgb hbw5 HP.out.ur.2.1 (fun y hy => Tr.right_ne HP.out.ur hy) (Tr.right_sm HP.out.ur) HP.out.br.2.1 (Tr.right_sm HP.out.br) (by have := HP.out.bl; omega) hfit.1 hsz (by have := HP.out.ul; have := hfit.2; omega)).mono ?_
  rintro e w6 ⟨rfl, v6, hc6, ho6, hg6⟩
  have hx56 : BelowX base gc w5 w6 := hg6.belowX hbw5 (own_lt ho5)
  have hq6 := hq5.keepX hx56 (by omega) (by omega)
  have hz6 := hz5.keepX hx56 (by omega) (by omega)
  have hB6 := hB5.trans (hx56.below (by omega) (by omega))
  have hbw6 : base ≤ w6.heap.size := Nat.le_trans hbw5 hx56.size
  clear hg6 hx56 hq5 hz5 hc5 ho5 hB5
  go_wp2_with fail
  have hl6 : TsRd w6 w6.heap.size A' u.L := ((HU.out.below hB6).more hB6.size).low
  refine (end_any gc w.heap.size base vB _ _ v6 _ A A' c c' u w6 hc6 ho6 hbw6 hq6 hl6 (by have := HP.out.ll; omega) (fun l hl => by have := HP.out.lls l hl; omega) HLEN.out).mono ?_
  rintro e w7 ⟨A7, A7', c7, c7', rfl, hf7, hb7⟩
  have hz7 := hz6.below hb7 hz6.lt
  have hB7 := hB6.trans (hb7.mono hB6.size)
  rw [← HF.out] at hf7
  rw [← HF.out]
  obtain ⟨z0, z1, zf, zz⟩ := hz7.two
  go_wp2_with fail
  refine bodyPost_ret (v := .tuple #[.agg #[.slice A7 R.1.U.length c7, .slice A7' R.1.L.length c7'], .int .i64 R.2]) ?_ rfl ?_
  · simp [results, Tryz.results71, go_sem, z0, z1]
  exact ⟨_, _, _, _, rfl, ((hf7.set (p := ⟨w.heap.size + 1, 0, none⟩) (by show w.heap.size + 1 < base; omega) _).set (p := ⟨w.heap.size + 1, 1, none⟩) (by show w.heap.size + 1 < base; omega) _).less (by omega), (hB7.setCell (p := ⟨w.heap.size + 1, 0, none⟩) (by show w.heap.size ≤ w.heap.size + 1; omega) _).setCell (p := ⟨w.heap.size + 1, 1, none⟩) (by show w.heap.size ≤ w.heap.size + 1; omega) _⟩
end Go.Proofs.YtjppfhgkanbemacGreatDoor

namespace Go.Proofs.YtjppfhgkanbemacGreatDoor
open Go.RowKit Go.Shelf Go.Sort

/-- A layer that may be set in. -/
structure Tr.Ok (U : List En) (n : Nat) : Prop where
  srt : Tr.Srt U
  ne : ∀ x ∈ U, x.P ≠ []
  sm : Sm U
  len : U.length ≤ n
theorem Tr.Ok.more {U : List En} {n m : Nat} (h : Tr.Ok U n) (hm : n ≤ m) : Tr.Ok U m := ⟨h.srt, h.ne, h.sm, Nat.le_trans h.len hm⟩
theorem Tr.ok_set {U : List En} {n : Nat} {e : En} (h : Tr.Ok U n) (he : e.P ≠ []) (h1 : e.p.size ≤ 80) (h2 : e.t.size < 4294967281) : Tr.Ok (Tr.setP U e) (n + 81) :=
  ⟨(Tr.setP_mem h.srt h.ne he).1, (Tr.setP_mem h.srt h.ne he).2, Tr.setE_sm _ h.srt h.ne he h.sm (by omega) h2, by
    have a := Tr.setP_le U e
    have b : e.P.length = e.p.size := size_length e.p
    have := h.len
    omega⟩
theorem Tr.ok_drop (B : List En) {U : List En} {n : Nat} {p : ByteArray} (h : Tr.Ok U n) (hp : p.data.toList ≠ []) (h1 : p.size ≤ 80) : Tr.Ok (Tr.dropE B U p.data.toList) (n + 81) := by
  have h0 : Tr.Ok (Tr.outside U p.data.toList) n := ⟨Tr.srt_filter h.srt _, fun x hx => h.ne x (List.mem_filter.1 hx).1, fun x hx => h.sm x (List.mem_filter.1 hx).1, Nat.le_trans (outside_le _ _) h.len⟩
  unfold Tr.dropE
  split
  · rw [white_is]
    exact Tr.ok_set (e := ⟨p, 4, ⟨#[]⟩, false⟩) h0 hp h1 (by show (0 : Nat) < 4294967281; decide)
  · exact h0.more (by omega)
theorem Tr.ok_all : ∀ {xs U : List En} {n : Nat}, Tr.Ok U n → (∀ e ∈ xs, e.P ≠ [] ∧ e.p.size ≤ 80 ∧ e.t.size < 4294967281) → Tr.Ok (Tr.setAll U xs) (n + 81 * xs.length)
  | [], _, _, h, _ => h
  | x :: xs, U, n, h, hx => by
    have h1 := hx x (List.mem_cons_self ..)
    have := Tr.ok_all (xs := xs) (Tr.ok_set h h1.1 h1.2.1 h1.2.2) fun e he => hx e (List.mem_cons_of_mem _ he)
    refine this.more ?_
    rw [List.length_cons]; omega
theorem Tr.move_zero {t : List En} {s d : Pt.Bs} (h : (Tr.move t s d).2 = 0) : Tr.moveErr t s d = 0 := by
  unfold Tr.move at h
  by_cases hp : Tr.moveErr t s d = 0
  · exact hp
  · rw [if_pos hp] at h; exact h
/-- What a move that is let through gives. -/
structure Tr.MoveOk (S : List En) (s d : ByteArray) : Prop where
  s0 : s.data.toList ≠ []
  sl : s.size ≤ 80
  d0 : d.data.toList ≠ []
  dl : d.size ≤ 80
  mv : ∀ e ∈ Tr.movedO S s.data.toList d.data.toList, e.P ≠ [] ∧ e.p.size ≤ 80 ∧ e.t.size < 4294967281
theorem Tr.movok {S : List En} {s d : ByteArray} (hS : Tr.Right false S) (h : (Tr.move S s.data.toList d.data.toList).2 = 0) : Tr.MoveOk S s d := by
  have h0 := Tr.move_zero h
  obtain ⟨_, _, m3, _, _⟩ := Tr.move_ok h0
  obtain ⟨x, hx, hs0, hcd, _⟩ := Tr.moves_ok m3
  have hd := Tr.clean_len hcd
  rw [size_length] at hd
  refine ⟨hs0, Tr.get_fit hS hs0 (by rw [hx]; exact fun h => by cases h), Tr.clean_ne hcd, hd, fun e he => ?_⟩
  have hc := Tr.moved_clean h0 e he
  have hl := Tr.clean_len hc
  have e1 : e.P.length = e.p.size := size_length e.p
  refine ⟨Tr.clean_ne hc, by omega, ?_⟩
  obtain ⟨y, hy, _, rfl⟩ := Tr.mem_movedO.1 he
  rw [Tr.renE_t]
  exact (Tr.right_sm hS y hy).2
theorem Tr.moveU_bad {u : Un} {s d : Pt.Bs} {x : Int} (h : (Tr.seenU u).2 = x) (hx : x ≠ 0) : Tr.moveU u s d = (Un.zero, x) := by unfold Tr.moveU; rw [h, if_pos hx]
theorem Tr.moveU_no {u : Un} {s d : Pt.Bs} {x : Int} (h : (Tr.seenU u).2 = 0) (h2 : (Tr.move (Tr.seenU u).1 s d).2 = x) (hx : x ≠ 0) : Tr.moveU u s d = (Un.zero, x) := by unfold Tr.moveU; rw [h, if_neg (by simp), h2, if_pos hx]
theorem Tr.moveU_ok {u : Un} {s d : Pt.Bs} (h : (Tr.seenU u).2 = 0) (h2 : (Tr.move (Tr.seenU u).1 s d).2 = 0) : Tr.moveU u s d = Tr.fin u (if s = d then u.U else Tr.setAll (Tr.dropE (Tr.belowU u) (if (Tr.get (Tr.seenU u).1 d).isSome then Tr.dropE (Tr.belowU u) u.U d else u.U) s) (Tr.movedO (Tr.seenU u).1 s d)) := by unfold Tr.moveU Tr.moveV; rw [h, if_neg (by simp), h2, if_neg (by simp)]
theorem ren_at {s d y : ByteArray} (k : Int) (t : ByteArray) (o : Bool) (h : Tr.mv s.data.toList y.data.toList) : Tr.renE s.data.toList d.data.toList ⟨y, k, t, o⟩ = ⟨d ++ y.extract s.size y.size, k, t, o⟩ := by
  unfold Tr.renE
  rcases Decidable.em (y.data.toList = s.data.toList) with h1 | h1
  · rw [if_pos (show (⟨y, k, t, o⟩ : En).P = _ from h1), ← ren_bytes]
    rw [h1, List.drop_length, List.append_nil]
  · rw [if_neg (show ¬ (⟨y, k, t, o⟩ : En).P = _ from h1), if_pos (show Pt.under (⟨y, k, t, o⟩ : En).P _ = true from h.resolve_left h1), ← ren_bytes]; rfl

set_option maxHeartbeats 8000000 in
set_option maxRecDepth 100000 in
theorem moveU_any (A A' : Option Addr) (c c' : Nat) (u : Un) (s d : ByteArray) (w : World) (hu : UnRd w w.heap.size A A' c c' u) (hs : UnSm u) (hsz : s.size < 4294967281) (hdz : d.size < 4294967281) :
    Calls Tryz.prog 73 #[.agg #[.slice A u.U.length c, .slice A' u.L.length c'], .string s, .string d] w (UnResL w.heap.size (Tr.moveU u s.data.toList d.data.toList) w) := by
  have HS := Lib.hid hs
  have HU := Lib.hid hu
  clear hs hu
  obtain ⟨R, hR⟩ : ∃ R, R = Tr.moveU u s.data.toList d.data.toList := ⟨_, rfl⟩
  rw [← hR]
  have HPT := Lib.hid (Tr.parts (u := u))
  have HPB : Hid ((Tr.seenU u).2 ≠ 0 → R = (Un.zero, (Tr.seenU u).2)) := Lib.hid (fun h => hR.trans (Tr.moveU_bad rfl h))
  have HPN : Hid ((Tr.seenU u).2 = 0 → (Tr.move (Tr.seenU u).1 s.data.toList d.data.toList).2 ≠ 0 → R = (Un.zero, (Tr.move (Tr.seenU u).1 s.data.toList d.data.toList).2)) := Lib.hid (fun h h2 => hR.trans (Tr.moveU_no h rfl h2))
  have HPO : Hid ((Tr.seenU u).2 = 0 → (Tr.move (Tr.seenU u).1 s.data.toList d.data.toList).2 = 0 → R = Tr.fin u (if s.data.toList = d.data.toList then u.U else Tr.setAll (Tr.dropE (Tr.belowU u) (if (Tr.get (Tr.seenU u).1 d.data.toList).isSome then Tr.dropE (Tr.belowU u) u.U d.data.toList else u.U) s.data.toList) (Tr.movedO (Tr.seenU u).1 s.data.toList d.data.toList)) ∧ (Tr.Right false (Tr.seenU u).1 → Tr.MoveOk (Tr.seenU u).1 s d)) := Lib.hid (fun h h2 => ⟨hR.trans (Tr.moveU_ok h h2), fun hr => Tr.movok hr h2⟩)
  clear hR
  have hB0 := ((Below.refl w.heap.size w).alloc (Nat.le_refl _) (.cells #[.slice A u.U.length c, .slice A' u.L.length c'] 26))
  have hq0 := Blk.new w 26 [.slice A u.U.length c, .slice A' u.L.length c']
  have hB0 := hB0.alloc hB0.size (.cells #[.slice none 0 0, .slice none 0 0] 26)
  have hq0 := hq0.alloc (.cells #[.slice none 0 0, .slice none 0 0] 26)
  have hz0 := Blk.new (w.alloc (.cells #[.slice A u.U.length c, .slice A' u.L.length c'] 26)) 26 [.slice none 0 0, .slice none 0 0]
  have hsz0 : ((w.alloc (.cells #[.slice A u.U.length c, .slice A' u.L.length c'] 26)).alloc (.cells #[.slice none 0 0, .slice none 0 0] 26)).heap.size = w.heap.size + 2 := by simp only [World.size_alloc]
  simp only [World.size_alloc] at hz0
  go_enter Tryz.func73, Tryz.ntmps73
  go_upto_region 1 with fail
  generalize ((w.alloc (.cells #[.slice A u.U.length c, .slice A' u.L.length c'] 26)).alloc (.cells #[.slice none 0 0, .slice none 0 0] 26)) = w0 at *
  have hU0 : UnRd w0 w0.heap.size A A' c c' u := (HU.out.below hB0).more hB0.size
  have cB := begin_any w.heap.size A A' c c' u w0 hq0 hU0 HS.out
  unfold BeginRel at cB
  clear hU0
  obtain ⟨T, hT⟩ : ∃ T, T = Tr.seenU u := ⟨_, rfl⟩
  rw [← hT] at cB HPT HPB HPN HPO
  clear hT
  obtain ⟨S, se⟩ := T
  dsimp only at cB HPT HPB HPN HPO
  go_wp2_with fail
  refine cB.mono ?_
  rintro e w4 ⟨gc, base, B, rfl, hch, hBB, hgc, hb⟩
  have HBB := Lib.hid hBB
  have hB4 := hB0.trans (hb.mono hB0.size)
  have hq4 := hq0.below hb hq0.lt
  have hz4 := hz0.below hb hz0.lt
  have hgb := hch.lt
  have hbw := hch.size
  obtain ⟨vU, vB, vS, hc4, ho4, hkB, hkS⟩ := hch.ex
  clear hb hBB hB0 hq0 hz0 hch cB
  obtain ⟨AS, cS, hvS, hcS, hrS, hnS⟩ := hkS
  subst hvS
  obtain ⟨k0, k1, k2, k3, kf, kz⟩ := hc4.four
  rcases te : (se != 0) with _ | _
  rotate_left
  · have HF := Lib.hid (HPB.out (by simpa using te))
    obtain ⟨z0, z1, zf, zz⟩ := hz4.two
    go_wp2_with fail
    go_region
    all_goals
      go_wp2_with fail
      refine bodyPost_ret (v := .tuple #[.agg #[.slice none 0 0, .slice none 0 0], .int .i64 se]) ?_ rfl ?_
      · simp [results, Tryz.results73, go_sem, z0, z1]
      rw [HF.out]
      exact UnResL.none (((hB4.setCell (p := ⟨w.heap.size + 1, 0, none⟩) (by show w.heap.size ≤ w.heap.size + 1; omega) (.slice none 0 0)).setCell (p := ⟨w.heap.size + 1, 1, none⟩) (by show w.heap.size ≤ w.heap.size + 1; omega) (.slice none 0 0)).drew)
  have hse : se = 0 := by simpa using te
  have HP := Lib.hid (HPT.out hse)
  have HN := Lib.hid (HPN.out hse)
  have HO := Lib.hid (HPO.out hse)
  have hBe : B = Tr.belowU u := HBB.out hse
  subst hBe
  clear HPT HPN HPO HPB HBB te
  subst hse
  have hrS4 : EnRd w4 w4.heap.size AS S := Rd.more hrS hbw
  go_wp2_with fail
  refine (move_any AS cS S s d w4 hrS4 hcS (Tr.right_sm HP.out.sr) hsz hdz (by have := HP.out.sl; omega)).mono ?_
  rintro e w5 ⟨v5, rfl, _, hb5⟩
  have hkS4 : Kp w4 base gc (.slice AS S.length cS) S := ⟨AS, cS, rfl, hcS, hrS, hnS⟩
  clear hrS hrS4 k0 k1 k2 k3 kf kz
  have hbw4 := hbw
  have hkB4 := hkB
  clear hbw hkB
  have hB5 := hB4.trans (hb5.mono hB4.size)
  have hq5 := hq4.below hb5 hq4.lt
  have hz5 := hz4.below hb5 hz4.lt
  have hc5 := hc4.below hb5 hc4.lt
  have ho5 : EnOwn w5 base vU u.U := own_below ho4 hb5 (Nat.le_refl _)
  have hkB5 := hkB4.below hb5 hbw4
  have hkS5 := hkS4.below hb5 hbw4
  have hbw5 := Nat.le_trans hbw4 hb5.size
  clear hb5 hB4 hq4 hz4 hc4 ho4 hkB4 hkS4 hbw4
  generalize (Tr.move S s.data.toList d.data.toList).2 = pe at *
  rcases tp : (pe != 0) with _ | _
  rotate_left
  · have HF := Lib.hid (HN.out (by simpa using tp))
    obtain ⟨z0, z1, zf, zz⟩ := hz5.two
    go_wp2_with fail
    refine bodyPost_ret (v := .tuple #[.agg #[.slice none 0 0, .slice none 0 0], .int .i64 pe]) ?_ rfl ?_
    · simp [results, Tryz.results73, go_sem, z0, z1]
    rw [HF.out]
    exact UnResL.none ((hB5.setCell (p := ⟨w.heap.size + 1, 0, none⟩) (by show w.heap.size ≤ w.heap.size + 1; omega) (.slice none 0 0)).setCell (p := ⟨w.heap.size + 1, 1, none⟩) (by show w.heap.size ≤ w.heap.size + 1; omega) (.slice none 0 0))
  have HF0 := Lib.hid (HO.out (by simpa using tp)).1
  have HM := Lib.hid ((HO.out (by simpa using tp)).2 HP.out.sr)
  clear HN HO
  have hul := HP.out.ul
  have HOK0 : Hid (Tr.Ok u.U 80) := Lib.hid ⟨HP.out.ur.2.1, fun y hy => Tr.right_ne HP.out.ur hy, Tr.right_sm HP.out.ur, HP.out.ul⟩
  rcases te2 : (s.toList == d.toList) with _ | _
  rotate_left
  · have HF : Hid (R = Tr.fin u u.U) := Lib.hid (by rw [HF0.out, if_pos (by rw [toList_beq] at te2; simpa using te2)])
    have HLEN : Hid (u.U.length ≤ 2000000) := Lib.hid (by omega)
    go_wp2_with fail
    have hl5 : TsRd w5 w5.heap.size A' u.L := ((HU.out.below hB5).more hB5.size).low
    refine (end_any gc w.heap.size base vB _ _ vU _ A A' c c' u w5 hc5 ho5 hbw5 hq5 hl5 (by have := HP.out.ll; omega) (fun l hl => by have := HP.out.lls l hl; omega) HLEN.out).mono ?_
    rintro e w20 ⟨A7, A7', c7, c7', rfl, hf7, hb7⟩
    have hz7 := hz5.below hb7 hz5.lt
    have hB7 := hB5.trans (hb7.mono hB5.size)
    rw [← HF.out] at hf7
    rw [← HF.out]
    obtain ⟨z0, z1, zf, zz⟩ := hz7.two
    go_wp2_with fail
    refine bodyPost_ret (v := .tuple #[.agg #[.slice A7 R.1.U.length c7, .slice A7' R.1.L.length c7'], .int .i64 R.2]) ?_ rfl ?_
    · simp [results, Tryz.results73, go_sem, z0, z1]
    exact ⟨_, _, _, _, rfl, ((hf7.set (p := ⟨w.heap.size + 1, 0, none⟩) (by show w.heap.size + 1 < base; omega) _).set (p := ⟨w.heap.size + 1, 1, none⟩) (by show w.heap.size + 1 < base; omega) _).less (by omega), (hB7.setCell (p := ⟨w.heap.size + 1, 0, none⟩) (by show w.heap.size ≤ w.heap.size + 1; omega) _).setCell (p := ⟨w.heap.size + 1, 1, none⟩) (by show w.heap.size ≤ w.heap.size + 1; omega) _⟩
  have HF1 := Lib.hid (HF0.out)
  rw [if_neg (show ¬ s.data.toList = d.data.toList by rw [toList_beq] at te2; simpa using te2)] at HF1
  clear HF0
  obtain ⟨k0, k1, k2, k3, kf, kz⟩ := hc5.four
  have hrS5 : EnRd w5 w5.heap.size AS S := by
    obtain ⟨Aq, cq, hq, _, hr, _⟩ := hkS5
    injection hq with q1 q2 q3
    rw [q1]; exact Rd.more hr hbw5
  go_wp2_with fail
  refine (find_any AS cS S d w5 hrS5 (Tr.right_sm HP.out.sr) hdz (by have := HP.out.sl; omega)).mono ?_
  rintro e w6 ⟨kk, b, rfl, hf, hb6⟩
  have hbs := find_is hf HP.out.sr.2.1 HM.out.d0
  rw [← hbs] at HF1
  clear hf hbs hrS5 k0 k1 k2 k3 kf kz
  have hB6 := hB5.trans (hb6.mono hB5.size)
  have hq6 := hq5.below hb6 hq5.lt
  have hz6 := hz5.below hb6 hz5.lt
  have hc6 := hc5.below hb6 hc5.lt
  have ho6 : EnOwn w6 base vU u.U := own_below ho5 hb6 (Nat.le_refl _)
  have hkB6 := hkB5.below hb6 hbw5
  have hkS6 := hkS5.below hb6 hbw5
  have hbw6 := Nat.le_trans hbw5 hb6.size
  clear hb6 hB5 hq5 hz5 hc5 ho5 hkB5 hkS5 hbw5
  have hvb := own_lt ho6
  obtain ⟨rU, hrU⟩ : ∃ rU, rU = vU.ownBlock := ⟨_, rfl⟩
  rw [← hrU] at hvb
  obtain ⟨U1, hU1⟩ : ∃ U1, U1 = if b = true then Tr.dropE (Tr.belowU u) u.U d.data.toList else u.U := ⟨_, rfl⟩
  have HU1 := Lib.hid hU1
  rw [← hU1] at HF1
  clear hU1
  have HOK1 : Hid (Tr.Ok U1 161) := Lib.hid (by
    rw [HU1.out]
    split
    · exact Tr.ok_drop _ HOK0.out HM.out.d0 HM.out.dl
    · exact HOK0.out.more (by omega))
  go_upto_if 56 with fail
  go_cut [] (fun wx => ∃ v, Blk wx gc 150 [v, vB, .slice AS S.length cS, .int .i64 0] ∧ EnOwn wx base v U1 ∧ GrX gc rU v.ownBlock w6 wx)
  case first =>
    cases b
    · go_wp2_with fail
      go_meet
      case rel => exact ⟨vU, hc6, by rw [HU1.out]; exact ho6, by rw [← hrU]; exact GrX.of (Below.refl _ _) (Nat.le_refl _)⟩
    · go_wp2_with fail
      refine (drop_any gc base vU vB _ _ u.U (Tr.belowU u) d w6 hc6 ho6 hkB6 hgb hbw6 HOK0.out.srt HOK0.out.ne HOK0.out.sm HP.out.br.2.1 (Tr.right_sm HP.out.br) (by have := HP.out.bl; omega) HM.out.d0 hdz (by have := HM.out.dl; omega)).mono ?_
      rintro e w7 ⟨rfl, v7, hc7, ho7, hg7⟩
      go_wp2_with fail
      go_meet
      case rel => exact ⟨v7, hc7, by rw [HU1.out]; exact ho7, by rw [hrU]; exact hg7⟩
  case rest =>
  clear hc6 ho6 HU1
  obtain ⟨v7, hc7, ho7, hg7⟩ := hcut
  generalize wc = w7 at *
  have hx7 := hg7.belowX hbw6 hvb
  have hq7 := hq6.keepX hx7 (by omega) (by omega)
  have hz7 := hz6.keepX hx7 (by omega) (by omega)
  have hB7 := hB6.trans (hx7.below (by omega) (by omega))
  have hkB7 := hkB6.keep hx7
  have hkS7 := hkS6.keep hx7
  have hbw7 : base ≤ w7.heap.size := Nat.le_trans hbw6 hx7.size
  clear hx7 hg7 hq6 hz6 hB6 hkB6 hkS6 hbw6 hvb hrU
  have HOK2 : Hid (Tr.Ok (Tr.dropE (Tr.belowU u) U1 s.data.toList) 242) := Lib.hid (Tr.ok_drop _ HOK1.out HM.out.s0 HM.out.sl)
  have hl1 := HOK1.out.len
  go_wp2_with fail
  refine (drop_any gc base v7 vB _ _ U1 (Tr.belowU u) s w7 hc7 ho7 hkB7 hgb hbw7 HOK1.out.srt HOK1.out.ne HOK1.out.sm HP.out.br.2.1 (Tr.right_sm HP.out.br) (by have := HP.out.bl; omega) HM.out.s0 hsz (by have := HM.out.sl; omega)).mono ?_
  rintro e w8 ⟨rfl, v8, hc8, ho8, hg8⟩
  have hx8 := hg8.belowX hbw7 (own_lt ho7)
  have hq8 := hq7.keepX hx8 (by omega) (by omega)
  have hz8 := hz7.keepX hx8 (by omega) (by omega)
  have hB8 := hB7.trans (hx8.below (by omega) (by omega))
  have hkB8 := hkB7.keep hx8
  have hkS8 := hkS7.keep hx8
  have hbw8 : base ≤ w8.heap.size := Nat.le_trans hbw7 hx8.size
  clear hx8 hg8 hq7 hz7 hB7 hkB7 hkS7 hbw7 hc7 ho7
  obtain ⟨U2, hU2⟩ : ∃ U2, U2 = Tr.dropE (Tr.belowU u) U1 s.data.toList := ⟨_, rfl⟩
  rw [← hU2] at HOK2 ho8 HF1
  clear hU2 HOK1
  have HOKA : Hid (∀ k, k ≤ S.length → Tr.Ok (Tr.setAll U2 (Tr.movedO (S.take k) s.data.toList d.data.toList)) 7000) := Lib.hid (fun k hk => by
    have hml : (Tr.movedO (S.take k) s.data.toList d.data.toList).length ≤ 80 := by
      unfold Tr.movedO
      rw [List.length_map]
      refine Nat.le_trans (List.length_filter_le _ _) ?_
      rw [List.length_take]
      have := HP.out.sl; omega
    refine (Tr.ok_all HOK2.out fun e he => HM.out.mv e ?_).more (by omega)
    obtain ⟨y, hy, h1, h2⟩ := Tr.mem_movedO.1 he
    exact Tr.mem_movedO.2 ⟨y, List.mem_of_mem_take hy, h1, h2⟩)
  clear HOK2 HOK0
  have hSl : S.length ≤ 80 := HP.out.sl
  obtain ⟨k0, k1, k2, k3, kf, kz⟩ := hc8.four
  go_wp2_with fail
  clear k0 k1 k2 k3 kf kz
  go_loopw [68] (fun i wr => ∃ (k : Nat) (v : Value), k ≤ S.length ∧ i = .int .i64 k ∧ Blk wr gc 150 [v, vB, .slice AS S.length cS, .int .i64 0] ∧ EnOwn wr base v (Tr.setAll U2 (Tr.movedO (S.take k) s.data.toList d.data.toList)) ∧ BelowX base gc w8 wr) (fun i _ => S.length - (intOf i).toNat)
  case atStart => exact ⟨0, v8, Nat.zero_le _, rfl, hc8, ho8, BelowX.refl _ _ _⟩
  case round =>
    clear hc8 ho8
    obtain ⟨k, v, hk, rfl, hcr, hor, hxr⟩ := hrel
    have hbwr : base ≤ wr.heap.size := Nat.le_trans hbw8 hxr.size
    by_cases hlt : k < S.length
    · obtain ⟨Aq, cq, hqe, _, hrq, _⟩ := hkS8.keep hxr
      injection hqe with q1 q2 q3
      subst q1 q3
      obtain ⟨b2, o2, hA, hbb, h0, h1, h2, h3⟩ := EnRd.at_ hrq hlt
      subst hA
      clear hrq
      have HOKK := Lib.hid (HOKA.out k hk)
      have hkl := HOKK.out.len
      have HY := Lib.hid (Tr.movedO_yes (s := s.data.toList) (d := d.data.toList) hlt)
      have HNO := Lib.hid (Tr.movedO_no (s := s.data.toList) (d := d.data.toList) hlt)
      have HME := Lib.hid (show Tr.mv s.data.toList S[k].P → (Tr.renE s.data.toList d.data.toList S[k]).P ≠ [] ∧ (Tr.renE s.data.toList d.data.toList S[k]).p.size ≤ 80 ∧ (Tr.renE s.data.toList d.data.toList S[k]).t.size < 4294967281 from fun h => HM.out.mv _ (Tr.mem_movedO.2 ⟨S[k], List.getElem_mem hlt, h, rfl⟩))
      have hzz := (Sm.at_ (Tr.right_sm HP.out.sr) hlt).1
      generalize S[k] = z at h0 h1 h2 h3 HY HNO HME hzz
      obtain ⟨yp, yk, yt, yo⟩ := z
      dsimp only at h0 h1 h2 h3 hzz
      obtain ⟨LK, hLK⟩ : ∃ LK, LK = Tr.setAll U2 (Tr.movedO (S.take k) s.data.toList d.data.toList) := ⟨_, rfl⟩
      have HLK := Lib.hid hLK
      rw [← hLK] at hor HOKK hkl
      clear hLK
      have HSt := Lib.hid (ren_at (s := s) (d := d) (y := yp) yk yt yo)
      rcases te3 : (yp.toList == s.toList) with _ | _
      rotate_left
      · have hq : yp.data.toList = s.data.toList := by rw [toList_beq] at te3; simpa using te3
        have HMV : Hid (Tr.mv s.data.toList yp.data.toList) := Lib.hid (.inl hq)
        have hle2 : s.size ≤ yp.size := by rw [← size_length s, ← size_length yp, hq]; exact Nat.le_refl _
        clear hq
        have HRN := Lib.hid (HSt.out HMV.out)
        have HN := Lib.hid (HY.out HMV.out)
        have HE := Lib.hid (HME.out HMV.out)
        rw [HRN.out] at HN HE
        obtain ⟨np, hnp⟩ : ∃ np, np = d ++ yp.extract s.size yp.size := ⟨_, rfl⟩
        rw [← hnp] at HN HE
        clear HY HNO HME HSt HRN
        have hcw := hcr.alloc (.cells #[.string np, .int .i64 yk, .string yt, .bool yo] 53)
        have how : EnOwn _ base v LK := own_alloc hor (.cells #[.string np, .int .i64 yk, .string yt, .bool yo] 53)
        have hxw := hxr.trans (BelowX.of ((Below.refl wr.heap.size wr).alloc (Nat.le_refl _) (.cells #[.string np, .int .i64 yk, .string yt, .bool yo] 53)) hbwr)
        have hbww : base ≤ (wr.alloc (.cells #[.string np, .int .i64 yk, .string yt, .bool yo] 53)).heap.size := by rw [World.size_alloc]; omega
        have hyw := Blk.new wr 53 [.string np, .int .i64 yk, .string yt, .bool yo]
        go_wp2_with fail
        try rw [← hnp]
        refine (set_any np.size gc base vB _ _ v LK ⟨np, yk, yt, yo⟩ (wr.alloc (.cells #[.string np, .int .i64 yk, .string yt, .bool yo] 53)) hcw how hgb hbww HOKK.out.srt HOKK.out.ne HOKK.out.sm HE.out.1 (Nat.le_of_eq (size_length np)) (by show np.size < 4294967281; have h8 : np.size ≤ 80 := HE.out.2.1; omega) HE.out.2.2 (by have h8 : np.size ≤ 80 := HE.out.2.1; omega)).mono ?_
        rintro e w20 ⟨rfl, v20, hc20, ho20, hg20⟩
        have hx20 := hxw.trans (hg20.belowX hbww (own_lt how))
        go_wp2_with fail
        go_roundw
        case rel => exact ⟨k + 1, v20, hlt, by go_num, hc20, by rw [HN.out, Tr.setAll_snoc, ← HLK.out]; exact ho20, hx20⟩
        case measure => simp [intOf]; omega
      have hq : ¬ yp.data.toList = s.data.toList := by rw [toList_beq] at te3; simpa using te3
      have te4 : (yp.toList != s.toList) = true := by rw [bne_iff_ne]; intro h; rw [h] at te3; simp at te3
      go_wp2_with fail
      refine (under_any yp s _ (by omega)).mono ?_
      rintro e w' ⟨rfl, rfl⟩
      rcases tu : Pt.under yp.data.toList s.data.toList with _ | _
      rotate_left
      · have HMV : Hid (Tr.mv s.data.toList yp.data.toList) := Lib.hid (.inr tu)
        have hle2 : s.size ≤ yp.size := by
          have := Tr.under_len HM.out.s0 tu
          rw [size_length, size_length] at this; omega
        clear hq
        have HRN := Lib.hid (HSt.out HMV.out)
        have HN := Lib.hid (HY.out HMV.out)
        have HE := Lib.hid (HME.out HMV.out)
        rw [HRN.out] at HN HE
        obtain ⟨np, hnp⟩ : ∃ np, np = d ++ yp.extract s.size yp.size := ⟨_, rfl⟩
        rw [← hnp] at HN HE
        clear HY HNO HME HSt HRN
        have hcw := hcr.alloc (.cells #[.string np, .int .i64 yk, .string yt, .bool yo] 53)
        have how : EnOwn _ base v LK := own_alloc hor (.cells #[.string np, .int .i64 yk, .string yt, .bool yo] 53)
        have hxw := hxr.trans (BelowX.of ((Below.refl wr.heap.size wr).alloc (Nat.le_refl _) (.cells #[.string np, .int .i64 yk, .string yt, .bool yo] 53)) hbwr)
        have hbww : base ≤ (wr.alloc (.cells #[.string np, .int .i64 yk, .string yt, .bool yo] 53)).heap.size := by rw [World.size_alloc]; omega
        have hyw := Blk.new wr 53 [.string np, .int .i64 yk, .string yt, .bool yo]
        go_wp2_with fail
        try rw [← hnp]
        refine (set_any np.size gc base vB _ _ v LK ⟨np, yk, yt, yo⟩ (wr.alloc (.cells #[.string np, .int .i64 yk, .string yt, .bool yo] 53)) hcw how hgb hbww HOKK.out.srt HOKK.out.ne HOKK.out.sm HE.out.1 (Nat.le_of_eq (size_length np)) (by show np.size < 4294967281; have h8 : np.size ≤ 80 := HE.out.2.1; omega) HE.out.2.2 (by have h8 : np.size ≤ 80 := HE.out.2.1; omega)).mono ?_
        rintro e w20 ⟨rfl, v20, hc20, ho20, hg20⟩
        have hx20 := hxw.trans (hg20.belowX hbww (own_lt how))
        go_wp2_with fail
        go_roundw
        case rel => exact ⟨k + 1, v20, hlt, by go_num, hc20, by rw [HN.out, Tr.setAll_snoc, ← HLK.out]; exact ho20, hx20⟩
        case measure => simp [intOf]; omega
      · have HN := Lib.hid (HNO.out (show ¬ (yp.data.toList = s.data.toList ∨ Pt.under yp.data.toList s.data.toList = true) from fun h => h.elim hq (fun h => by rw [tu] at h; cases h)))
        clear HY HNO HME hq
        go_wp2_with fail
        go_roundw
        case rel => exact ⟨k + 1, v, hlt, by go_num, hcr.alloc _, by rw [HN.out, ← HLK.out]; exact own_alloc hor _, hxr.trans (BelowX.of ((Below.refl wr.heap.size wr).alloc (Nat.le_refl _) _) hbwr)⟩
        case measure => simp [intOf]; omega
    · obtain rfl : k = S.length := by omega
      rw [List.take_length] at hor
      have HF := HF1
      have HLEN : Hid ((Tr.setAll U2 (Tr.movedO S s.data.toList d.data.toList)).length ≤ 2000000) := Lib.hid (by have := (HOKA.out S.length (Nat.le_refl _)).len; rw [List.take_length] at this; omega)
      have hq9 := hq8.keepX hxr (by omega) (by omega)
      have hz9 := hz8.keepX hxr (by omega) (by omega)
      have hB9 := hB8.trans (hxr.below (by omega) (by omega))
      have hc9 := hcr
      have ho9 := hor
      have hbw9 := hbwr
      clear hcr hor hbwr hq8 hz8 hB8
      generalize wr = w9 at *
      go_wp2_with fail
      have hl9 : TsRd w9 w9.heap.size A' u.L := ((HU.out.below hB9).more hB9.size).low
      refine (end_any gc w.heap.size base vB _ _ v _ A A' c c' u w9 hc9 ho9 hbw9 hq9 hl9 (by have := HP.out.ll; omega) (fun l hl => by have := HP.out.lls l hl; omega) HLEN.out).mono ?_
      rintro e w20 ⟨A7, A7', c7, c7', rfl, hf7, hb7⟩
      have hz7 := hz9.below hb7 hz9.lt
      have hB7 := hB9.trans (hb7.mono hB9.size)
      rw [← HF.out] at hf7
      rw [← HF.out]
      obtain ⟨z0, z1, zf, zz⟩ := hz7.two
      go_wp2_with fail
      refine bodyPost_ret (v := .tuple #[.agg #[.slice A7 R.1.U.length c7, .slice A7' R.1.L.length c7'], .int .i64 R.2]) ?_ rfl ?_
      · simp [results, Tryz.results73, go_sem, z0, z1]
      exact ⟨_, _, _, _, rfl, ((hf7.set (p := ⟨w.heap.size + 1, 0, none⟩) (by show w.heap.size + 1 < base; omega) _).set (p := ⟨w.heap.size + 1, 1, none⟩) (by show w.heap.size + 1 < base; omega) _).less (by omega), (hB7.setCell (p := ⟨w.heap.size + 1, 0, none⟩) (by show w.heap.size ≤ w.heap.size + 1; omega) _).setCell (p := ⟨w.heap.size + 1, 1, none⟩) (by show w.heap.size ≤ w.heap.size + 1; omega) _⟩
end Go.Proofs.YtjppfhgkanbemacGreatDoor

namespace Go.Proofs.YtjppfhgkanbemacGreatDoor
open Go.RowKit Go.Shelf Go.Sort

theorem unSm_fine {u : Un} (h : Tr.Fine u) : UnSm u := by
  have hl := Tr.mergeL_layers h.2
  refine ⟨fun l hm => ⟨Tr.right_sm (hl l hm).2, by have := (hl l hm).1; omega⟩, by have := h.1; omega, fun l hm => by have := (hl l hm).1; omega⟩

set_option maxHeartbeats 2000000 in
set_option maxRecDepth 100000 in
theorem sameUnion_any (A A' B B' : Option Addr) (c c' d d' : Nat) (u : Un) (w : World) (hu : UnRd w w.heap.size A A' c c' u) (hv : UnRd w w.heap.size B B' d d' u) (h1 : u.U.length ≤ 2000000) (h2 : u.L.length ≤ 2000000) (h3 : ∀ l ∈ u.L, l.length ≤ 2000000) :
    Calls Tryz.prog 21 #[.agg #[.slice A u.U.length c, .slice A' u.L.length c'], .agg #[.slice B u.U.length d, .slice B' u.L.length d']] w fun e w' => e = .returned (.bool true) ∧ Below w.heap.size w w' := by
  have HU := Lib.hid hu
  have HV := Lib.hid hv
  have H3 := Lib.hid h3
  clear hu hv h3
  have hB1 := ((Below.refl w.heap.size w).alloc (Nat.le_refl _) (.cells #[.slice A u.U.length c, .slice A' u.L.length c'] 26))
  have hq1 := Blk.new w 26 [.slice A u.U.length c, .slice A' u.L.length c']
  have hB2 := hB1.alloc hB1.size (.cells #[.slice B u.U.length d, .slice B' u.L.length d'] 26)
  have hq2 := hq1.alloc (.cells #[.slice B u.U.length d, .slice B' u.L.length d'] 26)
  have hp2 := Blk.new (w.alloc (.cells #[.slice A u.U.length c, .slice A' u.L.length c'] 26)) 26 [.slice B u.U.length d, .slice B' u.L.length d']
  simp only [World.size_alloc] at hp2
  clear hB1 hq1
  obtain ⟨l, ls⟩ := u
  dsimp only at *
  obtain ⟨q0, q1, qf, qz⟩ := hq2.two
  obtain ⟨p0, p1, pf, pz⟩ := hp2.two
  go_enter Tryz.func21, Tryz.ntmps21
  go_upto_region 1 with fail
  generalize (w.alloc (.cells #[.slice A l.length c, .slice A' ls.length c'] 26)).alloc (.cells #[.slice B l.length d, .slice B' ls.length d'] 26) = w2 at *
  go_wp2_with fail
  clear q0 q1 qf qz p0 p1 pf pz
  refine (same_any A B c d l l w2 ((HU.out.below hB2).more hB2.size).up ((HV.out.below hB2).more hB2.size).up (by omega) rfl).mono ?_
  rintro e w3 ⟨rfl, hb⟩
  have hB3 := hB2.trans (hb.mono hB2.size)
  have hq3 := hq2.below hb hq2.lt
  have hp3 := hp2.below hb hp2.lt
  clear hb hB2 hq2 hp2
  obtain ⟨q0, q1, qf, qz⟩ := hq3.two
  obtain ⟨p0, p1, pf, pz⟩ := hp3.two
  go_wp2_with fail
  clear q0 q1 qf qz p0 p1 pf pz
  go_loopw [24] (fun i wr => ∃ k : Nat, k ≤ ls.length ∧ i = .int .i64 k ∧ Blk wr w.heap.size 26 [.slice A l.length c, .slice A' ls.length c'] ∧ Blk wr (w.heap.size + 1) 26 [.slice B l.length d, .slice B' ls.length d'] ∧ Below w.heap.size w wr) (fun i _ => ls.length - (intOf i).toNat)
  case atStart => exact ⟨0, Nat.zero_le _, rfl, hq3, hp3, hB3⟩
  case round =>
    clear hq3 hp3 hB3
    obtain ⟨k, hk, rfl, hq, hp, hB⟩ := hrel
    obtain ⟨q0, q1, qf, qz⟩ := hq.two
    obtain ⟨p0, p1, pf, pz⟩ := hp.two
    by_cases hlt : k < ls.length
    · obtain ⟨ws, hrw, hel⟩ := (HU.out.below hB).low
      obtain ⟨Ak, ck, f1, f2, f3⟩ := hel k hlt
      obtain ⟨bA, oA, eA, hbA, hcA⟩ := hrw.2 (by show 0 < ls.length; omega)
      have hA0 := hcA k _ f1
      obtain ⟨vs, hrv, hev⟩ := (HV.out.below hB).low
      obtain ⟨Bk, dk, g1, g2, g3⟩ := hev k hlt
      obtain ⟨bB, oB, eB, hbB, hcB⟩ := hrv.2 (by show 0 < ls.length; omega)
      have hB0 := hcB k _ g1
      dsimp only at f3 g3
      have f3 := f3.more hB.size
      have g3 := g3.more hB.size
      have hkl := H3.out ls[k] (List.getElem_mem hlt)
      subst eA eB
      clear hrw hel hrv hev hcA hcB f1 g1
      generalize ls[k] = m at f2 f3 g2 g3 hA0 hB0 hkl
      go_wp2_with fail
      go_region_held3 (fun W => W.cell? ⟨w.heap.size, 1, none⟩ = some (.slice (some ⟨bA, oA, none⟩) ls.length c') ∧ W.cell? ⟨w.heap.size + 1, 1, none⟩ = some (.slice (some ⟨bB, oB, none⟩) ls.length d') ∧ W.cell? ⟨bA, oA + k, none⟩ = some (.slice Ak m.length ck) ∧ W.cell? ⟨bB, oB + k, none⟩ = some (.slice Bk m.length dk))
        (first | exact ⟨q1, p1, hA0, hB0⟩ | exact hS6 | go_keep)
        (first | (go_at_call 18; refine (same_any Ak Bk ck dk m m _ (by exact f3) (by exact g3) (by omega) rfl).mono ?_; rintro e w6 ⟨rfl, hb6⟩; have hS6 : w6.cell? ⟨w.heap.size, 1, none⟩ = some (.slice (some ⟨bA, oA, none⟩) ls.length c') ∧ w6.cell? ⟨w.heap.size + 1, 1, none⟩ = some (.slice (some ⟨bB, oB, none⟩) ls.length d') ∧ w6.cell? ⟨bA, oA + k, none⟩ = some (.slice Ak m.length ck) ∧ w6.cell? ⟨bB, oB + k, none⟩ = some (.slice Bk m.length dk) := ⟨(hb6.cell (p := ⟨w.heap.size, 1, none⟩) hq.lt).trans q1, (hb6.cell (p := ⟨w.heap.size + 1, 1, none⟩) hp.lt).trans p1, (hb6.cell (p := ⟨bA, oA + k, none⟩) (Nat.lt_of_lt_of_le hbA hB.size)).trans hA0, (hb6.cell (p := ⟨bB, oB + k, none⟩) (Nat.lt_of_lt_of_le hbB hB.size)).trans hB0⟩))
      all_goals
        have hb' : Below wr.heap.size wr w6 := ((Below.refl _ wr).drew).trans hb6
        clear q0 q1 qf qz p0 p1 pf pz
        go_wp2_with fail
        go_roundw
        case rel => exact ⟨k + 1, hlt, by go_num, hq.below hb' hq.lt, hp.below hb' hp.lt, hB.trans (hb'.mono hB.size)⟩
        case measure => simp [intOf]; omega
    · obtain rfl : k = ls.length := by omega
      go_wp2_with fail
      go_ret
      exact ⟨rfl, hB⟩

end Go.Proofs.YtjppfhgkanbemacGreatDoor
