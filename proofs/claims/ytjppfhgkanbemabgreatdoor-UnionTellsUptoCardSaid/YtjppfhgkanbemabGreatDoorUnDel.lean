/-
  slices.IndexFunc and slices.DeleteFunc at entries, where drop calls them. (Printed by wip/genundel.py.)
-/
import Derived.Test.YtjppfhgkanbemabGreatDoorMH
import Derived.Test.YtjppfhgkanbemabGreatDoorMB
namespace Go.Proofs.YtjppfhgkanbemabGreatDoor
open Go.RowKit Go.Shelf Go.Sort

/-- Is an entry at a path, or below it? -/
def gone (s : ByteArray) (x : En) : Bool := x.p.toList == s.toList || Pt.under x.P s.data.toList
theorem gone_filter (l : List En) (s : ByteArray) : l.filter (fun x => !gone s x) = Tr.outside l s.data.toList := by
  unfold Tr.outside
  refine List.filter_congr fun x _ => ?_
  unfold gone
  rw [toList_beq, Bool.not_or]
  rfl
theorem drop1_any (g : Nat) (x : En) (s : ByteArray) (w : World) (hx : w.cell? ⟨g, 0, none⟩ = some (.string s)) (hg : g < w.heap.size) (hs : s.size < 4294967281) :
    Calls Tryz.prog 90 #[.agg #[.string x.p, .int .i64 x.k, .string x.t, .bool x.o], .pointer (some ⟨g, 0, none⟩)] w fun e w' => e = .returned (.bool (gone s x)) ∧ Below w.heap.size w w' := by
  obtain ⟨xp, xk, xt, xo⟩ := x
  unfold gone
  dsimp only
  rcases t : (xp.toList == s.toList) with _ | _
  · go_enter Tryz.func90, Tryz.ntmps90
    go_wp2_with fail
    refine (under_any xp s _ (by omega)).mono ?_
    rintro e w3 ⟨rfl, rfl⟩
    go_wp2_with fail
    go_ret
    exact ⟨rfl, (Below.refl _ _).alloc (Nat.le_refl _) _⟩
  · go_enter Tryz.func90, Tryz.ntmps90
    go_wp2_with fail
    go_ret
    exact ⟨rfl, (Below.refl _ _).alloc (Nat.le_refl _) _⟩
/-- The place of the first element of which p is true. -/
def IdxRelE {α : Type} (p : α → Bool) (l : List α) (i : Int) : Prop :=
  (i = -1 ∧ ∀ x ∈ l, p x = false) ∨ ∃ k : Nat, i = k ∧ ∃ hk : k < l.length, p l[k] = true ∧ ∀ x ∈ l.take k, p x = false

set_option maxHeartbeats 800000 in
theorem indexD_any (A : Option Addr) (c g : Nat) (l : List En) (s : ByteArray) (w : World) (hl : EnRd w w.heap.size A l) (hbig : l.length ≤ 9223372036854775807) (hx : w.cell? ⟨g, 0, none⟩ = some (.string s)) (hg : g < w.heap.size) (HZ : s.size < 4294967281) :
    Calls Tryz.prog 120 #[.slice A l.length c, .func (.func 90) #[] #[.pointer (some ⟨g, 0, none⟩)]] w fun e w' => ∃ i : Int, e = .returned (.int .i64 i) ∧ IdxRelE (gone s) l i ∧ Below w.heap.size w w' := by
  go_enter Tryz.func120, Tryz.ntmps120
  go_wp2
  go_loopw [8] (fun i wr => ∃ k : Nat, k ≤ l.length ∧ i = .int .i64 k ∧ Hid (∀ x ∈ l.take k, gone s x = false) ∧ Below w.heap.size w wr) (fun i _ => l.length - (intOf i).toNat)
  case atStart => exact ⟨0, Nat.zero_le _, rfl, (show ∀ x ∈ l.take 0, gone s x = false by simp), Below.refl _ _⟩
  case round =>
    obtain ⟨k, hk, rfl, hno, hB⟩ := hrel
    by_cases hlt : k < l.length
    · obtain ⟨b, o, rfl, hb, h0, h1, h2, h3⟩ := (EnRd.at_ (hl.below hB) hlt)
      have hbx : wr.cell? ⟨g, 0, none⟩ = some (.string s) := (hB.cell hg).trans hx
      have hgz : g < wr.heap.size := Nat.lt_of_lt_of_le hg hB.size
      have Hst : Hid (∀ y, l[k] = y → gone s y = false → ∀ x ∈ l.take (k + 1), gone s x = false) := by
        intro y hy h x hx
        rw [List.take_succ_eq_append_getElem hlt, List.mem_append] at hx
        rcases hx with hx | hx
        · exact hno.out x hx
        · simp at hx; rw [hx, hy]; exact h
      have Hfd : Hid (∀ y, l[k] = y → gone s y = true → IdxRelE (gone s) l k) := fun y hy h => .inr ⟨k, rfl, hlt, by rw [hy]; exact h, hno.out⟩
      generalize hy : l[k] = y at h0 h1 h2 h3
      have Hy := Lib.hid hy
      clear hy
      go_wp2_with fail
      refine (drop1_any g y s _ hbx hgz HZ).mono ?_
      rintro e w1 ⟨rfl, hb1⟩
      have hB1 := hB.trans (hb1.mono hB.size)
      rcases hc : gone s y with _ | _
      · go_wp2_with fail
        go_roundw
        case rel => exact ⟨k + 1, hlt, by go_num, Hst.out y Hy.out hc, hB1⟩
        case measure => simp [intOf]; omega
      · go_wp2_with fail
        go_ret
        exact ⟨_, rfl, Hfd.out y Hy.out hc, hB1⟩
    · go_wp2_with fail
      go_ret
      refine ⟨_, rfl, .inl ⟨rfl, ?_⟩, hB⟩
      have := hno.out
      rw [List.take_of_length_le (by omega)] at this
      exact this

/-- What DeleteFunc's loop has come to: the row r, i elements kept out of the first j. -/
structure DelInvE {α : Type} (p : α → Bool) (l r : List α) (i j : Nat) : Prop where
  len : r.length = l.length
  lt : i < j
  le : j ≤ l.length
  kept : r.take i = (l.take j).filter fun x => !p x
  rest : r.drop j = l.drop j

section
variable {α : Type} {p : α → Bool} {l r : List α} {i j : Nat}
theorem DelInvE.start {k : Nat} (hk : k < l.length) (hp : p l[k] = true) (hno : ∀ x ∈ l.take k, p x = false) : DelInvE p l l k (k + 1) := by
  refine ⟨rfl, by omega, hk, ?_, rfl⟩
  rw [List.take_succ_eq_append_getElem hk, List.filter_append]
  have e : (l.take k).filter (fun x => !p x) = l.take k := by
    rw [List.filter_eq_self]
    intro x hx
    simp [hno x hx]
  rw [e]
  simp [hp]
theorem DelInvE.at_ (h : DelInvE p l r i j) (hj : j < l.length) : r[j]'(by rw [h.len]; exact hj) = l[j] := by
  have := congrArg (fun q => q[0]?) h.rest
  simp only [List.getElem?_drop, Nat.add_zero] at this
  rw [List.getElem?_eq_getElem (by rw [h.len]; exact hj), List.getElem?_eq_getElem hj] at this
  injection this
theorem DelInvE.skip (h : DelInvE p l r i j) (hj : j < l.length) {x : α} (hx : l[j] = x) (hp : p x = true) : DelInvE p l r i (j + 1) := by
  refine ⟨h.len, by have := h.lt; omega, hj, ?_, ?_⟩
  · rw [h.kept, List.take_succ_eq_append_getElem hj, List.filter_append, hx]
    simp [hp]
  · rw [← List.drop_drop, h.rest, List.drop_drop]
theorem DelInvE.keep (h : DelInvE p l r i j) (hj : j < l.length) {x : α} (hx : l[j] = x) (hp : p x = false) : DelInvE p l (r.set i x) (i + 1) (j + 1) := by
  have hi : i < r.length := by rw [h.len]; have := h.lt; omega
  refine ⟨by rw [List.length_set]; exact h.len, by have := h.lt; omega, hj, ?_, ?_⟩
  · rw [List.take_succ_eq_append_getElem (by rw [List.length_set]; exact hi), List.take_succ_eq_append_getElem hj, List.filter_append, hx, ← h.kept, List.take_set_of_le (Nat.le_refl _)]
    simp [hp]
  · rw [List.drop_set_of_lt (by have := h.lt; omega), ← List.drop_drop, h.rest, List.drop_drop]
theorem DelInvE.done (h : DelInvE p l r i l.length) : r.take i = l.filter fun x => !p x := by
  rw [h.kept, List.take_length]
end
theorem eidx_none {l : List En} {s : ByteArray} (h : ∀ x ∈ l, gone s x = false) : l.filter (fun x => !gone s x) = l := by
  rw [List.filter_eq_self]
  intro x hx
  simp only [h x hx]
  rfl


set_option maxHeartbeats 1600000 in
theorem deleteD_any (base g cap gb : Nat) (l : List En) (s : ByteArray) (w : World) (ho : EnOwn w base (.slice (some ⟨g, 0, none⟩) l.length cap) l) (hbig : l.length ≤ 2000000) (hx : w.cell? ⟨gb, 0, none⟩ = some (.string s)) (hgb : gb < w.heap.size) (hne : gb ≠ g) (HZ : s.size < 4294967281) :
    Calls Tryz.prog 89 #[.slice (some ⟨g, 0, none⟩) l.length cap, .func (.func 90) #[] #[.pointer (some ⟨gb, 0, none⟩)]] w fun e w' => ∃ v, e = .returned v ∧ EnOwn w' base v (l.filter fun x => !gone s x) ∧ w.grownBy w' (some g) ∧ v.ownBlock = some g := by
  have hl : EnRd w w.heap.size (some ⟨g, 0, none⟩) l := Rd.of_own ho
  have hcap : l.length ≤ cap := by
    rcases own_shape ho with ⟨h, _⟩ | ⟨g', c', h, _, _, hc⟩
    · cases h
    · injection h with _ _ h; rw [h]; exact hc
  go_enter Tryz.func89, Tryz.ntmps89
  go_wp2_with fail
  refine (indexD_any _ cap gb l s w hl (by omega) hx hgb HZ).mono ?_
  rintro e w1 ⟨i, rfl, hi, hb⟩
  have ho1 := own_below ho hb (Nat.le_refl _)
  have hg1 : w.grownBy w1 (some g) := grown_of_below (World.grownBy.refl w _) hb
  have hx1 : w1.cell? ⟨gb, 0, none⟩ = some (.string s) := (hb.cell hgb).trans hx
  have hz1 : gb < w1.heap.size := Nat.lt_of_lt_of_le hgb hb.size
  clear hx hgb hb hl ho
  rcases hi with ⟨rfl, hno⟩ | ⟨k, rfl, hk, hp, hno⟩
  · have Hn := Lib.hid (eidx_none hno)
    clear hno
    go_wp2_with fail
    go_ret
    exact ⟨_, rfl, by rw [Hn.out]; exact ho1, hg1, rfl⟩
  · have Hd := Lib.hid (DelInvE.start (p := (gone s)) hk hp hno)
    clear hp hno
    have hk1 : ((k : Int) == -1) = false := by simp
    go_wp2_with fail
    go_loopw [5, 6] (fun vi vj wr => ∃ (i j : Nat) (r : List En), vi = .int .i64 i ∧ vj = .int .i64 j ∧ j ≤ l.length ∧ i < l.length ∧ Hid (DelInvE (gone s) l r i j) ∧ wr.ownsRow base 45 4 (.slice (some ⟨g, 0, none⟩) l.length cap) l.length (En.flat r) ∧ w.grownBy wr (some g) ∧ wr.cell? ⟨gb, 0, none⟩ = some (.string s) ∧ gb < wr.heap.size) (fun _ j _ => l.length - (intOf j).toNat)
    case atStart => exact ⟨k, k + 1, l, rfl, by go_num, hk, hk, Hd, ho1, hg1, hx1, hz1⟩
    case round =>
      clear Hd ho1 hg1 hx1 hz1 hk1 hk
      obtain ⟨i, j, r, rfl, rfl, hjl, hil, Hd, hor, hgr, hxr, hzr⟩ := hrel
      by_cases hj : j < l.length
      · have hrl : j < r.length := by rw [Hd.out.len]; exact hj
        have Hr := Lib.hid (Hd.out.at_ hj)
        obtain ⟨f0, f1, f2, f3⟩ := eflat_at r j hrl
        have h0 := (hor.cellAt (j * 4 + 0) (by omega)).trans f0
        have h1 := (hor.cellAt (j * 4 + 1) (by omega)).trans f1
        have h2 := (hor.cellAt (j * 4 + 2) (by omega)).trans f2
        have h3 := (hor.cellAt (j * 4 + 3) (by omega)).trans f3
        clear f0 f1 f2 f3
        simp only [Nat.add_zero] at h0
        generalize hy : r[j] = y at *
        have Hl := Lib.hid (Hr.out.symm)
        clear hy Hr
        obtain ⟨yp, yk, yt, yo⟩ := y
        dsimp only at h0 h1 h2 h3
        have hgz : g < wr.heap.size := by rcases own_shape hor with ⟨hh, _⟩ | ⟨g', c', hh, _, hz, _⟩; · cases hh
                                          · injection hh with hh; injection hh with hh; injection hh with hh; rw [hh]; exact hz
        go_wp2_with fail
        clear h0 h1 h2 h3
        have ho2 := own_alloc hor (.cells #[.string yp, .int .i64 yk, .string yt, .bool yo] 45)
        have hg2 := grown_alloc hgr (.cells #[.string yp, .int .i64 yk, .string yt, .bool yo] 45)
        have hx2 := (World.cell?_alloc_lt wr (.cells #[.string yp, .int .i64 yk, .string yt, .bool yo] 45) ⟨gb, 0, none⟩ hzr).trans hxr
        have hz2 : gb < (wr.alloc (.cells #[.string yp, .int .i64 yk, .string yt, .bool yo] 45)).heap.size := by simp; omega
        have hy2 : Blk (wr.alloc (.cells #[.string yp, .int .i64 yk, .string yt, .bool yo] 45)) wr.heap.size 45 [.string yp, .int .i64 yk, .string yt, .bool yo] := Blk.new _ _ _
        clear hor hgr hxr hzr
        generalize wr.alloc (.cells #[.string yp, .int .i64 yk, .string yt, .bool yo] 45) = w2 at *
        generalize wr.heap.size = gy at *
        refine (drop1_any gb ⟨yp, yk, yt, yo⟩ s _ hx2 hz2 HZ).mono ?_
        rintro e w3 ⟨rfl, hb⟩
        have ho3 := own_below ho2 hb (Nat.le_refl _)
        have hg3 := grown_of_below hg2 hb
        have hx3 := (hb.cell (p := ⟨gb, 0, none⟩) hz2).trans hx2
        have hz3 := Nat.lt_of_lt_of_le hz2 hb.size
        have hy3 := hy2.below hb hy2.lt
        clear ho2 hg2 hx2 hz2 hy2 hb
        obtain ⟨y0, y1, y2, y3, yfr, yz⟩ := hy3.four
        dsimp only
        rcases hc : gone s ⟨yp, yk, yt, yo⟩ with _ | _
        · have q0 : i * 4 < l.length * 4 := by omega
          have hil4 : i * 4 + 3 < (En.flat r).length := by rw [eflat_len, Hd.out.len]; omega
          have c0 : ∃ u, w3.cell? ⟨g, i * 4, none⟩ = some u := ⟨_, (ho3.cellAt _ (by omega)).trans (List.getElem?_eq_getElem (by omega))⟩
          have c1 : ∃ u, w3.cell? ⟨g, i * 4 + 1, none⟩ = some u := ⟨_, (ho3.cellAt _ (by omega)).trans (List.getElem?_eq_getElem (by omega))⟩
          have c2 : ∃ u, w3.cell? ⟨g, i * 4 + 2, none⟩ = some u := ⟨_, (ho3.cellAt _ (by omega)).trans (List.getElem?_eq_getElem (by omega))⟩
          have c3 : ∃ u, w3.cell? ⟨g, i * 4 + 3, none⟩ = some u := ⟨_, (ho3.cellAt _ (by omega)).trans (List.getElem?_eq_getElem (by omega))⟩
          obtain ⟨u0, c0⟩ := c0
          obtain ⟨u1, c1⟩ := c1
          obtain ⟨u2, c2⟩ := c2
          obtain ⟨u3, c3⟩ := c3
          have fz : ∀ q, w3.frozen? ⟨g, q, none⟩ = false := fun q => ho3.frozenAt q
          clear hil4
          go_wp2_with fail
          go_roundw
          case rel =>
            obtain ⟨o4, g4⟩ := own_four ho3 (i * 4) (.string yp) (.int .i64 yk) (.string yt) (.bool yo)
            rw [eflat_set r i (by rw [Hd.out.len]; exact hil) ⟨yp, yk, yt, yo⟩] at o4
            have hd := Hd.out.keep hj Hl.out hc
            have hfar : ∀ (W : World) q (u : Value), (W.setCell ⟨g, q, none⟩ u).cell? ⟨gb, 0, none⟩ = W.cell? ⟨gb, 0, none⟩ := fun W q u => World.cell?_setCell_other W ⟨g, q, none⟩ ⟨gb, 0, none⟩ u (by intro h; injection h with h; omega)
            exact ⟨i + 1, j + 1, _, by go_num, by go_num, by omega, by have := hd.lt; omega, hd, o4, grown_trans_row hg3 g4, by rw [hfar, hfar, hfar, hfar]; exact hx3, Nat.lt_of_lt_of_le hz3 g4.size⟩
          case measure => simp [intOf]; omega
        · go_wp2_with fail
          go_roundw
          case rel => exact ⟨i, j + 1, r, rfl, by go_num, by omega, hil, Hd.out.skip hj Hl.out hc, ho3, hg3, hx3, hz3⟩
          case measure => simp [intOf]; omega
      · have ej : j = l.length := by omega
        subst ej
        have hic : i ≤ cap := by omega
        obtain ⟨w9, hrun, ho9, hg9⟩ := run_clear_own (P := Tryz.prog) (size := 4) 30 0 (.agg #[.string ⟨#[]⟩, .int .i64 0, .string ⟨#[]⟩, .bool false]) Tryz.underlying30 zero_en rfl (by simp [Value.cells, Value.oneCell']) hor i (cap - i) (some ⟨g, i * 4, none⟩) (by omega) (fun _ => rfl)
        go_wp2_with fail
        go_ret
        refine ⟨_, rfl, ?_, grown_trans_row hgr hg9, rfl⟩
        rw [eflat_take] at ho9
        have hd := Hd.out.done
        have hli : (l.filter fun x => !gone s x).length = i := by
          rw [← hd, List.length_take, Hd.out.len]
          omega
        unfold EnOwn
        rw [hli, ← hd]
        exact ho9

theorem deleteD_nil (gb : Nat) (s : ByteArray) (w : World) (hx : w.cell? ⟨gb, 0, none⟩ = some (.string s)) (hgb : gb < w.heap.size) (HZ : s.size < 4294967281) :
    Calls Tryz.prog 89 #[.slice none 0 0, .func (.func 90) #[] #[.pointer (some ⟨gb, 0, none⟩)]] w fun e w' => e = .returned (.slice none 0 0) ∧ Below w.heap.size w w' := by
  go_enter Tryz.func89, Tryz.ntmps89
  go_wp2_with fail
  refine (indexD_any none 0 gb [] s w Rd.nil (by simp) hx hgb HZ).mono ?_
  rintro e w1 ⟨i, rfl, hi, hb⟩
  rcases hi with ⟨rfl, _⟩ | ⟨k, rfl, hk, _⟩
  · go_wp2_with fail
    go_ret
    exact ⟨rfl, hb⟩
  · simp at hk

end Go.Proofs.YtjppfhgkanbemabGreatDoor
