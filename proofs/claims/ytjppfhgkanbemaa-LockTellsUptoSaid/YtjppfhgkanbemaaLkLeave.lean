/-
  The walks of slices.Clone, slices.IndexFunc and slices.DeleteFunc at locks, and of lock.Leave.
-/
import Derived.Test.YtjppfhgkanbemaaLkTidy
import Derived.Test.YtjppfhgkanbemaaMem3
namespace Go.Proofs.Ytjppfhgkanbemaa
open Go.RowKit

theorem leave1_any (g : Nat) (x : Lk) (ow : Int) (w : World) (hx : w.cell? ⟨g, 0, none⟩ = some (.int .i64 ow)) (hg : g < w.heap.size) :
    Calls Try.prog 30 #[.agg #[.int .i64 x.o, .int .i64 x.f, .int .i64 x.t, .bool x.a], .pointer (some ⟨g, 0, none⟩)] w fun e w' => e = .returned (.bool (x.o == ow)) ∧ Below w.heap.size w w' := by
  obtain ⟨xo, xf, xt, xa⟩ := x
  dsimp only
  go_enter Try.func30, Try.ntmps30
  go_wp2_with fail
  go_ret
  exact ⟨rfl, (Below.refl _ _).alloc (Nat.le_refl _) _⟩

theorem flat_one {l : List Lk} {u : Value} (h : u ∈ Lk.flat l) : u.oneCell' = true := by
  simp only [Lk.flat, List.mem_flatMap, Lk.cells, List.mem_cons, List.mem_nil_iff, or_false] at h
  obtain ⟨x, _, rfl | rfl | rfl | rfl⟩ := h <;> rfl
theorem rd_add {w : World} {B size n : Nat} {ad : Addr} {xs : List Value} (h : Rd w B size (some ad) n xs) {j : Nat} {u : Value} (hu : xs[j]? = some u) {w' : World} (hw : w' = w.alloc (.cells #[] 24)) (hB : B ≤ w.heap.size) : w'.cell? (ad.add j) = some u := by
  have hj : j < xs.length := by
    rcases Nat.lt_or_ge j xs.length with h0 | h0
    · exact h0
    · rw [List.getElem?_eq_none h0] at hu; cases hu
  have hn : 0 < n := by
    rcases Nat.eq_zero_or_pos n with h0 | h0
    · have := h.1; rw [h0] at this; omega
    · exact h0
  obtain ⟨b, o, e, hb, hc⟩ := h.2 hn
  cases e
  have ha : (⟨b, o, none⟩ : Addr).add j = ⟨b, o + j, none⟩ := by
    unfold Addr.add
    split
    · rename_i h0; subst h0; rfl
    · rfl
  rw [ha, hw, World.cell?_alloc_lt _ _ _ (by show b < w.heap.size; omega)]
  exact hc j u hu

theorem clone_any (A : Option Addr) (c : Nat) (l : List Lk) (w : World) (hl : LkRd w w.heap.size A l) (hn : l.length ≤ 2000000) :
    Calls Try.prog 29 #[.slice A l.length c] w fun e w' => ∃ v, e = .returned v ∧ LkOwn w' w.heap.size v l ∧ Below w.heap.size w w' := by
  obtain ⟨i0, hi, hz0, hz1, hz2⟩ := info_parts info_lk
  have hnil := fun W n k => Lib.run_eql_slice_nil (P := Try.prog) W 22 24 A n k 0 0 Try.underlying22
  rcases A with _ | ad
  · have h0 : l.length = 0 := by
      rcases Nat.eq_zero_or_pos l.length with h | h
      · exact h
      · obtain ⟨b, o, e, _⟩ := hl.2 h; cases e
    have hl0 : l = [] := List.eq_nil_of_length_eq_zero h0
    subst hl0
    simp only [Option.isNone_none] at hnil
    go_enter Try.func29, Try.ntmps29
    go_wp2_with fail
    go_ret
    exact ⟨_, rfl, World.ownsRow_nil _ _ _ _, Below.refl _ _⟩
  · simp only [Option.isNone_some] at hnil
    go_enter Try.func29, Try.ntmps29
    go_wp2_with (first
      | (at_builtin; go_must (refine wpList_append_own _ rfl _ _ _ rfl w.heap.size 24 i0 _ 4 32 Try.underlying22 hi hz0 hz1 hz2 rfl (by decide) (.slice (some ⟨w.heap.size, 0, none⟩) 0 0) 0 [] rfl (World.ownsRow_lit (e := 24) (size := 4) w #[] 0 (Nat.le_refl _) (by decide) rfl) ad l.length c (Lk.flat l) rfl (by exact hl.1) (by intro j u hu; exact rd_add hl hu rfl (Nat.le_refl _)) (by intro u hu; exact flat_one hu) (by unfold maxLen; omega) (by omega) (by simp) ?_); intro v1 w1 ho1 hg1 _))
    go_ret
    refine ⟨_, rfl, by simpa [LkOwn] using ho1, below_grown ((Below.refl _ _).alloc (Nat.le_refl _) _) hg1 (by simp) (fun k hk => by simp [Value.ownBlock] at hk; omega)⟩

/-- The place of the first element of which p is true. -/
def IdxRel {α : Type} (p : α → Bool) (l : List α) (i : Int) : Prop :=
  (i = -1 ∧ ∀ x ∈ l, p x = false) ∨ ∃ k : Nat, i = k ∧ ∃ hk : k < l.length, p l[k] = true ∧ ∀ x ∈ l.take k, p x = false

set_option maxHeartbeats 800000 in
theorem indexL_any (A : Option Addr) (c g : Nat) (l : List Lk) (ow : Int) (w : World) (hl : LkRd w w.heap.size A l) (hbig : l.length ≤ 9223372036854775807) (hx : w.cell? ⟨g, 0, none⟩ = some (.int .i64 ow)) (hg : g < w.heap.size) :
    Calls Try.prog 31 #[.slice A l.length c, .func (.func 30) #[] #[.pointer (some ⟨g, 0, none⟩)]] w fun e w' => ∃ i : Int, e = .returned (.int .i64 i) ∧ IdxRel (fun x : Lk => x.o == ow) l i ∧ Below w.heap.size w w' := by
  go_enter Try.func31, Try.ntmps31
  go_wp2
  go_loopw [8] (fun i wr => ∃ k : Nat, k ≤ l.length ∧ i = .int .i64 k ∧ Hid (∀ x ∈ l.take k, (x.o == ow) = false) ∧ Below w.heap.size w wr) (fun i _ => l.length - (intOf i).toNat)
  case atStart => exact ⟨0, Nat.zero_le _, rfl, (show ∀ x ∈ l.take 0, (x.o == ow) = false by simp), Below.refl _ _⟩
  case round =>
    obtain ⟨k, hk, rfl, hno, hB⟩ := hrel
    by_cases hlt : k < l.length
    · obtain ⟨b, o, rfl, hb, h0, h1, h2, h3⟩ := (LkRd.at_ (hl.below hB) hlt)
      have hbx : wr.cell? ⟨g, 0, none⟩ = some (.int .i64 ow) := (hB.cell hg).trans hx
      have hgz : g < wr.heap.size := Nat.lt_of_lt_of_le hg hB.size
      have Hst : Hid (∀ y, l[k] = y → (y.o == ow) = false → ∀ x ∈ l.take (k + 1), (x.o == ow) = false) := by
        intro y hy h x hx
        rw [List.take_succ_eq_append_getElem hlt, List.mem_append] at hx
        rcases hx with hx | hx
        · exact hno.out x hx
        · simp at hx; rw [hx, hy]; exact h
      have Hfd : Hid (∀ y, l[k] = y → (y.o == ow) = true → IdxRel (fun x : Lk => x.o == ow) l k) := fun y hy h => .inr ⟨k, rfl, hlt, by rw [hy]; exact h, hno.out⟩
      generalize hy : l[k] = y at h0 h1 h2 h3
      have Hy := Lib.hid hy
      clear hy
      go_wp2_with fail
      refine (leave1_any g y ow _ hbx hgz).mono ?_
      rintro e w1 ⟨rfl, hb1⟩
      have hB1 := hB.trans (hb1.mono hB.size)
      rcases hc : (y.o == ow) with _ | _
      · go_wp2_with fail
        go_roundw
        case rel => exact ⟨k + 1, hlt, by go_num, Hst.out y Hy.out hc, hB1⟩
        case measure => simp [intOf]; omega
      · go_wp2_with fail
        go_ret
        exact ⟨_, rfl, Hfd.out y Hy.out hc, hB1⟩
    · go_wp2_with fail
      go_ret
      refine ⟨_, rfl, .inl ⟨rfl, ?_⟩, hB⟩
      have := hno.out
      rw [List.take_of_length_le (by omega)] at this
      exact this

/-- What DeleteFunc's loop has come to: the row r, i elements kept out of the first j. -/
structure DelInv {α : Type} (p : α → Bool) (l r : List α) (i j : Nat) : Prop where
  len : r.length = l.length
  lt : i < j
  le : j ≤ l.length
  kept : r.take i = (l.take j).filter fun x => !p x
  rest : r.drop j = l.drop j

section
variable {α : Type} {p : α → Bool} {l r : List α} {i j : Nat}
theorem DelInv.start {k : Nat} (hk : k < l.length) (hp : p l[k] = true) (hno : ∀ x ∈ l.take k, p x = false) : DelInv p l l k (k + 1) := by
  refine ⟨rfl, by omega, hk, ?_, rfl⟩
  rw [List.take_succ_eq_append_getElem hk, List.filter_append]
  have e : (l.take k).filter (fun x => !p x) = l.take k := by
    rw [List.filter_eq_self]
    intro x hx
    simp [hno x hx]
  rw [e]
  simp [hp]
theorem DelInv.at_ (h : DelInv p l r i j) (hj : j < l.length) : r[j]'(by rw [h.len]; exact hj) = l[j] := by
  have := congrArg (fun q => q[0]?) h.rest
  simp only [List.getElem?_drop, Nat.add_zero] at this
  rw [List.getElem?_eq_getElem (by rw [h.len]; exact hj), List.getElem?_eq_getElem hj] at this
  injection this
theorem DelInv.skip (h : DelInv p l r i j) (hj : j < l.length) {x : α} (hx : l[j] = x) (hp : p x = true) : DelInv p l r i (j + 1) := by
  refine ⟨h.len, by have := h.lt; omega, hj, ?_, ?_⟩
  · rw [h.kept, List.take_succ_eq_append_getElem hj, List.filter_append, hx]
    simp [hp]
  · rw [← List.drop_drop, h.rest, List.drop_drop]
theorem DelInv.keep (h : DelInv p l r i j) (hj : j < l.length) {x : α} (hx : l[j] = x) (hp : p x = false) : DelInv p l (r.set i x) (i + 1) (j + 1) := by
  have hi : i < r.length := by rw [h.len]; have := h.lt; omega
  refine ⟨by rw [List.length_set]; exact h.len, by have := h.lt; omega, hj, ?_, ?_⟩
  · rw [List.take_succ_eq_append_getElem (by rw [List.length_set]; exact hi), List.take_succ_eq_append_getElem hj, List.filter_append, hx, ← h.kept, List.take_set_of_le (Nat.le_refl _)]
    simp [hp]
  · rw [List.drop_set_of_lt (by have := h.lt; omega), ← List.drop_drop, h.rest, List.drop_drop]
theorem DelInv.done (h : DelInv p l r i l.length) : r.take i = l.filter fun x => !p x := by
  rw [h.kept, List.take_length]
end
theorem flat_set (r : List Lk) (i : Nat) (hi : i < r.length) (x : Lk) :
    (((((Lk.flat r).set (i * 4) (.int .i64 x.o)).set (i * 4 + 1) (.int .i64 x.f)).set (i * 4 + 2) (.int .i64 x.t)).set (i * 4 + 3) (.bool x.a)) = Lk.flat (r.set i x) := by
  induction r generalizing i with
  | nil => simp at hi
  | cons y r ih =>
    have e : Lk.flat (y :: r) = [.int .i64 y.o, .int .i64 y.f, .int .i64 y.t, .bool y.a] ++ Lk.flat r := rfl
    rw [e]
    rcases i with _ | i
    · rfl
    · rw [List.set_cons_succ, show Lk.flat (y :: r.set i x) = [.int .i64 y.o, .int .i64 y.f, .int .i64 y.t, .bool y.a] ++ Lk.flat (r.set i x) from rfl, ← ih i (by simpa using hi)]
      have a : ∀ q, (i + 1) * 4 + q = (i * 4 + q) + 4 := fun q => by omega
      rw [show (i + 1) * 4 = i * 4 + 4 from by omega]
      simp only [Nat.add_right_comm _ 4]
      rfl
theorem flat_take (r : List Lk) (i : Nat) : (Lk.flat r).take (i * 4) = Lk.flat (r.take i) := by
  induction r generalizing i with
  | nil => simp [Lk.flat]
  | cons y r ih =>
    rcases i with _ | i
    · simp [Lk.flat]
    · have e : Lk.flat (y :: r) = [.int .i64 y.o, .int .i64 y.f, .int .i64 y.t, .bool y.a] ++ Lk.flat r := rfl
      rw [List.take_succ_cons, e, show Lk.flat (y :: r.take i) = [.int .i64 y.o, .int .i64 y.f, .int .i64 y.t, .bool y.a] ++ Lk.flat (r.take i) from rfl, ← ih i, show (i + 1) * 4 = i * 4 + 4 from by omega]
      rfl

theorem idx_none {l : List Lk} {ow : Int} (h : ∀ x ∈ l, (x.o == ow) = false) : l.filter (fun x => !(x.o == ow)) = l := by
  rw [List.filter_eq_self]
  intro x hx
  simp only [h x hx]
  rfl

theorem zero_lk : ∀ w, (zeroValue 24).run Try.prog w = .ok (.agg #[.int .i64 0, .int .i64 0, .int .i64 0, .bool false]) w := fun w => by kernel_rfl

set_option maxHeartbeats 1600000 in
theorem deleteL_any (base g cap gb : Nat) (l : List Lk) (ow : Int) (w : World) (ho : LkOwn w base (.slice (some ⟨g, 0, none⟩) l.length cap) l) (hbig : l.length ≤ 2000000) (hx : w.cell? ⟨gb, 0, none⟩ = some (.int .i64 ow)) (hgb : gb < w.heap.size) (hne : gb ≠ g) :
    Calls Try.prog 28 #[.slice (some ⟨g, 0, none⟩) l.length cap, .func (.func 30) #[] #[.pointer (some ⟨gb, 0, none⟩)]] w fun e w' => ∃ v, e = .returned v ∧ LkOwn w' base v (l.filter fun x => !(x.o == ow)) ∧ w.grownBy w' (some g) := by
  have hl : LkRd w w.heap.size (some ⟨g, 0, none⟩) l := Rd.of_own ho
  have hcap : l.length ≤ cap := by
    rcases own_shape ho with ⟨h, _⟩ | ⟨g', c', h, _, _, hc⟩
    · cases h
    · injection h with _ _ h; rw [h]; exact hc
  go_enter Try.func28, Try.ntmps28
  go_wp2_with fail
  refine (indexL_any _ cap gb l ow w hl (by omega) hx hgb).mono ?_
  rintro e w1 ⟨i, rfl, hi, hb⟩
  have ho1 := own_below ho hb (Nat.le_refl _)
  have hg1 : w.grownBy w1 (some g) := grown_of_below (World.grownBy.refl w _) hb
  have hx1 : w1.cell? ⟨gb, 0, none⟩ = some (.int .i64 ow) := (hb.cell hgb).trans hx
  have hz1 : gb < w1.heap.size := Nat.lt_of_lt_of_le hgb hb.size
  clear hx hgb hb hl ho
  rcases hi with ⟨rfl, hno⟩ | ⟨k, rfl, hk, hp, hno⟩
  · have Hn := Lib.hid (idx_none hno)
    clear hno
    go_wp2_with fail
    go_ret
    exact ⟨_, rfl, by rw [Hn.out]; exact ho1, hg1⟩
  · have Hd := Lib.hid (DelInv.start (p := (fun x : Lk => x.o == ow)) hk hp hno)
    clear hp hno
    have hk1 : ((k : Int) == -1) = false := by simp
    go_wp2_with fail
    go_loopw [5, 6] (fun vi vj wr => ∃ (i j : Nat) (r : List Lk), vi = .int .i64 i ∧ vj = .int .i64 j ∧ j ≤ l.length ∧ i < l.length ∧ Hid (DelInv (fun x : Lk => x.o == ow) l r i j) ∧ wr.ownsRow base 24 4 (.slice (some ⟨g, 0, none⟩) l.length cap) l.length (Lk.flat r) ∧ w.grownBy wr (some g) ∧ wr.cell? ⟨gb, 0, none⟩ = some (.int .i64 ow) ∧ gb < wr.heap.size) (fun _ j _ => l.length - (intOf j).toNat)
    case atStart => exact ⟨k, k + 1, l, rfl, by go_num, hk, hk, Hd, ho1, hg1, hx1, hz1⟩
    case round =>
      clear Hd ho1 hg1 hx1 hz1 hk1 hk
      obtain ⟨i, j, r, rfl, rfl, hjl, hil, Hd, hor, hgr, hxr, hzr⟩ := hrel
      by_cases hj : j < l.length
      · have hrl : j < r.length := by rw [Hd.out.len]; exact hj
        have Hr := Lib.hid (Hd.out.at_ hj)
        obtain ⟨f0, f1, f2, f3⟩ := flat_at r j hrl
        have h0 := (hor.cellAt (j * 4 + 0) (by omega)).trans f0
        have h1 := (hor.cellAt (j * 4 + 1) (by omega)).trans f1
        have h2 := (hor.cellAt (j * 4 + 2) (by omega)).trans f2
        have h3 := (hor.cellAt (j * 4 + 3) (by omega)).trans f3
        clear f0 f1 f2 f3
        simp only [Nat.add_zero] at h0
        generalize hy : r[j] = y at *
        have Hl := Lib.hid (Hr.out.symm)
        clear hy Hr
        obtain ⟨yo, yf, yt, ya⟩ := y
        dsimp only at h0 h1 h2 h3
        have hgz : g < wr.heap.size := by rcases own_shape hor with ⟨hh, _⟩ | ⟨g', c', hh, _, hz, _⟩; · cases hh
                                          · injection hh with hh; injection hh with hh; injection hh with hh; rw [hh]; exact hz
        go_wp2_with fail
        clear h0 h1 h2 h3
        have ho2 := own_alloc hor (.cells #[.int .i64 yo, .int .i64 yf, .int .i64 yt, .bool ya] 24)
        have hg2 := grown_alloc hgr (.cells #[.int .i64 yo, .int .i64 yf, .int .i64 yt, .bool ya] 24)
        have hx2 := (World.cell?_alloc_lt wr (.cells #[.int .i64 yo, .int .i64 yf, .int .i64 yt, .bool ya] 24) ⟨gb, 0, none⟩ hzr).trans hxr
        have hz2 : gb < (wr.alloc (.cells #[.int .i64 yo, .int .i64 yf, .int .i64 yt, .bool ya] 24)).heap.size := by simp; omega
        have hy2 : Blk (wr.alloc (.cells #[.int .i64 yo, .int .i64 yf, .int .i64 yt, .bool ya] 24)) wr.heap.size 24 [.int .i64 yo, .int .i64 yf, .int .i64 yt, .bool ya] := Blk.new _ _ _
        clear hor hgr hxr hzr
        generalize wr.alloc (.cells #[.int .i64 yo, .int .i64 yf, .int .i64 yt, .bool ya] 24) = w2 at *
        generalize wr.heap.size = gy at *
        refine (leave1_any gb ⟨yo, yf, yt, ya⟩ ow _ hx2 hz2).mono ?_
        rintro e w3 ⟨rfl, hb⟩
        have ho3 := own_below ho2 hb (Nat.le_refl _)
        have hg3 := grown_of_below hg2 hb
        have hx3 := (hb.cell (p := ⟨gb, 0, none⟩) hz2).trans hx2
        have hz3 := Nat.lt_of_lt_of_le hz2 hb.size
        have hy3 := hy2.below hb hy2.lt
        clear ho2 hg2 hx2 hz2 hy2 hb
        obtain ⟨y0, y1, y2, y3, yfr, yz⟩ := hy3.four
        dsimp only
        rcases hc : (yo == ow) with _ | _
        · have q0 : i * 4 < l.length * 4 := by omega
          have hil4 : i * 4 + 3 < (Lk.flat r).length := by rw [flat_len, Hd.out.len]; omega
          have c0 : ∃ u, w3.cell? ⟨g, i * 4, none⟩ = some u := ⟨_, (ho3.cellAt _ (by omega)).trans (List.getElem?_eq_getElem (by omega))⟩
          have c1 : ∃ u, w3.cell? ⟨g, i * 4 + 1, none⟩ = some u := ⟨_, (ho3.cellAt _ (by omega)).trans (List.getElem?_eq_getElem (by omega))⟩
          have c2 : ∃ u, w3.cell? ⟨g, i * 4 + 2, none⟩ = some u := ⟨_, (ho3.cellAt _ (by omega)).trans (List.getElem?_eq_getElem (by omega))⟩
          have c3 : ∃ u, w3.cell? ⟨g, i * 4 + 3, none⟩ = some u := ⟨_, (ho3.cellAt _ (by omega)).trans (List.getElem?_eq_getElem (by omega))⟩
          obtain ⟨u0, c0⟩ := c0
          obtain ⟨u1, c1⟩ := c1
          obtain ⟨u2, c2⟩ := c2
          obtain ⟨u3, c3⟩ := c3
          have fz : ∀ q, w3.frozen? ⟨g, q, none⟩ = false := fun q => ho3.frozenAt q
          clear hil4
          go_wp2_with fail
          go_roundw
          case rel =>
            obtain ⟨o4, g4⟩ := own_four ho3 (i * 4) (.int .i64 yo) (.int .i64 yf) (.int .i64 yt) (.bool ya)
            rw [flat_set r i (by rw [Hd.out.len]; exact hil) ⟨yo, yf, yt, ya⟩] at o4
            have hd := Hd.out.keep hj Hl.out hc
            have hfar : ∀ (W : World) q (u : Value), (W.setCell ⟨g, q, none⟩ u).cell? ⟨gb, 0, none⟩ = W.cell? ⟨gb, 0, none⟩ := fun W q u => World.cell?_setCell_other W ⟨g, q, none⟩ ⟨gb, 0, none⟩ u (by intro h; injection h with h; omega)
            exact ⟨i + 1, j + 1, _, by go_num, by go_num, by omega, by have := hd.lt; omega, hd, o4, grown_trans_row hg3 g4, by rw [hfar, hfar, hfar, hfar]; exact hx3, Nat.lt_of_lt_of_le hz3 g4.size⟩
          case measure => simp [intOf]; omega
        · go_wp2_with fail
          go_roundw
          case rel => exact ⟨i, j + 1, r, rfl, by go_num, by omega, hil, Hd.out.skip hj Hl.out hc, ho3, hg3, hx3, hz3⟩
          case measure => simp [intOf]; omega
      · have ej : j = l.length := by omega
        subst ej
        have hic : i ≤ cap := by omega
        obtain ⟨w9, hrun, ho9, hg9⟩ := run_clear_own (P := Try.prog) (size := 4) 22 0 (.agg #[.int .i64 0, .int .i64 0, .int .i64 0, .bool false]) Try.underlying22 zero_lk rfl (by simp [Value.cells, Value.oneCell']) hor i (cap - i) (some ⟨g, i * 4, none⟩) (by omega) (fun _ => rfl)
        go_wp2_with fail
        go_ret
        refine ⟨_, rfl, ?_, grown_trans_row hgr hg9⟩
        rw [flat_take] at ho9
        have hd := Hd.out.done
        have hli : (l.filter fun x => !(x.o == ow)).length = i := by
          rw [← hd, List.length_take, Hd.out.len]
          omega
        unfold LkOwn
        rw [hli, ← hd]
        exact ho9

theorem deleteL_nil (gb : Nat) (ow : Int) (w : World) (hx : w.cell? ⟨gb, 0, none⟩ = some (.int .i64 ow)) (hgb : gb < w.heap.size) :
    Calls Try.prog 28 #[.slice none 0 0, .func (.func 30) #[] #[.pointer (some ⟨gb, 0, none⟩)]] w fun e w' => e = .returned (.slice none 0 0) ∧ Below w.heap.size w w' := by
  go_enter Try.func28, Try.ntmps28
  go_wp2_with fail
  refine (indexL_any none 0 gb [] ow w Rd.nil (by simp) hx hgb).mono ?_
  rintro e w1 ⟨i, rfl, hi, hb⟩
  rcases hi with ⟨rfl, _⟩ | ⟨k, rfl, hk, _⟩
  · go_wp2_with fail
    go_ret
    exact ⟨rfl, hb⟩
  · simp at hk

theorem leaveL_any (A : Option Addr) (c : Nat) (l : List Lk) (ow : Int) (w : World) (hl : LkRd w w.heap.size A l) (hn : l.length ≤ 2000000) :
    Calls Try.prog 16 #[.slice A l.length c, .int .i64 ow] w fun e w' => ∃ v, e = .returned v ∧ LkOwn w' w.heap.size v (Lk.leave l ow) ∧ Below w.heap.size w w' := by
  go_enter Try.func16, Try.ntmps16
  go_wp2_with fail
  have hB1 : Below w.heap.size w (w.alloc (.cells #[.int .i64 ow] 3)) := (Below.refl _ _).alloc (Nat.le_refl _) _
  have hb1 : Blk (w.alloc (.cells #[.int .i64 ow] 3)) w.heap.size 3 [.int .i64 ow] := Blk.new _ _ _
  generalize w.alloc (.cells #[.int .i64 ow] 3) = w1 at *
  refine (clone_any A c l w1 ((hl.below hB1).more hB1.size) hn).mono ?_
  rintro e w2 ⟨v, rfl, ho, hb⟩
  have hB2 := hB1.trans (hb.mono hB1.size)
  have hb2 := hb1.below hb hb1.lt
  have hz := hb1.lt
  clear hb hb1 hB1
  rcases own_shape ho with ⟨hv, h0⟩ | ⟨g, cap, hv, hbg, _, _⟩
  · subst hv
    have e : l = [] := List.eq_nil_of_length_eq_zero h0
    subst e
    go_wp2_with fail
    refine (deleteL_nil w.heap.size ow w2 (hb2.cell 0) hb2.lt).mono ?_
    rintro e w3 ⟨rfl, hb⟩
    go_wp2_with fail
    go_ret
    exact ⟨_, rfl, World.ownsRow_nil _ _ _ _, hB2.trans (hb.mono hB2.size)⟩
  · subst hv
    go_wp2_with fail
    refine (deleteL_any w1.heap.size g cap w.heap.size l ow w2 ho hn (hb2.cell 0) hb2.lt (by omega)).mono ?_
    rintro e w3 ⟨v, rfl, ho3, hg3⟩
    go_wp2_with fail
    go_ret
    exact ⟨_, rfl, own_base ho3 (by omega), below_grown hB2 hg3 hB2.size (fun k hk => by cases hk; omega)⟩

end Go.Proofs.Ytjppfhgkanbemaa
