/-
  The document's With: an insertion into a sorted tree. (Printed by wip/genwith.py.)
-/
import Derived.Test.YtjppfhgkanbemabGreatDoorTrRefE
namespace Go.Proofs.YtjppfhgkanbemabGreatDoor
open Go.RowKit Go.Shelf Go.Sort

theorem ins_ahead {x : En} : ∀ {l : List En}, (∀ y ∈ l, Pt.cmp y.P x.P < 0) → Tr.ins x l = l ++ [x]
  | [], _ => rfl
  | y :: r, h => by
    rw [Tr.ins, if_pos (h y (by simp)), ins_ahead (fun z hz => h z (by simp [hz]))]; rfl
theorem ins_done {x z : En} : ∀ {l : List En}, Tr.Srt (l ++ [z]) → (∃ y ∈ l, ¬ Pt.cmp y.P x.P < 0) → Tr.ins x (l ++ [z]) = Tr.ins x l ++ [z] ∧ z.P ≠ x.P
  | [], _, h => by obtain ⟨y, hy, _⟩ := h; cases hy
  | a :: r, hs, h => by
    have hz : Pt.cmp a.P z.P < 0 := Tr.srt_head hs z (by simp)
    by_cases h1 : Pt.cmp a.P x.P < 0
    · have h2 : ∃ y ∈ r, ¬ Pt.cmp y.P x.P < 0 := by
        obtain ⟨y, hy, h3⟩ := h
        rcases List.mem_cons.1 hy with rfl | hy
        · exact absurd h1 h3
        · exact ⟨y, hy, h3⟩
      obtain ⟨i1, i2⟩ := ins_done (Tr.srt_tail hs) h2
      refine ⟨?_, i2⟩
      rw [List.cons_append, Tr.ins, if_pos h1, i1, Tr.ins, if_pos h1]; rfl
    · rw [List.cons_append, Tr.ins, if_neg h1, Tr.ins, if_neg h1]
      by_cases h2 : a.P = x.P
      · rw [if_pos h2, if_pos h2]
        exact ⟨rfl, fun e => by rw [e, ← h2, Pt.cmp_self] at hz; omega⟩
      · rw [if_neg h2, if_neg h2]
        refine ⟨rfl, fun e => ?_⟩
        rw [e] at hz; exact h1 hz
theorem ins_first {x z : En} : ∀ {l : List En}, (∀ y ∈ l, Pt.cmp y.P x.P < 0) → ¬ Pt.cmp z.P x.P < 0 → Tr.ins x (l ++ [z]) = if z.P = x.P then l ++ [x] else l ++ [x] ++ [z]
  | [], _, h => by
    rw [List.nil_append, Tr.ins, if_neg h]
    split <;> rfl
  | a :: r, h, hz => by
    rw [List.cons_append, Tr.ins, if_pos (h a (by simp)), ins_first (fun y hy => h y (by simp [hy])) hz]
    split <;> rfl
theorem ins_le (x : En) : ∀ l : List En, (Tr.ins x l).length ≤ l.length + 1
  | [] => by simp [Tr.ins]
  | y :: r => by
    unfold Tr.ins
    have := ins_le x r
    split
    · simp only [List.length_cons]; omega
    · split <;> simp
/-- What With has come to. -/
def WithTo (t : List En) (x : En) (k : Nat) (d : Bool) (out : List En) : Prop :=
  (d = false ∧ (∀ y ∈ t.take k, Pt.cmp y.P x.P < 0) ∧ out = t.take k) ∨ (d = true ∧ (∃ y ∈ t.take k, ¬ Pt.cmp y.P x.P < 0) ∧ out = Tr.ins x (t.take k))
theorem WithTo.le {t : List En} {x : En} {k : Nat} {d : Bool} {out : List En} (h : WithTo t x k d out) : out.length ≤ k + 1 := by
  rcases h with ⟨_, _, rfl⟩ | ⟨_, _, rfl⟩
  · rw [List.length_take]; omega
  · have := ins_le x (t.take k); rw [List.length_take] at this; omega

set_option maxHeartbeats 4000000 in
set_option maxRecDepth 100000 in
theorem with_any (A : Option Addr) (c : Nat) (t : List En) (x : En) (w : World) (ht : EnRd w w.heap.size A t) (hs : Sm t) (hsrt : Tr.Srt t) (hx : x.p.size < 4294967281) (hn : t.length ≤ 4000000) :
    Calls Tryz.prog 87 #[.slice A t.length c, .agg #[.string x.p, .int .i64 x.k, .string x.t, .bool x.o]] w fun e w' => ∃ v, e = .returned v ∧ EnOwn w' w.heap.size v (Tr.ins x t) ∧ Below w.heap.size w w' := by
  obtain ⟨i0, hi, hz0, hz1, hz2⟩ := info_parts info_en
  have HS := Lib.hid hs
  have HT := Lib.hid hsrt
  clear hs hsrt
  obtain ⟨xp, xk, xt, xo⟩ := x
  dsimp only at hx ⊢
  have hB0 : Below w.heap.size w (w.alloc (.cells #[.string xp, .int .i64 xk, .string xt, .bool xo] 45)) := (Below.refl _ _).alloc (Nat.le_refl _) _
  have hx0 := Blk.new w 45 [.string xp, .int .i64 xk, .string xt, .bool xo]
  go_enter Tryz.func87, Tryz.ntmps87
  go_upto_block 0 with fail
  have hz1' : (w.alloc (.cells #[.string xp, .int .i64 xk, .string xt, .bool xo] 45)).heap.size = w.heap.size + 1 := World.size_alloc _ _
  generalize w.alloc (.cells #[.string xp, .int .i64 xk, .string xt, .bool xo] 45) = w0 at *
  go_cut [5, 6] (fun v d wx => ∃ db out, d = .bool db ∧ EnOwn wx (w.heap.size + 1) v out ∧ Hid (WithTo t ⟨xp, xk, xt, xo⟩ t.length db out) ∧ Blk wx w.heap.size 45 [.string xp, .int .i64 xk, .string xt, .bool xo] ∧ Below w.heap.size w wx)
  case first =>
    go_wp2_with fail
    go_loopw [5, 6, 11] (fun v d i wr => ∃ (k : Nat) (db : Bool) (out : List En), k ≤ t.length ∧ i = .int .i64 k ∧ d = .bool db ∧ EnOwn wr (w.heap.size + 1) v out ∧ Hid (WithTo t ⟨xp, xk, xt, xo⟩ k db out) ∧ Blk wr w.heap.size 45 [.string xp, .int .i64 xk, .string xt, .bool xo] ∧ Below w.heap.size w wr) (fun _ _ i _ => t.length - (intOf i).toNat)
    case atStart => exact ⟨0, false, [], Nat.zero_le _, rfl, rfl, EnOwn.nil _ _, Lib.hid (.inl ⟨rfl, fun y hy => by simp at hy, rfl⟩), hx0, hB0⟩
    case round =>
      clear hx0 hB0
      obtain ⟨k, db, out, hk, rfl, rfl, hown, HO, hxb, hB⟩ := hrel
      by_cases hlt : k < t.length
      · obtain ⟨b, o, hA, hb, h0, h1, h2, h3⟩ := (EnRd.at_ (ht.below hB) hlt)
        subst hA
        have hle := HO.out.le
        have hsz := (HS.out.at_ hlt).1
        have HSt : Hid (Tr.Srt (t.take k ++ [t[k]])) := Lib.hid (by rw [← List.take_succ_eq_append_getElem hlt]; exact HT.out.sublist (List.take_sublist _ _))
        have HTk := Lib.hid (List.take_succ_eq_append_getElem hlt)
        generalize t[k] = z at h0 h1 h2 h3 HSt HTk hsz
        obtain ⟨yp, yk, yt, yo⟩ := z
        dsimp only at h0 h1 h2 h3 hsz
        have hy5 := Blk.new wr 45 [.string yp, .int .i64 yk, .string yt, .bool yo]
        have hx5 := hxb.alloc (.cells #[.string yp, .int .i64 yk, .string yt, .bool yo] 45)
        have hB5 := hB.alloc hB.size (.cells #[.string yp, .int .i64 yk, .string yt, .bool yo] 45)
        have ho5 := own_alloc hown (.cells #[.string yp, .int .i64 yk, .string yt, .bool yo] 45)
        have hnx : some w.heap.size ≠ u5.ownBlock := own_ne hown (.inl (Nat.lt_succ_self _))
        have hny : some wr.heap.size ≠ u5.ownBlock := own_ne hown (.inr (Nat.le_refl _))
        have hsz1 : w.heap.size + 1 ≤ wr.heap.size := hxb.lt
        cases db
        · have HF : Hid ((∀ y ∈ t.take k, Pt.cmp y.P (En.P ⟨xp, xk, xt, xo⟩) < 0) ∧ out = t.take k) := Lib.hid (by
            rcases HO.out with ⟨_, h1, h2⟩ | ⟨h, _⟩
            · exact ⟨h1, h2⟩
            · cases h)
          obtain ⟨x0, x1, x2, x3, xfr, xz⟩ := hx5.four
          go_wp2_with fail
          clear h0 h1 h2 h3 hown hB hxb x0 x1 x2 x3 xfr xz
          generalize wr.alloc (.cells #[.string yp, .int .i64 yk, .string yt, .bool yo] 45) = w5 at *
          generalize wr.heap.size = gy at *
          refine (less_any yp xp w5 hsz hx).mono ?_
          rintro e w6 ⟨rfl, hb6⟩
          have hB6 := hB5.trans (hb6.mono hB5.size)
          have hy6 := hy5.below hb6 hy5.lt
          have hx6 := hx5.below hb6 hx5.lt
          have ho6 := own_below ho5 hb6 (Nat.le_refl _)
          have hsz6 : w.heap.size + 1 ≤ w6.heap.size := hx6.lt
          clear hb6 hB5 hy5 hx5 ho5
          obtain ⟨x0, x1, x2, x3, xfr, xz⟩ := hx6.four
          obtain ⟨y0, y1, y2, y3, yfr, yz⟩ := hy6.four
          by_cases hlt2 : Pt.cmp yp.data.toList xp.data.toList < 0
          · have tl : decide (Pt.cmp yp.data.toList xp.data.toList < 0) = true := decide_eq_true hlt2
            have hne : ¬ yp.toList = xp.toList := fun e => by
              rw [Lib.toList_data, Lib.toList_data] at e
              rw [e, Pt.cmp_self] at hlt2; omega
            have hneb : (yp.toList == xp.toList) = false := by rw [beq_eq_false_iff_ne]; exact hne
            have HN : Hid (WithTo t ⟨xp, xk, xt, xo⟩ (k + 1) false (out ++ [⟨yp, yk, yt, yo⟩])) := Lib.hid (.inl ⟨rfl, fun y hy => by
              rw [HTk.out] at hy
              rcases List.mem_append.1 hy with h | h
              · exact HF.out.1 y h
              · rw [List.mem_singleton.1 h]; exact hlt2, by rw [HTk.out, HF.out.2]⟩)
            have hlt3 := Lib.hid hlt2
            clear hlt2
            go_wp2_with (at_builtin; go_must (refine wpList_app1 w6 rfl _ _ _ rfl (w.heap.size + 1) 45 i0 _ 4 48 Tryz.underlying30 hi hz0 hz1 hz2 rfl (by decide) u5 _ _ rfl ho6 [.string yp, .int .i64 yk, .string yt, .bool yo] rfl rfl (by simp [Value.oneCell']) (by omega) (by decide) hsz6 _ rfl ?_); intro v9 w9 own9 hg9 hat9)
            go_roundw
            case rel => exact ⟨k + 1, false, _, by omega, by go_num, rfl, EnOwn.snoc (y := ⟨yp, yk, yt, yo⟩) own9 rfl, HN, hx6.grown hg9 hnx, hB6.grown hg9 hB6.size (fun q e' => by have := (World.ownsRow.lt ho6 q e').1; omega)⟩
            case measure => simp [intOf]; omega
          · have tl : decide (Pt.cmp yp.data.toList xp.data.toList < 0) = false := decide_eq_false hlt2
            have HI := Lib.hid (ins_first (x := ⟨xp, xk, xt, xo⟩) (z := ⟨yp, yk, yt, yo⟩) HF.out.1 hlt2)
            have HEx : Hid (∃ y ∈ t.take (k + 1), ¬ Pt.cmp y.P (En.P ⟨xp, xk, xt, xo⟩) < 0) := Lib.hid ⟨⟨yp, yk, yt, yo⟩, by rw [HTk.out]; simp, hlt2⟩
            clear hlt2
            rcases hpe : (yp.toList == xp.toList) with _ | _
            · have hne : ¬ yp.toList = xp.toList := by rw [beq_eq_false_iff_ne] at hpe; exact hpe
              have HN : Hid (WithTo t ⟨xp, xk, xt, xo⟩ (k + 1) true (out ++ [⟨xp, xk, xt, xo⟩] ++ [⟨yp, yk, yt, yo⟩])) := Lib.hid (.inr ⟨rfl, HEx.out, by
                rw [HTk.out, HI.out, if_neg, HF.out.2]
                exact path_ne (y := ⟨yp, yk, yt, yo⟩) hpe⟩)
              go_wp2_with (first
                | (at_builtin; refine wpList_app1 w6 rfl _ _ _ rfl (w.heap.size + 1) 45 i0 _ 4 48 Tryz.underlying30 hi hz0 hz1 hz2 rfl (by decide) u5 _ _ rfl ho6 [.string xp, .int .i64 xk, .string xt, .bool xo] rfl rfl (by simp [Value.oneCell']) (by omega) (by decide) hsz6 _ rfl ?_
                   intro v7 w7 own7 hg7 hat7
                   have ho7 : EnOwn w7 (w.heap.size + 1) v7 (out ++ [⟨xp, xk, xt, xo⟩]) := EnOwn.snoc (y := ⟨xp, xk, xt, xo⟩) own7 rfl
                   have hx7 := hx6.grown hg7 hnx
                   have hy7 := hy6.grown hg7 hny
                   have hB7 := hB6.grown hg7 hB6.size (fun q e' => by have := (World.ownsRow.lt ho6 q e').1; omega)
                   have hsz7 : w.heap.size + 1 ≤ w7.heap.size := hx7.lt
                   have hnx7 : some w.heap.size ≠ v7.ownBlock := own_ne ho7 (.inl (Nat.lt_succ_self _))
                   obtain ⟨y0', y1', y2', y3', yfr', yz'⟩ := hy7.four
                   obtain ⟨x0', x1', x2', x3', xfr', xz'⟩ := hx7.four
                   have hlen7 : (out ++ [En.mk xp xk xt xo]).length ≤ 4000010 := by rw [List.length_append]; simp; omega)
                | (at_builtin; refine wpList_app1 w7 rfl _ _ _ rfl (w.heap.size + 1) 45 i0 _ 4 48 Tryz.underlying30 hi hz0 hz1 hz2 rfl (by decide) v7 _ _ rfl ho7 [.string yp, .int .i64 yk, .string yt, .bool yo] rfl rfl (by simp [Value.oneCell']) (by omega) (by decide) hsz7 _ rfl ?_
                   intro v8 w8 own8 hg8 hat8))
              go_roundw
              case rel => exact ⟨k + 1, true, _, by omega, by go_num, rfl, EnOwn.snoc (y := ⟨yp, yk, yt, yo⟩) own8 rfl, HN, hx7.grown hg8 hnx7, hB7.grown hg8 hB7.size (fun q e' => by have := (World.ownsRow.lt ho7 q e').1; omega)⟩
              case measure => simp [intOf]; omega
            · have heq : yp.toList = xp.toList := by rw [beq_iff_eq] at hpe; exact hpe
              have HN : Hid (WithTo t ⟨xp, xk, xt, xo⟩ (k + 1) true (out ++ [⟨xp, xk, xt, xo⟩])) := Lib.hid (.inr ⟨rfl, HEx.out, by
                rw [HTk.out, HI.out, if_pos, HF.out.2]
                exact path_eq (y := ⟨yp, yk, yt, yo⟩) hpe⟩)
              obtain rfl : yp = xp := bytes_ext (by rw [Lib.toList_data, Lib.toList_data] at heq; exact heq)
              clear heq hpe
              go_wp2_with (at_builtin; go_must (refine wpList_app1 w6 rfl _ _ _ rfl (w.heap.size + 1) 45 i0 _ 4 48 Tryz.underlying30 hi hz0 hz1 hz2 rfl (by decide) u5 _ _ rfl ho6 [.string yp, .int .i64 xk, .string xt, .bool xo] rfl rfl (by simp [Value.oneCell']) (by omega) (by decide) hsz6 _ rfl ?_)
                           intro v7 w7 own7 hg7 hat7
                           have ho7 : EnOwn w7 (w.heap.size + 1) v7 (out ++ [⟨yp, xk, xt, xo⟩]) := EnOwn.snoc (y := ⟨yp, xk, xt, xo⟩) own7 rfl
                           have hx7 := hx6.grown hg7 hnx
                           have hy7 := hy6.grown hg7 hny
                           have hB7 := hB6.grown hg7 hB6.size (fun q e' => by have := (World.ownsRow.lt ho6 q e').1; omega)
                           obtain ⟨y0', y1', y2', y3', yfr', yz'⟩ := hy7.four
                           obtain ⟨x0', x1', x2', x3', xfr', xz'⟩ := hx7.four)
              go_roundw
              case rel => exact ⟨k + 1, true, _, by omega, by go_num, rfl, ho7, HN, hx7, hB7⟩
              case measure => simp [intOf]; omega
        · have HD := Lib.hid (show Tr.ins ⟨xp, xk, xt, xo⟩ (t.take k ++ [⟨yp, yk, yt, yo⟩]) = out ++ [⟨yp, yk, yt, yo⟩] ∧ En.P ⟨yp, yk, yt, yo⟩ ≠ En.P ⟨xp, xk, xt, xo⟩ ∧ ∃ y ∈ t.take k, ¬ Pt.cmp y.P (En.P ⟨xp, xk, xt, xo⟩) < 0 from by
            rcases HO.out with ⟨h, _⟩ | ⟨_, h1, h2⟩
            · cases h
            · have := ins_done HSt.out h1
              exact ⟨by rw [h2]; exact this.1, this.2, h1⟩)
          have hne : ¬ yp.toList = xp.toList := fun e => by
            rw [Lib.toList_data, Lib.toList_data] at e
            exact HD.out.2.1 e
          have hneb : (yp.toList == xp.toList) = false := by rw [beq_eq_false_iff_ne]; exact hne
          have HN : Hid (WithTo t ⟨xp, xk, xt, xo⟩ (k + 1) true (out ++ [⟨yp, yk, yt, yo⟩])) := Lib.hid (.inr ⟨rfl, by
            obtain ⟨y, hy, h⟩ := HD.out.2.2
            exact ⟨y, by rw [HTk.out]; exact List.mem_append_left _ hy, h⟩, by rw [HTk.out, HD.out.1]⟩)
          obtain ⟨x0, x1, x2, x3, xfr, xz⟩ := hx5.four
          obtain ⟨y0, y1, y2, y3, yfr, yz⟩ := hy5.four
          have hsz5 : w.heap.size + 1 ≤ (wr.alloc (.cells #[.string yp, .int .i64 yk, .string yt, .bool yo] 45)).heap.size := hx5.lt
          go_wp2_with (at_builtin; go_must (refine wpList_app1 (wr.alloc (.cells #[.string yp, .int .i64 yk, .string yt, .bool yo] 45)) rfl _ _ _ rfl (w.heap.size + 1) 45 i0 _ 4 48 Tryz.underlying30 hi hz0 hz1 hz2 rfl (by decide) u5 _ _ rfl ho5 [.string yp, .int .i64 yk, .string yt, .bool yo] (by rw [World.size_alloc]; rfl) rfl (by simp [Value.oneCell']) (by omega) (by decide) hsz5 _ rfl ?_); intro v9 w9 own9 hg9 hat9)
          go_roundw
          case rel => exact ⟨k + 1, true, _, by omega, by go_num, rfl, EnOwn.snoc (y := ⟨yp, yk, yt, yo⟩) own9 rfl, HN, hx5.grown hg9 hnx, hB5.grown hg9 hB5.size (fun q e' => by have := (World.ownsRow.lt ho5 q e').1; omega)⟩
          case measure => simp [intOf]; omega
      · obtain rfl : k = t.length := by omega
        go_wp2_with fail
        go_meet
        case rel => exact ⟨db, out, rfl, hown, HO, hxb, hB⟩
  case rest =>
    clear hx0 hB0
    obtain ⟨db, out, rfl, hown, HO, hxb, hB⟩ := hcut
    have hle := HO.out.le
    obtain ⟨x0, x1, x2, x3, xfr, xz⟩ := hxb.four
    have hsz1 : w.heap.size + 1 ≤ wc.heap.size := hxb.lt
    cases db
    · have HF : Hid (Tr.ins ⟨xp, xk, xt, xo⟩ t = out ++ [⟨xp, xk, xt, xo⟩]) := Lib.hid (by
        rcases HO.out with ⟨_, h1, h2⟩ | ⟨h, _⟩
        · rw [List.take_length] at h1 h2
          rw [ins_ahead h1, h2]
        · cases h)
      go_wp2_with (at_builtin; go_must (refine wpList_app1 wc rfl _ _ _ rfl (w.heap.size + 1) 45 i0 _ 4 48 Tryz.underlying30 hi hz0 hz1 hz2 rfl (by decide) u5 _ _ rfl hown [.string xp, .int .i64 xk, .string xt, .bool xo] rfl rfl (by simp [Value.oneCell']) (by omega) (by decide) hsz1 _ rfl ?_); intro v9 w9 own9 hg9 hat9)
      go_ret
      exact ⟨_, rfl, by rw [HF.out]; exact own_base (EnOwn.snoc (y := ⟨xp, xk, xt, xo⟩) own9 rfl) (Nat.le_succ _), hB.grown hg9 hB.size (fun q e' => by have := (World.ownsRow.lt hown q e').1; omega)⟩
    · have HF : Hid (Tr.ins ⟨xp, xk, xt, xo⟩ t = out) := Lib.hid (by
        rcases HO.out with ⟨h, _⟩ | ⟨_, _, h2⟩
        · cases h
        · rw [List.take_length] at h2; exact h2.symm)
      go_wp2_with fail
      go_ret
      exact ⟨_, rfl, by rw [HF.out]; exact own_base hown (Nat.le_succ _), hB⟩
end Go.Proofs.YtjppfhgkanbemabGreatDoor
