/-
  The walk of the document's SetLock.
-/
import Derived.Test.YtjppfhgkanbemaaLkRefW
import Derived.Test.YtjppfhgkanbemaaLkSetLaw
import Derived.Laws.AppendOwnNone
namespace Go.Proofs.Ytjppfhgkanbemaa
open Go.RowKit

theorem rd_one {w : World} {g B : Nat} {t : TypeId} {x : Lk} (h : Blk w g t [.int .i64 x.o, .int .i64 x.f, .int .i64 x.t, .bool x.a]) (hg : g < B) : LkRd w B (some ⟨g, 0, none⟩) [x] := by
  refine ⟨rfl, fun _ => ⟨g, 0, rfl, hg, fun j u hu => ?_⟩⟩
  rw [h.cell]
  rw [Nat.zero_add]
  exact hu
/-- An owner's bytes, those below t set. -/
def setP (l : List Lk) (x : Lk) (how : Int) (o : Int) (t : Int) : Nat → Int := fun k => if x.o = o ∧ x.f ≤ k ∧ (k : Int) < t then how else bytesF l o k
theorem setP_start (l : List Lk) (x : Lk) (how o : Int) : setP l x how o x.f = bytesF l o := by
  funext k; unfold setP; rw [if_neg (by omega)]
theorem setP_end {l : List Lk} {x : Lk} {how o : Int} : setP l x how o x.t = setF l x how o := rfl
theorem setP_next (l : List Lk) {x : Lk} (how : Int) {o : Int} (h : x.o = o) {t : Int} (h0 : 0 ≤ t) (hf : x.f ≤ t) : upd (setP l x how o t) t.toNat how = setP l x how o (t + 1) := by
  funext k
  unfold upd setP
  by_cases e : k = t.toNat
  · rw [if_pos e, if_pos (by omega)]
  · rw [if_neg e]
    by_cases c : x.o = o ∧ x.f ≤ k ∧ (k : Int) < t
    · rw [if_pos c, if_pos (by omega)]
    · rw [if_neg c, if_neg (by omega)]
theorem setF_other (l : List Lk) {x : Lk} (how : Int) {o : Int} (h : ¬ x.o = o) : setF l x how o = bytesF l o := by
  funext k; unfold setF; rw [if_neg (fun e => h e.1)]
theorem setF_val (l : List Lk) (x : Lk) (how : Int) (h : how = 0 ∨ ∃ a, how = Lk.way a) : ∀ (o : Int) (j : Nat), setF l x how o j = 0 ∨ ∃ a, setF l x how o j = Lk.way a := by
  intro o j
  unfold setF
  split
  · exact h
  · exact bytesF_val l o j
theorem LkOwn.app {w : World} {b : Nat} {v : Value} {l r : List Lk} (h : w.ownsRow b 24 4 v (l.length + r.length) (Lk.flat l ++ Lk.flat r)) : LkOwn w b v (l ++ r) := by
  unfold LkOwn; rw [flat_append, List.length_append]; exact h
theorem own_cell {w : World} {base : Nat} {e : TypeId} {size n : Nat} {v : Value} {xs : List Value} (h : w.ownsRow base e size v n xs) {g : Nat} (hg : some g = v.ownBlock) : ∃ c fr, w.heap[g]? = some (.cells c e fr) := by
  obtain ⟨_, h1 | ⟨g', cap, cur, hv, _, hr, _⟩⟩ := h
  · rw [h1.1] at hg; cases hg
  · subst hv
    have e2 : g' = g := by simpa [Value.ownBlock] using hg.symm
    subst e2
    exact ⟨_, _, hr⟩
theorem Blk.ne_type {w : World} {g : Nat} {t t' : TypeId} {cs : List Value} {c : Array Value} {fr : Nat × Nat} (h : Blk w g t cs) (k : w.heap[g]? = some (.cells c t' fr)) (hne : t ≠ t') : False := by
  rw [show w.heap[g]? = _ from h] at k
  injection k with k
  injection k with _ k _
  exact hne k
theorem grownBy_cell (w : World) (p : Addr) (v : Value) : w.grownBy (w.setCell p v) (some p.block) :=
  ⟨rfl, rfl, rfl, by simp, fun k _ hk => Below.heap_setCell _ _ _ k (fun e => hk (by rw [e]))⟩
/-- The answer of SetLock. -/
def SetEnd (w : World) (l : List Lk) (x : Lk) (how : Int) (e : Ending) (w' : World) : Prop :=
  ∃ v m err, e = .returned (.tuple #[v, .int .i64 err]) ∧ LkOwn w' w.heap.size v m ∧ SetRel l x how m err ∧ Below w.heap.size w w'

set_option maxHeartbeats 8000000 in
set_option maxRecDepth 100000 in
theorem setLock_any (A : Option Addr) (c : Nat) (l : List Lk) (x : Lk) (how : Int) (w : World) (hl : LkRd w w.heap.size A l) (hc : l.length ≤ c) (hbig : l.length ≤ 9223372036854775807) (hhow : how = 0 ∨ ∃ a, how = Lk.way a) :
    Calls Try.prog 13 #[.slice A l.length c, .agg #[.int .i64 x.o, .int .i64 x.f, .int .i64 x.t, .bool x.a], .int .i64 how] w (SetEnd w l x how) := by
  obtain ⟨i0, hi, hz0, hz1, hz2⟩ := info_parts info_lk
  have HX := Lib.hid (rfl : x = x)
  obtain ⟨xo, xf, xt, xa⟩ := x
  clear HX
  dsimp only
  have hB0 : Below w.heap.size w (w.alloc (.cells #[.int .i64 xo, .int .i64 xf, .int .i64 xt, .bool xa] 24)) := (Below.refl _ _).alloc (Nat.le_refl _) _
  have hx0 := Blk.new w 24 [.int .i64 xo, .int .i64 xf, .int .i64 xt, .bool xa]
  have hl0 := hl.below hB0
  go_enter Try.func13, Try.ntmps13
  go_wp2_with fail
  generalize w.alloc (.cells #[.int .i64 xo, .int .i64 xf, .int .i64 xt, .bool xa] 24) = w0 at *
  refine (refWrong_any A c l w0 (hl0.more hB0.size) hc hbig).mono ?_
  rintro e w1 ⟨rfl, hb1⟩
  have hB1 := hB0.trans (hb1.mono hB0.size)
  have hx1 := hx0.below hb1 hx0.lt
  have HW := Lib.hid (rfl : Lk.wrong l = Lk.wrong l)
  obtain ⟨e1, he1⟩ : ∃ e1, e1 = (Lk.wrong l).1 := ⟨_, rfl⟩
  rw [← he1]
  have HE1 := Lib.hid he1
  clear he1 HW hb1 hB0 hx0 hl0
  generalize (Lk.wrong l).2 = p1
  obtain ⟨x0, x1, x2, x3, xfr, xz⟩ := hx1.four
  rcases t1 : (e1 != 0) with _ | _
  · have HZ1 := Lib.hid (show (Lk.wrong l).1 = 0 by rw [← HE1.out]; simpa using t1)
    go_wp2_with fail
    have hB2 := (hB1.alloc hB1.size (.cells #[.int .i64 e1, .int .i64 p1] 27))
    have hx2 := hx1.alloc (.cells #[.int .i64 e1, .int .i64 p1] 27)
    have hy2 := Blk.new (w1.alloc (.cells #[.int .i64 e1, .int .i64 p1] 27)) 24 [.int .i64 xo, .int .i64 xf, .int .i64 xt, .bool xa]
    replace hB2 := hB2.alloc hB2.size (.cells #[.int .i64 xo, .int .i64 xf, .int .i64 xt, .bool xa] 24)
    replace hx2 := hx2.alloc (.cells #[.int .i64 xo, .int .i64 xf, .int .i64 xt, .bool xa] 24)
    rw [World.size_alloc] at hy2
    clear hB1 hx1 x0 x1 x2 x3 xfr xz
    generalize (w1.alloc (.cells #[.int .i64 e1, .int .i64 p1] 27)).alloc (.cells #[.int .i64 xo, .int .i64 xf, .int .i64 xt, .bool xa] 24) = w2 at *
    generalize w1.heap.size + 1 = gy at *
    refine (refWrong_any (some ⟨gy, 0, none⟩) 1 [⟨xo, xf, xt, xa⟩] w2 (rd_one hy2 hy2.lt) (Nat.le_refl _) (by simp)).mono ?_
    rintro e w3 ⟨rfl, hb3⟩
    have hB3 := hB2.trans (hb3.mono hB2.size)
    have hx3 := hx2.below hb3 hx2.lt
    obtain ⟨e2, he2⟩ : ∃ e2, e2 = (Lk.wrong [⟨xo, xf, xt, xa⟩]).1 := ⟨_, rfl⟩
    rw [← he2]
    have HE2 := Lib.hid he2
    clear he2 hb3 hB2 hx2 hy2
    generalize (Lk.wrong [⟨xo, xf, xt, xa⟩]).2 = p2
    obtain ⟨x0, x1, x2, x3, xfr, xz⟩ := hx3.four
    rcases t2 : (e2 != 0) with _ | _
    · have HZ2 := Lib.hid (show (Lk.wrong [⟨xo, xf, xt, xa⟩]).1 = 0 by rw [← HE2.out]; simpa using t2)
      have HL := Lib.hid ((Lk.wrong_zero l).1 HZ1.out)
      have hrg := (Lk.range_iff _).1 (wrong_one HZ2.out)
      dsimp only at hrg
      have hl40 : l.length ≤ 40 := HL.out.1
      have hhow2 := Lib.hid hhow
      rcases hhow with h00 | ⟨a, ha⟩
      · have hhow0 : how ≤ 0 := by omega
        have HH0 := Lib.hid h00
        clear h00
        go_wp2_with fail
        have HV := Lib.hid (setF_val l ⟨xo, xf, xt, xa⟩ how hhow2.out)
        have hB4 := (hB3.alloc hB3.size (.cells #[.int .i64 e2, .int .i64 p2] 27))
        have hx4 := hx3.alloc (.cells #[.int .i64 e2, .int .i64 p2] 27)
        go_loopw [12, 13] (fun v i wr => ∃ (q : Nat) (out : List Lk), q ≤ 4 ∧ i = .int .i64 q ∧ LkOwn wr (w.heap.size + 1) v out ∧ Hid (SetTo l ⟨xo, xf, xt, xa⟩ how q out) ∧ out.length ≤ 1000 * q ∧ Blk wr w.heap.size 24 [.int .i64 xo, .int .i64 xf, .int .i64 xt, .bool xa] ∧ Below w.heap.size w wr) (fun _ i _ => 4 - (intOf i).toNat)
        case atStart => exact ⟨0, [], by omega, rfl, World.ownsRow_nil _ _ _ _, Lib.hid (set_start _ _ _), by simp, hx4, hB4⟩
        case round =>
          obtain ⟨q, out, hq, rfl, hown, HS, hlen, hx5, hB5⟩ := hrel
          clear hB4 hx4 x0 x1 x2 x3 xfr xz
          obtain ⟨x0, x1, x2, x3, xfr, xz⟩ := hx5.four
          by_cases hq4 : q < 4
          · go_wp2_with fail
            refine (bytes_any A c l q _ ((hl.below hB5).more hB5.size) HL.out.2.1 (by omega)).mono ?_
            rintro e w6 ⟨rfl, hb6, hbb6⟩
            have hB6 := hB5.trans (hbb6.mono hB5.size)
            have hx6 := hx5.below hbb6 hx5.lt
            have hown6 := own_below hown hbb6 (Nat.le_refl _)
            have hg6 : w.heap.size < wr.heap.size := hx5.lt
            clear x0 x1 x2 x3 xfr xz hx5 hB5 hown hbb6
            generalize wr.heap.size = g6 at *
            obtain ⟨x0, x1, x2, x3, xfr, xz⟩ := hx6.four
            go_wp2_with fail
            by_cases ho : xo = q
            · have ho' : ((q : Int) == xo) = true := by simpa using ho.symm
              have HO := Lib.hid ho
              clear ho
              go_loopw [15] (fun i wj => ∃ t : Int, xf ≤ t ∧ t ≤ xt ∧ i = .int .i64 t ∧ Below w.heap.size w wj ∧ LkOwn wj (w.heap.size + 1) u12 out ∧ Blk wj w.heap.size 24 [.int .i64 xo, .int .i64 xf, .int .i64 xt, .bool xa] ∧ Blk wj g6 3 (brow (setP l ⟨xo, xf, xt, xa⟩ how q t))) (fun i _ => (xt - intOf i).toNat)
              case atStart => exact ⟨xf, Int.le_refl _, by omega, rfl, hB6, hown6, hx6, by rw [setP_start]; exact hb6⟩
              case round =>
                obtain ⟨t, ht1, ht2, rfl, hB7, hown7, hx7, hb7⟩ := hrel
                clear x0 x1 x2 x3 xfr xz hB6 hown6 hx6 hb6
                obtain ⟨x0, x1, x2, x3, xfr, xz⟩ := hx7.four
                by_cases hlt2 : t < xt
                · have a1 := hb7.bat (t := t) (by omega) (by omega)
                  have a1f := hb7.frozen t.toNat
                  have HP := Lib.hid (setP_next l (x := ⟨xo, xf, xt, xa⟩) how HO.out (by omega : 0 ≤ t) ht1)
                  have hgne : w.heap.size ≠ g6 := by omega
                  have hgo : some g6 ≠ u12.ownBlock := by
                    intro e'
                    obtain ⟨q1, q2, q3⟩ := own_cell hown7 e'
                    exact Blk.ne_type hb7 q3 (by decide)
                  have HGO := Lib.hid hgo
                  clear hgo
                  generalize setP l ⟨xo, xf, xt, xa⟩ how q t t.toNat = old at a1
                  go_wp2_with fail
                  go_roundw
                  case rel => exact ⟨t + 1, by omega, by omega, rfl, hB7.setCell (p := ⟨g6, t.toNat, none⟩) (by show w.heap.size ≤ g6; omega) _, World.ownsRow.kept hown7 (grownBy_cell _ _ _) (.inr (fun e' => HGO.out e'.symm)), hx7.far hgne _, by rw [← HP.out]; exact hb7.bset t how⟩
                  case measure => simp [intOf]; omega
                · obtain rfl : xt = t := by omega
                  rw [setP_end (x := ⟨xo, xf, xt, xa⟩)] at hb7
                  go_wp2_with fail
                  refine (runs_any g6 1001 (setF l ⟨xo, xf, xt, xa⟩ how q) q _ hb7 (by omega) (HV.out q)).mono ?_
                  rintro e w8 ⟨v8, r8, rfl, hown8, hR8, hb8⟩
                  have HR := Lib.hid hR8
                  have hlen8 := hR8.len
                  have hB8 := hB7.trans (hb8.mono hB7.size)
                  have hx8 := hx7.below hb8 hx7.lt
                  have hown9 := own_below hown7 hb8 (Nat.le_refl _)
                  have hne8 : some w.heap.size ≠ u12.ownBlock := own_ne hown9 (.inl (Nat.lt_succ_self _))
                  clear hR8 hb8 hb7 hx7 hown7 hB7
                  rcases own_shape hown8 with ⟨rfl, h0⟩ | ⟨g9, c9, rfl, _, _, _⟩
                  · obtain rfl : r8 = [] := List.length_eq_zero_iff.1 h0
                    go_wp2_with (at_builtin; go_must (refine wpList_append_own_none rfl _ _ _ rfl (w.heap.size + 1) 24 i0 4 Try.underlying22 hi _ _ _ rfl hown9 rfl ?_))
                    go_roundw
                    case rel => exact ⟨q + 1, out, by omega, by go_num, hown9, Lib.hid (by have h := set_next HS.out HR.out; rwa [List.append_nil] at h), by omega, hx8, hB8⟩
                    case measure => simp [intOf]; omega
                  · have hcells : ∀ j u, (Lk.flat r8)[j]? = some u → w8.cell? ((⟨g9, 0, none⟩ : Addr).add j) = some u := fun j u hu => World.ownsRow.cells hown8 (g := g9) rfl j u hu
                    have HCE := Lib.hid hcells
                    clear hcells
                    go_wp2_with (at_builtin; go_must (refine wpList_append_own _ rfl _ _ 22 rfl (w.heap.size + 1) 24 i0 _ 4 32 Try.underlying22 hi hz0 hz1 hz2 rfl (by decide) _ _ _ rfl hown9 ⟨g9, 0, none⟩ r8.length c9 (Lk.flat r8) rfl (flat_len r8) HCE.out (fun u hu => flat_one hu) (by unfold maxLen; omega) (by omega) (by have := hx8.lt; omega) ?_); intro v9 w9 own9 hg9 _)
                    go_roundw
                    case rel => exact ⟨q + 1, out ++ r8, by omega, by go_num, LkOwn.app own9, Lib.hid (set_next HS.out HR.out), by rw [List.length_append]; omega, hx8.grown hg9 hne8, hB8.grown hg9 hB8.size (fun k e' => by have := (World.ownsRow.lt hown9 k e').1; omega)⟩
                    case measure => simp [intOf]; omega
            · have ho' : ((q : Int) == xo) = false := by simpa using fun e => ho e.symm
              have HP := Lib.hid (setF_other l (x := ⟨xo, xf, xt, xa⟩) how ho)
              clear ho
              rw [← HP.out] at hb6
              have hB7 := hB6
              have hx7 := hx6
              have hown7 := hown6
              have hb7 := hb6
              clear hB6 hx6 hown6 hb6
              go_loopw [15] (fun i wj => i = .int .i64 xf ∧ wj = w6) (fun _ _ => 0)
              case atStart => exact ⟨rfl, rfl⟩
              case round =>
                obtain ⟨rfl, rfl⟩ := hrel
                go_wp2_with fail
                refine (runs_any g6 1001 (setF l ⟨xo, xf, xt, xa⟩ how q) q _ hb7 (by omega) (HV.out q)).mono ?_
                rintro e w8 ⟨v8, r8, rfl, hown8, hR8, hb8⟩
                have HR := Lib.hid hR8
                have hlen8 := hR8.len
                have hB8 := hB7.trans (hb8.mono hB7.size)
                have hx8 := hx7.below hb8 hx7.lt
                have hown9 := own_below hown7 hb8 (Nat.le_refl _)
                have hne8 : some w.heap.size ≠ u12.ownBlock := own_ne hown9 (.inl (Nat.lt_succ_self _))
                clear hR8 hb8 hb7 hx7 hown7 hB7
                rcases own_shape hown8 with ⟨rfl, h0⟩ | ⟨g9, c9, rfl, _, _, _⟩
                · obtain rfl : r8 = [] := List.length_eq_zero_iff.1 h0
                  go_wp2_with (at_builtin; go_must (refine wpList_append_own_none rfl _ _ _ rfl (w.heap.size + 1) 24 i0 4 Try.underlying22 hi _ _ _ rfl hown9 rfl ?_))
                  go_roundw
                  case rel => exact ⟨q + 1, out, by omega, by go_num, hown9, Lib.hid (by have h := set_next HS.out HR.out; rwa [List.append_nil] at h), by omega, hx8, hB8⟩
                  case measure => simp [intOf]; omega
                · have hcells : ∀ j u, (Lk.flat r8)[j]? = some u → w8.cell? ((⟨g9, 0, none⟩ : Addr).add j) = some u := fun j u hu => World.ownsRow.cells hown8 (g := g9) rfl j u hu
                  have HCE := Lib.hid hcells
                  clear hcells
                  go_wp2_with (at_builtin; go_must (refine wpList_append_own _ rfl _ _ 22 rfl (w.heap.size + 1) 24 i0 _ 4 32 Try.underlying22 hi hz0 hz1 hz2 rfl (by decide) _ _ _ rfl hown9 ⟨g9, 0, none⟩ r8.length c9 (Lk.flat r8) rfl (flat_len r8) HCE.out (fun u hu => flat_one hu) (by unfold maxLen; omega) (by omega) (by have := hx8.lt; omega) ?_); intro v9 w9 own9 hg9 _)
                  go_roundw
                  case rel => exact ⟨q + 1, out ++ r8, by omega, by go_num, LkOwn.app own9, Lib.hid (set_next HS.out HR.out), by rw [List.length_append]; omega, hx8.grown hg9 hne8, hB8.grown hg9 hB8.size (fun k e' => by have := (World.ownsRow.lt hown9 k e').1; omega)⟩
                  case measure => simp [intOf]; omega
          · obtain rfl : q = 4 := by omega
            obtain ⟨A9, n9, c9, rfl, hn9⟩ : ∃ A9 n9 c9, u12 = .slice A9 n9 c9 ∧ n9 = out.length := by
              rcases own_shape hown with ⟨h1, h2⟩ | ⟨g9, c9, h1, _⟩
              · exact ⟨_, _, _, h1, h2.symm⟩
              · exact ⟨_, _, _, h1, rfl⟩
            by_cases h40 : 40 < out.length
            · go_wp2_with fail
              go_ret2
              exact ⟨.slice none 0 0, [], 5, rfl, World.ownsRow_nil _ _ _ _, .inr (.inr (.inr ⟨HZ1.out, HZ2.out, fun h => absurd h (by omega), out, HS.out, .inl ⟨h40, rfl, rfl⟩⟩)), hB5⟩
            · go_wp2_with fail
              go_ret2
              exact ⟨_, out, 0, rfl, own_base hown (Nat.le_succ _), .inr (.inr (.inr ⟨HZ1.out, HZ2.out, fun h => absurd h (by omega), out, HS.out, .inr ⟨by omega, rfl, rfl⟩⟩)), hB5⟩
      · have hhow1 : 0 < how := by rw [ha]; exact way_pos a
        clear ha
        go_wp2_with fail
        go_loopw [35] (fun i wr => ∃ k : Nat, k ≤ l.length ∧ i = .int .i64 k ∧ Hid ((l.take k).any (fun z => Lk.clash z ⟨xo, xf, xt, xa⟩) = false) ∧ Blk wr w.heap.size 24 [.int .i64 xo, .int .i64 xf, .int .i64 xt, .bool xa] ∧ Below w.heap.size w wr) (fun i _ => l.length - (intOf i).toNat)
        case atStart => exact ⟨0, Nat.zero_le _, rfl, Lib.hid rfl, hx3.alloc _, hB3.alloc hB3.size _⟩
        case round =>
          obtain ⟨k, hk, rfl, HC, hx4, hB4⟩ := hrel
          clear x0 x1 x2 x3 xfr xz hB3 hx3
          obtain ⟨x0, x1, x2, x3, xfr, xz⟩ := hx4.four
          by_cases hlt : k < l.length
          · obtain ⟨b, o, rfl, hbl, z0, z1, z2, z3⟩ := (LkRd.at_ (hl.below hB4) hlt)
            have HS := Lib.hid (show (l.take (k + 1)).any (fun z => Lk.clash z ⟨xo, xf, xt, xa⟩) = Lk.clash l[k] ⟨xo, xf, xt, xa⟩ by rw [List.take_succ_eq_append_getElem hlt, List.any_append, HC.out]; simp)
            have HM := Lib.hid (List.getElem_mem hlt)
            generalize l[k] = z at z0 z1 z2 z3 HS HM
            obtain ⟨zo, zf, zt, za⟩ := z
            dsimp only at z0 z1 z2 z3
            rcases hcl : Lk.clash ⟨zo, zf, zt, za⟩ ⟨xo, xf, xt, xa⟩ with _ | _
            · have HF := Lib.hid (HS.out.trans hcl)
              have c := fun W => refClash_any ⟨xo, xf, xt, xa⟩ ⟨zo, zf, zt, za⟩ W
              rw [Lk.clash_comm, hcl] at c
              dsimp only at c
              clear hcl
              go_wp2_with fail
              refine (c _).mono ?_
              rintro e w5 ⟨rfl, hb5⟩
              have q3 := hB4.alloc hB4.size (.cells #[.int .i64 zo, .int .i64 zf, .int .i64 zt, .bool za] 24)
              have hB5 := q3.trans (hb5.mono q3.size)
              have hx5 := (hx4.alloc (.cells #[.int .i64 zo, .int .i64 zf, .int .i64 zt, .bool za] 24)).below hb5 (by simp; omega)
              clear q3 hb5 x0 x1 x2 x3 xfr xz z0 z1 z2 z3
              go_wp2_with fail
              go_roundw
              case rel => exact ⟨k + 1, by omega, by go_num, HF, hx5, hB5⟩
              case measure => simp [intOf]; omega
            · have HF := Lib.hid (show (Lk.meets l ⟨xo, xf, xt, xa⟩).isSome = true by unfold Lk.meets; rw [List.find?_isSome]; exact ⟨_, HM.out, hcl⟩)
              have c := fun W => refClash_any ⟨xo, xf, xt, xa⟩ ⟨zo, zf, zt, za⟩ W
              rw [Lk.clash_comm, hcl] at c
              dsimp only at c
              clear hcl
              go_wp2_with fail
              refine (c _).mono ?_
              rintro e w5 ⟨rfl, hb5⟩
              have q3 := hB4.alloc hB4.size (.cells #[.int .i64 zo, .int .i64 zf, .int .i64 zt, .bool za] 24)
              have hB5 := q3.trans (hb5.mono q3.size)
              clear q3 hb5 x0 x1 x2 x3 xfr xz z0 z1 z2 z3
              go_wp2_with fail
              go_ret2
              exact ⟨.slice none 0 0, [], 13, rfl, World.ownsRow_nil _ _ _ _, .inr (.inr (.inl ⟨HZ1.out, HZ2.out, hhow1, HF.out, rfl, rfl⟩)), hB5⟩
          · obtain rfl : k = l.length := by omega
            have HN := Lib.hid (show (Lk.meets l ⟨xo, xf, xt, xa⟩).isSome = false by
              have h := HC.out
              rw [List.take_length] at h
              unfold Lk.meets
              rw [Bool.eq_false_iff]
              intro e'
              rw [List.find?_isSome] at e'
              obtain ⟨z, hz, hz2⟩ := e'
              rw [List.any_eq_false] at h
              exact h z hz hz2)
            go_wp2_with fail
            have HV := Lib.hid (setF_val l ⟨xo, xf, xt, xa⟩ how hhow2.out)
            have hB4 := hB4
            have hx4 := hx4
            go_loopw [12, 13] (fun v i wr => ∃ (q : Nat) (out : List Lk), q ≤ 4 ∧ i = .int .i64 q ∧ LkOwn wr (w.heap.size + 1) v out ∧ Hid (SetTo l ⟨xo, xf, xt, xa⟩ how q out) ∧ out.length ≤ 1000 * q ∧ Blk wr w.heap.size 24 [.int .i64 xo, .int .i64 xf, .int .i64 xt, .bool xa] ∧ Below w.heap.size w wr) (fun _ i _ => 4 - (intOf i).toNat)
            case atStart => exact ⟨0, [], by omega, rfl, World.ownsRow_nil _ _ _ _, Lib.hid (set_start _ _ _), by simp, hx4, hB4⟩
            case round =>
              obtain ⟨q, out, hq, rfl, hown, HS, hlen, hx5, hB5⟩ := hrel
              clear x0 x1 x2 x3 xfr xz
              obtain ⟨x0, x1, x2, x3, xfr, xz⟩ := hx5.four
              by_cases hq4 : q < 4
              · go_wp2_with fail
                refine (bytes_any A c l q _ ((hl.below hB5).more hB5.size) HL.out.2.1 (by omega)).mono ?_
                rintro e w6 ⟨rfl, hb6, hbb6⟩
                have hB6 := hB5.trans (hbb6.mono hB5.size)
                have hx6 := hx5.below hbb6 hx5.lt
                have hown6 := own_below hown hbb6 (Nat.le_refl _)
                have hg6 : w.heap.size < wr.heap.size := hx5.lt
                clear x0 x1 x2 x3 xfr xz hx5 hB5 hown hbb6
                generalize wr.heap.size = g6 at *
                obtain ⟨x0, x1, x2, x3, xfr, xz⟩ := hx6.four
                go_wp2_with fail
                by_cases ho : xo = q
                · have ho' : ((q : Int) == xo) = true := by simpa using ho.symm
                  have HO := Lib.hid ho
                  clear ho
                  go_loopw [15] (fun i wj => ∃ t : Int, xf ≤ t ∧ t ≤ xt ∧ i = .int .i64 t ∧ Below w.heap.size w wj ∧ LkOwn wj (w.heap.size + 1) u12 out ∧ Blk wj w.heap.size 24 [.int .i64 xo, .int .i64 xf, .int .i64 xt, .bool xa] ∧ Blk wj g6 3 (brow (setP l ⟨xo, xf, xt, xa⟩ how q t))) (fun i _ => (xt - intOf i).toNat)
                  case atStart => exact ⟨xf, Int.le_refl _, by omega, rfl, hB6, hown6, hx6, by rw [setP_start]; exact hb6⟩
                  case round =>
                    obtain ⟨t, ht1, ht2, rfl, hB7, hown7, hx7, hb7⟩ := hrel
                    clear x0 x1 x2 x3 xfr xz hB6 hown6 hx6 hb6
                    obtain ⟨x0, x1, x2, x3, xfr, xz⟩ := hx7.four
                    by_cases hlt2 : t < xt
                    · have a1 := hb7.bat (t := t) (by omega) (by omega)
                      have a1f := hb7.frozen t.toNat
                      have HP := Lib.hid (setP_next l (x := ⟨xo, xf, xt, xa⟩) how HO.out (by omega : 0 ≤ t) ht1)
                      have hgne : w.heap.size ≠ g6 := by omega
                      have hgo : some g6 ≠ u12.ownBlock := by
                        intro e'
                        obtain ⟨q1, q2, q3⟩ := own_cell hown7 e'
                        exact Blk.ne_type hb7 q3 (by decide)
                      have HGO := Lib.hid hgo
                      clear hgo
                      generalize setP l ⟨xo, xf, xt, xa⟩ how q t t.toNat = old at a1
                      go_wp2_with fail
                      go_roundw
                      case rel => exact ⟨t + 1, by omega, by omega, rfl, hB7.setCell (p := ⟨g6, t.toNat, none⟩) (by show w.heap.size ≤ g6; omega) _, World.ownsRow.kept hown7 (grownBy_cell _ _ _) (.inr (fun e' => HGO.out e'.symm)), hx7.far hgne _, by rw [← HP.out]; exact hb7.bset t how⟩
                      case measure => simp [intOf]; omega
                    · obtain rfl : xt = t := by omega
                      rw [setP_end (x := ⟨xo, xf, xt, xa⟩)] at hb7
                      go_wp2_with fail
                      refine (runs_any g6 1001 (setF l ⟨xo, xf, xt, xa⟩ how q) q _ hb7 (by omega) (HV.out q)).mono ?_
                      rintro e w8 ⟨v8, r8, rfl, hown8, hR8, hb8⟩
                      have HR := Lib.hid hR8
                      have hlen8 := hR8.len
                      have hB8 := hB7.trans (hb8.mono hB7.size)
                      have hx8 := hx7.below hb8 hx7.lt
                      have hown9 := own_below hown7 hb8 (Nat.le_refl _)
                      have hne8 : some w.heap.size ≠ u12.ownBlock := own_ne hown9 (.inl (Nat.lt_succ_self _))
                      clear hR8 hb8 hb7 hx7 hown7 hB7
                      rcases own_shape hown8 with ⟨rfl, h0⟩ | ⟨g9, c9, rfl, _, _, _⟩
                      · obtain rfl : r8 = [] := List.length_eq_zero_iff.1 h0
                        go_wp2_with (at_builtin; go_must (refine wpList_append_own_none rfl _ _ _ rfl (w.heap.size + 1) 24 i0 4 Try.underlying22 hi _ _ _ rfl hown9 rfl ?_))
                        go_roundw
                        case rel => exact ⟨q + 1, out, by omega, by go_num, hown9, Lib.hid (by have h := set_next HS.out HR.out; rwa [List.append_nil] at h), by omega, hx8, hB8⟩
                        case measure => simp [intOf]; omega
                      · have hcells : ∀ j u, (Lk.flat r8)[j]? = some u → w8.cell? ((⟨g9, 0, none⟩ : Addr).add j) = some u := fun j u hu => World.ownsRow.cells hown8 (g := g9) rfl j u hu
                        have HCE := Lib.hid hcells
                        clear hcells
                        go_wp2_with (at_builtin; go_must (refine wpList_append_own _ rfl _ _ 22 rfl (w.heap.size + 1) 24 i0 _ 4 32 Try.underlying22 hi hz0 hz1 hz2 rfl (by decide) _ _ _ rfl hown9 ⟨g9, 0, none⟩ r8.length c9 (Lk.flat r8) rfl (flat_len r8) HCE.out (fun u hu => flat_one hu) (by unfold maxLen; omega) (by omega) (by have := hx8.lt; omega) ?_); intro v9 w9 own9 hg9 _)
                        go_roundw
                        case rel => exact ⟨q + 1, out ++ r8, by omega, by go_num, LkOwn.app own9, Lib.hid (set_next HS.out HR.out), by rw [List.length_append]; omega, hx8.grown hg9 hne8, hB8.grown hg9 hB8.size (fun k e' => by have := (World.ownsRow.lt hown9 k e').1; omega)⟩
                        case measure => simp [intOf]; omega
                · have ho' : ((q : Int) == xo) = false := by simpa using fun e => ho e.symm
                  have HP := Lib.hid (setF_other l (x := ⟨xo, xf, xt, xa⟩) how ho)
                  clear ho
                  rw [← HP.out] at hb6
                  have hB7 := hB6
                  have hx7 := hx6
                  have hown7 := hown6
                  have hb7 := hb6
                  clear hB6 hx6 hown6 hb6
                  go_loopw [15] (fun i wj => i = .int .i64 xf ∧ wj = w6) (fun _ _ => 0)
                  case atStart => exact ⟨rfl, rfl⟩
                  case round =>
                    obtain ⟨rfl, rfl⟩ := hrel
                    go_wp2_with fail
                    refine (runs_any g6 1001 (setF l ⟨xo, xf, xt, xa⟩ how q) q _ hb7 (by omega) (HV.out q)).mono ?_
                    rintro e w8 ⟨v8, r8, rfl, hown8, hR8, hb8⟩
                    have HR := Lib.hid hR8
                    have hlen8 := hR8.len
                    have hB8 := hB7.trans (hb8.mono hB7.size)
                    have hx8 := hx7.below hb8 hx7.lt
                    have hown9 := own_below hown7 hb8 (Nat.le_refl _)
                    have hne8 : some w.heap.size ≠ u12.ownBlock := own_ne hown9 (.inl (Nat.lt_succ_self _))
                    clear hR8 hb8 hb7 hx7 hown7 hB7
                    rcases own_shape hown8 with ⟨rfl, h0⟩ | ⟨g9, c9, rfl, _, _, _⟩
                    · obtain rfl : r8 = [] := List.length_eq_zero_iff.1 h0
                      go_wp2_with (at_builtin; go_must (refine wpList_append_own_none rfl _ _ _ rfl (w.heap.size + 1) 24 i0 4 Try.underlying22 hi _ _ _ rfl hown9 rfl ?_))
                      go_roundw
                      case rel => exact ⟨q + 1, out, by omega, by go_num, hown9, Lib.hid (by have h := set_next HS.out HR.out; rwa [List.append_nil] at h), by omega, hx8, hB8⟩
                      case measure => simp [intOf]; omega
                    · have hcells : ∀ j u, (Lk.flat r8)[j]? = some u → w8.cell? ((⟨g9, 0, none⟩ : Addr).add j) = some u := fun j u hu => World.ownsRow.cells hown8 (g := g9) rfl j u hu
                      have HCE := Lib.hid hcells
                      clear hcells
                      go_wp2_with (at_builtin; go_must (refine wpList_append_own _ rfl _ _ 22 rfl (w.heap.size + 1) 24 i0 _ 4 32 Try.underlying22 hi hz0 hz1 hz2 rfl (by decide) _ _ _ rfl hown9 ⟨g9, 0, none⟩ r8.length c9 (Lk.flat r8) rfl (flat_len r8) HCE.out (fun u hu => flat_one hu) (by unfold maxLen; omega) (by omega) (by have := hx8.lt; omega) ?_); intro v9 w9 own9 hg9 _)
                      go_roundw
                      case rel => exact ⟨q + 1, out ++ r8, by omega, by go_num, LkOwn.app own9, Lib.hid (set_next HS.out HR.out), by rw [List.length_append]; omega, hx8.grown hg9 hne8, hB8.grown hg9 hB8.size (fun k e' => by have := (World.ownsRow.lt hown9 k e').1; omega)⟩
                      case measure => simp [intOf]; omega
              · obtain rfl : q = 4 := by omega
                obtain ⟨A9, n9, c9, rfl, hn9⟩ : ∃ A9 n9 c9, u12 = .slice A9 n9 c9 ∧ n9 = out.length := by
                  rcases own_shape hown with ⟨h1, h2⟩ | ⟨g9, c9, h1, _⟩
                  · exact ⟨_, _, _, h1, h2.symm⟩
                  · exact ⟨_, _, _, h1, rfl⟩
                by_cases h40 : 40 < out.length
                · go_wp2_with fail
                  go_ret2
                  exact ⟨.slice none 0 0, [], 5, rfl, World.ownsRow_nil _ _ _ _, .inr (.inr (.inr ⟨HZ1.out, HZ2.out, fun _ => HN.out, out, HS.out, .inl ⟨h40, rfl, rfl⟩⟩)), hB5⟩
                · go_wp2_with fail
                  go_ret2
                  exact ⟨_, out, 0, rfl, own_base hown (Nat.le_succ _), .inr (.inr (.inr ⟨HZ1.out, HZ2.out, fun _ => HN.out, out, HS.out, .inr ⟨by omega, rfl, rfl⟩⟩)), hB5⟩
    · have HZ2 := Lib.hid (show (Lk.wrong [⟨xo, xf, xt, xa⟩]).1 ≠ 0 by rw [← HE2.out]; simpa using t2)
      go_wp2_with fail
      go_quiet (fail)
      go_wp2_with fail
      go_ret2
      exact ⟨.slice none 0 0, [], e2, rfl, World.ownsRow_nil _ _ _ _, .inr (.inl ⟨HZ1.out, HZ2.out, rfl, HE2.out⟩), below_drewN (hB3.alloc hB3.size _) _⟩
  · have HZ1 := Lib.hid (show (Lk.wrong l).1 ≠ 0 by rw [← HE1.out]; simpa using t1)
    go_wp2_with fail
    go_quiet (fail)
    go_wp2_with fail
    go_ret2
    exact ⟨.slice none 0 0, [], e1, rfl, World.ownsRow_nil _ _ _ _, .inl ⟨HZ1.out, rfl, HE1.out⟩, below_drewN (hB1.alloc hB1.size _) _⟩
end Go.Proofs.Ytjppfhgkanbemaa
