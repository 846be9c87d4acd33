/-
  The walk of lock.cut: it returns a row of its own that holds what Lk.cut gives.
-/
import Derived.Test.YtjppfhgkanbemaaLkWalks
import Derived.Deep.RegionHeld3
namespace Go.Proofs.Ytjppfhgkanbemaa
open Go.RowKit

theorem info_lk : (Try.prog.info? 24).map (fun i => (i.zero, i.size, i.bytes)) = some (some (.agg #[.int .i64 0, .int .i64 0, .int .i64 0, .bool false]), 4, 32) := by kernel_rfl

/-- A row of locks of the call's own. -/
def LkOwn (w : World) (base : Nat) (v : Value) (l : List Lk) : Prop := w.ownsRow base 24 4 v l.length (Lk.flat l)

theorem flat_append (l r : List Lk) : Lk.flat (l ++ r) = Lk.flat l ++ Lk.flat r := by simp [Lk.flat]
theorem LkOwn.snoc {w : World} {base n : Nat} {v : Value} {xs : List Value} {l m : List Lk} {y : Lk} (h : w.ownsRow base 24 4 v (n + 1) (xs ++ [.int .i64 y.o, .int .i64 y.f, .int .i64 y.t, .bool y.a]))
    (e : m = l ++ [y]) (hn : n = l.length := by rfl) (hx : xs = Lk.flat l := by rfl) : LkOwn w base v m := by
  subst e hn hx
  unfold LkOwn
  rw [flat_append, List.length_append]
  exact h

set_option maxHeartbeats 1600000 in
set_option maxRecDepth 100000 in
theorem cut_any (A : Option Addr) (c b o : Nat) (l : List Lk) (x : Lk) (w : World) (hl : LkRd w w.heap.size A l) (hn : l.length ≤ 1000) (hx : LkAt w b o x) (hb : b < w.heap.size) :
    Calls Try.prog 25 #[.slice A l.length c, .pointer (some ⟨b, o, none⟩)] w fun e w' => ∃ v, e = .returned v ∧ LkOwn w' w.heap.size v (Lk.cut l x) ∧ Below w.heap.size w w' := by
  obtain ⟨i0, hi, hz0, hz1, hz2⟩ := info_parts info_lk
  obtain ⟨xo, xf, xt, xa⟩ := x
  go_enter Try.func25, Try.ntmps25
  go_wp2
  go_loopw [5, 10] (fun v i wr => ∃ k : Nat, k ≤ l.length ∧ i = .int .i64 k ∧ LkOwn wr w.heap.size v (Lk.cut (l.take k) ⟨xo, xf, xt, xa⟩) ∧ Below w.heap.size w wr)
    (fun _ i _ => l.length - (intOf i).toNat)
  case atStart => exact ⟨0, Nat.zero_le _, rfl, World.ownsRow_nil _ _ _ _, Below.refl _ _⟩
  case round =>
    obtain ⟨k, hk, rfl, hown, hB⟩ := hrel
    by_cases hlt : k < l.length
    · obtain ⟨bl, ol, rfl, hbl, hat⟩ := (LkRd.at_ (hl.below hB) hlt)
      obtain ⟨h0, h1, h2, h3⟩ := hat
      have hno : (Lk.cut (l.take k) ⟨xo, xf, xt, xa⟩).length ≤ 2 * k := by have := Lk.cut_le (l.take k) ⟨xo, xf, xt, xa⟩; rw [List.length_take] at this; omega
      generalize hyk : l[k] = y at h0 h1 h2 h3
      obtain ⟨yo, yf, yt, ya⟩ := y
      have Hs := Lib.hid (Lk.cut_step hlt ⟨xo, xf, xt, xa⟩ hyk)
      clear hyk
      dsimp only at h0 h1 h2 h3
      go_wp2_with fail
      clear h0 h1 h2 h3
      have hB1 : Below w.heap.size w (wr.alloc (.cells #[.int .i64 yo, .int .i64 yf, .int .i64 yt, .bool ya] 24)) := hB.alloc hB.size _
      have hy1 : Blk (wr.alloc (.cells #[.int .i64 yo, .int .i64 yf, .int .i64 yt, .bool ya] 24)) wr.heap.size 24 [.int .i64 yo, .int .i64 yf, .int .i64 yt, .bool ya] := Blk.new _ _ _
      have ho1 : LkOwn (wr.alloc (.cells #[.int .i64 yo, .int .i64 yf, .int .i64 yt, .bool ya] 24)) _ _ _ := own_alloc hown _
      have hne : some wr.heap.size ≠ u5.ownBlock := own_ne hown (.inr (Nat.le_refl _))
      have hgy : w.heap.size ≤ wr.heap.size := hB.size
      clear hB hown
      generalize wr.alloc (.cells #[.int .i64 yo, .int .i64 yf, .int .i64 yt, .bool ya] 24) = w1 at *
      generalize wr.heap.size = gy at *
      obtain ⟨y0, y1, y2, y3, yfr, yz⟩ := hy1.four
      obtain ⟨x0, x1, x2, x3⟩ := hx.below hB1 hb
      dsimp only at x0 x1 x2 x3
      have hbz : b < w1.heap.size := Nat.lt_of_lt_of_le hb hB1.size
      rcases hbo : (yo != xo) with _ | _
      · rcases hb1 : decide (yt ≤ xf) with _ | _
        · rcases hb2 : decide (xt ≤ yf) with _ | _
          · have hyo : yo = xo := by simpa using hbo
            have Ho := Lib.hid hyo
            clear hyo
            refine wp_region_quiet_lit (by kernel_rfl) (by kernel_rfl) ?_
            repeat (first | go_big_quiet_step (fail) | quiet_step (fail))
            refine wpQuiet_nil ?_
            intro w2 hw'
            obtain ⟨nq, hw''⟩ := hw'
            have hB2 := below_drewN hB1 nq
            have hy2 := hy1.drewN nq
            have ho2 := own_drewN ho1 nq
            rw [← hw''] at hB2 hy2 ho2
            clear hw'' hB1 hy1 ho1 y0 y1 y2 y3 yfr yz x0 x1 x2 x3 hbz
            obtain ⟨y0, y1, y2, y3, yfr, yz⟩ := hy2.four
            obtain ⟨x0, x1, x2, x3⟩ := hx.below hB2 hb
            dsimp only at x0 x1 x2 x3
            have hbz : b < w2.heap.size := Nat.lt_of_lt_of_le hb hB2.size
            go_wp2_with fail
            rcases hp : decide (yf < xf) with _ | _
            · refine wp_region_quiet_lit (by kernel_rfl) (by kernel_rfl) ?_
              repeat (first | go_big_quiet_step (fail) | quiet_step (fail))
              refine wpQuiet_nil ?_
              intro w3 hw'
              obtain ⟨nq, hw''⟩ := hw'
              have hB3 := below_drewN hB2 nq
              have hy3 := hy2.drewN nq
              have ho3 := own_drewN ho2 nq
              rw [← hw''] at hB3 hy3 ho3
              clear hw'' hB2 hy2 ho2 y0 y1 y2 y3 yfr yz x0 x1 x2 x3 hbz
              obtain ⟨y0, y1, y2, y3, yfr, yz⟩ := hy3.four
              obtain ⟨x0, x1, x2, x3⟩ := hx.below hB3 hb
              dsimp only at x0 x1 x2 x3
              have hbz : b < w3.heap.size := Nat.lt_of_lt_of_le hb hB3.size
              go_wp2_with fail
              rcases hq : decide (xt < yt) with _ | _
              · refine wp_region_quiet_lit (by kernel_rfl) (by kernel_rfl) ?_
                repeat (first | go_big_quiet_step (fail) | quiet_step (fail))
                refine wpQuiet_nil ?_
                intro w4 hw'
                obtain ⟨nq, hw''⟩ := hw'
                have hB4 := below_drewN hB3 nq
                have hy4 := hy3.drewN nq
                have ho4 := own_drewN ho3 nq
                rw [← hw''] at hB4 hy4 ho4
                clear hw'' hB3 hy3 ho3 y0 y1 y2 y3 yfr yz x0 x1 x2 x3 hbz
                obtain ⟨y0, y1, y2, y3, yfr, yz⟩ := hy4.four
                obtain ⟨x0, x1, x2, x3⟩ := hx.below hB4 hb
                dsimp only at x0 x1 x2 x3
                have hbz : b < w4.heap.size := Nat.lt_of_lt_of_le hb hB4.size
                go_wp2_with fail
                go_roundw
                case rel =>
                  have e : Lk.cut1 ⟨xo, xf, xt, xa⟩ ⟨yo, yf, yt, ya⟩ = [] := by
                    rw [Lk.cut1_on (x := ⟨xo, xf, xt, xa⟩) (y := ⟨yo, yf, yt, ya⟩) Ho.out (by simpa using hb1) (by simpa using hb2)]
                    rw [if_neg (show ¬ yf < xf from by simpa using hp), if_neg (show ¬ xt < yt from by simpa using hq)]
                    rfl
                  rw [e] at Hs
                  exact ⟨k + 1, hlt, by go_num, by rw [Hs.out, List.append_nil]; exact ho4, hB4⟩
                case measure => simp [intOf]; omega

              · refine wp_region_quiet_lit (by kernel_rfl) (by kernel_rfl) ?_
                repeat (first | go_big_quiet_step (fail) | quiet_step (fail))
                refine wpQuiet_nil ?_
                intro w4 hw'
                obtain ⟨nq, hw''⟩ := hw'
                have hB4 := below_drewN hB3 nq
                have hy4 := hy3.drewN nq
                have ho4 := own_drewN ho3 nq
                rw [← hw''] at hB4 hy4 ho4
                clear hw'' hB3 hy3 ho3 y0 y1 y2 y3 yfr yz x0 x1 x2 x3 hbz
                obtain ⟨y0, y1, y2, y3, yfr, yz⟩ := hy4.four
                obtain ⟨x0, x1, x2, x3⟩ := hx.below hB4 hb
                dsimp only at x0 x1 x2 x3
                have hbz : b < w4.heap.size := Nat.lt_of_lt_of_le hb hB4.size
                go_wp2_with fail
                have hdo : LkOwn w4.drew w.heap.size u5 _ := ho4
                go_region_held3 (fun w' => w'.cell? ⟨gy, 0, none⟩ = some (.int .i64 yo) ∧ w'.cell? ⟨gy, 1, none⟩ = some (.int .i64 yf) ∧ w'.cell? ⟨gy, 2, none⟩ = some (.int .i64 yt) ∧ w'.cell? ⟨gy, 3, none⟩ = some (.bool ya) ∧ w'.cell? ⟨b, o + 1, none⟩ = some (.int .i64 xf) ∧ w'.cell? ⟨b, o + 2, none⟩ = some (.int .i64 xt))
                  (first
                    | go_keep
                    | exact ⟨(hy4.drew.grown hg6 hne).cell 0, (hy4.drew.grown hg6 hne).cell 1, (hy4.drew.grown hg6 hne).cell 2, (hy4.drew.grown hg6 hne).cell 3, (hx.below (below_grown (below_drewN hB4 1) hg6 hB4.size (fun k hk => (ho4.lt k hk).1)) hb).2.1, (hx.below (below_grown (below_drewN hB4 1) hg6 hB4.size (fun k hk => (ho4.lt k hk).1)) hb).2.2.1⟩)
                  ((refine step_app1 w4.drew rfl _ _ _ rfl w.heap.size 24 i0 _ 4 32 Try.underlying22 hi hz0 hz1 hz2 rfl (by decide) u5 _ _ rfl hdo [.int .i64 yo, .int .i64 xt, .int .i64 yt, .bool ya] rfl rfl (by simp [Value.oneCell']) (by omega) (by decide) hB4.size _ rfl ?_; intro v6 w6 hw6 hg6 hat6))
                go_wp2_with fail
                go_roundw
                case rel =>
                  have e : Lk.cut1 ⟨xo, xf, xt, xa⟩ ⟨yo, yf, yt, ya⟩ = [⟨yo, xt, yt, ya⟩] := by
                    rw [Lk.cut1_on (x := ⟨xo, xf, xt, xa⟩) (y := ⟨yo, yf, yt, ya⟩) Ho.out (by simpa using hb1) (by simpa using hb2)]
                    rw [if_neg (show ¬ yf < xf from by simpa using hp), if_pos (show xt < yt from by simpa using hq)]
                    rfl
                  rw [e] at Hs
                  exact ⟨k + 1, hlt, by go_num, LkOwn.snoc  hw6 (Hs.out), below_grown (below_drewN hB4 1) hg6 hB4.size (fun k hk => (ho4.lt k hk).1)⟩
                case measure => simp [intOf]; omega


            · refine wp_region_quiet_lit (by kernel_rfl) (by kernel_rfl) ?_
              repeat (first | go_big_quiet_step (fail) | quiet_step (fail))
              refine wpQuiet_nil ?_
              intro w3 hw'
              obtain ⟨nq, hw''⟩ := hw'
              have hB3 := below_drewN hB2 nq
              have hy3 := hy2.drewN nq
              have ho3 := own_drewN ho2 nq
              rw [← hw''] at hB3 hy3 ho3
              clear hw'' hB2 hy2 ho2 y0 y1 y2 y3 yfr yz x0 x1 x2 x3 hbz
              obtain ⟨y0, y1, y2, y3, yfr, yz⟩ := hy3.four
              obtain ⟨x0, x1, x2, x3⟩ := hx.below hB3 hb
              dsimp only at x0 x1 x2 x3
              have hbz : b < w3.heap.size := Nat.lt_of_lt_of_le hb hB3.size
              go_wp2_with fail
              have hdo : LkOwn w3.drew w.heap.size u5 _ := ho3
              go_region_held3 (fun w' => w'.cell? ⟨gy, 0, none⟩ = some (.int .i64 yo) ∧ w'.cell? ⟨gy, 1, none⟩ = some (.int .i64 yf) ∧ w'.cell? ⟨gy, 2, none⟩ = some (.int .i64 yt) ∧ w'.cell? ⟨gy, 3, none⟩ = some (.bool ya) ∧ w'.cell? ⟨b, o + 1, none⟩ = some (.int .i64 xf) ∧ w'.cell? ⟨b, o + 2, none⟩ = some (.int .i64 xt))
                (first
                  | go_keep
                  | exact ⟨(hy3.drew.grown hg5 hne).cell 0, (hy3.drew.grown hg5 hne).cell 1, (hy3.drew.grown hg5 hne).cell 2, (hy3.drew.grown hg5 hne).cell 3, (hx.below (below_grown (below_drewN hB3 1) hg5 hB3.size (fun k hk => (ho3.lt k hk).1)) hb).2.1, (hx.below (below_grown (below_drewN hB3 1) hg5 hB3.size (fun k hk => (ho3.lt k hk).1)) hb).2.2.1⟩)
                ((refine step_app1 w3.drew rfl _ _ _ rfl w.heap.size 24 i0 _ 4 32 Try.underlying22 hi hz0 hz1 hz2 rfl (by decide) u5 _ _ rfl hdo [.int .i64 yo, .int .i64 yf, .int .i64 xf, .bool ya] rfl rfl (by simp [Value.oneCell']) (by omega) (by decide) hB3.size _ rfl ?_; intro v5 w5 hw5 hg5 hat5))
              go_wp2_with fail
              have hB5 : Below w.heap.size w w5 := below_grown (below_drewN hB3 1) hg5 hB3.size (fun k hk => (ho3.lt k hk).1)
              have hy5 := hy3.drew.grown hg5 hne
              have hgs : gy < w3.drew.heap.size := hy3.lt
              have ho5 : LkOwn w5 w.heap.size v5 (Lk.cut (l.take k) ⟨xo, xf, xt, xa⟩ ++ [⟨yo, yf, xf, ya⟩]) := LkOwn.snoc hw5 rfl
              have hne5 : some gy ≠ v5.ownBlock := own_apart hat5 hne hy3.lt
              clear hB3 hy3 ho3 hdo hw5 hg5 hat5 y0 y1 y2 y3 yfr yz x0 x1 x2 x3 hbz
              obtain ⟨y0, y1, y2, y3, yfr, yz⟩ := hy5.four
              obtain ⟨x0, x1, x2, x3⟩ := hx.below hB5 hb
              dsimp only at x0 x1 x2 x3
              have hbz : b < w5.heap.size := Nat.lt_of_lt_of_le hb hB5.size
              rcases hq : decide (xt < yt) with _ | _
              · refine wp_region_quiet_lit (by kernel_rfl) (by kernel_rfl) ?_
                repeat (first | go_big_quiet_step (fail) | quiet_step (fail))
                refine wpQuiet_nil ?_
                intro w6 hw'
                obtain ⟨nq, hw''⟩ := hw'
                have hB6 := below_drewN hB5 nq
                have hy6 := hy5.drewN nq
                have ho6 := own_drewN ho5 nq
                rw [← hw''] at hB6 hy6 ho6
                clear hw'' hB5 hy5 ho5 y0 y1 y2 y3 yfr yz x0 x1 x2 x3 hbz
                obtain ⟨y0, y1, y2, y3, yfr, yz⟩ := hy6.four
                obtain ⟨x0, x1, x2, x3⟩ := hx.below hB6 hb
                dsimp only at x0 x1 x2 x3
                have hbz : b < w6.heap.size := Nat.lt_of_lt_of_le hb hB6.size
                go_wp2_with fail
                go_roundw
                case rel =>
                  have e : Lk.cut1 ⟨xo, xf, xt, xa⟩ ⟨yo, yf, yt, ya⟩ = [⟨yo, yf, xf, ya⟩] := by
                    rw [Lk.cut1_on (x := ⟨xo, xf, xt, xa⟩) (y := ⟨yo, yf, yt, ya⟩) Ho.out (by simpa using hb1) (by simpa using hb2)]
                    rw [if_pos (show yf < xf from by simpa using hp), if_neg (show ¬ xt < yt from by simpa using hq)]
                    rfl
                  rw [e] at Hs
                  exact ⟨k + 1, hlt, by go_num, by rw [Hs.out]; exact ho6, hB6⟩
                case measure => simp [intOf]; omega

              · refine wp_region_quiet_lit (by kernel_rfl) (by kernel_rfl) ?_
                repeat (first | go_big_quiet_step (fail) | quiet_step (fail))
                refine wpQuiet_nil ?_
                intro w6 hw'
                obtain ⟨nq, hw''⟩ := hw'
                have hB6 := below_drewN hB5 nq
                have hy6 := hy5.drewN nq
                have ho6 := own_drewN ho5 nq
                rw [← hw''] at hB6 hy6 ho6
                clear hw'' hB5 hy5 ho5 y0 y1 y2 y3 yfr yz x0 x1 x2 x3 hbz
                obtain ⟨y0, y1, y2, y3, yfr, yz⟩ := hy6.four
                obtain ⟨x0, x1, x2, x3⟩ := hx.below hB6 hb
                dsimp only at x0 x1 x2 x3
                have hbz : b < w6.heap.size := Nat.lt_of_lt_of_le hb hB6.size
                go_wp2_with fail
                have hdo : LkOwn w6.drew w.heap.size v5 _ := ho6
                go_region_held3 (fun w' => w'.cell? ⟨gy, 0, none⟩ = some (.int .i64 yo) ∧ w'.cell? ⟨gy, 1, none⟩ = some (.int .i64 yf) ∧ w'.cell? ⟨gy, 2, none⟩ = some (.int .i64 yt) ∧ w'.cell? ⟨gy, 3, none⟩ = some (.bool ya) ∧ w'.cell? ⟨b, o + 1, none⟩ = some (.int .i64 xf) ∧ w'.cell? ⟨b, o + 2, none⟩ = some (.int .i64 xt))
                  (first
                    | go_keep
                    | exact ⟨(hy6.drew.grown hg8 (hne5)).cell 0, (hy6.drew.grown hg8 (hne5)).cell 1, (hy6.drew.grown hg8 (hne5)).cell 2, (hy6.drew.grown hg8 (hne5)).cell 3, (hx.below (below_grown (below_drewN hB6 1) hg8 hB6.size (fun k hk => (ho6.lt k hk).1)) hb).2.1, (hx.below (below_grown (below_drewN hB6 1) hg8 hB6.size (fun k hk => (ho6.lt k hk).1)) hb).2.2.1⟩)
                  ((refine step_app1 w6.drew rfl _ _ _ rfl w.heap.size 24 i0 _ 4 32 Try.underlying22 hi hz0 hz1 hz2 rfl (by decide) v5 _ _ rfl hdo [.int .i64 yo, .int .i64 xt, .int .i64 yt, .bool ya] rfl rfl (by simp [Value.oneCell']) (by first | omega | (simp only [List.length_append, List.length_cons, List.length_nil]; omega)) (by decide) hB6.size _ rfl ?_; intro v8 w8 hw8 hg8 hat8))
                go_wp2_with fail
                go_roundw
                case rel =>
                  have e : Lk.cut1 ⟨xo, xf, xt, xa⟩ ⟨yo, yf, yt, ya⟩ = [⟨yo, yf, xf, ya⟩, ⟨yo, xt, yt, ya⟩] := by
                    rw [Lk.cut1_on (x := ⟨xo, xf, xt, xa⟩) (y := ⟨yo, yf, yt, ya⟩) Ho.out (by simpa using hb1) (by simpa using hb2)]
                    rw [if_pos (show yf < xf from by simpa using hp), if_pos (show xt < yt from by simpa using hq)]
                    rfl
                  rw [e] at Hs
                  exact ⟨k + 1, hlt, by go_num, LkOwn.snoc (l := Lk.cut (l.take k) ⟨xo, xf, xt, xa⟩ ++ [⟨yo, yf, xf, ya⟩]) (y := ⟨yo, xt, yt, ya⟩) hw8 (by rw [Hs.out]; simp), below_grown (below_drewN hB6 1) hg8 hB6.size (fun k hk => (ho6.lt k hk).1)⟩
                case measure => simp [intOf]; omega



          · refine wp_region_quiet_lit (by kernel_rfl) (by kernel_rfl) ?_
            repeat (first | go_big_quiet_step (fail) | quiet_step (fail))
            refine wpQuiet_nil ?_
            intro w2 hw'
            obtain ⟨nq, hw''⟩ := hw'
            have hB2 := below_drewN hB1 nq
            have hy2 := hy1.drewN nq
            have ho2 := own_drewN ho1 nq
            rw [← hw''] at hB2 hy2 ho2
            clear hw'' hB1 hy1 ho1 y0 y1 y2 y3 yfr yz x0 x1 x2 x3 hbz
            obtain ⟨y0, y1, y2, y3, yfr, yz⟩ := hy2.four
            obtain ⟨x0, x1, x2, x3⟩ := hx.below hB2 hb
            dsimp only at x0 x1 x2 x3
            have hbz : b < w2.heap.size := Nat.lt_of_lt_of_le hb hB2.size
            go_wp2_with (first | (at_builtin; refine wpList_app1 w2 rfl _ _ _ rfl w.heap.size 24 i0 _ 4 32 Try.underlying22 hi hz0 hz1 hz2 rfl (by decide) u5 _ _ rfl ho2 [.int .i64 yo, .int .i64 yf, .int .i64 yt, .bool ya] rfl rfl (by simp [Value.oneCell']) (by omega) (by decide) hB2.size _ rfl ?_; intro v3 w3 ho3 hg3 _))
            go_roundw
            case rel =>
              have e : Lk.cut1 ⟨xo, xf, xt, xa⟩ ⟨yo, yf, yt, ya⟩ = [⟨yo, yf, yt, ya⟩] := Lk.cut1_off (.inr (.inr (by simpa using hb2)))
              rw [e] at Hs
              exact ⟨k + 1, hlt, by go_num, LkOwn.snoc ho3 Hs.out, below_grown hB2 hg3 hB2.size (fun k hk => (ho2.lt k hk).1)⟩
            case measure => simp [intOf]; omega

        · refine wp_region_quiet_lit (by kernel_rfl) (by kernel_rfl) ?_
          repeat (first | go_big_quiet_step (fail) | quiet_step (fail))
          refine wpQuiet_nil ?_
          intro w2 hw'
          obtain ⟨nq, hw''⟩ := hw'
          have hB2 := below_drewN hB1 nq
          have hy2 := hy1.drewN nq
          have ho2 := own_drewN ho1 nq
          rw [← hw''] at hB2 hy2 ho2
          clear hw'' hB1 hy1 ho1 y0 y1 y2 y3 yfr yz x0 x1 x2 x3 hbz
          obtain ⟨y0, y1, y2, y3, yfr, yz⟩ := hy2.four
          obtain ⟨x0, x1, x2, x3⟩ := hx.below hB2 hb
          dsimp only at x0 x1 x2 x3
          have hbz : b < w2.heap.size := Nat.lt_of_lt_of_le hb hB2.size
          go_wp2_with (first | (at_builtin; refine wpList_app1 w2 rfl _ _ _ rfl w.heap.size 24 i0 _ 4 32 Try.underlying22 hi hz0 hz1 hz2 rfl (by decide) u5 _ _ rfl ho2 [.int .i64 yo, .int .i64 yf, .int .i64 yt, .bool ya] rfl rfl (by simp [Value.oneCell']) (by omega) (by decide) hB2.size _ rfl ?_; intro v3 w3 ho3 hg3 _))
          go_roundw
          case rel =>
            have e : Lk.cut1 ⟨xo, xf, xt, xa⟩ ⟨yo, yf, yt, ya⟩ = [⟨yo, yf, yt, ya⟩] := Lk.cut1_off (.inr (.inl (by simpa using hb1)))
            rw [e] at Hs
            exact ⟨k + 1, hlt, by go_num, LkOwn.snoc ho3 Hs.out, below_grown hB2 hg3 hB2.size (fun k hk => (ho2.lt k hk).1)⟩
          case measure => simp [intOf]; omega

      · refine wp_region_quiet_lit (by kernel_rfl) (by kernel_rfl) ?_
        repeat (first | go_big_quiet_step (fail) | quiet_step (fail))
        refine wpQuiet_nil ?_
        intro w2 hw'
        obtain ⟨nq, hw''⟩ := hw'
        have hB2 := below_drewN hB1 nq
        have hy2 := hy1.drewN nq
        have ho2 := own_drewN ho1 nq
        rw [← hw''] at hB2 hy2 ho2
        clear hw'' hB1 hy1 ho1 y0 y1 y2 y3 yfr yz x0 x1 x2 x3 hbz
        obtain ⟨y0, y1, y2, y3, yfr, yz⟩ := hy2.four
        obtain ⟨x0, x1, x2, x3⟩ := hx.below hB2 hb
        dsimp only at x0 x1 x2 x3
        have hbz : b < w2.heap.size := Nat.lt_of_lt_of_le hb hB2.size
        go_wp2_with (first | (at_builtin; refine wpList_app1 w2 rfl _ _ _ rfl w.heap.size 24 i0 _ 4 32 Try.underlying22 hi hz0 hz1 hz2 rfl (by decide) u5 _ _ rfl ho2 [.int .i64 yo, .int .i64 yf, .int .i64 yt, .bool ya] rfl rfl (by simp [Value.oneCell']) (by omega) (by decide) hB2.size _ rfl ?_; intro v3 w3 ho3 hg3 _))
        go_roundw
        case rel =>
          have e : Lk.cut1 ⟨xo, xf, xt, xa⟩ ⟨yo, yf, yt, ya⟩ = [⟨yo, yf, yt, ya⟩] := Lk.cut1_off (.inl (by simpa using hbo))
          rw [e] at Hs
          exact ⟨k + 1, hlt, by go_num, LkOwn.snoc ho3 Hs.out, below_grown hB2 hg3 hB2.size (fun k hk => (ho2.lt k hk).1)⟩
        case measure => simp [intOf]; omega

    · go_wp2_with fail
      go_ret
      have e : l.take k = l := List.take_of_length_le (by omega)
      rw [e] at hown
      exact ⟨_, rfl, hown, hB⟩
end Go.Proofs.Ytjppfhgkanbemaa
