/-
  The walk of lock.cut: it returns a row of its own that holds what Lk.cut gives.
  The walks of cmp.Compare, cmp.Or, of lock.tidy's closure and of lock.tidy.
  The walks of slices.Clone, slices.IndexFunc and slices.DeleteFunc at locks, and of lock.Leave.
  The walks of lock.Wrong, and of what it calls: it returns what Lk.wrong gives.
  The walk of lock.Wrong: it returns what Lk.wrong gives.
  The walks of lock.span, Take and Free.
  What Take and Free answer is what they do in plain words. No walk.
-/
import Derived.Test.YtjppfhgkanbemacGreatDoorLkWalks
import Derived.Deep.RegionHeld3
import Derived.Test.YtjppfhgkanbemacGreatDoorSort
import Derived.Test.YtjppfhgkanbemacGreatDoorShelf
import Derived.Test.YtjppfhgkanbemacGreatDoorMA
import Derived.Test.YtjppfhgkanbemacGreatDoorLA
namespace Go.Proofs.YtjppfhgkanbemacGreatDoor
open Go.RowKit

theorem info_lk : (Tryz.prog.info? 58).map (fun i => (i.zero, i.size, i.bytes)) = some (some (.agg #[.int .i64 0, .int .i64 0, .int .i64 0, .bool false]), 4, 32) := by kernel_rfl

/-- A row of locks of the call's own. -/
def LkOwn (w : World) (base : Nat) (v : Value) (l : List Lk) : Prop := w.ownsRow base 58 4 v l.length (Lk.flat l)

theorem flat_append (l r : List Lk) : Lk.flat (l ++ r) = Lk.flat l ++ Lk.flat r := by simp [Lk.flat]
theorem LkOwn.snoc {w : World} {base n : Nat} {v : Value} {xs : List Value} {l m : List Lk} {y : Lk} (h : w.ownsRow base 58 4 v (n + 1) (xs ++ [.int .i64 y.o, .int .i64 y.f, .int .i64 y.t, .bool y.a]))
    (e : m = l ++ [y]) (hn : n = l.length := by rfl) (hx : xs = Lk.flat l := by rfl) : LkOwn w base v m := by
  subst e hn hx
  unfold LkOwn
  rw [flat_append, List.length_append]
  exact h

set_option maxHeartbeats 1600000 in
set_option maxRecDepth 100000 in
theorem cutL_any (A : Option Addr) (c b o : Nat) (l : List Lk) (x : Lk) (w : World) (hl : LkRd w w.heap.size A l) (hn : l.length ≤ 1000) (hx : LkAt w b o x) (hb : b < w.heap.size) :
    Calls Tryz.prog 140 #[.slice A l.length c, .pointer (some ⟨b, o, none⟩)] w fun e w' => ∃ v, e = .returned v ∧ LkOwn w' w.heap.size v (Lk.cut l x) ∧ Below w.heap.size w w' := by
  obtain ⟨i0, hi, hz0, hz1, hz2⟩ := info_parts info_lk
  obtain ⟨xo, xf, xt, xa⟩ := x
  go_enter Tryz.func140, Tryz.ntmps140
  go_wp2
  go_loopw [5, 10] (fun v i wr => ∃ k : Nat, k ≤ l.length ∧ i = .int .i64 k ∧ LkOwn wr w.heap.size v (Lk.cut (l.take k) ⟨xo, xf, xt, xa⟩) ∧ Below w.heap.size w wr)
    (fun _ i _ => l.length - (intOf i).toNat)
  case atStart => exact ⟨0, Nat.zero_le _, rfl, World.ownsRow_nil _ _ _ _, Below.refl _ _⟩
  case round =>
    obtain ⟨k, hk, rfl, hown, hB⟩ := hrel
    by_cases hlt : k < l.length
    · obtain ⟨bl, ol, rfl, hbl, hat⟩ := (LkRd.at_ (hl.below hB) hlt)
      obtain ⟨h0, h1, h2, h3⟩ := hat
      have hno : (Lk.cut (l.take k) ⟨xo, xf, xt, xa⟩).length ≤ 2 * k := by have := Lk.cut_le (l.take k) ⟨xo, xf, xt, xa⟩; rw [List.length_take] at this; omega
      generalize hyk : l[k] = y at h0 h1 h2 h3
      obtain ⟨yo, yf, yt, ya⟩ := y
      have Hs := Lib.hid (Lk.cut_step hlt ⟨xo, xf, xt, xa⟩ hyk)
      clear hyk
      dsimp only at h0 h1 h2 h3
      go_wp2_with fail
      clear h0 h1 h2 h3
      have hB1 : Below w.heap.size w (wr.alloc (.cells #[.int .i64 yo, .int .i64 yf, .int .i64 yt, .bool ya] 58)) := hB.alloc hB.size _
      have hy1 : Blk (wr.alloc (.cells #[.int .i64 yo, .int .i64 yf, .int .i64 yt, .bool ya] 58)) wr.heap.size 58 [.int .i64 yo, .int .i64 yf, .int .i64 yt, .bool ya] := Blk.new _ _ _
      have ho1 : LkOwn (wr.alloc (.cells #[.int .i64 yo, .int .i64 yf, .int .i64 yt, .bool ya] 58)) _ _ _ := own_alloc hown _
      have hne : some wr.heap.size ≠ u5.ownBlock := own_ne hown (.inr (Nat.le_refl _))
      have hgy : w.heap.size ≤ wr.heap.size := hB.size
      clear hB hown
      generalize wr.alloc (.cells #[.int .i64 yo, .int .i64 yf, .int .i64 yt, .bool ya] 58) = w1 at *
      generalize wr.heap.size = gy at *
      obtain ⟨y0, y1, y2, y3, yfr, yz⟩ := hy1.four
      obtain ⟨x0, x1, x2, x3⟩ := hx.below hB1 hb
      dsimp only at x0 x1 x2 x3
      have hbz : b < w1.heap.size := Nat.lt_of_lt_of_le hb hB1.size
      rcases hbo : (yo != xo) with _ | _
      · rcases hb1 : decide (yt ≤ xf) with _ | _
        · rcases hb2 : decide (xt ≤ yf) with _ | _
          · have hyo : yo = xo := by simpa using hbo
            have Ho := Lib.hid hyo
            clear hyo
            refine wp_region_quiet_lit (by kernel_rfl) (by kernel_rfl) ?_
            repeat (first | go_big_quiet_step (fail) | quiet_step (fail))
            refine wpQuiet_nil ?_
            intro w2 hw'
            obtain ⟨nq, hw''⟩ := hw'
            have hB2 := below_drewN hB1 nq
            have hy2 := hy1.drewN nq
            have ho2 := own_drewN ho1 nq
            rw [← hw''] at hB2 hy2 ho2
            clear hw'' hB1 hy1 ho1 y0 y1 y2 y3 yfr yz x0 x1 x2 x3 hbz
            obtain ⟨y0, y1, y2, y3, yfr, yz⟩ := hy2.four
            obtain ⟨x0, x1, x2, x3⟩ := hx.below hB2 hb
            dsimp only at x0 x1 x2 x3
            have hbz : b < w2.heap.size := Nat.lt_of_lt_of_le hb hB2.size
            go_wp2_with fail
            rcases hp : decide (yf < xf) with _ | _
            · refine wp_region_quiet_lit (by kernel_rfl) (by kernel_rfl) ?_
              repeat (first | go_big_quiet_step (fail) | quiet_step (fail))
              refine wpQuiet_nil ?_
              intro w3 hw'
              obtain ⟨nq, hw''⟩ := hw'
              have hB3 := below_drewN hB2 nq
              have hy3 := hy2.drewN nq
              have ho3 := own_drewN ho2 nq
              rw [← hw''] at hB3 hy3 ho3
              clear hw'' hB2 hy2 ho2 y0 y1 y2 y3 yfr yz x0 x1 x2 x3 hbz
              obtain ⟨y0, y1, y2, y3, yfr, yz⟩ := hy3.four
              obtain ⟨x0, x1, x2, x3⟩ := hx.below hB3 hb
              dsimp only at x0 x1 x2 x3
              have hbz : b < w3.heap.size := Nat.lt_of_lt_of_le hb hB3.size
              go_wp2_with fail
              rcases hq : decide (xt < yt) with _ | _
              · refine wp_region_quiet_lit (by kernel_rfl) (by kernel_rfl) ?_
                repeat (first | go_big_quiet_step (fail) | quiet_step (fail))
                refine wpQuiet_nil ?_
                intro w4 hw'
                obtain ⟨nq, hw''⟩ := hw'
                have hB4 := below_drewN hB3 nq
                have hy4 := hy3.drewN nq
                have ho4 := own_drewN ho3 nq
                rw [← hw''] at hB4 hy4 ho4
                clear hw'' hB3 hy3 ho3 y0 y1 y2 y3 yfr yz x0 x1 x2 x3 hbz
                obtain ⟨y0, y1, y2, y3, yfr, yz⟩ := hy4.four
                obtain ⟨x0, x1, x2, x3⟩ := hx.below hB4 hb
                dsimp only at x0 x1 x2 x3
                have hbz : b < w4.heap.size := Nat.lt_of_lt_of_le hb hB4.size
                go_wp2_with fail
                go_roundw
                case rel =>
                  have e : Lk.cut1 ⟨xo, xf, xt, xa⟩ ⟨yo, yf, yt, ya⟩ = [] := by
                    rw [Lk.cut1_on (x := ⟨xo, xf, xt, xa⟩) (y := ⟨yo, yf, yt, ya⟩) Ho.out (by simpa using hb1) (by simpa using hb2)]
                    rw [if_neg (show ¬ yf < xf from by simpa using hp), if_neg (show ¬ xt < yt from by simpa using hq)]
                    rfl
                  rw [e] at Hs
                  exact ⟨k + 1, hlt, by go_num, by rw [Hs.out, List.append_nil]; exact ho4, hB4⟩
                case measure => simp [intOf]; omega

              · refine wp_region_quiet_lit (by kernel_rfl) (by kernel_rfl) ?_
                repeat (first | go_big_quiet_step (fail) | quiet_step (fail))
                refine wpQuiet_nil ?_
                intro w4 hw'
                obtain ⟨nq, hw''⟩ := hw'
                have hB4 := below_drewN hB3 nq
                have hy4 := hy3.drewN nq
                have ho4 := own_drewN ho3 nq
                rw [← hw''] at hB4 hy4 ho4
                clear hw'' hB3 hy3 ho3 y0 y1 y2 y3 yfr yz x0 x1 x2 x3 hbz
                obtain ⟨y0, y1, y2, y3, yfr, yz⟩ := hy4.four
                obtain ⟨x0, x1, x2, x3⟩ := hx.below hB4 hb
                dsimp only at x0 x1 x2 x3
                have hbz : b < w4.heap.size := Nat.lt_of_lt_of_le hb hB4.size
                go_wp2_with fail
                have hdo : LkOwn w4.drew w.heap.size u5 _ := ho4
                go_region_held3 (fun w' => w'.cell? ⟨gy, 0, none⟩ = some (.int .i64 yo) ∧ w'.cell? ⟨gy, 1, none⟩ = some (.int .i64 yf) ∧ w'.cell? ⟨gy, 2, none⟩ = some (.int .i64 yt) ∧ w'.cell? ⟨gy, 3, none⟩ = some (.bool ya) ∧ w'.cell? ⟨b, o + 1, none⟩ = some (.int .i64 xf) ∧ w'.cell? ⟨b, o + 2, none⟩ = some (.int .i64 xt))
                  (first
                    | go_keep
                    | exact ⟨(hy4.drew.grown hg6 hne).cell 0, (hy4.drew.grown hg6 hne).cell 1, (hy4.drew.grown hg6 hne).cell 2, (hy4.drew.grown hg6 hne).cell 3, (hx.below (below_grown (below_drewN hB4 1) hg6 hB4.size (fun k hk => (ho4.lt k hk).1)) hb).2.1, (hx.below (below_grown (below_drewN hB4 1) hg6 hB4.size (fun k hk => (ho4.lt k hk).1)) hb).2.2.1⟩)
                  ((refine step_app1 w4.drew rfl _ _ _ rfl w.heap.size 58 i0 _ 4 32 Tryz.underlying60 hi hz0 hz1 hz2 rfl (by decide) u5 _ _ rfl hdo [.int .i64 yo, .int .i64 xt, .int .i64 yt, .bool ya] rfl rfl (by simp [Value.oneCell']) (by omega) (by decide) hB4.size _ rfl ?_; intro v6 w6 hw6 hg6 hat6))
                go_wp2_with fail
                go_roundw
                case rel =>
                  have e : Lk.cut1 ⟨xo, xf, xt, xa⟩ ⟨yo, yf, yt, ya⟩ = [⟨yo, xt, yt, ya⟩] := by
                    rw [Lk.cut1_on (x := ⟨xo, xf, xt, xa⟩) (y := ⟨yo, yf, yt, ya⟩) Ho.out (by simpa using hb1) (by simpa using hb2)]
                    rw [if_neg (show ¬ yf < xf from by simpa using hp), if_pos (show xt < yt from by simpa using hq)]
                    rfl
                  rw [e] at Hs
                  exact ⟨k + 1, hlt, by go_num, LkOwn.snoc  hw6 (Hs.out), below_grown (below_drewN hB4 1) hg6 hB4.size (fun k hk => (ho4.lt k hk).1)⟩
                case measure => simp [intOf]; omega


            · refine wp_region_quiet_lit (by kernel_rfl) (by kernel_rfl) ?_
              repeat (first | go_big_quiet_step (fail) | quiet_step (fail))
              refine wpQuiet_nil ?_
              intro w3 hw'
              obtain ⟨nq, hw''⟩ := hw'
              have hB3 := below_drewN hB2 nq
              have hy3 := hy2.drewN nq
              have ho3 := own_drewN ho2 nq
              rw [← hw''] at hB3 hy3 ho3
              clear hw'' hB2 hy2 ho2 y0 y1 y2 y3 yfr yz x0 x1 x2 x3 hbz
              obtain ⟨y0, y1, y2, y3, yfr, yz⟩ := hy3.four
              obtain ⟨x0, x1, x2, x3⟩ := hx.below hB3 hb
              dsimp only at x0 x1 x2 x3
              have hbz : b < w3.heap.size := Nat.lt_of_lt_of_le hb hB3.size
              go_wp2_with fail
              have hdo : LkOwn w3.drew w.heap.size u5 _ := ho3
              go_region_held3 (fun w' => w'.cell? ⟨gy, 0, none⟩ = some (.int .i64 yo) ∧ w'.cell? ⟨gy, 1, none⟩ = some (.int .i64 yf) ∧ w'.cell? ⟨gy, 2, none⟩ = some (.int .i64 yt) ∧ w'.cell? ⟨gy, 3, none⟩ = some (.bool ya) ∧ w'.cell? ⟨b, o + 1, none⟩ = some (.int .i64 xf) ∧ w'.cell? ⟨b, o + 2, none⟩ = some (.int .i64 xt))
                (first
                  | go_keep
                  | exact ⟨(hy3.drew.grown hg5 hne).cell 0, (hy3.drew.grown hg5 hne).cell 1, (hy3.drew.grown hg5 hne).cell 2, (hy3.drew.grown hg5 hne).cell 3, (hx.below (below_grown (below_drewN hB3 1) hg5 hB3.size (fun k hk => (ho3.lt k hk).1)) hb).2.1, (hx.below (below_grown (below_drewN hB3 1) hg5 hB3.size (fun k hk => (ho3.lt k hk).1)) hb).2.2.1⟩)
                ((refine step_app1 w3.drew rfl _ _ _ rfl w.heap.size 58 i0 _ 4 32 Tryz.underlying60 hi hz0 hz1 hz2 rfl (by decide) u5 _ _ rfl hdo [.int .i64 yo, .int .i64 yf, .int .i64 xf, .bool ya] rfl rfl (by simp [Value.oneCell']) (by omega) (by decide) hB3.size _ rfl ?_; intro v5 w5 hw5 hg5 hat5))
              go_wp2_with fail
              have hB5 : Below w.heap.size w w5 := below_grown (below_drewN hB3 1) hg5 hB3.size (fun k hk => (ho3.lt k hk).1)
              have hy5 := hy3.drew.grown hg5 hne
              have hgs : gy < w3.drew.heap.size := hy3.lt
              have ho5 : LkOwn w5 w.heap.size v5 (Lk.cut (l.take k) ⟨xo, xf, xt, xa⟩ ++ [⟨yo, yf, xf, ya⟩]) := LkOwn.snoc hw5 rfl
              have hne5 : some gy ≠ v5.ownBlock := own_apart hat5 hne hy3.lt
              clear hB3 hy3 ho3 hdo hw5 hg5 hat5 y0 y1 y2 y3 yfr yz x0 x1 x2 x3 hbz
              obtain ⟨y0, y1, y2, y3, yfr, yz⟩ := hy5.four
              obtain ⟨x0, x1, x2, x3⟩ := hx.below hB5 hb
              dsimp only at x0 x1 x2 x3
              have hbz : b < w5.heap.size := Nat.lt_of_lt_of_le hb hB5.size
              rcases hq : decide (xt < yt) with _ | _
              · refine wp_region_quiet_lit (by kernel_rfl) (by kernel_rfl) ?_
                repeat (first | go_big_quiet_step (fail) | quiet_step (fail))
                refine wpQuiet_nil ?_
                intro w6 hw'
                obtain ⟨nq, hw''⟩ := hw'
                have hB6 := below_drewN hB5 nq
                have hy6 := hy5.drewN nq
                have ho6 := own_drewN ho5 nq
                rw [← hw''] at hB6 hy6 ho6
                clear hw'' hB5 hy5 ho5 y0 y1 y2 y3 yfr yz x0 x1 x2 x3 hbz
                obtain ⟨y0, y1, y2, y3, yfr, yz⟩ := hy6.four
                obtain ⟨x0, x1, x2, x3⟩ := hx.below hB6 hb
                dsimp only at x0 x1 x2 x3
                have hbz : b < w6.heap.size := Nat.lt_of_lt_of_le hb hB6.size
                go_wp2_with fail
                go_roundw
                case rel =>
                  have e : Lk.cut1 ⟨xo, xf, xt, xa⟩ ⟨yo, yf, yt, ya⟩ = [⟨yo, yf, xf, ya⟩] := by
                    rw [Lk.cut1_on (x := ⟨xo, xf, xt, xa⟩) (y := ⟨yo, yf, yt, ya⟩) Ho.out (by simpa using hb1) (by simpa using hb2)]
                    rw [if_pos (show yf < xf from by simpa using hp), if_neg (show ¬ xt < yt from by simpa using hq)]
                    rfl
                  rw [e] at Hs
                  exact ⟨k + 1, hlt, by go_num, by rw [Hs.out]; exact ho6, hB6⟩
                case measure => simp [intOf]; omega

              · refine wp_region_quiet_lit (by kernel_rfl) (by kernel_rfl) ?_
                repeat (first | go_big_quiet_step (fail) | quiet_step (fail))
                refine wpQuiet_nil ?_
                intro w6 hw'
                obtain ⟨nq, hw''⟩ := hw'
                have hB6 := below_drewN hB5 nq
                have hy6 := hy5.drewN nq
                have ho6 := own_drewN ho5 nq
                rw [← hw''] at hB6 hy6 ho6
                clear hw'' hB5 hy5 ho5 y0 y1 y2 y3 yfr yz x0 x1 x2 x3 hbz
                obtain ⟨y0, y1, y2, y3, yfr, yz⟩ := hy6.four
                obtain ⟨x0, x1, x2, x3⟩ := hx.below hB6 hb
                dsimp only at x0 x1 x2 x3
                have hbz : b < w6.heap.size := Nat.lt_of_lt_of_le hb hB6.size
                go_wp2_with fail
                have hdo : LkOwn w6.drew w.heap.size v5 _ := ho6
                go_region_held3 (fun w' => w'.cell? ⟨gy, 0, none⟩ = some (.int .i64 yo) ∧ w'.cell? ⟨gy, 1, none⟩ = some (.int .i64 yf) ∧ w'.cell? ⟨gy, 2, none⟩ = some (.int .i64 yt) ∧ w'.cell? ⟨gy, 3, none⟩ = some (.bool ya) ∧ w'.cell? ⟨b, o + 1, none⟩ = some (.int .i64 xf) ∧ w'.cell? ⟨b, o + 2, none⟩ = some (.int .i64 xt))
                  (first
                    | go_keep
                    | exact ⟨(hy6.drew.grown hg8 (hne5)).cell 0, (hy6.drew.grown hg8 (hne5)).cell 1, (hy6.drew.grown hg8 (hne5)).cell 2, (hy6.drew.grown hg8 (hne5)).cell 3, (hx.below (below_grown (below_drewN hB6 1) hg8 hB6.size (fun k hk => (ho6.lt k hk).1)) hb).2.1, (hx.below (below_grown (below_drewN hB6 1) hg8 hB6.size (fun k hk => (ho6.lt k hk).1)) hb).2.2.1⟩)
                  ((refine step_app1 w6.drew rfl _ _ _ rfl w.heap.size 58 i0 _ 4 32 Tryz.underlying60 hi hz0 hz1 hz2 rfl (by decide) v5 _ _ rfl hdo [.int .i64 yo, .int .i64 xt, .int .i64 yt, .bool ya] rfl rfl (by simp [Value.oneCell']) (by first | omega | (simp only [List.length_append, List.length_cons, List.length_nil]; omega)) (by decide) hB6.size _ rfl ?_; intro v8 w8 hw8 hg8 hat8))
                go_wp2_with fail
                go_roundw
                case rel =>
                  have e : Lk.cut1 ⟨xo, xf, xt, xa⟩ ⟨yo, yf, yt, ya⟩ = [⟨yo, yf, xf, ya⟩, ⟨yo, xt, yt, ya⟩] := by
                    rw [Lk.cut1_on (x := ⟨xo, xf, xt, xa⟩) (y := ⟨yo, yf, yt, ya⟩) Ho.out (by simpa using hb1) (by simpa using hb2)]
                    rw [if_pos (show yf < xf from by simpa using hp), if_pos (show xt < yt from by simpa using hq)]
                    rfl
                  rw [e] at Hs
                  exact ⟨k + 1, hlt, by go_num, LkOwn.snoc (l := Lk.cut (l.take k) ⟨xo, xf, xt, xa⟩ ++ [⟨yo, yf, xf, ya⟩]) (y := ⟨yo, xt, yt, ya⟩) hw8 (by rw [Hs.out]; simp), below_grown (below_drewN hB6 1) hg8 hB6.size (fun k hk => (ho6.lt k hk).1)⟩
                case measure => simp [intOf]; omega



          · refine wp_region_quiet_lit (by kernel_rfl) (by kernel_rfl) ?_
            repeat (first | go_big_quiet_step (fail) | quiet_step (fail))
            refine wpQuiet_nil ?_
            intro w2 hw'
            obtain ⟨nq, hw''⟩ := hw'
            have hB2 := below_drewN hB1 nq
            have hy2 := hy1.drewN nq
            have ho2 := own_drewN ho1 nq
            rw [← hw''] at hB2 hy2 ho2
            clear hw'' hB1 hy1 ho1 y0 y1 y2 y3 yfr yz x0 x1 x2 x3 hbz
            obtain ⟨y0, y1, y2, y3, yfr, yz⟩ := hy2.four
            obtain ⟨x0, x1, x2, x3⟩ := hx.below hB2 hb
            dsimp only at x0 x1 x2 x3
            have hbz : b < w2.heap.size := Nat.lt_of_lt_of_le hb hB2.size
            go_wp2_with (first | (at_builtin; refine wpList_app1 w2 rfl _ _ _ rfl w.heap.size 58 i0 _ 4 32 Tryz.underlying60 hi hz0 hz1 hz2 rfl (by decide) u5 _ _ rfl ho2 [.int .i64 yo, .int .i64 yf, .int .i64 yt, .bool ya] rfl rfl (by simp [Value.oneCell']) (by omega) (by decide) hB2.size _ rfl ?_; intro v3 w3 ho3 hg3 _))
            go_roundw
            case rel =>
              have e : Lk.cut1 ⟨xo, xf, xt, xa⟩ ⟨yo, yf, yt, ya⟩ = [⟨yo, yf, yt, ya⟩] := Lk.cut1_off (.inr (.inr (by simpa using hb2)))
              rw [e] at Hs
              exact ⟨k + 1, hlt, by go_num, LkOwn.snoc ho3 Hs.out, below_grown hB2 hg3 hB2.size (fun k hk => (ho2.lt k hk).1)⟩
            case measure => simp [intOf]; omega

        · refine wp_region_quiet_lit (by kernel_rfl) (by kernel_rfl) ?_
          repeat (first | go_big_quiet_step (fail) | quiet_step (fail))
          refine wpQuiet_nil ?_
          intro w2 hw'
          obtain ⟨nq, hw''⟩ := hw'
          have hB2 := below_drewN hB1 nq
          have hy2 := hy1.drewN nq
          have ho2 := own_drewN ho1 nq
          rw [← hw''] at hB2 hy2 ho2
          clear hw'' hB1 hy1 ho1 y0 y1 y2 y3 yfr yz x0 x1 x2 x3 hbz
          obtain ⟨y0, y1, y2, y3, yfr, yz⟩ := hy2.four
          obtain ⟨x0, x1, x2, x3⟩ := hx.below hB2 hb
          dsimp only at x0 x1 x2 x3
          have hbz : b < w2.heap.size := Nat.lt_of_lt_of_le hb hB2.size
          go_wp2_with (first | (at_builtin; refine wpList_app1 w2 rfl _ _ _ rfl w.heap.size 58 i0 _ 4 32 Tryz.underlying60 hi hz0 hz1 hz2 rfl (by decide) u5 _ _ rfl ho2 [.int .i64 yo, .int .i64 yf, .int .i64 yt, .bool ya] rfl rfl (by simp [Value.oneCell']) (by omega) (by decide) hB2.size _ rfl ?_; intro v3 w3 ho3 hg3 _))
          go_roundw
          case rel =>
            have e : Lk.cut1 ⟨xo, xf, xt, xa⟩ ⟨yo, yf, yt, ya⟩ = [⟨yo, yf, yt, ya⟩] := Lk.cut1_off (.inr (.inl (by simpa using hb1)))
            rw [e] at Hs
            exact ⟨k + 1, hlt, by go_num, LkOwn.snoc ho3 Hs.out, below_grown hB2 hg3 hB2.size (fun k hk => (ho2.lt k hk).1)⟩
          case measure => simp [intOf]; omega

      · refine wp_region_quiet_lit (by kernel_rfl) (by kernel_rfl) ?_
        repeat (first | go_big_quiet_step (fail) | quiet_step (fail))
        refine wpQuiet_nil ?_
        intro w2 hw'
        obtain ⟨nq, hw''⟩ := hw'
        have hB2 := below_drewN hB1 nq
        have hy2 := hy1.drewN nq
        have ho2 := own_drewN ho1 nq
        rw [← hw''] at hB2 hy2 ho2
        clear hw'' hB1 hy1 ho1 y0 y1 y2 y3 yfr yz x0 x1 x2 x3 hbz
        obtain ⟨y0, y1, y2, y3, yfr, yz⟩ := hy2.four
        obtain ⟨x0, x1, x2, x3⟩ := hx.below hB2 hb
        dsimp only at x0 x1 x2 x3
        have hbz : b < w2.heap.size := Nat.lt_of_lt_of_le hb hB2.size
        go_wp2_with (first | (at_builtin; refine wpList_app1 w2 rfl _ _ _ rfl w.heap.size 58 i0 _ 4 32 Tryz.underlying60 hi hz0 hz1 hz2 rfl (by decide) u5 _ _ rfl ho2 [.int .i64 yo, .int .i64 yf, .int .i64 yt, .bool ya] rfl rfl (by simp [Value.oneCell']) (by omega) (by decide) hB2.size _ rfl ?_; intro v3 w3 ho3 hg3 _))
        go_roundw
        case rel =>
          have e : Lk.cut1 ⟨xo, xf, xt, xa⟩ ⟨yo, yf, yt, ya⟩ = [⟨yo, yf, yt, ya⟩] := Lk.cut1_off (.inl (by simpa using hbo))
          rw [e] at Hs
          exact ⟨k + 1, hlt, by go_num, LkOwn.snoc ho3 Hs.out, below_grown hB2 hg3 hB2.size (fun k hk => (ho2.lt k hk).1)⟩
        case measure => simp [intOf]; omega

    · go_wp2_with fail
      go_ret
      have e : l.take k = l := List.take_of_length_le (by omega)
      rw [e] at hown
      exact ⟨_, rfl, hown, hB⟩
end Go.Proofs.YtjppfhgkanbemacGreatDoor

namespace Go.Proofs.YtjppfhgkanbemacGreatDoor
open Go.RowKit Go.Sort Go.Shelf

def cmpI (a b : Int) : Int := if a < b then -1 else if b < a then 1 else 0
def orI (a b : Int) : Int := if a = 0 then b else a
def Lk.cf (x y : Lk) : Int := orI (cmpI x.o y.o) (cmpI x.f y.f)

theorem ret_intL {k : IntKind} {a b : Int} (h : a = b) : Ending.returned (.int k a) = .returned (.int k b) := by rw [h]

theorem compareL_any (a b : Int) (w : World) : Calls Tryz.prog 162 #[.int .i64 a, .int .i64 b] w fun e w' => e = .returned (.int .i64 (cmpI a b)) ∧ w = w' := by
  by_cases h1 : a < b
  · have He : Hid (cmpI a b = -1) := if_pos h1
    go_enter Tryz.func162, Tryz.ntmps162
    go_wp2
    go_ret
    exact ⟨by rw [He.out]; rfl, rfl⟩
  · by_cases h2 : b < a
    · have He : Hid (cmpI a b = 1) := (if_neg h1).trans (if_pos h2)
      go_enter Tryz.func162, Tryz.ntmps162
      go_wp2
      go_ret
      exact ⟨by rw [He.out]; rfl, rfl⟩
    · have He : Hid (cmpI a b = 0) := (if_neg h1).trans (if_neg h2)
      go_enter Tryz.func162, Tryz.ntmps162
      go_wp2
      go_ret
      exact ⟨by rw [He.out]; rfl, rfl⟩

theorem or_any (g : Nat) (a b : Int) (c : Nat) (w : World) (ha : w.cell? ⟨g, 0, none⟩ = some (.int .i64 a)) (hb : w.cell? ⟨g, 1, none⟩ = some (.int .i64 b)) :
    Calls Tryz.prog 161 #[.slice (some ⟨g, 0, none⟩) 2 c] w fun e w' => e = .returned (.int .i64 (orI a b)) ∧ w = w' := by
  have hx : ∀ k : Nat, k < 2 → w.cell? ⟨g, k, none⟩ = some (.int .i64 (if k = 0 then a else b)) := fun k hk => by
    rcases k with _ | _ | k
    · exact ha
    · exact hb
    · omega
  clear ha hb
  go_enter Tryz.func161, Tryz.ntmps161
  go_wp2
  go_loop [8] (fun i => ∃ k : Nat, k ≤ 2 ∧ i = .int .i64 k ∧ Hid ((0 < k → a = 0) ∧ (1 < k → b = 0))) (fun i => 2 - (intOf i).toNat)
  case atStart => exact ⟨0, by omega, rfl, fun h => absurd h (by omega), fun h => absurd h (by omega)⟩
  case round =>
    obtain ⟨k, hk, rfl, hz⟩ := hrel
    by_cases hlt : k < 2
    · have hck := hx k hlt
      clear hx
      generalize hy : (if k = 0 then a else b) = y at hck
      have Hy := Lib.hid hy
      clear hy
      rcases hyz : (y != 0) with _ | _
      · go_wp2
        go_round
        case rel =>
          have y0 : y = 0 := by simpa using hyz
          have e := Hy.out
          rw [y0] at e
          refine ⟨k + 1, by omega, by go_num, fun _ => ?_, fun _ => ?_⟩
          · rcases Nat.eq_zero_or_pos k with h | h
            · simpa [h] using e
            · exact hz.out.1 h
          · have : k = 1 := by omega
            simpa [this] using e
        case measure => simp [intOf]; omega
      · go_wp2
        go_ret
        refine ⟨?_, rfl⟩
        have y0 : y ≠ 0 := by simpa using hyz
        have e := Hy.out
        refine ret_intL ?_
        unfold orI
        rcases Nat.eq_zero_or_pos k with h | h
        · rw [if_pos h] at e
          subst e
          rw [if_neg y0]
        · rw [if_neg (by omega)] at e
          rw [if_pos (hz.out.1 h), e]
    · clear hx
      go_wp2
      go_ret
      have h2 : k = 2 := by omega
      refine ⟨ret_intL ?_, rfl⟩
      unfold orI
      rw [if_pos (hz.out.1 (by omega)), hz.out.2 (by omega)]

set_option maxHeartbeats 800000 in
theorem tidy1_any (x y : Lk) (W : World) : Calls Tryz.prog 160 #[.agg x.cells.toArray, .agg y.cells.toArray] W fun e w' => e = .returned (.int .i64 (Lk.cf x y)) ∧ Gr W w' := by
  obtain ⟨xo, xf, xt, xa⟩ := x
  obtain ⟨yo, yf, yt, ya⟩ := y
  simp only [Lk.cells]
  go_enter Tryz.func160, Tryz.ntmps160
  go_wp2_with fail
  go_region_held3 (fun w' => w'.cell? ⟨W.heap.size, 0, none⟩ = some (.int .i64 xo) ∧ w'.cell? ⟨W.heap.size, 1, none⟩ = some (.int .i64 xf) ∧ w'.cell? ⟨W.heap.size + 1, 0, none⟩ = some (.int .i64 yo) ∧ w'.cell? ⟨W.heap.size + 1, 1, none⟩ = some (.int .i64 yf))
    (first | go_keep)
    (first
      | (go_at_call 162; refine (compareL_any _ _ _).mono ?_; rintro e w' ⟨rfl, rfl⟩)
      | (go_at_call 161; refine (or_any _ (cmpI xo yo) (cmpI xf yf) _ _ (by go_simp) (by go_simp)).mono ?_; rintro e w' ⟨rfl, rfl⟩))
  all_goals go_wp2
  all_goals go_ret
  all_goals exact ⟨rfl, by repeat (first | exact Gr.refl _ | apply Gr.drew | apply Gr.drewN | apply Gr.alloc)⟩

theorem cf_less (x y : Lk) : ltOf Lk.cf x y = Lk.less x y := by
  unfold ltOf Lk.cf orI cmpI Lk.less
  by_cases h1 : x.o < y.o
  · simp [h1]
  · by_cases h2 : y.o < x.o
    · have : ¬ x.o = y.o := by omega
      simp [h1, h2, this]
    · have e : x.o = y.o := by omega
      rw [e]
      by_cases h3 : x.f < y.f
      · simp [h3]
      · by_cases h4 : y.f < x.f <;> simp [h3, h4]

instance : Inhabited Lk := ⟨Lk.zero⟩

theorem lk_swo : SWO (ltOf Lk.cf) where
  irrefl x := by rw [cf_less]; simp [Lk.less]
  trans x y z h1 h2 := by rw [cf_less] at *; simp [Lk.less] at *; omega
  ntrans x y z h1 h2 := by rw [cf_less] at *; simp [Lk.less] at *; omega


theorem isAgg_lk : ∀ w, (isAgg (Tryz.sortLk_ren.t 24)).run Tryz.prog w = .ok true w := fun w => by kernel_rfl
theorem sizeOf_lk : ∀ w, (Go.sizeOf (Tryz.sortLk_ren.t 24)).run Tryz.prog w = .ok 4 w := fun w => by kernel_rfl

/-- The sort of a row of locks. -/
theorem sortLk_any (base g cap : Nat) (l : List Lk) (w : World) (h : LkOwn w base (.slice (some ⟨g, 0, none⟩) l.length cap) l) (hsz : l.length ≤ 1000) :
    Calls Tryz.prog 159 #[.slice (some ⟨g, 0, none⟩) l.length cap, .func (.func 160) #[] #[]] w fun e w' => e = .returned (.tuple #[]) ∧
      ∃ l' : List Lk, l'.Perm l ∧ (l'.Pairwise fun x y => Lk.less y x = false) ∧ LkOwn w' base (.slice (some ⟨g, 0, none⟩) l.length cap) l' ∧ w.grownBy w' (some g) := by
  have eg : ∀ args w, (callFunc 160 args).run Tryz.prog w = .ok (.enter 160 args) w := enters_of Tryz.func160 (by kernel_rfl) rfl
  have c := sort_own Tryz.sortLk 4 isAgg_lk sizeOf_lk Lk.cells (fun _ => rfl) (fun x v hv => by simp [Lk.cells] at hv; rcases hv with rfl | rfl | rfl | rfl <;> rfl) Lk.cf lk_swo 160 #[] base 58 g l.length cap l w eg
    (fun W x y => tidy1_any x y W) h rfl (by omega)
  refine Calls.mono (P := Tryz.prog) (f := 159) c ?_
  rintro e w' ⟨rfl, l', hp, hs, ho, hg⟩
  refine ⟨rfl, l', hp, by simpa only [cf_less] using hs, ?_, hg⟩
  unfold LkOwn
  rw [hp.length_eq]
  exact ho

/-! ### tidy -/

theorem flat_last (r : List Lk) (y : Lk) : (Lk.flat (r ++ [y]))[r.length * 4 + 0]? = some (.int .i64 y.o) ∧ (Lk.flat (r ++ [y]))[r.length * 4 + 1]? = some (.int .i64 y.f) ∧ (Lk.flat (r ++ [y]))[r.length * 4 + 2]? = some (.int .i64 y.t) ∧ (Lk.flat (r ++ [y]))[r.length * 4 + 3]? = some (.bool y.a) := by
  have h := flat_at (r ++ [y]) r.length (by simp)
  simpa using h
theorem flat_len (l : List Lk) : (Lk.flat l).length = l.length * 4 := by
  induction l with
  | nil => rfl
  | cons x r ih => rw [show Lk.flat (x :: r) = x.cells ++ Lk.flat r from rfl, List.length_append, ih, List.length_cons]; simp only [Lk.cells, List.length_cons, List.length_nil]; omega
theorem LkOwn.last {w : World} {base : Nat} {v : Value} {r : List Lk} {yo yf yt z : Int} {ya : Bool}
    (h : w.ownsRow base 58 4 v (r.length + 1) ((Lk.flat (r ++ [⟨yo, yf, yt, ya⟩])).set (r.length * 4 + 2) (.int .i64 z))) : LkOwn w base v (r ++ [⟨yo, yf, z, ya⟩]) := by
  unfold LkOwn
  have e : (Lk.flat (r ++ [⟨yo, yf, yt, ya⟩])).set (r.length * 4 + 2) (.int .i64 z) = Lk.flat (r ++ [⟨yo, yf, z, ya⟩]) := by
    rw [flat_append, flat_append, List.set_append_right _ _ (by rw [flat_len]; omega), flat_len, show r.length * 4 + 2 - r.length * 4 = 2 from by omega]
    rfl
  rw [← e]
  simpa using h

set_option maxHeartbeats 1600000 in
set_option maxRecDepth 100000 in
theorem tidy_any (base g cap : Nat) (l : List Lk) (w : World) (h : LkOwn w base (.slice (some ⟨g, 0, none⟩) l.length cap) l) (hsz : l.length ≤ 1000) :
    Calls Tryz.prog 139 #[.slice (some ⟨g, 0, none⟩) l.length cap] w fun e w' => ∃ v l', e = .returned v ∧ l'.Perm l ∧ (l'.Pairwise fun x y => Lk.less y x = false) ∧ LkOwn w' w.heap.size v (Lk.tidy l') ∧ w.grownBy w' (some g) := by
  obtain ⟨i0, hi, hz0, hz1, hz2⟩ := info_parts info_lk
  go_enter Tryz.func139, Tryz.ntmps139
  go_wp2_with fail
  refine (sortLk_any base g cap l w h hsz).mono ?_
  rintro e w1 ⟨rfl, l', hp, hs, ho, hg⟩
  rw [← hp.length_eq] at hsz ho ⊢
  have hl : LkRd w1 w1.heap.size (some ⟨g, 0, none⟩) l' := by
    have := Rd.of_own ho
    exact this
  have Hp := Lib.hid hp
  have Hs0 := Lib.hid hs
  have Hg := Lib.hid hg
  have hbase : w.heap.size ≤ w1.heap.size := hg.size
  clear hp hs hg h ho
  go_wp2_with fail
  go_loopw [3, 11] (fun v i wr => ∃ k : Nat, k ≤ l'.length ∧ i = .int .i64 k ∧ LkOwn wr w1.heap.size v (Lk.tidy (l'.take k)) ∧ Below w1.heap.size w1 wr) (fun _ i _ => l'.length - (intOf i).toNat)
  case atStart => exact ⟨0, Nat.zero_le _, rfl, World.ownsRow_nil _ _ _ _, Below.refl _ _⟩
  case round =>
    obtain ⟨k, hk, rfl, hown, hB⟩ := hrel
    by_cases hlt : k < l'.length
    · obtain ⟨bl, ol, hA, hbl, hat⟩ := (LkRd.at_ (hl.below hB) hlt)
      cases hA
      obtain ⟨h0, h1, h2, h3⟩ := hat
      have hno : (Lk.tidy (l'.take k)).length ≤ k := by have := Lk.tidy_le (l'.take k); rw [List.length_take] at this; omega
      generalize hxk : l'[k] = x at h0 h1 h2 h3
      obtain ⟨xo, xf, xt, xa⟩ := x
      have Hs := Lib.hid (Lk.tidy_step hlt hxk)
      clear hxk
      dsimp only at h0 h1 h2 h3
      simp only [Nat.zero_add] at h0 h1 h2 h3
      generalize hos : Lk.tidy (l'.take k) = os at *
      have Ho := Lib.hid hos
      clear hos
      rcases own_shape hown with ⟨hv, hn0⟩ | ⟨g', cap', hv, hbg, hgl, hnc⟩
      · obtain rfl : os = [] := List.eq_nil_of_length_eq_zero hn0
        subst hv
        clear hn0
        go_wp2_with fail
        clear h0 h1 h2 h3
        have hB2 : Below w1.heap.size w1 (wr.alloc (.cells #[.int .i64 xo, .int .i64 xf, .int .i64 xt, .bool xa] 58)) := hB.alloc hB.size _
        have hx2 : Blk (wr.alloc (.cells #[.int .i64 xo, .int .i64 xf, .int .i64 xt, .bool xa] 58)) wr.heap.size 58 [.int .i64 xo, .int .i64 xf, .int .i64 xt, .bool xa] := Blk.new _ _ _
        have ho2 := own_alloc hown (.cells #[.int .i64 xo, .int .i64 xf, .int .i64 xt, .bool xa] 58)
        have hgx : w1.heap.size ≤ wr.heap.size := hB.size
        clear hB hown
        generalize wr.alloc (.cells #[.int .i64 xo, .int .i64 xf, .int .i64 xt, .bool xa] 58) = w2 at *
        generalize wr.heap.size = gx at *
        obtain ⟨x0, x1, x2, x3, xfr, xz⟩ := hx2.four

        refine wp_region_quiet_lit (by kernel_rfl) (by kernel_rfl) ?_
        repeat (first | go_big_quiet_step (fail) | quiet_step (fail))
        refine wpQuiet_nil ?_
        intro w3 hw'
        obtain ⟨nq, hw''⟩ := hw'
        have hB3 := below_drewN hB2 nq
        have hx3 := hx2.drewN nq
        have ho3 := own_drewN ho2 nq
        rw [← hw''] at hB3 hx3 ho3
        clear hw'' hB2 hx2 ho2 x0 x1 x2 x3 xfr xz 
        obtain ⟨x0, x1, x2, x3, xfr, xz⟩ := hx3.four
        go_wp2_with (first | (at_builtin; go_must (refine wpList_app1 w3 rfl _ _ _ rfl w1.heap.size 58 i0 _ 4 32 Tryz.underlying60 hi hz0 hz1 hz2 rfl (by decide) (.slice none 0 0) _ _ rfl ho3 [.int .i64 xo, .int .i64 xf, .int .i64 xt, .bool xa] rfl rfl (by simp [Value.oneCell']) (by omega) (by decide) hB3.size _ rfl ?_); intro v3 w9 ho9 hg9 _))
        go_roundw
        case rel => exact ⟨k + 1, hlt, by go_num, LkOwn.snoc (l := []) (y := ⟨xo, xf, xt, xa⟩) (hn := by simp) ho9 (Hs.out.trans (by rfl)), below_grown hB3 hg9 hB3.size (fun k hk => (ho3.lt k hk).1)⟩
        case measure => simp [intOf]; omega

      · rcases List.eq_nil_or_concat os with rfl | ⟨r, y, rfl⟩
        · rw [List.length_nil] at hv
          subst hv
          go_wp2_with fail
          clear h0 h1 h2 h3
          have hB2 : Below w1.heap.size w1 (wr.alloc (.cells #[.int .i64 xo, .int .i64 xf, .int .i64 xt, .bool xa] 58)) := hB.alloc hB.size _
          have hx2 : Blk (wr.alloc (.cells #[.int .i64 xo, .int .i64 xf, .int .i64 xt, .bool xa] 58)) wr.heap.size 58 [.int .i64 xo, .int .i64 xf, .int .i64 xt, .bool xa] := Blk.new _ _ _
          have ho2 := own_alloc hown (.cells #[.int .i64 xo, .int .i64 xf, .int .i64 xt, .bool xa] 58)
          have hgx : w1.heap.size ≤ wr.heap.size := hB.size
          clear hB hown
          generalize wr.alloc (.cells #[.int .i64 xo, .int .i64 xf, .int .i64 xt, .bool xa] 58) = w2 at *
          generalize wr.heap.size = gx at *
          obtain ⟨x0, x1, x2, x3, xfr, xz⟩ := hx2.four

          refine wp_region_quiet_lit (by kernel_rfl) (by kernel_rfl) ?_
          repeat (first | go_big_quiet_step (fail) | quiet_step (fail))
          refine wpQuiet_nil ?_
          intro w3 hw'
          obtain ⟨nq, hw''⟩ := hw'
          have hB3 := below_drewN hB2 nq
          have hx3 := hx2.drewN nq
          have ho3 := own_drewN ho2 nq
          rw [← hw''] at hB3 hx3 ho3
          clear hw'' hB2 hx2 ho2 x0 x1 x2 x3 xfr xz 
          obtain ⟨x0, x1, x2, x3, xfr, xz⟩ := hx3.four
          go_wp2_with (first | (at_builtin; go_must (refine wpList_app1 w3 rfl _ _ _ rfl w1.heap.size 58 i0 _ 4 32 Tryz.underlying60 hi hz0 hz1 hz2 rfl (by decide) (.slice (some ⟨g', 0, none⟩) 0 cap') _ _ rfl ho3 [.int .i64 xo, .int .i64 xf, .int .i64 xt, .bool xa] rfl rfl (by simp [Value.oneCell']) (by omega) (by decide) hB3.size _ rfl ?_); intro v3 w9 ho9 hg9 _))
          go_roundw
          case rel => exact ⟨k + 1, hlt, by go_num, LkOwn.snoc (l := []) (y := ⟨xo, xf, xt, xa⟩) (hn := by simp) ho9 (Hs.out.trans (by rfl)), below_grown hB3 hg9 hB3.size (fun k hk => (ho3.lt k hk).1)⟩
          case measure => simp [intOf]; omega

        · obtain ⟨yo, yf, yt, ya⟩ := y
          simp only [List.concat_eq_append, List.length_append, List.length_cons, List.length_nil, Nat.zero_add] at *
          subst hv
          replace hown : wr.ownsRow w1.heap.size 58 4 (.slice (some ⟨g', 0, none⟩) (r.length + 1) cap') (r.length + 1) (Lk.flat (r ++ [⟨yo, yf, yt, ya⟩])) := by
            have := hown
            unfold LkOwn at this
            rw [List.length_append] at this
            exact this
          obtain ⟨l0, l1, l2, l3⟩ := flat_last r ⟨yo, yf, yt, ya⟩
          have l0 := (hown.cellAt (r.length * 4 + 0) (by omega)).trans l0
          have l1 := (hown.cellAt (r.length * 4 + 1) (by omega)).trans l1
          have l2 := (hown.cellAt (r.length * 4 + 2) (by omega)).trans l2
          have l3 := (hown.cellAt (r.length * 4 + 3) (by omega)).trans l3
          simp only [Nat.add_zero] at l0
          dsimp only at l0 l1 l2 l3
          rcases t0 : (yo == xo) with _ | _
          · go_wp2_with fail
            clear h0 h1 h2 h3
            have hB2 : Below w1.heap.size w1 (wr.alloc (.cells #[.int .i64 xo, .int .i64 xf, .int .i64 xt, .bool xa] 58)) := hB.alloc hB.size _
            have hx2 : Blk (wr.alloc (.cells #[.int .i64 xo, .int .i64 xf, .int .i64 xt, .bool xa] 58)) wr.heap.size 58 [.int .i64 xo, .int .i64 xf, .int .i64 xt, .bool xa] := Blk.new _ _ _
            have ho2 := own_alloc hown (.cells #[.int .i64 xo, .int .i64 xf, .int .i64 xt, .bool xa] 58)
            have hgx : w1.heap.size ≤ wr.heap.size := hB.size
            have l0 := (World.cell?_alloc_lt wr (.cells #[.int .i64 xo, .int .i64 xf, .int .i64 xt, .bool xa] 58) _ hgl).trans l0
            have l1 := (World.cell?_alloc_lt wr (.cells #[.int .i64 xo, .int .i64 xf, .int .i64 xt, .bool xa] 58) _ hgl).trans l1
            have l2 := (World.cell?_alloc_lt wr (.cells #[.int .i64 xo, .int .i64 xf, .int .i64 xt, .bool xa] 58) _ hgl).trans l2
            have l3 := (World.cell?_alloc_lt wr (.cells #[.int .i64 xo, .int .i64 xf, .int .i64 xt, .bool xa] 58) _ hgl).trans l3
            clear hB hown
            generalize wr.alloc (.cells #[.int .i64 xo, .int .i64 xf, .int .i64 xt, .bool xa] 58) = w2 at *
            generalize wr.heap.size = gx at *
            obtain ⟨x0, x1, x2, x3, xfr, xz⟩ := hx2.four
            refine wp_region_quiet_lit (by kernel_rfl) (by kernel_rfl) ?_
            repeat (first | go_big_quiet_step (fail) | quiet_step (fail))
            refine wpQuiet_nil ?_
            intro w3 hw'
            obtain ⟨nq, hw''⟩ := hw'
            have hB3 := below_drewN hB2 nq
            have hx3 := hx2.drewN nq
            have ho3 := own_drewN ho2 nq
            rw [← hw''] at hB3 hx3 ho3
            clear hw'' hB2 hx2 ho2 x0 x1 x2 x3 xfr xz l0 l1 l2 l3
            obtain ⟨x0, x1, x2, x3, xfr, xz⟩ := hx3.four
            go_wp2_with (first | (at_builtin; go_must (refine wpList_app1 w3 rfl _ _ _ rfl w1.heap.size 58 i0 _ 4 32 Tryz.underlying60 hi hz0 hz1 hz2 rfl (by decide) (.slice (some ⟨g', 0, none⟩) (r.length + 1) cap') _ _ rfl ho3 [.int .i64 xo, .int .i64 xf, .int .i64 xt, .bool xa] rfl rfl (by simp [Value.oneCell']) (by omega) (by decide) hB3.size _ rfl ?_); intro v3 w9 ho9 hg9 _))
            go_roundw
            case rel => exact ⟨k + 1, hlt, by go_num, LkOwn.snoc (l := r ++ [⟨yo, yf, yt, ya⟩]) (y := ⟨xo, xf, xt, xa⟩) (hn := by simp) ho9 (Hs.out.trans (by exact Lk.push_apart r ⟨yo, yf, yt, ya⟩ ⟨xo, xf, xt, xa⟩ (by simp [Lk.touch, t0]))), below_grown hB3 hg9 hB3.size (fun k hk => (ho3.lt k hk).1)⟩
            case measure => simp [intOf]; omega

          · rcases t1 : (yt == xf) with _ | _
            · go_wp2_with fail
              clear h0 h1 h2 h3
              have hB2 : Below w1.heap.size w1 (wr.alloc (.cells #[.int .i64 xo, .int .i64 xf, .int .i64 xt, .bool xa] 58)) := hB.alloc hB.size _
              have hx2 : Blk (wr.alloc (.cells #[.int .i64 xo, .int .i64 xf, .int .i64 xt, .bool xa] 58)) wr.heap.size 58 [.int .i64 xo, .int .i64 xf, .int .i64 xt, .bool xa] := Blk.new _ _ _
              have ho2 := own_alloc hown (.cells #[.int .i64 xo, .int .i64 xf, .int .i64 xt, .bool xa] 58)
              have hgx : w1.heap.size ≤ wr.heap.size := hB.size
              have l0 := (World.cell?_alloc_lt wr (.cells #[.int .i64 xo, .int .i64 xf, .int .i64 xt, .bool xa] 58) _ hgl).trans l0
              have l1 := (World.cell?_alloc_lt wr (.cells #[.int .i64 xo, .int .i64 xf, .int .i64 xt, .bool xa] 58) _ hgl).trans l1
              have l2 := (World.cell?_alloc_lt wr (.cells #[.int .i64 xo, .int .i64 xf, .int .i64 xt, .bool xa] 58) _ hgl).trans l2
              have l3 := (World.cell?_alloc_lt wr (.cells #[.int .i64 xo, .int .i64 xf, .int .i64 xt, .bool xa] 58) _ hgl).trans l3
              clear hB hown
              generalize wr.alloc (.cells #[.int .i64 xo, .int .i64 xf, .int .i64 xt, .bool xa] 58) = w2 at *
              generalize wr.heap.size = gx at *
              obtain ⟨x0, x1, x2, x3, xfr, xz⟩ := hx2.four
              refine wp_region_quiet_lit (by kernel_rfl) (by kernel_rfl) ?_
              repeat (first | go_big_quiet_step (fail) | quiet_step (fail))
              refine wpQuiet_nil ?_
              intro w3 hw'
              obtain ⟨nq, hw''⟩ := hw'
              have hB3 := below_drewN hB2 nq
              have hx3 := hx2.drewN nq
              have ho3 := own_drewN ho2 nq
              rw [← hw''] at hB3 hx3 ho3
              clear hw'' hB2 hx2 ho2 x0 x1 x2 x3 xfr xz l0 l1 l2 l3
              obtain ⟨x0, x1, x2, x3, xfr, xz⟩ := hx3.four
              go_wp2_with (first | (at_builtin; go_must (refine wpList_app1 w3 rfl _ _ _ rfl w1.heap.size 58 i0 _ 4 32 Tryz.underlying60 hi hz0 hz1 hz2 rfl (by decide) (.slice (some ⟨g', 0, none⟩) (r.length + 1) cap') _ _ rfl ho3 [.int .i64 xo, .int .i64 xf, .int .i64 xt, .bool xa] rfl rfl (by simp [Value.oneCell']) (by omega) (by decide) hB3.size _ rfl ?_); intro v3 w9 ho9 hg9 _))
              go_roundw
              case rel => exact ⟨k + 1, hlt, by go_num, LkOwn.snoc (l := r ++ [⟨yo, yf, yt, ya⟩]) (y := ⟨xo, xf, xt, xa⟩) (hn := by simp) ho9 (Hs.out.trans (by exact Lk.push_apart r ⟨yo, yf, yt, ya⟩ ⟨xo, xf, xt, xa⟩ (by simp [Lk.touch, t1]))), below_grown hB3 hg9 hB3.size (fun k hk => (ho3.lt k hk).1)⟩
              case measure => simp [intOf]; omega

            · rcases t2 : (ya == xa) with _ | _
              · go_wp2_with fail
                clear h0 h1 h2 h3
                have hB2 : Below w1.heap.size w1 (wr.alloc (.cells #[.int .i64 xo, .int .i64 xf, .int .i64 xt, .bool xa] 58)) := hB.alloc hB.size _
                have hx2 : Blk (wr.alloc (.cells #[.int .i64 xo, .int .i64 xf, .int .i64 xt, .bool xa] 58)) wr.heap.size 58 [.int .i64 xo, .int .i64 xf, .int .i64 xt, .bool xa] := Blk.new _ _ _
                have ho2 := own_alloc hown (.cells #[.int .i64 xo, .int .i64 xf, .int .i64 xt, .bool xa] 58)
                have hgx : w1.heap.size ≤ wr.heap.size := hB.size
                have l0 := (World.cell?_alloc_lt wr (.cells #[.int .i64 xo, .int .i64 xf, .int .i64 xt, .bool xa] 58) _ hgl).trans l0
                have l1 := (World.cell?_alloc_lt wr (.cells #[.int .i64 xo, .int .i64 xf, .int .i64 xt, .bool xa] 58) _ hgl).trans l1
                have l2 := (World.cell?_alloc_lt wr (.cells #[.int .i64 xo, .int .i64 xf, .int .i64 xt, .bool xa] 58) _ hgl).trans l2
                have l3 := (World.cell?_alloc_lt wr (.cells #[.int .i64 xo, .int .i64 xf, .int .i64 xt, .bool xa] 58) _ hgl).trans l3
                clear hB hown
                generalize wr.alloc (.cells #[.int .i64 xo, .int .i64 xf, .int .i64 xt, .bool xa] 58) = w2 at *
                generalize wr.heap.size = gx at *
                obtain ⟨x0, x1, x2, x3, xfr, xz⟩ := hx2.four
                refine wp_region_quiet_lit (by kernel_rfl) (by kernel_rfl) ?_
                repeat (first | go_big_quiet_step (fail) | quiet_step (fail))
                refine wpQuiet_nil ?_
                intro w3 hw'
                obtain ⟨nq, hw''⟩ := hw'
                have hB3 := below_drewN hB2 nq
                have hx3 := hx2.drewN nq
                have ho3 := own_drewN ho2 nq
                rw [← hw''] at hB3 hx3 ho3
                clear hw'' hB2 hx2 ho2 x0 x1 x2 x3 xfr xz l0 l1 l2 l3
                obtain ⟨x0, x1, x2, x3, xfr, xz⟩ := hx3.four
                go_wp2_with (first | (at_builtin; go_must (refine wpList_app1 w3 rfl _ _ _ rfl w1.heap.size 58 i0 _ 4 32 Tryz.underlying60 hi hz0 hz1 hz2 rfl (by decide) (.slice (some ⟨g', 0, none⟩) (r.length + 1) cap') _ _ rfl ho3 [.int .i64 xo, .int .i64 xf, .int .i64 xt, .bool xa] rfl rfl (by simp [Value.oneCell']) (by omega) (by decide) hB3.size _ rfl ?_); intro v3 w9 ho9 hg9 _))
                go_roundw
                case rel => exact ⟨k + 1, hlt, by go_num, LkOwn.snoc (l := r ++ [⟨yo, yf, yt, ya⟩]) (y := ⟨xo, xf, xt, xa⟩) (hn := by simp) ho9 (Hs.out.trans (by exact Lk.push_apart r ⟨yo, yf, yt, ya⟩ ⟨xo, xf, xt, xa⟩ (by simp [Lk.touch, t2]))), below_grown hB3 hg9 hB3.size (fun k hk => (ho3.lt k hk).1)⟩
                case measure => simp [intOf]; omega

              · go_wp2_with fail
                clear h0 h1 h2 h3
                have hB2 : Below w1.heap.size w1 (wr.alloc (.cells #[.int .i64 xo, .int .i64 xf, .int .i64 xt, .bool xa] 58)) := hB.alloc hB.size _
                have hx2 : Blk (wr.alloc (.cells #[.int .i64 xo, .int .i64 xf, .int .i64 xt, .bool xa] 58)) wr.heap.size 58 [.int .i64 xo, .int .i64 xf, .int .i64 xt, .bool xa] := Blk.new _ _ _
                have ho2 := own_alloc hown (.cells #[.int .i64 xo, .int .i64 xf, .int .i64 xt, .bool xa] 58)
                have hgx : w1.heap.size ≤ wr.heap.size := hB.size
                have l0 := (World.cell?_alloc_lt wr (.cells #[.int .i64 xo, .int .i64 xf, .int .i64 xt, .bool xa] 58) _ hgl).trans l0
                have l1 := (World.cell?_alloc_lt wr (.cells #[.int .i64 xo, .int .i64 xf, .int .i64 xt, .bool xa] 58) _ hgl).trans l1
                have l2 := (World.cell?_alloc_lt wr (.cells #[.int .i64 xo, .int .i64 xf, .int .i64 xt, .bool xa] 58) _ hgl).trans l2
                have l3 := (World.cell?_alloc_lt wr (.cells #[.int .i64 xo, .int .i64 xf, .int .i64 xt, .bool xa] 58) _ hgl).trans l3
                clear hB hown
                generalize wr.alloc (.cells #[.int .i64 xo, .int .i64 xf, .int .i64 xt, .bool xa] 58) = w2 at *
                generalize wr.heap.size = gx at *
                obtain ⟨x0, x1, x2, x3, xfr, xz⟩ := hx2.four
                refine wp_region_quiet_lit (by kernel_rfl) (by kernel_rfl) ?_
                repeat (first | go_big_quiet_step (fail) | quiet_step (fail))
                refine wpQuiet_nil ?_
                intro w3 hw'
                obtain ⟨nq, hw''⟩ := hw'
                have hB3 := below_drewN hB2 nq
                have hx3 := hx2.drewN nq
                have ho3 := own_drewN ho2 nq
                rw [← hw''] at hB3 hx3 ho3
                clear hw'' hB2 hx2 ho2 x0 x1 x2 x3 xfr xz l0 l1 l2 l3
                obtain ⟨x0, x1, x2, x3, xfr, xz⟩ := hx3.four
                have hfz : w3.frozen? ⟨g', r.length * 4 + 2, none⟩ = false := ho3.frozenAt _
                have hcl : w3.cell? ⟨g', r.length * 4 + 2, none⟩ = some (.int .i64 yt) := (ho3.cellAt _ (by omega)).trans (flat_last r ⟨yo, yf, yt, ya⟩).2.2.1
                go_wp2_with fail
                go_roundw
                case rel =>
                  obtain ⟨s1, s2⟩ := ho3.stored (r.length * 4 + 2) (.int .i64 xt)
                  refine ⟨k + 1, hlt, by go_num, ?_, hB3.grown s2 hB3.size (fun k hk => by cases hk; exact hbg)⟩
                  rw [Hs.out, Lk.push_touch r ⟨yo, yf, yt, ya⟩ ⟨xo, xf, xt, xa⟩ (by simp only [Lk.touch, Bool.and_eq_true]; exact ⟨⟨t0, t1⟩, t2⟩)]
                  exact LkOwn.last s1
                case measure => simp [intOf]; omega

    · go_wp2_with fail
      go_ret
      have e : l'.take k = l' := List.take_of_length_le (by omega)
      rw [e] at hown
      exact ⟨_, l', rfl, Hp.out, Hs0.out, own_base hown hbase, grown_of_below Hg.out hB⟩

end Go.Proofs.YtjppfhgkanbemacGreatDoor

namespace Go.Proofs.YtjppfhgkanbemacGreatDoor
open Go.RowKit

theorem leave1_any (g : Nat) (x : Lk) (ow : Int) (w : World) (hx : w.cell? ⟨g, 0, none⟩ = some (.int .i64 ow)) (hg : g < w.heap.size) :
    Calls Tryz.prog 134 #[.agg #[.int .i64 x.o, .int .i64 x.f, .int .i64 x.t, .bool x.a], .pointer (some ⟨g, 0, none⟩)] w fun e w' => e = .returned (.bool (x.o == ow)) ∧ Below w.heap.size w w' := by
  obtain ⟨xo, xf, xt, xa⟩ := x
  dsimp only
  go_enter Tryz.func134, Tryz.ntmps134
  go_wp2_with fail
  go_ret
  exact ⟨rfl, (Below.refl _ _).alloc (Nat.le_refl _) _⟩

theorem flat_one {l : List Lk} {u : Value} (h : u ∈ Lk.flat l) : u.oneCell' = true := by
  simp only [Lk.flat, List.mem_flatMap, Lk.cells, List.mem_cons, List.mem_nil_iff, or_false] at h
  obtain ⟨x, _, rfl | rfl | rfl | rfl⟩ := h <;> rfl
theorem rd_add {w : World} {B size n : Nat} {ad : Addr} {xs : List Value} (h : Rd w B size (some ad) n xs) {j : Nat} {u : Value} (hu : xs[j]? = some u) {w' : World} (hw : w' = w.alloc (.cells #[] 58)) (hB : B ≤ w.heap.size) : w'.cell? (ad.add j) = some u := by
  have hj : j < xs.length := by
    rcases Nat.lt_or_ge j xs.length with h0 | h0
    · exact h0
    · rw [List.getElem?_eq_none h0] at hu; cases hu
  have hn : 0 < n := by
    rcases Nat.eq_zero_or_pos n with h0 | h0
    · have := h.1; rw [h0] at this; omega
    · exact h0
  obtain ⟨b, o, e, hb, hc⟩ := h.2 hn
  cases e
  have ha : (⟨b, o, none⟩ : Addr).add j = ⟨b, o + j, none⟩ := by
    unfold Addr.add
    split
    · rename_i h0; subst h0; rfl
    · rfl
  rw [ha, hw, World.cell?_alloc_lt _ _ _ (by show b < w.heap.size; omega)]
  exact hc j u hu

theorem clone_any (A : Option Addr) (c : Nat) (l : List Lk) (w : World) (hl : LkRd w w.heap.size A l) (hn : l.length ≤ 2000000) :
    Calls Tryz.prog 133 #[.slice A l.length c] w fun e w' => ∃ v, e = .returned v ∧ LkOwn w' w.heap.size v l ∧ Below w.heap.size w w' := by
  obtain ⟨i0, hi, hz0, hz1, hz2⟩ := info_parts info_lk
  have hnil := fun W n k => Lib.run_eql_slice_nil (P := Tryz.prog) W 60 58 A n k 0 0 Tryz.underlying60
  rcases A with _ | ad
  · have h0 : l.length = 0 := by
      rcases Nat.eq_zero_or_pos l.length with h | h
      · exact h
      · obtain ⟨b, o, e, _⟩ := hl.2 h; cases e
    have hl0 : l = [] := List.eq_nil_of_length_eq_zero h0
    subst hl0
    simp only [Option.isNone_none] at hnil
    go_enter Tryz.func133, Tryz.ntmps133
    go_wp2_with fail
    go_ret
    exact ⟨_, rfl, World.ownsRow_nil _ _ _ _, Below.refl _ _⟩
  · simp only [Option.isNone_some] at hnil
    go_enter Tryz.func133, Tryz.ntmps133
    go_wp2_with (first
      | (at_builtin; go_must (refine wpList_append_own _ rfl _ _ _ rfl w.heap.size 58 i0 _ 4 32 Tryz.underlying60 hi hz0 hz1 hz2 rfl (by decide) (.slice (some ⟨w.heap.size, 0, none⟩) 0 0) 0 [] rfl (World.ownsRow_lit (e := 58) (size := 4) w #[] 0 (Nat.le_refl _) (by decide) rfl) ad l.length c (Lk.flat l) rfl (by exact hl.1) (by intro j u hu; exact rd_add hl hu rfl (Nat.le_refl _)) (by intro u hu; exact flat_one hu) (by unfold maxLen; omega) (by omega) (by simp) ?_); intro v1 w1 ho1 hg1 _))
    go_ret
    refine ⟨_, rfl, by simpa [LkOwn] using ho1, below_grown ((Below.refl _ _).alloc (Nat.le_refl _) _) hg1 (by simp) (fun k hk => by simp [Value.ownBlock] at hk; omega)⟩

/-- The place of the first element of which p is true. -/
def IdxRel {α : Type} (p : α → Bool) (l : List α) (i : Int) : Prop :=
  (i = -1 ∧ ∀ x ∈ l, p x = false) ∨ ∃ k : Nat, i = k ∧ ∃ hk : k < l.length, p l[k] = true ∧ ∀ x ∈ l.take k, p x = false

set_option maxHeartbeats 800000 in
theorem indexL_any (A : Option Addr) (c g : Nat) (l : List Lk) (ow : Int) (w : World) (hl : LkRd w w.heap.size A l) (hbig : l.length ≤ 9223372036854775807) (hx : w.cell? ⟨g, 0, none⟩ = some (.int .i64 ow)) (hg : g < w.heap.size) :
    Calls Tryz.prog 63 #[.slice A l.length c, .func (.func 134) #[] #[.pointer (some ⟨g, 0, none⟩)]] w fun e w' => ∃ i : Int, e = .returned (.int .i64 i) ∧ IdxRel (fun x : Lk => x.o == ow) l i ∧ Below w.heap.size w w' := by
  go_enter Tryz.func63, Tryz.ntmps63
  go_wp2
  go_loopw [8] (fun i wr => ∃ k : Nat, k ≤ l.length ∧ i = .int .i64 k ∧ Hid (∀ x ∈ l.take k, (x.o == ow) = false) ∧ Below w.heap.size w wr) (fun i _ => l.length - (intOf i).toNat)
  case atStart => exact ⟨0, Nat.zero_le _, rfl, (show ∀ x ∈ l.take 0, (x.o == ow) = false by simp), Below.refl _ _⟩
  case round =>
    obtain ⟨k, hk, rfl, hno, hB⟩ := hrel
    by_cases hlt : k < l.length
    · obtain ⟨b, o, rfl, hb, h0, h1, h2, h3⟩ := (LkRd.at_ (hl.below hB) hlt)
      have hbx : wr.cell? ⟨g, 0, none⟩ = some (.int .i64 ow) := (hB.cell hg).trans hx
      have hgz : g < wr.heap.size := Nat.lt_of_lt_of_le hg hB.size
      have Hst : Hid (∀ y, l[k] = y → (y.o == ow) = false → ∀ x ∈ l.take (k + 1), (x.o == ow) = false) := by
        intro y hy h x hx
        rw [List.take_succ_eq_append_getElem hlt, List.mem_append] at hx
        rcases hx with hx | hx
        · exact hno.out x hx
        · simp at hx; rw [hx, hy]; exact h
      have Hfd : Hid (∀ y, l[k] = y → (y.o == ow) = true → IdxRel (fun x : Lk => x.o == ow) l k) := fun y hy h => .inr ⟨k, rfl, hlt, by rw [hy]; exact h, hno.out⟩
      generalize hy : l[k] = y at h0 h1 h2 h3
      have Hy := Lib.hid hy
      clear hy
      go_wp2_with fail
      refine (leave1_any g y ow _ hbx hgz).mono ?_
      rintro e w1 ⟨rfl, hb1⟩
      have hB1 := hB.trans (hb1.mono hB.size)
      rcases hc : (y.o == ow) with _ | _
      · go_wp2_with fail
        go_roundw
        case rel => exact ⟨k + 1, hlt, by go_num, Hst.out y Hy.out hc, hB1⟩
        case measure => simp [intOf]; omega
      · go_wp2_with fail
        go_ret
        exact ⟨_, rfl, Hfd.out y Hy.out hc, hB1⟩
    · go_wp2_with fail
      go_ret
      refine ⟨_, rfl, .inl ⟨rfl, ?_⟩, hB⟩
      have := hno.out
      rw [List.take_of_length_le (by omega)] at this
      exact this

/-- What DeleteFunc's loop has come to: the row r, i elements kept out of the first j. -/
structure DelInv {α : Type} (p : α → Bool) (l r : List α) (i j : Nat) : Prop where
  len : r.length = l.length
  lt : i < j
  le : j ≤ l.length
  kept : r.take i = (l.take j).filter fun x => !p x
  rest : r.drop j = l.drop j

section
variable {α : Type} {p : α → Bool} {l r : List α} {i j : Nat}
theorem DelInv.start {k : Nat} (hk : k < l.length) (hp : p l[k] = true) (hno : ∀ x ∈ l.take k, p x = false) : DelInv p l l k (k + 1) := by
  refine ⟨rfl, by omega, hk, ?_, rfl⟩
  rw [List.take_succ_eq_append_getElem hk, List.filter_append]
  have e : (l.take k).filter (fun x => !p x) = l.take k := by
    rw [List.filter_eq_self]
    intro x hx
    simp [hno x hx]
  rw [e]
  simp [hp]
theorem DelInv.at_ (h : DelInv p l r i j) (hj : j < l.length) : r[j]'(by rw [h.len]; exact hj) = l[j] := by
  have := congrArg (fun q => q[0]?) h.rest
  simp only [List.getElem?_drop, Nat.add_zero] at this
  rw [List.getElem?_eq_getElem (by rw [h.len]; exact hj), List.getElem?_eq_getElem hj] at this
  injection this
theorem DelInv.skip (h : DelInv p l r i j) (hj : j < l.length) {x : α} (hx : l[j] = x) (hp : p x = true) : DelInv p l r i (j + 1) := by
  refine ⟨h.len, by have := h.lt; omega, hj, ?_, ?_⟩
  · rw [h.kept, List.take_succ_eq_append_getElem hj, List.filter_append, hx]
    simp [hp]
  · rw [← List.drop_drop, h.rest, List.drop_drop]
theorem DelInv.keep (h : DelInv p l r i j) (hj : j < l.length) {x : α} (hx : l[j] = x) (hp : p x = false) : DelInv p l (r.set i x) (i + 1) (j + 1) := by
  have hi : i < r.length := by rw [h.len]; have := h.lt; omega
  refine ⟨by rw [List.length_set]; exact h.len, by have := h.lt; omega, hj, ?_, ?_⟩
  · rw [List.take_succ_eq_append_getElem (by rw [List.length_set]; exact hi), List.take_succ_eq_append_getElem hj, List.filter_append, hx, ← h.kept, List.take_set_of_le (Nat.le_refl _)]
    simp [hp]
  · rw [List.drop_set_of_lt (by have := h.lt; omega), ← List.drop_drop, h.rest, List.drop_drop]
theorem DelInv.done (h : DelInv p l r i l.length) : r.take i = l.filter fun x => !p x := by
  rw [h.kept, List.take_length]
end
theorem flat_set (r : List Lk) (i : Nat) (hi : i < r.length) (x : Lk) :
    (((((Lk.flat r).set (i * 4) (.int .i64 x.o)).set (i * 4 + 1) (.int .i64 x.f)).set (i * 4 + 2) (.int .i64 x.t)).set (i * 4 + 3) (.bool x.a)) = Lk.flat (r.set i x) := by
  induction r generalizing i with
  | nil => simp at hi
  | cons y r ih =>
    have e : Lk.flat (y :: r) = [.int .i64 y.o, .int .i64 y.f, .int .i64 y.t, .bool y.a] ++ Lk.flat r := rfl
    rw [e]
    rcases i with _ | i
    · rfl
    · rw [List.set_cons_succ, show Lk.flat (y :: r.set i x) = [.int .i64 y.o, .int .i64 y.f, .int .i64 y.t, .bool y.a] ++ Lk.flat (r.set i x) from rfl, ← ih i (by simpa using hi)]
      have a : ∀ q, (i + 1) * 4 + q = (i * 4 + q) + 4 := fun q => by omega
      rw [show (i + 1) * 4 = i * 4 + 4 from by omega]
      simp only [Nat.add_right_comm _ 4]
      rfl
theorem flat_take (r : List Lk) (i : Nat) : (Lk.flat r).take (i * 4) = Lk.flat (r.take i) := by
  induction r generalizing i with
  | nil => simp [Lk.flat]
  | cons y r ih =>
    rcases i with _ | i
    · simp [Lk.flat]
    · have e : Lk.flat (y :: r) = [.int .i64 y.o, .int .i64 y.f, .int .i64 y.t, .bool y.a] ++ Lk.flat r := rfl
      rw [List.take_succ_cons, e, show Lk.flat (y :: r.take i) = [.int .i64 y.o, .int .i64 y.f, .int .i64 y.t, .bool y.a] ++ Lk.flat (r.take i) from rfl, ← ih i, show (i + 1) * 4 = i * 4 + 4 from by omega]
      rfl

theorem idx_none {l : List Lk} {ow : Int} (h : ∀ x ∈ l, (x.o == ow) = false) : l.filter (fun x => !(x.o == ow)) = l := by
  rw [List.filter_eq_self]
  intro x hx
  simp only [h x hx]
  rfl

theorem zero_lk : ∀ w, (zeroValue 58).run Tryz.prog w = .ok (.agg #[.int .i64 0, .int .i64 0, .int .i64 0, .bool false]) w := fun w => by kernel_rfl

set_option maxHeartbeats 1600000 in
theorem deleteL_any (base g cap gb : Nat) (l : List Lk) (ow : Int) (w : World) (ho : LkOwn w base (.slice (some ⟨g, 0, none⟩) l.length cap) l) (hbig : l.length ≤ 2000000) (hx : w.cell? ⟨gb, 0, none⟩ = some (.int .i64 ow)) (hgb : gb < w.heap.size) (hne : gb ≠ g) :
    Calls Tryz.prog 132 #[.slice (some ⟨g, 0, none⟩) l.length cap, .func (.func 134) #[] #[.pointer (some ⟨gb, 0, none⟩)]] w fun e w' => ∃ v, e = .returned v ∧ LkOwn w' base v (l.filter fun x => !(x.o == ow)) ∧ w.grownBy w' (some g) := by
  have hl : LkRd w w.heap.size (some ⟨g, 0, none⟩) l := Rd.of_own ho
  have hcap : l.length ≤ cap := by
    rcases own_shape ho with ⟨h, _⟩ | ⟨g', c', h, _, _, hc⟩
    · cases h
    · injection h with _ _ h; rw [h]; exact hc
  go_enter Tryz.func132, Tryz.ntmps132
  go_wp2_with fail
  refine (indexL_any _ cap gb l ow w hl (by omega) hx hgb).mono ?_
  rintro e w1 ⟨i, rfl, hi, hb⟩
  have ho1 := own_below ho hb (Nat.le_refl _)
  have hg1 : w.grownBy w1 (some g) := grown_of_below (World.grownBy.refl w _) hb
  have hx1 : w1.cell? ⟨gb, 0, none⟩ = some (.int .i64 ow) := (hb.cell hgb).trans hx
  have hz1 : gb < w1.heap.size := Nat.lt_of_lt_of_le hgb hb.size
  clear hx hgb hb hl ho
  rcases hi with ⟨rfl, hno⟩ | ⟨k, rfl, hk, hp, hno⟩
  · have Hn := Lib.hid (idx_none hno)
    clear hno
    go_wp2_with fail
    go_ret
    exact ⟨_, rfl, by rw [Hn.out]; exact ho1, hg1⟩
  · have Hd := Lib.hid (DelInv.start (p := (fun x : Lk => x.o == ow)) hk hp hno)
    clear hp hno
    have hk1 : ((k : Int) == -1) = false := by simp
    go_wp2_with fail
    go_loopw [5, 6] (fun vi vj wr => ∃ (i j : Nat) (r : List Lk), vi = .int .i64 i ∧ vj = .int .i64 j ∧ j ≤ l.length ∧ i < l.length ∧ Hid (DelInv (fun x : Lk => x.o == ow) l r i j) ∧ wr.ownsRow base 58 4 (.slice (some ⟨g, 0, none⟩) l.length cap) l.length (Lk.flat r) ∧ w.grownBy wr (some g) ∧ wr.cell? ⟨gb, 0, none⟩ = some (.int .i64 ow) ∧ gb < wr.heap.size) (fun _ j _ => l.length - (intOf j).toNat)
    case atStart => exact ⟨k, k + 1, l, rfl, by go_num, hk, hk, Hd, ho1, hg1, hx1, hz1⟩
    case round =>
      clear Hd ho1 hg1 hx1 hz1 hk1 hk
      obtain ⟨i, j, r, rfl, rfl, hjl, hil, Hd, hor, hgr, hxr, hzr⟩ := hrel
      by_cases hj : j < l.length
      · have hrl : j < r.length := by rw [Hd.out.len]; exact hj
        have Hr := Lib.hid (Hd.out.at_ hj)
        obtain ⟨f0, f1, f2, f3⟩ := flat_at r j hrl
        have h0 := (hor.cellAt (j * 4 + 0) (by omega)).trans f0
        have h1 := (hor.cellAt (j * 4 + 1) (by omega)).trans f1
        have h2 := (hor.cellAt (j * 4 + 2) (by omega)).trans f2
        have h3 := (hor.cellAt (j * 4 + 3) (by omega)).trans f3
        clear f0 f1 f2 f3
        simp only [Nat.add_zero] at h0
        generalize hy : r[j] = y at *
        have Hl := Lib.hid (Hr.out.symm)
        clear hy Hr
        obtain ⟨yo, yf, yt, ya⟩ := y
        dsimp only at h0 h1 h2 h3
        have hgz : g < wr.heap.size := by rcases own_shape hor with ⟨hh, _⟩ | ⟨g', c', hh, _, hz, _⟩; · cases hh
                                          · injection hh with hh; injection hh with hh; injection hh with hh; rw [hh]; exact hz
        go_wp2_with fail
        clear h0 h1 h2 h3
        have ho2 := own_alloc hor (.cells #[.int .i64 yo, .int .i64 yf, .int .i64 yt, .bool ya] 58)
        have hg2 := grown_alloc hgr (.cells #[.int .i64 yo, .int .i64 yf, .int .i64 yt, .bool ya] 58)
        have hx2 := (World.cell?_alloc_lt wr (.cells #[.int .i64 yo, .int .i64 yf, .int .i64 yt, .bool ya] 58) ⟨gb, 0, none⟩ hzr).trans hxr
        have hz2 : gb < (wr.alloc (.cells #[.int .i64 yo, .int .i64 yf, .int .i64 yt, .bool ya] 58)).heap.size := by simp; omega
        have hy2 : Blk (wr.alloc (.cells #[.int .i64 yo, .int .i64 yf, .int .i64 yt, .bool ya] 58)) wr.heap.size 58 [.int .i64 yo, .int .i64 yf, .int .i64 yt, .bool ya] := Blk.new _ _ _
        clear hor hgr hxr hzr
        generalize wr.alloc (.cells #[.int .i64 yo, .int .i64 yf, .int .i64 yt, .bool ya] 58) = w2 at *
        generalize wr.heap.size = gy at *
        refine (leave1_any gb ⟨yo, yf, yt, ya⟩ ow _ hx2 hz2).mono ?_
        rintro e w3 ⟨rfl, hb⟩
        have ho3 := own_below ho2 hb (Nat.le_refl _)
        have hg3 := grown_of_below hg2 hb
        have hx3 := (hb.cell (p := ⟨gb, 0, none⟩) hz2).trans hx2
        have hz3 := Nat.lt_of_lt_of_le hz2 hb.size
        have hy3 := hy2.below hb hy2.lt
        clear ho2 hg2 hx2 hz2 hy2 hb
        obtain ⟨y0, y1, y2, y3, yfr, yz⟩ := hy3.four
        dsimp only
        rcases hc : (yo == ow) with _ | _
        · have q0 : i * 4 < l.length * 4 := by omega
          have hil4 : i * 4 + 3 < (Lk.flat r).length := by rw [flat_len, Hd.out.len]; omega
          have c0 : ∃ u, w3.cell? ⟨g, i * 4, none⟩ = some u := ⟨_, (ho3.cellAt _ (by omega)).trans (List.getElem?_eq_getElem (by omega))⟩
          have c1 : ∃ u, w3.cell? ⟨g, i * 4 + 1, none⟩ = some u := ⟨_, (ho3.cellAt _ (by omega)).trans (List.getElem?_eq_getElem (by omega))⟩
          have c2 : ∃ u, w3.cell? ⟨g, i * 4 + 2, none⟩ = some u := ⟨_, (ho3.cellAt _ (by omega)).trans (List.getElem?_eq_getElem (by omega))⟩
          have c3 : ∃ u, w3.cell? ⟨g, i * 4 + 3, none⟩ = some u := ⟨_, (ho3.cellAt _ (by omega)).trans (List.getElem?_eq_getElem (by omega))⟩
          obtain ⟨u0, c0⟩ := c0
          obtain ⟨u1, c1⟩ := c1
          obtain ⟨u2, c2⟩ := c2
          obtain ⟨u3, c3⟩ := c3
          have fz : ∀ q, w3.frozen? ⟨g, q, none⟩ = false := fun q => ho3.frozenAt q
          clear hil4
          go_wp2_with fail
          go_roundw
          case rel =>
            obtain ⟨o4, g4⟩ := own_four ho3 (i * 4) (.int .i64 yo) (.int .i64 yf) (.int .i64 yt) (.bool ya)
            rw [flat_set r i (by rw [Hd.out.len]; exact hil) ⟨yo, yf, yt, ya⟩] at o4
            have hd := Hd.out.keep hj Hl.out hc
            have hfar : ∀ (W : World) q (u : Value), (W.setCell ⟨g, q, none⟩ u).cell? ⟨gb, 0, none⟩ = W.cell? ⟨gb, 0, none⟩ := fun W q u => World.cell?_setCell_other W ⟨g, q, none⟩ ⟨gb, 0, none⟩ u (by intro h; injection h with h; omega)
            exact ⟨i + 1, j + 1, _, by go_num, by go_num, by omega, by have := hd.lt; omega, hd, o4, grown_trans_row hg3 g4, by rw [hfar, hfar, hfar, hfar]; exact hx3, Nat.lt_of_lt_of_le hz3 g4.size⟩
          case measure => simp [intOf]; omega
        · go_wp2_with fail
          go_roundw
          case rel => exact ⟨i, j + 1, r, rfl, by go_num, by omega, hil, Hd.out.skip hj Hl.out hc, ho3, hg3, hx3, hz3⟩
          case measure => simp [intOf]; omega
      · have ej : j = l.length := by omega
        subst ej
        have hic : i ≤ cap := by omega
        obtain ⟨w9, hrun, ho9, hg9⟩ := run_clear_own (P := Tryz.prog) (size := 4) 60 0 (.agg #[.int .i64 0, .int .i64 0, .int .i64 0, .bool false]) Tryz.underlying60 zero_lk rfl (by simp [Value.cells, Value.oneCell']) hor i (cap - i) (some ⟨g, i * 4, none⟩) (by omega) (fun _ => rfl)
        go_wp2_with fail
        go_ret
        refine ⟨_, rfl, ?_, grown_trans_row hgr hg9⟩
        rw [flat_take] at ho9
        have hd := Hd.out.done
        have hli : (l.filter fun x => !(x.o == ow)).length = i := by
          rw [← hd, List.length_take, Hd.out.len]
          omega
        unfold LkOwn
        rw [hli, ← hd]
        exact ho9

theorem deleteL_nil (gb : Nat) (ow : Int) (w : World) (hx : w.cell? ⟨gb, 0, none⟩ = some (.int .i64 ow)) (hgb : gb < w.heap.size) :
    Calls Tryz.prog 132 #[.slice none 0 0, .func (.func 134) #[] #[.pointer (some ⟨gb, 0, none⟩)]] w fun e w' => e = .returned (.slice none 0 0) ∧ Below w.heap.size w w' := by
  go_enter Tryz.func132, Tryz.ntmps132
  go_wp2_with fail
  refine (indexL_any none 0 gb [] ow w Rd.nil (by simp) hx hgb).mono ?_
  rintro e w1 ⟨i, rfl, hi, hb⟩
  rcases hi with ⟨rfl, _⟩ | ⟨k, rfl, hk, _⟩
  · go_wp2_with fail
    go_ret
    exact ⟨rfl, hb⟩
  · simp at hk

theorem leaveL_any (A : Option Addr) (c : Nat) (l : List Lk) (ow : Int) (w : World) (hl : LkRd w w.heap.size A l) (hn : l.length ≤ 2000000) :
    Calls Tryz.prog 100 #[.slice A l.length c, .int .i64 ow] w fun e w' => ∃ v, e = .returned v ∧ LkOwn w' w.heap.size v (Lk.leave l ow) ∧ Below w.heap.size w w' := by
  go_enter Tryz.func100, Tryz.ntmps100
  go_wp2_with fail
  have hB1 : Below w.heap.size w (w.alloc (.cells #[.int .i64 ow] 3)) := (Below.refl _ _).alloc (Nat.le_refl _) _
  have hb1 : Blk (w.alloc (.cells #[.int .i64 ow] 3)) w.heap.size 3 [.int .i64 ow] := Blk.new _ _ _
  generalize w.alloc (.cells #[.int .i64 ow] 3) = w1 at *
  refine (clone_any A c l w1 ((hl.below hB1).more hB1.size) hn).mono ?_
  rintro e w2 ⟨v, rfl, ho, hb⟩
  have hB2 := hB1.trans (hb.mono hB1.size)
  have hb2 := hb1.below hb hb1.lt
  have hz := hb1.lt
  clear hb hb1 hB1
  rcases own_shape ho with ⟨hv, h0⟩ | ⟨g, cap, hv, hbg, _, _⟩
  · subst hv
    have e : l = [] := List.eq_nil_of_length_eq_zero h0
    subst e
    go_wp2_with fail
    refine (deleteL_nil w.heap.size ow w2 (hb2.cell 0) hb2.lt).mono ?_
    rintro e w3 ⟨rfl, hb⟩
    go_wp2_with fail
    go_ret
    exact ⟨_, rfl, World.ownsRow_nil _ _ _ _, hB2.trans (hb.mono hB2.size)⟩
  · subst hv
    go_wp2_with fail
    refine (deleteL_any w1.heap.size g cap w.heap.size l ow w2 ho hn (hb2.cell 0) hb2.lt (by omega)).mono ?_
    rintro e w3 ⟨v, rfl, ho3, hg3⟩
    go_wp2_with fail
    go_ret
    exact ⟨_, rfl, own_base ho3 (by omega), below_grown hB2 hg3 hB2.size (fun k hk => by cases hk; omega)⟩

end Go.Proofs.YtjppfhgkanbemacGreatDoor

namespace Go.Proofs.YtjppfhgkanbemacGreatDoor
open Go.RowKit

theorem Blk.lkAt {w : World} {g : Nat} {t : TypeId} {xo xf xt : Int} {xa : Bool} (h : Blk w g t [.int .i64 xo, .int .i64 xf, .int .i64 xt, .bool xa]) : LkAt w g 0 ⟨xo, xf, xt, xa⟩ :=
  ⟨h.cell 0, h.cell 1, h.cell 2, h.cell 3⟩

theorem wrong1_any (g : Nat) (y x : Lk) (w : World) (hx : Blk w g 58 [.int .i64 x.o, .int .i64 x.f, .int .i64 x.t, .bool x.a]) :
    Calls Tryz.prog 47 #[.agg #[.int .i64 y.o, .int .i64 y.f, .int .i64 y.t, .bool y.a], .pointer (some ⟨g, 0, none⟩)] w fun e w' => e = .returned (.bool (Lk.clash y x)) ∧ Below w.heap.size w w' := by
  obtain ⟨xo, xf, xt, xa⟩ := x
  obtain ⟨yo, yf, yt, ya⟩ := y
  obtain ⟨x0, x1, x2, x3, xfr, xz⟩ := hx.four
  dsimp only at *
  go_enter Tryz.func47, Tryz.ntmps47
  go_wp2_with fail
  refine (clash_any _ _ _ _ ⟨yo, yf, yt, ya⟩ ⟨xo, xf, xt, xa⟩ _ ⟨by go_simp, by go_simp, by go_simp, by go_simp⟩ ⟨by go_simp, by go_simp, by go_simp, by go_simp⟩).mono ?_
  rintro e w' ⟨rfl, nq, rfl⟩
  go_wp2_with fail
  go_ret
  exact ⟨rfl, below_drewN ((Below.refl _ _).alloc (Nat.le_refl _) _) _⟩

set_option maxHeartbeats 800000 in
theorem indexW_any (A : Option Addr) (n c g : Nat) (l : List Lk) (x : Lk) (w : World) (hl : LkRd w w.heap.size A l) (hn : n ≤ l.length) (hbig : n ≤ 9223372036854775807) (hx : Blk w g 58 [.int .i64 x.o, .int .i64 x.f, .int .i64 x.t, .bool x.a]) :
    Calls Tryz.prog 63 #[.slice A n c, .func (.func 47) #[] #[.pointer (some ⟨g, 0, none⟩)]] w fun e w' => ∃ i : Int, e = .returned (.int .i64 i) ∧ (0 ≤ i ↔ (l.take n).any (fun y => Lk.clash y x) = true) ∧ Below w.heap.size w w' := by
  have hxl := hx.lt
  go_enter Tryz.func63, Tryz.ntmps63
  go_wp2
  go_loopw [8] (fun i wr => ∃ k : Nat, k ≤ n ∧ i = .int .i64 k ∧ Hid ((l.take k).any (fun y => Lk.clash y x) = false) ∧ Below w.heap.size w wr) (fun i _ => n - (intOf i).toNat)
  case atStart => exact ⟨0, Nat.zero_le _, rfl, rfl, Below.refl _ _⟩
  case round =>
    obtain ⟨k, hk, rfl, hno, hB⟩ := hrel
    by_cases hlt : k < n
    · obtain ⟨b, o, rfl, hb, h0, h1, h2, h3⟩ := (LkRd.at_ (hl.below hB) (by omega : k < l.length))
      have hbx := hx.below hB hxl
      have hstep : Hid ((l.take (k + 1)).any (fun y => Lk.clash y x) = Lk.clash l[k] x) := by
        show _ = _
        rw [List.take_succ_eq_append_getElem (by omega), List.any_append, hno.out]
        simp
      generalize hy : l[k] = y at *
      have Hy := Lib.hid hy
      clear hy
      go_wp2_with fail
      refine (wrong1_any g y x _ hbx).mono ?_
      rintro e w1 ⟨rfl, hb1⟩
      have hB1 := hB.trans (hb1.mono hB.size)
      rcases hc : Lk.clash y x with _ | _
      · go_wp2_with fail
        go_roundw
        case rel => exact ⟨k + 1, hlt, by go_num, by rw [hc] at hstep; exact hstep, hB1⟩
        case measure => simp [intOf]; omega
      · go_wp2_with fail
        go_ret
        refine ⟨_, rfl, ?_, hB1⟩
        have e1 : (l.take (k + 1)).any (fun y => Lk.clash y x) = true := hstep.out.trans hc
        have e2 : (l.take n).any (fun y => Lk.clash y x) = true := by
          have : l.take n = l.take (k + 1) ++ (l.take n).drop (k + 1) := by
            rw [show l.take (k + 1) = (l.take n).take (k + 1) from by rw [List.take_take]; congr 1; omega, List.take_append_drop]
          rw [this, List.any_append, e1, Bool.true_or]
        rw [e2]
        simp
    · go_wp2_with fail
      go_ret
      refine ⟨_, rfl, ?_, hB⟩
      have : k = n := by omega
      subst this
      rw [hno.out]
      simp

theorem containsW_any (A : Option Addr) (n c g : Nat) (l : List Lk) (x : Lk) (w : World) (hl : LkRd w w.heap.size A l) (hn : n ≤ l.length) (hbig : n ≤ 9223372036854775807) (hx : Blk w g 58 [.int .i64 x.o, .int .i64 x.f, .int .i64 x.t, .bool x.a]) :
    Calls Tryz.prog 46 #[.slice A n c, .func (.func 47) #[] #[.pointer (some ⟨g, 0, none⟩)]] w fun e w' => e = .returned (.bool ((l.take n).any (fun y => Lk.clash y x))) ∧ Below w.heap.size w w' := by
  have hc := indexW_any A n c g l x w hl hn hbig hx
  clear hx hl
  generalize (l.take n).any (fun y => Lk.clash y x) = r at *
  go_enter Tryz.func46, Tryz.ntmps46
  go_wp2_with fail
  refine hc.mono ?_
  rintro e w1 ⟨i, rfl, hi, hb⟩
  have Hi := Lib.hid hi
  clear hi hc
  go_wp2_with fail
  go_ret
  refine ⟨?_, hb⟩
  have e : decide (0 ≤ i) = r := by
    rw [Bool.eq_iff_iff, decide_eq_true_eq]
    exact Hi.out
  rw [← e]
  rfl

end Go.Proofs.YtjppfhgkanbemacGreatDoor

namespace Go.Proofs.YtjppfhgkanbemacGreatDoor
open Go.RowKit

set_option maxHeartbeats 4000000 in
set_option maxRecDepth 100000 in
theorem wrong_any (A : Option Addr) (c : Nat) (l : List Lk) (w : World) (hl : LkRd w w.heap.size A l) (hc : l.length ≤ c) (hbig : l.length ≤ 9223372036854775807) :
    Calls Tryz.prog 24 #[.slice A l.length c] w fun e w' => e = .returned (.agg #[.int .i64 (Lk.wrong l).1, .int .i64 (Lk.wrong l).2]) ∧ Below w.heap.size w w' := by
  by_cases h40 : 40 < l.length
  · have Hn : Hid (Lk.wrong l = (5, 0)) := if_pos h40
    go_enter Tryz.func24, Tryz.ntmps24
    go_wp2_with fail
    refine bodyPost_ret (v := .agg #[.int .i64 5, .int .i64 0]) ?_ rfl ⟨by rw [Hn.out], ?_⟩
    · simp [results, Tryz.results24, go_sem]
    · exact (Below.refl _ _).alloc (Nat.le_refl _) _
  · have Hn : Hid (Lk.wrong l = Lk.wrongFrom [] l) := if_neg h40
    go_enter Tryz.func24, Tryz.ntmps24
    go_wp2_with fail
    go_loopw [11] (fun i wr => ∃ k : Nat, k ≤ l.length ∧ i = .int .i64 k ∧ Hid (Lk.wrongFrom [] l = Lk.wrongFrom (l.take k) (l.drop k)) ∧ Below w.heap.size w wr ∧ Blk wr w.heap.size 46 [.int .i64 0, .int .i64 0]) (fun i _ => l.length - (intOf i).toNat)
    case atStart => exact ⟨0, Nat.zero_le _, rfl, rfl, (Below.refl _ _).alloc (Nat.le_refl _) _, Blk.new _ _ _⟩
    case round =>
      obtain ⟨k, hk, rfl, Hw, hB0, hr0⟩ := hrel
      obtain ⟨r0, r1, rf, rz⟩ := hr0.two
      by_cases hlt : k < l.length
      · obtain ⟨b, o, rfl, hb, h0, h1, h2, h3⟩ := (LkRd.at_ (hl.below hB0) hlt)
        have hbz : b < wr.heap.size := Nat.lt_of_lt_of_le hb hB0.size
        have hkc : k ≤ c := by omega
        generalize hy : l[k] = y at *
        obtain ⟨xo, xf, xt, xa⟩ := y
        have Hy := Lib.hid hy
        clear hy
        dsimp only at h0 h1 h2 h3
        rcases d0 : decide (xo < 0) with _ | _
        · rcases d1 : decide (4 ≤ xo) with _ | _
          · rcases d2 : decide (xf < 0) with _ | _
            · rcases d3 : decide (xt ≤ xf) with _ | _
              · rcases d4 : decide (1000 < xt) with _ | _
                · have hrg : Lk.range ⟨xo, xf, xt, xa⟩ = false := by simp only [Lk.range, d0, d1, d2, d3, d4]; rfl
                  rcases k with _ | m
                  · simp only [Nat.zero_mul, Nat.add_zero] at h0 h1 h2 h3
                    go_wp2_with fail
                    clear h0 h1 h2 h3
                    have hB1 := hB0.alloc hB0.size (.cells #[.int .i64 xo, .int .i64 xf, .int .i64 xt, .bool xa] 58)
                    have hr1 := hr0.alloc (.cells #[.int .i64 xo, .int .i64 xf, .int .i64 xt, .bool xa] 58)
                    have hx1 : Blk (wr.alloc (.cells #[.int .i64 xo, .int .i64 xf, .int .i64 xt, .bool xa] 58)) wr.heap.size 58 [.int .i64 xo, .int .i64 xf, .int .i64 xt, .bool xa] := Blk.new _ _ _
                    have gxB : w.heap.size ≤ wr.heap.size := hB0.size
                    clear hB0 hr0 r0 r1 rf rz
                    generalize wr.alloc (.cells #[.int .i64 xo, .int .i64 xf, .int .i64 xt, .bool xa] 58) = w1 at *
                    generalize wr.heap.size = gx at *
                    obtain ⟨r0, r1, rf, rz⟩ := hr1.two
                    obtain ⟨bx0, bx1, bx2, bx3, bxf, bxz⟩ := hx1.four
                    refine wp_region_quiet_lit (by kernel_rfl) (by kernel_rfl) ?_
                    repeat (first | go_big_quiet_step (fail) | quiet_step (fail))
                    refine wpQuiet_nil ?_
                    intro w2 hw'
                    obtain ⟨nq, hw''⟩ := hw'
                    have hB2 := below_drewN hB1 nq
                    have hr2 := hr1.drewN nq
                    have hx2 := hx1.drewN nq
                    rw [← hw''] at hB2 hr2 hx2
                    clear hB1 hr1 hx1 r0 r1 bx0 bx1 bx2 bx3 rf rz bxf bxz hw''
                    obtain ⟨r0, r1, rf, rz⟩ := hr2.two
                    obtain ⟨bx0, bx1, bx2, bx3, bxf, bxz⟩ := hx2.four
                    go_wp2_with fail
                    refine (containsW_any _ 0 c gx l ⟨xo, xf, xt, xa⟩ _ (hl.below hB2 |>.more hB2.size) (by omega) (by omega) hx2).mono ?_
                    rintro e w3 ⟨rfl, hb⟩
                    have hB3 := hB2.trans (hb.mono hB2.size)
                    have hr3 := hr2.below hb hr2.lt
                    have hx3 := hx2.below hb hx2.lt
                    clear hB2 hr2 hx2 r0 r1 bx0 bx1 bx2 bx3 rf rz bxf bxz hb
                    obtain ⟨r0, r1, rf, rz⟩ := hr3.two
                    obtain ⟨bx0, bx1, bx2, bx3, bxf, bxz⟩ := hx3.four
                    have hord := Lk.order_none l (x := ⟨xo, xf, xt, xa⟩)
                    rcases hcl : (l.take 0).any (fun y => Lk.clash y ⟨xo, xf, xt, xa⟩) with _ | _
                    · go_wp2_with fail
                      have hbd : Lk.badAt (l.take 0) ⟨xo, xf, xt, xa⟩ = 0 := Lk.badAt_ok hrg hord hcl
                      have hnx := Lk.wrongFrom_ok hlt Hy.out hbd
                      go_roundw
                      case rel => exact ⟨0 + 1, by omega, by go_num, Hw.out.trans hnx, hB3, hr3⟩
                      case measure => simp [intOf]; omega
                    · go_wp2_with fail
                      have hbd : Lk.badAt (l.take 0) ⟨xo, xf, xt, xa⟩ = 8 := Lk.badAt_clash hrg hord hcl
                      have hfin : Lk.wrongFrom [] l = (8, ((0 : Nat) : Int)) := by rw [Hw.out]; exact Lk.wrongFrom_bad hlt Hy.out hbd (by decide)
                      refine bodyPost_ret (v := .agg #[.int .i64 8, .int .i64 ((0 : Nat) : Int)]) ?_ rfl ⟨by rw [Hn.out, hfin], ?_⟩
                      · simp [results, Tryz.results24, go_sem, r0, r1]
                      · exact ((hB3.setCell (by exact Nat.le_refl _) _).setCell (by exact Nat.le_refl _) _)
                  · have hqk : m < l.length := by omega
                    obtain ⟨b', o', hA', _, yy⟩ := (LkRd.at_ (hl.below hB0) hqk)
                    cases hA'
                    generalize hq : l[m] = q at *
                    obtain ⟨yo, yf, yt, ya⟩ := q
                    have Hq := Lib.hid hq
                    clear hq
                    rcases e6 : decide (xo < yo) with _ | _
                    · rcases e7 : (yo == xo) with _ | _
                      · go_wp2_with fail
                        clear h0 h1 h2 h3
                        have y0 := (World.cell?_alloc_lt wr (.cells #[.int .i64 xo, .int .i64 xf, .int .i64 xt, .bool xa] 58) _ (show b < wr.heap.size from by omega)).trans yy.1
                        have y1 := (World.cell?_alloc_lt wr (.cells #[.int .i64 xo, .int .i64 xf, .int .i64 xt, .bool xa] 58) _ (show b < wr.heap.size from by omega)).trans yy.2.1
                        have y2 := (World.cell?_alloc_lt wr (.cells #[.int .i64 xo, .int .i64 xf, .int .i64 xt, .bool xa] 58) _ (show b < wr.heap.size from by omega)).trans yy.2.2.1
                        have y3 := (World.cell?_alloc_lt wr (.cells #[.int .i64 xo, .int .i64 xf, .int .i64 xt, .bool xa] 58) _ (show b < wr.heap.size from by omega)).trans yy.2.2.2
                        clear yy
                        dsimp only at y0 y1 y2 y3
                        have hB1 := hB0.alloc hB0.size (.cells #[.int .i64 xo, .int .i64 xf, .int .i64 xt, .bool xa] 58)
                        have hr1 := hr0.alloc (.cells #[.int .i64 xo, .int .i64 xf, .int .i64 xt, .bool xa] 58)
                        have hx1 : Blk (wr.alloc (.cells #[.int .i64 xo, .int .i64 xf, .int .i64 xt, .bool xa] 58)) wr.heap.size 58 [.int .i64 xo, .int .i64 xf, .int .i64 xt, .bool xa] := Blk.new _ _ _
                        have gxB : w.heap.size ≤ wr.heap.size := hB0.size
                        clear hB0 hr0 r0 r1 rf rz
                        generalize wr.alloc (.cells #[.int .i64 xo, .int .i64 xf, .int .i64 xt, .bool xa] 58) = w1 at *
                        generalize wr.heap.size = gx at *
                        obtain ⟨r0, r1, rf, rz⟩ := hr1.two
                        obtain ⟨bx0, bx1, bx2, bx3, bxf, bxz⟩ := hx1.four
                        refine wp_region_quiet_lit (by kernel_rfl) (by kernel_rfl) ?_
                        repeat (first | go_big_quiet_step (fail) | quiet_step (fail))
                        refine wpQuiet_nil ?_
                        intro w2 hw'
                        obtain ⟨nq, hw''⟩ := hw'
                        have hB2 := below_drewN hB1 nq
                        have hr2 := hr1.drewN nq
                        have hx2 := hx1.drewN nq
                        rw [← hw''] at hB2 hr2 hx2
                        clear hB1 hr1 hx1 r0 r1 bx0 bx1 bx2 bx3 rf rz bxf bxz hw'' y0 y1 y2 y3
                        obtain ⟨r0, r1, rf, rz⟩ := hr2.two
                        obtain ⟨bx0, bx1, bx2, bx3, bxf, bxz⟩ := hx2.four
                        go_wp2_with fail
                        refine (containsW_any _ (m + 1) c gx l ⟨xo, xf, xt, xa⟩ _ (hl.below hB2 |>.more hB2.size) (by omega) (by omega) hx2).mono ?_
                        rintro e w3 ⟨rfl, hb⟩
                        have hB3 := hB2.trans (hb.mono hB2.size)
                        have hr3 := hr2.below hb hr2.lt
                        have hx3 := hx2.below hb hx2.lt
                        clear hB2 hr2 hx2 r0 r1 bx0 bx1 bx2 bx3 rf rz bxf bxz hb
                        obtain ⟨r0, r1, rf, rz⟩ := hr3.two
                        obtain ⟨bx0, bx1, bx2, bx3, bxf, bxz⟩ := hx3.four
                        have hord := (Lk.order_at (by omega) Hq.out (by simp only [Lk.order, e6, e7]; rfl) : (((l.take (m + 1)).getLast?.any fun y => Lk.order y ⟨xo, xf, xt, xa⟩) = false))
                        rcases hcl : (l.take (m + 1)).any (fun y => Lk.clash y ⟨xo, xf, xt, xa⟩) with _ | _
                        · go_wp2_with fail
                          have hbd : Lk.badAt (l.take (m + 1)) ⟨xo, xf, xt, xa⟩ = 0 := Lk.badAt_ok hrg hord hcl
                          have hnx := Lk.wrongFrom_ok hlt Hy.out hbd
                          go_roundw
                          case rel => exact ⟨(m + 1) + 1, by omega, by go_num, Hw.out.trans hnx, hB3, hr3⟩
                          case measure => simp [intOf]; omega
                        · go_wp2_with fail
                          have hbd : Lk.badAt (l.take (m + 1)) ⟨xo, xf, xt, xa⟩ = 8 := Lk.badAt_clash hrg hord hcl
                          have hfin : Lk.wrongFrom [] l = (8, (((m + 1) : Nat) : Int)) := by rw [Hw.out]; exact Lk.wrongFrom_bad hlt Hy.out hbd (by decide)
                          refine bodyPost_ret (v := .agg #[.int .i64 8, .int .i64 (((m + 1) : Nat) : Int)]) ?_ rfl ⟨by rw [Hn.out, hfin], ?_⟩
                          · simp [results, Tryz.results24, go_sem, r0, r1]
                          · exact ((hB3.setCell (by exact Nat.le_refl _) _).setCell (by exact Nat.le_refl _) _)
                      · rcases e8 : decide (xf < yt) with _ | _
                        · rcases e9 : (yt == xf) with _ | _
                          · go_wp2_with fail
                            clear h0 h1 h2 h3
                            have y0 := (World.cell?_alloc_lt wr (.cells #[.int .i64 xo, .int .i64 xf, .int .i64 xt, .bool xa] 58) _ (show b < wr.heap.size from by omega)).trans yy.1
                            have y1 := (World.cell?_alloc_lt wr (.cells #[.int .i64 xo, .int .i64 xf, .int .i64 xt, .bool xa] 58) _ (show b < wr.heap.size from by omega)).trans yy.2.1
                            have y2 := (World.cell?_alloc_lt wr (.cells #[.int .i64 xo, .int .i64 xf, .int .i64 xt, .bool xa] 58) _ (show b < wr.heap.size from by omega)).trans yy.2.2.1
                            have y3 := (World.cell?_alloc_lt wr (.cells #[.int .i64 xo, .int .i64 xf, .int .i64 xt, .bool xa] 58) _ (show b < wr.heap.size from by omega)).trans yy.2.2.2
                            clear yy
                            dsimp only at y0 y1 y2 y3
                            have hB1 := hB0.alloc hB0.size (.cells #[.int .i64 xo, .int .i64 xf, .int .i64 xt, .bool xa] 58)
                            have hr1 := hr0.alloc (.cells #[.int .i64 xo, .int .i64 xf, .int .i64 xt, .bool xa] 58)
                            have hx1 : Blk (wr.alloc (.cells #[.int .i64 xo, .int .i64 xf, .int .i64 xt, .bool xa] 58)) wr.heap.size 58 [.int .i64 xo, .int .i64 xf, .int .i64 xt, .bool xa] := Blk.new _ _ _
                            have gxB : w.heap.size ≤ wr.heap.size := hB0.size
                            clear hB0 hr0 r0 r1 rf rz
                            generalize wr.alloc (.cells #[.int .i64 xo, .int .i64 xf, .int .i64 xt, .bool xa] 58) = w1 at *
                            generalize wr.heap.size = gx at *
                            obtain ⟨r0, r1, rf, rz⟩ := hr1.two
                            obtain ⟨bx0, bx1, bx2, bx3, bxf, bxz⟩ := hx1.four
                            refine wp_region_quiet_lit (by kernel_rfl) (by kernel_rfl) ?_
                            repeat (first | go_big_quiet_step (fail) | quiet_step (fail))
                            refine wpQuiet_nil ?_
                            intro w2 hw'
                            obtain ⟨nq, hw''⟩ := hw'
                            have hB2 := below_drewN hB1 nq
                            have hr2 := hr1.drewN nq
                            have hx2 := hx1.drewN nq
                            rw [← hw''] at hB2 hr2 hx2
                            clear hB1 hr1 hx1 r0 r1 bx0 bx1 bx2 bx3 rf rz bxf bxz hw'' y0 y1 y2 y3
                            obtain ⟨r0, r1, rf, rz⟩ := hr2.two
                            obtain ⟨bx0, bx1, bx2, bx3, bxf, bxz⟩ := hx2.four
                            go_wp2_with fail
                            refine (containsW_any _ (m + 1) c gx l ⟨xo, xf, xt, xa⟩ _ (hl.below hB2 |>.more hB2.size) (by omega) (by omega) hx2).mono ?_
                            rintro e w3 ⟨rfl, hb⟩
                            have hB3 := hB2.trans (hb.mono hB2.size)
                            have hr3 := hr2.below hb hr2.lt
                            have hx3 := hx2.below hb hx2.lt
                            clear hB2 hr2 hx2 r0 r1 bx0 bx1 bx2 bx3 rf rz bxf bxz hb
                            obtain ⟨r0, r1, rf, rz⟩ := hr3.two
                            obtain ⟨bx0, bx1, bx2, bx3, bxf, bxz⟩ := hx3.four
                            have hord := (Lk.order_at (by omega) Hq.out (by simp only [Lk.order, e6, e7, e8, e9]; rfl) : (((l.take (m + 1)).getLast?.any fun y => Lk.order y ⟨xo, xf, xt, xa⟩) = false))
                            rcases hcl : (l.take (m + 1)).any (fun y => Lk.clash y ⟨xo, xf, xt, xa⟩) with _ | _
                            · go_wp2_with fail
                              have hbd : Lk.badAt (l.take (m + 1)) ⟨xo, xf, xt, xa⟩ = 0 := Lk.badAt_ok hrg hord hcl
                              have hnx := Lk.wrongFrom_ok hlt Hy.out hbd
                              go_roundw
                              case rel => exact ⟨(m + 1) + 1, by omega, by go_num, Hw.out.trans hnx, hB3, hr3⟩
                              case measure => simp [intOf]; omega
                            · go_wp2_with fail
                              have hbd : Lk.badAt (l.take (m + 1)) ⟨xo, xf, xt, xa⟩ = 8 := Lk.badAt_clash hrg hord hcl
                              have hfin : Lk.wrongFrom [] l = (8, (((m + 1) : Nat) : Int)) := by rw [Hw.out]; exact Lk.wrongFrom_bad hlt Hy.out hbd (by decide)
                              refine bodyPost_ret (v := .agg #[.int .i64 8, .int .i64 (((m + 1) : Nat) : Int)]) ?_ rfl ⟨by rw [Hn.out, hfin], ?_⟩
                              · simp [results, Tryz.results24, go_sem, r0, r1]
                              · exact ((hB3.setCell (by exact Nat.le_refl _) _).setCell (by exact Nat.le_refl _) _)
                          · rcases e10 : (ya == xa) with _ | _
                            · go_wp2_with fail
                              clear h0 h1 h2 h3
                              have y0 := (World.cell?_alloc_lt wr (.cells #[.int .i64 xo, .int .i64 xf, .int .i64 xt, .bool xa] 58) _ (show b < wr.heap.size from by omega)).trans yy.1
                              have y1 := (World.cell?_alloc_lt wr (.cells #[.int .i64 xo, .int .i64 xf, .int .i64 xt, .bool xa] 58) _ (show b < wr.heap.size from by omega)).trans yy.2.1
                              have y2 := (World.cell?_alloc_lt wr (.cells #[.int .i64 xo, .int .i64 xf, .int .i64 xt, .bool xa] 58) _ (show b < wr.heap.size from by omega)).trans yy.2.2.1
                              have y3 := (World.cell?_alloc_lt wr (.cells #[.int .i64 xo, .int .i64 xf, .int .i64 xt, .bool xa] 58) _ (show b < wr.heap.size from by omega)).trans yy.2.2.2
                              clear yy
                              dsimp only at y0 y1 y2 y3
                              have hB1 := hB0.alloc hB0.size (.cells #[.int .i64 xo, .int .i64 xf, .int .i64 xt, .bool xa] 58)
                              have hr1 := hr0.alloc (.cells #[.int .i64 xo, .int .i64 xf, .int .i64 xt, .bool xa] 58)
                              have hx1 : Blk (wr.alloc (.cells #[.int .i64 xo, .int .i64 xf, .int .i64 xt, .bool xa] 58)) wr.heap.size 58 [.int .i64 xo, .int .i64 xf, .int .i64 xt, .bool xa] := Blk.new _ _ _
                              have gxB : w.heap.size ≤ wr.heap.size := hB0.size
                              clear hB0 hr0 r0 r1 rf rz
                              generalize wr.alloc (.cells #[.int .i64 xo, .int .i64 xf, .int .i64 xt, .bool xa] 58) = w1 at *
                              generalize wr.heap.size = gx at *
                              obtain ⟨r0, r1, rf, rz⟩ := hr1.two
                              obtain ⟨bx0, bx1, bx2, bx3, bxf, bxz⟩ := hx1.four
                              refine wp_region_quiet_lit (by kernel_rfl) (by kernel_rfl) ?_
                              repeat (first | go_big_quiet_step (fail) | quiet_step (fail))
                              refine wpQuiet_nil ?_
                              intro w2 hw'
                              obtain ⟨nq, hw''⟩ := hw'
                              have hB2 := below_drewN hB1 nq
                              have hr2 := hr1.drewN nq
                              have hx2 := hx1.drewN nq
                              rw [← hw''] at hB2 hr2 hx2
                              clear hB1 hr1 hx1 r0 r1 bx0 bx1 bx2 bx3 rf rz bxf bxz hw'' y0 y1 y2 y3
                              obtain ⟨r0, r1, rf, rz⟩ := hr2.two
                              obtain ⟨bx0, bx1, bx2, bx3, bxf, bxz⟩ := hx2.four
                              go_wp2_with fail
                              refine (containsW_any _ (m + 1) c gx l ⟨xo, xf, xt, xa⟩ _ (hl.below hB2 |>.more hB2.size) (by omega) (by omega) hx2).mono ?_
                              rintro e w3 ⟨rfl, hb⟩
                              have hB3 := hB2.trans (hb.mono hB2.size)
                              have hr3 := hr2.below hb hr2.lt
                              have hx3 := hx2.below hb hx2.lt
                              clear hB2 hr2 hx2 r0 r1 bx0 bx1 bx2 bx3 rf rz bxf bxz hb
                              obtain ⟨r0, r1, rf, rz⟩ := hr3.two
                              obtain ⟨bx0, bx1, bx2, bx3, bxf, bxz⟩ := hx3.four
                              have hord := (Lk.order_at (by omega) Hq.out (by simp only [Lk.order, e6, e7, e8, e9, e10]; rfl) : (((l.take (m + 1)).getLast?.any fun y => Lk.order y ⟨xo, xf, xt, xa⟩) = false))
                              rcases hcl : (l.take (m + 1)).any (fun y => Lk.clash y ⟨xo, xf, xt, xa⟩) with _ | _
                              · go_wp2_with fail
                                have hbd : Lk.badAt (l.take (m + 1)) ⟨xo, xf, xt, xa⟩ = 0 := Lk.badAt_ok hrg hord hcl
                                have hnx := Lk.wrongFrom_ok hlt Hy.out hbd
                                go_roundw
                                case rel => exact ⟨(m + 1) + 1, by omega, by go_num, Hw.out.trans hnx, hB3, hr3⟩
                                case measure => simp [intOf]; omega
                              · go_wp2_with fail
                                have hbd : Lk.badAt (l.take (m + 1)) ⟨xo, xf, xt, xa⟩ = 8 := Lk.badAt_clash hrg hord hcl
                                have hfin : Lk.wrongFrom [] l = (8, (((m + 1) : Nat) : Int)) := by rw [Hw.out]; exact Lk.wrongFrom_bad hlt Hy.out hbd (by decide)
                                refine bodyPost_ret (v := .agg #[.int .i64 8, .int .i64 (((m + 1) : Nat) : Int)]) ?_ rfl ⟨by rw [Hn.out, hfin], ?_⟩
                                · simp [results, Tryz.results24, go_sem, r0, r1]
                                · exact ((hB3.setCell (by exact Nat.le_refl _) _).setCell (by exact Nat.le_refl _) _)
                            · go_wp2_with fail
                              clear h0 h1 h2 h3
                              have y0 := (World.cell?_alloc_lt wr (.cells #[.int .i64 xo, .int .i64 xf, .int .i64 xt, .bool xa] 58) _ (show b < wr.heap.size from by omega)).trans yy.1
                              have y1 := (World.cell?_alloc_lt wr (.cells #[.int .i64 xo, .int .i64 xf, .int .i64 xt, .bool xa] 58) _ (show b < wr.heap.size from by omega)).trans yy.2.1
                              have y2 := (World.cell?_alloc_lt wr (.cells #[.int .i64 xo, .int .i64 xf, .int .i64 xt, .bool xa] 58) _ (show b < wr.heap.size from by omega)).trans yy.2.2.1
                              have y3 := (World.cell?_alloc_lt wr (.cells #[.int .i64 xo, .int .i64 xf, .int .i64 xt, .bool xa] 58) _ (show b < wr.heap.size from by omega)).trans yy.2.2.2
                              clear yy
                              dsimp only at y0 y1 y2 y3
                              have hB1 := hB0.alloc hB0.size (.cells #[.int .i64 xo, .int .i64 xf, .int .i64 xt, .bool xa] 58)
                              have hr1 := hr0.alloc (.cells #[.int .i64 xo, .int .i64 xf, .int .i64 xt, .bool xa] 58)
                              have hx1 : Blk (wr.alloc (.cells #[.int .i64 xo, .int .i64 xf, .int .i64 xt, .bool xa] 58)) wr.heap.size 58 [.int .i64 xo, .int .i64 xf, .int .i64 xt, .bool xa] := Blk.new _ _ _
                              have gxB : w.heap.size ≤ wr.heap.size := hB0.size
                              clear hB0 hr0 r0 r1 rf rz
                              generalize wr.alloc (.cells #[.int .i64 xo, .int .i64 xf, .int .i64 xt, .bool xa] 58) = w1 at *
                              generalize wr.heap.size = gx at *
                              obtain ⟨r0, r1, rf, rz⟩ := hr1.two
                              obtain ⟨bx0, bx1, bx2, bx3, bxf, bxz⟩ := hx1.four
                              refine wp_region_quiet_lit (by kernel_rfl) (by kernel_rfl) ?_
                              repeat (first | go_big_quiet_step (fail) | quiet_step (fail))
                              refine wpQuiet_nil ?_
                              intro w2 hw'
                              obtain ⟨nq, hw''⟩ := hw'
                              have hB2 := below_drewN hB1 nq
                              have hr2 := hr1.drewN nq
                              have hx2 := hx1.drewN nq
                              rw [← hw''] at hB2 hr2 hx2
                              clear hB1 hr1 hx1 r0 r1 bx0 bx1 bx2 bx3 rf rz bxf bxz hw'' y0 y1 y2 y3
                              obtain ⟨r0, r1, rf, rz⟩ := hr2.two
                              obtain ⟨bx0, bx1, bx2, bx3, bxf, bxz⟩ := hx2.four
                              have hord := (Lk.order_at (by omega) Hq.out (by simp only [Lk.order, e6, e7, e8, e9, e10]; rfl) : (((l.take (m + 1)).getLast?.any fun y => Lk.order y ⟨xo, xf, xt, xa⟩) = true))
                              go_wp2_with fail
                              have hbd : Lk.badAt (l.take (m + 1)) ⟨xo, xf, xt, xa⟩ = 2 := Lk.badAt_order hrg hord
                              have hfin : Lk.wrongFrom [] l = (2, (((m + 1) : Nat) : Int)) := by rw [Hw.out]; exact Lk.wrongFrom_bad hlt Hy.out hbd (by decide)
                              refine bodyPost_ret (v := .agg #[.int .i64 2, .int .i64 (((m + 1) : Nat) : Int)]) ?_ rfl ⟨by rw [Hn.out, hfin], ?_⟩
                              · simp [results, Tryz.results24, go_sem, r0, r1]
                              · exact ((hB2.setCell (by exact Nat.le_refl _) _).setCell (by exact Nat.le_refl _) _)
                        · go_wp2_with fail
                          clear h0 h1 h2 h3
                          have y0 := (World.cell?_alloc_lt wr (.cells #[.int .i64 xo, .int .i64 xf, .int .i64 xt, .bool xa] 58) _ (show b < wr.heap.size from by omega)).trans yy.1
                          have y1 := (World.cell?_alloc_lt wr (.cells #[.int .i64 xo, .int .i64 xf, .int .i64 xt, .bool xa] 58) _ (show b < wr.heap.size from by omega)).trans yy.2.1
                          have y2 := (World.cell?_alloc_lt wr (.cells #[.int .i64 xo, .int .i64 xf, .int .i64 xt, .bool xa] 58) _ (show b < wr.heap.size from by omega)).trans yy.2.2.1
                          have y3 := (World.cell?_alloc_lt wr (.cells #[.int .i64 xo, .int .i64 xf, .int .i64 xt, .bool xa] 58) _ (show b < wr.heap.size from by omega)).trans yy.2.2.2
                          clear yy
                          dsimp only at y0 y1 y2 y3
                          have hB1 := hB0.alloc hB0.size (.cells #[.int .i64 xo, .int .i64 xf, .int .i64 xt, .bool xa] 58)
                          have hr1 := hr0.alloc (.cells #[.int .i64 xo, .int .i64 xf, .int .i64 xt, .bool xa] 58)
                          have hx1 : Blk (wr.alloc (.cells #[.int .i64 xo, .int .i64 xf, .int .i64 xt, .bool xa] 58)) wr.heap.size 58 [.int .i64 xo, .int .i64 xf, .int .i64 xt, .bool xa] := Blk.new _ _ _
                          have gxB : w.heap.size ≤ wr.heap.size := hB0.size
                          clear hB0 hr0 r0 r1 rf rz
                          generalize wr.alloc (.cells #[.int .i64 xo, .int .i64 xf, .int .i64 xt, .bool xa] 58) = w1 at *
                          generalize wr.heap.size = gx at *
                          obtain ⟨r0, r1, rf, rz⟩ := hr1.two
                          obtain ⟨bx0, bx1, bx2, bx3, bxf, bxz⟩ := hx1.four
                          refine wp_region_quiet_lit (by kernel_rfl) (by kernel_rfl) ?_
                          repeat (first | go_big_quiet_step (fail) | quiet_step (fail))
                          refine wpQuiet_nil ?_
                          intro w2 hw'
                          obtain ⟨nq, hw''⟩ := hw'
                          have hB2 := below_drewN hB1 nq
                          have hr2 := hr1.drewN nq
                          have hx2 := hx1.drewN nq
                          rw [← hw''] at hB2 hr2 hx2
                          clear hB1 hr1 hx1 r0 r1 bx0 bx1 bx2 bx3 rf rz bxf bxz hw'' y0 y1 y2 y3
                          obtain ⟨r0, r1, rf, rz⟩ := hr2.two
                          obtain ⟨bx0, bx1, bx2, bx3, bxf, bxz⟩ := hx2.four
                          have hord := (Lk.order_at (by omega) Hq.out (by simp only [Lk.order, e6, e7, e8]; rfl) : (((l.take (m + 1)).getLast?.any fun y => Lk.order y ⟨xo, xf, xt, xa⟩) = true))
                          go_wp2_with fail
                          have hbd : Lk.badAt (l.take (m + 1)) ⟨xo, xf, xt, xa⟩ = 2 := Lk.badAt_order hrg hord
                          have hfin : Lk.wrongFrom [] l = (2, (((m + 1) : Nat) : Int)) := by rw [Hw.out]; exact Lk.wrongFrom_bad hlt Hy.out hbd (by decide)
                          refine bodyPost_ret (v := .agg #[.int .i64 2, .int .i64 (((m + 1) : Nat) : Int)]) ?_ rfl ⟨by rw [Hn.out, hfin], ?_⟩
                          · simp [results, Tryz.results24, go_sem, r0, r1]
                          · exact ((hB2.setCell (by exact Nat.le_refl _) _).setCell (by exact Nat.le_refl _) _)
                    · go_wp2_with fail
                      clear h0 h1 h2 h3
                      have y0 := (World.cell?_alloc_lt wr (.cells #[.int .i64 xo, .int .i64 xf, .int .i64 xt, .bool xa] 58) _ (show b < wr.heap.size from by omega)).trans yy.1
                      have y1 := (World.cell?_alloc_lt wr (.cells #[.int .i64 xo, .int .i64 xf, .int .i64 xt, .bool xa] 58) _ (show b < wr.heap.size from by omega)).trans yy.2.1
                      have y2 := (World.cell?_alloc_lt wr (.cells #[.int .i64 xo, .int .i64 xf, .int .i64 xt, .bool xa] 58) _ (show b < wr.heap.size from by omega)).trans yy.2.2.1
                      have y3 := (World.cell?_alloc_lt wr (.cells #[.int .i64 xo, .int .i64 xf, .int .i64 xt, .bool xa] 58) _ (show b < wr.heap.size from by omega)).trans yy.2.2.2
                      clear yy
                      dsimp only at y0 y1 y2 y3
                      have hB1 := hB0.alloc hB0.size (.cells #[.int .i64 xo, .int .i64 xf, .int .i64 xt, .bool xa] 58)
                      have hr1 := hr0.alloc (.cells #[.int .i64 xo, .int .i64 xf, .int .i64 xt, .bool xa] 58)
                      have hx1 : Blk (wr.alloc (.cells #[.int .i64 xo, .int .i64 xf, .int .i64 xt, .bool xa] 58)) wr.heap.size 58 [.int .i64 xo, .int .i64 xf, .int .i64 xt, .bool xa] := Blk.new _ _ _
                      have gxB : w.heap.size ≤ wr.heap.size := hB0.size
                      clear hB0 hr0 r0 r1 rf rz
                      generalize wr.alloc (.cells #[.int .i64 xo, .int .i64 xf, .int .i64 xt, .bool xa] 58) = w1 at *
                      generalize wr.heap.size = gx at *
                      obtain ⟨r0, r1, rf, rz⟩ := hr1.two
                      obtain ⟨bx0, bx1, bx2, bx3, bxf, bxz⟩ := hx1.four
                      refine wp_region_quiet_lit (by kernel_rfl) (by kernel_rfl) ?_
                      repeat (first | go_big_quiet_step (fail) | quiet_step (fail))
                      refine wpQuiet_nil ?_
                      intro w2 hw'
                      obtain ⟨nq, hw''⟩ := hw'
                      have hB2 := below_drewN hB1 nq
                      have hr2 := hr1.drewN nq
                      have hx2 := hx1.drewN nq
                      rw [← hw''] at hB2 hr2 hx2
                      clear hB1 hr1 hx1 r0 r1 bx0 bx1 bx2 bx3 rf rz bxf bxz hw'' y0 y1 y2 y3
                      obtain ⟨r0, r1, rf, rz⟩ := hr2.two
                      obtain ⟨bx0, bx1, bx2, bx3, bxf, bxz⟩ := hx2.four
                      have hord := (Lk.order_at (by omega) Hq.out (by simp only [Lk.order, e6]; rfl) : (((l.take (m + 1)).getLast?.any fun y => Lk.order y ⟨xo, xf, xt, xa⟩) = true))
                      go_wp2_with fail
                      have hbd : Lk.badAt (l.take (m + 1)) ⟨xo, xf, xt, xa⟩ = 2 := Lk.badAt_order hrg hord
                      have hfin : Lk.wrongFrom [] l = (2, (((m + 1) : Nat) : Int)) := by rw [Hw.out]; exact Lk.wrongFrom_bad hlt Hy.out hbd (by decide)
                      refine bodyPost_ret (v := .agg #[.int .i64 2, .int .i64 (((m + 1) : Nat) : Int)]) ?_ rfl ⟨by rw [Hn.out, hfin], ?_⟩
                      · simp [results, Tryz.results24, go_sem, r0, r1]
                      · exact ((hB2.setCell (by exact Nat.le_refl _) _).setCell (by exact Nat.le_refl _) _)
                · have hrg : Lk.range ⟨xo, xf, xt, xa⟩ = true := by simp only [Lk.range, d0, d1, d2, d3, d4]; rfl
                  go_wp2_with fail
                  have hbd : Lk.badAt (l.take k) ⟨xo, xf, xt, xa⟩ = 3 := Lk.badAt_range hrg
                  have hfin : Lk.wrongFrom [] l = (3, ((k : Nat) : Int)) := by rw [Hw.out]; exact Lk.wrongFrom_bad hlt Hy.out hbd (by decide)
                  refine bodyPost_ret (v := .agg #[.int .i64 3, .int .i64 ((k : Nat) : Int)]) ?_ rfl ⟨by rw [Hn.out, hfin], ?_⟩
                  · simp [results, Tryz.results24, go_sem, r0, r1, rz]
                  · exact ((hB0.setCell (by exact Nat.le_refl _) _).setCell (by exact Nat.le_refl _) _).alloc (by simpa [World.setCell] using hB0.size) _
              · have hrg : Lk.range ⟨xo, xf, xt, xa⟩ = true := by simp only [Lk.range, d0, d1, d2, d3]; rfl
                go_wp2_with fail
                have hbd : Lk.badAt (l.take k) ⟨xo, xf, xt, xa⟩ = 3 := Lk.badAt_range hrg
                have hfin : Lk.wrongFrom [] l = (3, ((k : Nat) : Int)) := by rw [Hw.out]; exact Lk.wrongFrom_bad hlt Hy.out hbd (by decide)
                refine bodyPost_ret (v := .agg #[.int .i64 3, .int .i64 ((k : Nat) : Int)]) ?_ rfl ⟨by rw [Hn.out, hfin], ?_⟩
                · simp [results, Tryz.results24, go_sem, r0, r1, rz]
                · exact ((hB0.setCell (by exact Nat.le_refl _) _).setCell (by exact Nat.le_refl _) _).alloc (by simpa [World.setCell] using hB0.size) _
            · have hrg : Lk.range ⟨xo, xf, xt, xa⟩ = true := by simp only [Lk.range, d0, d1, d2]; rfl
              go_wp2_with fail
              have hbd : Lk.badAt (l.take k) ⟨xo, xf, xt, xa⟩ = 3 := Lk.badAt_range hrg
              have hfin : Lk.wrongFrom [] l = (3, ((k : Nat) : Int)) := by rw [Hw.out]; exact Lk.wrongFrom_bad hlt Hy.out hbd (by decide)
              refine bodyPost_ret (v := .agg #[.int .i64 3, .int .i64 ((k : Nat) : Int)]) ?_ rfl ⟨by rw [Hn.out, hfin], ?_⟩
              · simp [results, Tryz.results24, go_sem, r0, r1, rz]
              · exact ((hB0.setCell (by exact Nat.le_refl _) _).setCell (by exact Nat.le_refl _) _).alloc (by simpa [World.setCell] using hB0.size) _
          · have hrg : Lk.range ⟨xo, xf, xt, xa⟩ = true := by simp only [Lk.range, d0, d1]; rfl
            go_wp2_with fail
            have hbd : Lk.badAt (l.take k) ⟨xo, xf, xt, xa⟩ = 3 := Lk.badAt_range hrg
            have hfin : Lk.wrongFrom [] l = (3, ((k : Nat) : Int)) := by rw [Hw.out]; exact Lk.wrongFrom_bad hlt Hy.out hbd (by decide)
            refine bodyPost_ret (v := .agg #[.int .i64 3, .int .i64 ((k : Nat) : Int)]) ?_ rfl ⟨by rw [Hn.out, hfin], ?_⟩
            · simp [results, Tryz.results24, go_sem, r0, r1, rz]
            · exact ((hB0.setCell (by exact Nat.le_refl _) _).setCell (by exact Nat.le_refl _) _).alloc (by simpa [World.setCell] using hB0.size) _
        · have hrg : Lk.range ⟨xo, xf, xt, xa⟩ = true := by simp only [Lk.range, d0]; rfl
          go_wp2_with fail
          have hbd : Lk.badAt (l.take k) ⟨xo, xf, xt, xa⟩ = 3 := Lk.badAt_range hrg
          have hfin : Lk.wrongFrom [] l = (3, ((k : Nat) : Int)) := by rw [Hw.out]; exact Lk.wrongFrom_bad hlt Hy.out hbd (by decide)
          refine bodyPost_ret (v := .agg #[.int .i64 3, .int .i64 ((k : Nat) : Int)]) ?_ rfl ⟨by rw [Hn.out, hfin], ?_⟩
          · simp [results, Tryz.results24, go_sem, r0, r1, rz]
          · exact ((hB0.setCell (by exact Nat.le_refl _) _).setCell (by exact Nat.le_refl _) _).alloc (by simpa [World.setCell] using hB0.size) _

      · go_wp2_with fail
        have hfin : Lk.wrongFrom [] l = (0, 0) := by
          rw [Hw.out, List.drop_of_length_le (by omega)]; rfl
        refine bodyPost_ret (v := .agg #[.int .i64 0, .int .i64 0]) ?_ rfl ⟨by rw [Hn.out, hfin], ?_⟩
        · simp [results, Tryz.results24, go_sem, r0, r1]
        · exact (hB0.setCell (by exact Nat.le_refl _) _).setCell (by exact Nat.le_refl _) _

end Go.Proofs.YtjppfhgkanbemacGreatDoor

namespace Go.Proofs.YtjppfhgkanbemacGreatDoor
open Go.RowKit

theorem lkRd_one (w : World) (B : Nat) (x : Lk) (hB : w.heap.size < B) : LkRd (w.alloc (.cells #[.int .i64 x.o, .int .i64 x.f, .int .i64 x.t, .bool x.a] 58)) B (some ⟨w.heap.size, 0, none⟩) [x] :=
  ⟨rfl, fun _ => ⟨w.heap.size, 0, rfl, hB, fun j u hu => by
    rw [Nat.zero_add]
    exact ((Blk.new w 58 [.int .i64 x.o, .int .i64 x.f, .int .i64 x.t, .bool x.a]).cell j).trans hu⟩⟩

theorem field_fault (a b : Int) (W : World) : (Instr.field 46 (.agg #[.int .i64 a, .int .i64 b]) 0).run Tryz.prog W = .ok (.int .i64 a) W := by kernel_rfl

theorem span_any (g : Nat) (x : Lk) (w : World) (hx : Blk w g 58 [.int .i64 x.o, .int .i64 x.f, .int .i64 x.t, .bool x.a]) :
    Calls Tryz.prog 138 #[.pointer (some ⟨g, 0, none⟩)] w fun e w' => e = .returned (.int .i64 (Lk.wrong [x]).1) ∧ Below w.heap.size w w' := by
  obtain ⟨xo, xf, xt, xa⟩ := x
  obtain ⟨x0, x1, x2, x3, xfr, xz⟩ := hx.four
  dsimp only at *
  have hfd := field_fault
  have c := fun W => wrong_any (some ⟨w.heap.size, 0, none⟩) 1 [⟨xo, xf, xt, xa⟩] W
  generalize Lk.wrong [⟨xo, xf, xt, xa⟩] = r at *
  obtain ⟨r1, r2⟩ := r
  dsimp only at *
  go_enter Tryz.func138, Tryz.ntmps138
  go_wp2_with fail
  have hr := lkRd_one w (w.heap.size + 1) ⟨xo, xf, xt, xa⟩ (by omega)
  refine (c _ (by simpa using hr) (Nat.le_refl _) (by simp)).mono ?_
  rintro e w' ⟨rfl, hb⟩
  go_wp2_with fail
  go_ret
  exact ⟨rfl, (((Below.refl _ _).alloc (Nat.le_refl _) _).trans (hb.mono (by simp)))⟩

/-- What Take answers. -/
def TakeRel (l : List Lk) (x : Lk) (m : List Lk) (err : Int) : Prop :=
  ((Lk.wrong l).1 ≠ 0 ∧ m = [] ∧ err = (Lk.wrong l).1) ∨
  ((Lk.wrong l).1 = 0 ∧ (Lk.wrong [x]).1 ≠ 0 ∧ m = [] ∧ err = (Lk.wrong [x]).1) ∨
  ((Lk.wrong l).1 = 0 ∧ (Lk.wrong [x]).1 = 0 ∧ (Lk.meets l x).isSome = true ∧ m = [] ∧ err = 13) ∨
  ((Lk.wrong l).1 = 0 ∧ (Lk.wrong [x]).1 = 0 ∧ (Lk.meets l x).isSome = false ∧ ∃ l' : List Lk, l'.Perm (Lk.cut l x ++ [x]) ∧ (l'.Pairwise fun x y => Lk.less y x = false) ∧
    ((40 < (Lk.tidy l').length ∧ m = [] ∧ err = 5) ∨ ((Lk.tidy l').length ≤ 40 ∧ m = Lk.tidy l' ∧ err = 0)))
/-- What Free answers. -/
def FreeRel (l : List Lk) (x : Lk) (m : List Lk) (err : Int) : Prop :=
  ((Lk.wrong l).1 ≠ 0 ∧ m = [] ∧ err = (Lk.wrong l).1) ∨
  ((Lk.wrong l).1 = 0 ∧ (Lk.wrong [x]).1 ≠ 0 ∧ m = [] ∧ err = (Lk.wrong [x]).1) ∨
  ((Lk.wrong l).1 = 0 ∧ (Lk.wrong [x]).1 = 0 ∧ ((40 < (Lk.cut l x).length ∧ m = [] ∧ err = 5) ∨ ((Lk.cut l x).length ≤ 40 ∧ m = Lk.cut l x ∧ err = 0)))

theorem lkOwn_nil (w : World) (base : Nat) : LkOwn w base (.slice none 0 0) [] := World.ownsRow_nil _ _ _ _
theorem wrong_le {l : List Lk} (h : (Lk.wrong l).1 = 0) : l.length ≤ 40 := by
  unfold Lk.wrong at h
  split at h
  · cases h
  · omega


set_option maxHeartbeats 1600000 in
set_option maxRecDepth 100000 in
theorem free_any (A : Option Addr) (c : Nat) (l : List Lk) (x : Lk) (w : World) (hl : LkRd w w.heap.size A l) (hc : l.length ≤ c) (hbig : l.length ≤ 9223372036854775807) :
    Calls Tryz.prog 105 #[.slice A l.length c, .agg #[.int .i64 x.o, .int .i64 x.f, .int .i64 x.t, .bool x.a]] w fun e w' => ∃ v m err, e = .returned (.tuple #[v, .int .i64 err]) ∧ FreeRel l x m err ∧ LkOwn w' w.heap.size v m ∧ Below w.heap.size w w' := by
  obtain ⟨xo, xf, xt, xa⟩ := x
  dsimp only
  have hB0 : Below w.heap.size w w := Below.refl _ _
  go_enter Tryz.func105, Tryz.ntmps105
  go_wp2_with fail
  have hB1 := hB0.alloc hB0.size (.cells #[.int .i64 xo, .int .i64 xf, .int .i64 xt, .bool xa] 58)
  have hx1 : Blk (w.alloc (.cells #[.int .i64 xo, .int .i64 xf, .int .i64 xt, .bool xa] 58)) w.heap.size 58 [.int .i64 xo, .int .i64 xf, .int .i64 xt, .bool xa] := Blk.new _ _ _
  clear hB0
  generalize w.alloc (.cells #[.int .i64 xo, .int .i64 xf, .int .i64 xt, .bool xa] 58) = w1 at *
  obtain ⟨bx0, bx1, bx2, bx3, bxf, bxz⟩ := hx1.four
  have c1 := wrong_any A c l w1 (hl.below hB1 |>.more hB1.size) hc hbig
  generalize hwl : Lk.wrong l = wl at c1
  obtain ⟨we, wa⟩ := wl
  have Hw := Lib.hid (congrArg Prod.fst hwl)
  clear hwl
  dsimp only at c1
  refine c1.mono ?_
  rintro e w2 ⟨rfl, hb⟩
  clear c1
  have hB2 := hB1.trans (hb.mono hB1.size)
  have hx2 := hx1.below hb hx1.lt
  clear hB1 hx1 bx0 bx1 bx2 bx3 bxf bxz hb
  obtain ⟨bx0, bx1, bx2, bx3, bxf, bxz⟩ := hx2.four
  rcases t : (we != 0) with _ | _
  · have tw : we = 0 := by simpa using t
    have Hz : Hid ((Lk.wrong l).1 = 0) := Hw.out.trans tw
    have hl40 := wrong_le Hz.out
    clear tw
    go_wp2_with fail
    have hB3 := hB2.alloc hB2.size (.cells #[.int .i64 we, .int .i64 wa] 46)
    have hx3 := hx2.alloc (.cells #[.int .i64 we, .int .i64 wa] 46)
    have hf3 : Blk (w2.alloc (.cells #[.int .i64 we, .int .i64 wa] 46)) w2.heap.size 46 [.int .i64 we, .int .i64 wa] := Blk.new _ _ _
    have gfB : w.heap.size ≤ w2.heap.size := hB2.size
    clear hB2 hx2 bx0 bx1 bx2 bx3 bxf bxz
    generalize w2.alloc (.cells #[.int .i64 we, .int .i64 wa] 46) = w3 at *
    generalize w2.heap.size = gf at *
    obtain ⟨bx0, bx1, bx2, bx3, bxf, bxz⟩ := hx3.four
    obtain ⟨bf0, bf1, bff, bfz⟩ := hf3.two
    have c1 := span_any w.heap.size ⟨xo, xf, xt, xa⟩ w3 hx3
    generalize hwl : (Lk.wrong [⟨xo, xf, xt, xa⟩]).1 = ws at c1
    have Hs := Lib.hid hwl
    clear hwl
    refine c1.mono ?_
    rintro e w4 ⟨rfl, hb⟩
    clear c1
    have hB4 := hB3.trans (hb.mono hB3.size)
    have hx4 := hx3.below hb hx3.lt
    have hf4 := hf3.below hb hf3.lt
    clear hB3 hx3 hf3 bx0 bx1 bx2 bx3 bf0 bf1 bxf bxz bff bfz hb
    obtain ⟨bx0, bx1, bx2, bx3, bxf, bxz⟩ := hx4.four
    obtain ⟨bf0, bf1, bff, bfz⟩ := hf4.two
    rcases t2 : (ws != 0) with _ | _
    · have tw : ws = 0 := by simpa using t2
      have Hsz : Hid ((Lk.wrong [⟨xo, xf, xt, xa⟩]).1 = 0) := Hs.out.trans tw
      clear tw
      go_wp2_with fail
      refine (cutL_any A c w.heap.size 0 l ⟨xo, xf, xt, xa⟩ w4 (hl.below hB4 |>.more hB4.size) (by omega) hx4.lkAt hx4.lt).mono ?_
      rintro e w5 ⟨v, rfl, ho, hb⟩
      have ho5 := own_base ho hB4.size
      have hB5 := hB4.trans (hb.mono hB4.size)
      have hx5 := hx4.below hb hx4.lt
      have hf5 := hf4.below hb hf4.lt
      clear hB4 hx4 hf4 bx0 bx1 bx2 bx3 bf0 bf1 bxf bxz bff bfz hb
      obtain ⟨bx0, bx1, bx2, bx3, bxf, bxz⟩ := hx5.four
      obtain ⟨bf0, bf1, bff, bfz⟩ := hf5.two
      rcases own_shape ho with ⟨hv, hn0⟩ | ⟨g', cap', hv, _, _, _⟩
      · subst hv
        have e0 : Lk.cut l ⟨xo, xf, xt, xa⟩ = [] := List.eq_nil_of_length_eq_zero hn0
        go_wp2_with fail
        go_ret2
        exact ⟨_, _, _, rfl, .inr (.inr ⟨Hz.out, Hsz.out, .inr ⟨by rw [e0]; decide, rfl, rfl⟩⟩), ho5, hB5⟩
      · subst hv
        rcases t4 : decide ((40 : Int) < ((Lk.cut l ⟨xo, xf, xt, xa⟩).length : Int)) with _ | _
        · go_wp2_with fail
          go_ret2
          exact ⟨_, _, _, rfl, .inr (.inr ⟨Hz.out, Hsz.out, .inr ⟨by have := of_decide_eq_false t4; omega, rfl, rfl⟩⟩), ho5, hB5⟩
        · go_wp2_with fail
          go_ret2
          exact ⟨_, _, _, rfl, .inr (.inr ⟨Hz.out, Hsz.out, .inl ⟨by have := of_decide_eq_true t4; omega, rfl, rfl⟩⟩), lkOwn_nil _ _, hB5⟩
    · go_wp2_with fail
      go_ret2
      exact ⟨.slice none 0 0, [], _, rfl, .inr (.inl ⟨Hz.out, by rw [Hs.out]; simpa using t2, rfl, Hs.out.symm⟩), lkOwn_nil _ _, hB4⟩
  · go_wp2_with fail
    have hB3 := hB2.alloc hB2.size (.cells #[.int .i64 we, .int .i64 wa] 46)
    have hx3 := hx2.alloc (.cells #[.int .i64 we, .int .i64 wa] 46)
    have hf3 : Blk (w2.alloc (.cells #[.int .i64 we, .int .i64 wa] 46)) w2.heap.size 46 [.int .i64 we, .int .i64 wa] := Blk.new _ _ _
    have gfB : w.heap.size ≤ w2.heap.size := hB2.size
    clear hB2 hx2 bx0 bx1 bx2 bx3 bxf bxz
    generalize w2.alloc (.cells #[.int .i64 we, .int .i64 wa] 46) = w3 at *
    generalize w2.heap.size = gf at *
    obtain ⟨bx0, bx1, bx2, bx3, bxf, bxz⟩ := hx3.four
    obtain ⟨bf0, bf1, bff, bfz⟩ := hf3.two
    refine wp_region_quiet_lit (by kernel_rfl) (by kernel_rfl) ?_
    repeat (first | go_big_quiet_step (fail) | quiet_step (fail))
    refine wpQuiet_nil ?_
    intro w4 hw'
    obtain ⟨nq, hw''⟩ := hw'
    have hB4 := below_drewN hB3 nq
    have hx4 := hx3.drewN nq
    have hf4 := hf3.drewN nq
    rw [← hw''] at hB4 hx4 hf4
    clear hB3 hx3 hf3 bx0 bx1 bx2 bx3 bf0 bf1 bxf bxz bff bfz hw''
    obtain ⟨bx0, bx1, bx2, bx3, bxf, bxz⟩ := hx4.four
    obtain ⟨bf0, bf1, bff, bfz⟩ := hf4.two
    go_wp2_with fail
    go_ret2
    exact ⟨.slice none 0 0, [], _, rfl, .inl ⟨by rw [Hw.out]; simpa using t, rfl, Hw.out.symm⟩, lkOwn_nil _ _, hB4⟩

set_option maxHeartbeats 1600000 in
set_option maxRecDepth 100000 in
theorem take_any (A : Option Addr) (c : Nat) (l : List Lk) (x : Lk) (w : World) (hl : LkRd w w.heap.size A l) (hc : l.length ≤ c) (hbig : l.length ≤ 9223372036854775807) :
    Calls Tryz.prog 104 #[.slice A l.length c, .agg #[.int .i64 x.o, .int .i64 x.f, .int .i64 x.t, .bool x.a]] w fun e w' => ∃ v m err, e = .returned (.tuple #[v, .int .i64 err]) ∧ TakeRel l x m err ∧ LkOwn w' w.heap.size v m ∧ Below w.heap.size w w' := by
  obtain ⟨xo, xf, xt, xa⟩ := x
  dsimp only
  have hB0 : Below w.heap.size w w := Below.refl _ _
  go_enter Tryz.func104, Tryz.ntmps104
  go_wp2_with fail
  have hB1 := hB0.alloc hB0.size (.cells #[.int .i64 xo, .int .i64 xf, .int .i64 xt, .bool xa] 58)
  have hx1 : Blk (w.alloc (.cells #[.int .i64 xo, .int .i64 xf, .int .i64 xt, .bool xa] 58)) w.heap.size 58 [.int .i64 xo, .int .i64 xf, .int .i64 xt, .bool xa] := Blk.new _ _ _
  clear hB0
  generalize w.alloc (.cells #[.int .i64 xo, .int .i64 xf, .int .i64 xt, .bool xa] 58) = w1 at *
  obtain ⟨bx0, bx1, bx2, bx3, bxf, bxz⟩ := hx1.four
  have c1 := wrong_any A c l w1 (hl.below hB1 |>.more hB1.size) hc hbig
  generalize hwl : Lk.wrong l = wl at c1
  obtain ⟨we, wa⟩ := wl
  have Hw := Lib.hid (congrArg Prod.fst hwl)
  clear hwl
  dsimp only at c1
  refine c1.mono ?_
  rintro e w2 ⟨rfl, hb⟩
  clear c1
  have hB2 := hB1.trans (hb.mono hB1.size)
  have hx2 := hx1.below hb hx1.lt
  clear hB1 hx1 bx0 bx1 bx2 bx3 bxf bxz hb
  obtain ⟨bx0, bx1, bx2, bx3, bxf, bxz⟩ := hx2.four
  rcases t : (we != 0) with _ | _
  · have tw : we = 0 := by simpa using t
    have Hz : Hid ((Lk.wrong l).1 = 0) := Hw.out.trans tw
    have hl40 := wrong_le Hz.out
    clear tw
    go_wp2_with fail
    have hB3 := hB2.alloc hB2.size (.cells #[.int .i64 we, .int .i64 wa] 46)
    have hx3 := hx2.alloc (.cells #[.int .i64 we, .int .i64 wa] 46)
    have hf3 : Blk (w2.alloc (.cells #[.int .i64 we, .int .i64 wa] 46)) w2.heap.size 46 [.int .i64 we, .int .i64 wa] := Blk.new _ _ _
    have gfB : w.heap.size ≤ w2.heap.size := hB2.size
    clear hB2 hx2 bx0 bx1 bx2 bx3 bxf bxz
    generalize w2.alloc (.cells #[.int .i64 we, .int .i64 wa] 46) = w3 at *
    generalize w2.heap.size = gf at *
    obtain ⟨bx0, bx1, bx2, bx3, bxf, bxz⟩ := hx3.four
    obtain ⟨bf0, bf1, bff, bfz⟩ := hf3.two
    have c1 := span_any w.heap.size ⟨xo, xf, xt, xa⟩ w3 hx3
    generalize hwl : (Lk.wrong [⟨xo, xf, xt, xa⟩]).1 = ws at c1
    have Hs := Lib.hid hwl
    clear hwl
    refine c1.mono ?_
    rintro e w4 ⟨rfl, hb⟩
    clear c1
    have hB4 := hB3.trans (hb.mono hB3.size)
    have hx4 := hx3.below hb hx3.lt
    have hf4 := hf3.below hb hf3.lt
    clear hB3 hx3 hf3 bx0 bx1 bx2 bx3 bf0 bf1 bxf bxz bff bfz hb
    obtain ⟨bx0, bx1, bx2, bx3, bxf, bxz⟩ := hx4.four
    obtain ⟨bf0, bf1, bff, bfz⟩ := hf4.two
    rcases t2 : (ws != 0) with _ | _
    · have tw : ws = 0 := by simpa using t2
      have Hsz : Hid ((Lk.wrong [⟨xo, xf, xt, xa⟩]).1 = 0) := Hs.out.trans tw
      clear tw
      go_wp2_with fail
      have c1 := meets_any A c l ⟨xo, xf, xt, xa⟩ w4 (hl.below hB4 |>.more hB4.size) hbig
      generalize hmt : Lk.meets l ⟨xo, xf, xt, xa⟩ = mt at c1
      have Hm : Hid ((Lk.meets l ⟨xo, xf, xt, xa⟩).isSome = mt.isSome) := by rw [hmt]; rfl
      clear hmt
      generalize mt.getD Lk.zero = mz at c1
      generalize mt.isSome = mb at *
      obtain ⟨mo, mf, mt, ma⟩ := mz
      simp only [Lk.agg, Lk.cells] at c1
      refine Calls.mono (P := Tryz.prog) (f := 27) c1 ?_
      rintro e w5 ⟨rfl, hb⟩
      clear c1
      have hB5 := hB4.trans (hb.mono hB4.size)
      have hx5 := hx4.below hb hx4.lt
      have hf5 := hf4.below hb hf4.lt
      clear hB4 hx4 hf4 bx0 bx1 bx2 bx3 bf0 bf1 bxf bxz bff bfz hb
      obtain ⟨bx0, bx1, bx2, bx3, bxf, bxz⟩ := hx5.four
      obtain ⟨bf0, bf1, bff, bfz⟩ := hf5.two
      rcases mb with _ | _
      · go_wp2_with fail
        have hB6 := hB5.alloc hB5.size (.cells #[.int .i64 mo, .int .i64 mf, .int .i64 mt, .bool ma] 58)
        have hx6 := hx5.alloc (.cells #[.int .i64 mo, .int .i64 mf, .int .i64 mt, .bool ma] 58)
        have hf6 := hf5.alloc (.cells #[.int .i64 mo, .int .i64 mf, .int .i64 mt, .bool ma] 58)
        have hm6 : Blk (w5.alloc (.cells #[.int .i64 mo, .int .i64 mf, .int .i64 mt, .bool ma] 58)) w5.heap.size 58 [.int .i64 mo, .int .i64 mf, .int .i64 mt, .bool ma] := Blk.new _ _ _
        have gmB : w.heap.size ≤ w5.heap.size := hB5.size
        clear hB5 hx5 hf5 bx0 bx1 bx2 bx3 bf0 bf1 bxf bxz bff bfz
        generalize w5.alloc (.cells #[.int .i64 mo, .int .i64 mf, .int .i64 mt, .bool ma] 58) = w6 at *
        generalize w5.heap.size = gm at *
        obtain ⟨bx0, bx1, bx2, bx3, bxf, bxz⟩ := hx6.four
        obtain ⟨bf0, bf1, bff, bfz⟩ := hf6.two
        obtain ⟨bm0, bm1, bm2, bm3, bmf, bmz⟩ := hm6.four
        obtain ⟨i0, hi, hz0, hz1, hz2⟩ := info_parts info_lk
        have hlA : LkRd w6.drew w6.drew.heap.size A l := (hl.below (below_drewN hB6 1)).more hB6.size
        have hlB : LkRd (w6.alloc (.cells #[.int .i64 xo, .int .i64 xf, .int .i64 xt, .bool xa] 58)).drew (w6.alloc (.cells #[.int .i64 xo, .int .i64 xf, .int .i64 xt, .bool xa] 58)).drew.heap.size A l := (hl.below (below_drewN (hB6.alloc hB6.size _) 1)).more (hB6.alloc hB6.size _).size
        have hxA : Blk w6.drew w.heap.size 58 [.int .i64 xo, .int .i64 xf, .int .i64 xt, .bool xa] := hx6.drew
        have hxB : Blk (w6.alloc (.cells #[.int .i64 xo, .int .i64 xf, .int .i64 xt, .bool xa] 58)).drew w.heap.size 58 [.int .i64 xo, .int .i64 xf, .int .i64 xt, .bool xa] := (hx6.alloc _).drew
        have hTB : Blk (w6.alloc (.cells #[.int .i64 xo, .int .i64 xf, .int .i64 xt, .bool xa] 58)).drew w6.heap.size 58 [.int .i64 xo, .int .i64 xf, .int .i64 xt, .bool xa] := Blk.new _ _ _
        have hcl := Lk.cut_le l ⟨xo, xf, xt, xa⟩
        have hx6z := hx6.lt
        go_region_held3 (fun w' => w'.cell? ⟨w.heap.size, 0, none⟩ = some (.int .i64 xo) ∧ w'.cell? ⟨w.heap.size, 1, none⟩ = some (.int .i64 xf) ∧ w'.cell? ⟨w.heap.size, 2, none⟩ = some (.int .i64 xt) ∧ w'.cell? ⟨w.heap.size, 3, none⟩ = some (.bool xa))
          (first
            | go_keep
            | exact ⟨hx9.cell 0, hx9.cell 1, hx9.cell 2, hx9.cell 3⟩
            | exact ⟨hx8.cell 0, hx8.cell 1, hx8.cell 2, hx8.cell 3⟩
            | exact ⟨hx7.cell 0, hx7.cell 1, hx7.cell 2, hx7.cell 3⟩
            | exact ⟨(hx7.alloc _).cell 0, (hx7.alloc _).cell 1, (hx7.alloc _).cell 2, (hx7.alloc _).cell 3⟩
            | exact ⟨(hx6.alloc _).cell 0, (hx6.alloc _).cell 1, (hx6.alloc _).cell 2, (hx6.alloc _).cell 3⟩)
          (first
            | (go_at_call 140; refine (cutL_any A c w.heap.size 0 l ⟨xo, xf, xt, xa⟩ _ (by exact hlA) (by omega) (by exact hxA.lkAt) (by exact hxA.lt)).mono ?_; rintro e w7 ⟨v7, rfl, ho7, hb7⟩; have hB7 : Below w.heap.size w w7 := (below_drewN hB6 1).trans (hb7.mono hB6.size); have hx7 := hxA.below hb7 hxA.lt; have hz7 : w6.heap.size ≤ w7.heap.size := hb7.size)
            | (go_at_call 140; refine (cutL_any A c w.heap.size 0 l ⟨xo, xf, xt, xa⟩ _ (by exact hlB) (by omega) (by exact hxB.lkAt) (by exact hxB.lt)).mono ?_; rintro e w7 ⟨v7, rfl, ho7, hb7⟩; have hB7 : Below w.heap.size w w7 := (below_drewN (hB6.alloc hB6.size _) 1).trans (hb7.mono (hB6.alloc hB6.size _).size); have hx7 := hxB.below hb7 hxB.lt; have hT7 := hTB.below hb7 hTB.lt; have hz7 : w6.heap.size ≤ w7.heap.size := Nat.le_trans (by simp) hb7.size)
            | (refine step_appB (w7.alloc (.cells #[.int .i64 xo, .int .i64 xf, .int .i64 xt, .bool xa] 58)) rfl _ _ _ rfl w6.heap.size 58 i0 _ 4 32 Tryz.underlying60 hi hz0 hz1 hz2 rfl (by decide) v7 _ _ rfl (own_alloc (own_base ho7 (by simp)) _) w7.heap.size 58 [.int .i64 xo, .int .i64 xf, .int .i64 xt, .bool xa] rfl (Blk.new _ _ _) rfl (by simp [Value.oneCell']) (by omega) (by decide) (by simp; omega) ?_; intro v8 w8 hw8 hg8 hat8; have hB8 : Below w.heap.size w w8 := below_grown (hB7.alloc hB7.size _) hg8 (by simp; have := hB7.size; omega) (fun k hk => by have := (ho7.lt k hk).1; simp at this; have := hB6.size; omega); have hx8 := (hx7.alloc _).grown hg8 (own_ne ho7 (.inl (by exact hx6z))); obtain ⟨g8, cap8, hv8, hg8b⟩ := own_pos hw8; subst hv8)
            | (refine step_appB w7 rfl _ _ _ rfl w6.heap.size 58 i0 _ 4 32 Tryz.underlying60 hi hz0 hz1 hz2 rfl (by decide) v7 _ _ rfl (own_base ho7 (by simp)) w6.heap.size 58 [.int .i64 xo, .int .i64 xf, .int .i64 xt, .bool xa] rfl hT7 rfl (by simp [Value.oneCell']) (by omega) (by decide) (by omega) ?_; intro v8 w8 hw8 hg8 hat8; have hB8 : Below w.heap.size w w8 := below_grown hB7 hg8 hB7.size (fun k hk => by have := (ho7.lt k hk).1; simp at this; have := hB6.size; omega); have hx8 := hx7.grown hg8 (own_ne ho7 (.inl (by simp; omega))); obtain ⟨g8, cap8, hv8, hg8b⟩ := own_pos hw8; subst hv8)
            | (go_at_call 139; have c9 := tidy_any w6.heap.size g8 cap8 (Lk.cut l ⟨xo, xf, xt, xa⟩ ++ [⟨xo, xf, xt, xa⟩]) w8 (LkOwn.snoc (l := Lk.cut l ⟨xo, xf, xt, xa⟩) (y := ⟨xo, xf, xt, xa⟩) (by simpa using hw8) rfl) (by simp; omega); simp only [List.length_append, List.length_cons, List.length_nil, Nat.zero_add] at c9; refine c9.mono ?_; rintro e w9 ⟨v9, l9, rfl, hp9, hs9, ho9, hg9⟩; have hB9 : Below w.heap.size w w9 := below_grown hB8 hg9 hB8.size (fun k hk => by cases hk; have := hB6.size; omega); have hx9 := hx8.grown hg9 (by intro he; injection he with he; omega)))
        all_goals
          rcases own_shape ho9 with ⟨hv, h0⟩ | ⟨g9, cap9, hv, _, _, _⟩
          · subst hv
            go_wp2_with fail
            go_ret2
            exact ⟨_, _, _, rfl, .inr (.inr (.inr ⟨Hz.out, Hsz.out, Hm.out, l9, hp9, hs9, .inr ⟨by omega, rfl, rfl⟩⟩)), own_base ho9 hB8.size, hB9⟩
          · subst hv
            rcases t4 : decide ((40 : Int) < ((Lk.tidy l9).length : Int)) with _ | _
            · go_wp2_with fail
              go_ret2
              exact ⟨_, _, _, rfl, .inr (.inr (.inr ⟨Hz.out, Hsz.out, Hm.out, l9, hp9, hs9, .inr ⟨by have := of_decide_eq_false t4; omega, rfl, rfl⟩⟩)), own_base ho9 hB8.size, hB9⟩
            · go_wp2_with fail
              go_ret2
              exact ⟨_, _, _, rfl, .inr (.inr (.inr ⟨Hz.out, Hsz.out, Hm.out, l9, hp9, hs9, .inl ⟨by have := of_decide_eq_true t4; omega, rfl, rfl⟩⟩)), lkOwn_nil _ _, hB9⟩
      · go_wp2_with fail
        have hB6 := hB5.alloc hB5.size (.cells #[.int .i64 mo, .int .i64 mf, .int .i64 mt, .bool ma] 58)
        have hx6 := hx5.alloc (.cells #[.int .i64 mo, .int .i64 mf, .int .i64 mt, .bool ma] 58)
        have hf6 := hf5.alloc (.cells #[.int .i64 mo, .int .i64 mf, .int .i64 mt, .bool ma] 58)
        have hm6 : Blk (w5.alloc (.cells #[.int .i64 mo, .int .i64 mf, .int .i64 mt, .bool ma] 58)) w5.heap.size 58 [.int .i64 mo, .int .i64 mf, .int .i64 mt, .bool ma] := Blk.new _ _ _
        have gmB : w.heap.size ≤ w5.heap.size := hB5.size
        clear hB5 hx5 hf5 bx0 bx1 bx2 bx3 bf0 bf1 bxf bxz bff bfz
        generalize w5.alloc (.cells #[.int .i64 mo, .int .i64 mf, .int .i64 mt, .bool ma] 58) = w6 at *
        generalize w5.heap.size = gm at *
        obtain ⟨bx0, bx1, bx2, bx3, bxf, bxz⟩ := hx6.four
        obtain ⟨bf0, bf1, bff, bfz⟩ := hf6.two
        obtain ⟨bm0, bm1, bm2, bm3, bmf, bmz⟩ := hm6.four
        go_ret2
        exact ⟨.slice none 0 0, [], _, rfl, .inr (.inr (.inl ⟨Hz.out, Hsz.out, Hm.out, rfl, rfl⟩)), lkOwn_nil _ _, hB6⟩
    · go_wp2_with fail
      go_ret2
      exact ⟨.slice none 0 0, [], _, rfl, .inr (.inl ⟨Hz.out, by rw [Hs.out]; simpa using t2, rfl, Hs.out.symm⟩), lkOwn_nil _ _, hB4⟩
  · go_wp2_with fail
    have hB3 := hB2.alloc hB2.size (.cells #[.int .i64 we, .int .i64 wa] 46)
    have hx3 := hx2.alloc (.cells #[.int .i64 we, .int .i64 wa] 46)
    have hf3 : Blk (w2.alloc (.cells #[.int .i64 we, .int .i64 wa] 46)) w2.heap.size 46 [.int .i64 we, .int .i64 wa] := Blk.new _ _ _
    have gfB : w.heap.size ≤ w2.heap.size := hB2.size
    clear hB2 hx2 bx0 bx1 bx2 bx3 bxf bxz
    generalize w2.alloc (.cells #[.int .i64 we, .int .i64 wa] 46) = w3 at *
    generalize w2.heap.size = gf at *
    obtain ⟨bx0, bx1, bx2, bx3, bxf, bxz⟩ := hx3.four
    obtain ⟨bf0, bf1, bff, bfz⟩ := hf3.two
    refine wp_region_quiet_lit (by kernel_rfl) (by kernel_rfl) ?_
    repeat (first | go_big_quiet_step (fail) | quiet_step (fail))
    refine wpQuiet_nil ?_
    intro w4 hw'
    obtain ⟨nq, hw''⟩ := hw'
    have hB4 := below_drewN hB3 nq
    have hx4 := hx3.drewN nq
    have hf4 := hf3.drewN nq
    rw [← hw''] at hB4 hx4 hf4
    clear hB3 hx3 hf3 bx0 bx1 bx2 bx3 bf0 bf1 bxf bxz bff bfz hw''
    obtain ⟨bx0, bx1, bx2, bx3, bxf, bxz⟩ := hx4.four
    obtain ⟨bf0, bf1, bff, bfz⟩ := hf4.two
    go_wp2_with fail
    go_ret2
    exact ⟨.slice none 0 0, [], _, rfl, .inl ⟨by rw [Hw.out]; simpa using t, rfl, Hw.out.symm⟩, lkOwn_nil _ _, hB4⟩

end Go.Proofs.YtjppfhgkanbemacGreatDoor

namespace Go.Proofs.YtjppfhgkanbemacGreatDoor
namespace Lk
theorem ins_perm (x : Lk) : ∀ l : List Lk, (insert x l).Perm (x :: l)
  | [] => List.Perm.refl _
  | y :: r => by
    unfold insert
    split
    · exact ((ins_perm x r).cons y).trans (List.Perm.swap x y r)
    · exact List.Perm.refl _
theorem sort_perm : ∀ l : List Lk, (sort l).Perm l
  | [] => List.Perm.refl _
  | x :: r => (ins_perm x (sort r)).trans ((sort_perm r).cons x)
theorem less_iff (x y : Lk) : less x y = true ↔ x.o < y.o ∨ (x.o = y.o ∧ x.f < y.f) := by
  simp [less]
theorem less_no (x y : Lk) : less x y = false ↔ ¬ (x.o < y.o ∨ (x.o = y.o ∧ x.f < y.f)) := by
  rw [← less_iff]; simp
theorem ins_pw (x : Lk) : ∀ l : List Lk, (l.Pairwise fun x y => less y x = false) → (insert x l).Pairwise fun x y => less y x = false
  | [], _ => List.pairwise_singleton _ _
  | y :: r, h => by
    rw [List.pairwise_cons] at h
    unfold insert
    split
    · rename_i hl
      rw [less_iff] at hl
      refine List.pairwise_cons.2 ⟨fun z hz => ?_, ins_pw x r h.2⟩
      rcases List.mem_cons.1 ((ins_perm x r).mem_iff.1 hz) with rfl | hz
      · rw [less_no]; omega
      · exact h.1 z hz
    · rename_i hl
      have hl : less y x = false := by simpa using hl
      refine List.pairwise_cons.2 ⟨fun z hz => ?_, List.pairwise_cons.2 h⟩
      rcases List.mem_cons.1 hz with rfl | hz
      · exact hl
      · have h1 := h.1 z hz
        rw [less_no] at hl h1 ⊢
        omega
theorem sort_pw : ∀ l : List Lk, (sort l).Pairwise fun x y => less y x = false
  | [] => List.Pairwise.nil
  | x :: r => ins_pw x (sort r) (sort_pw r)
theorem tidy_sort {l l' : List Lk} {x : Lk} (h : Right l) (hx : range x = false) (hp : l'.Perm (cut l x ++ [x])) (hs : l'.Pairwise fun x y => less y x = false) : tidy l' = tidy (sort (cut l x ++ [x])) := by
  have ho := ((right_iff _).1 h).1
  obtain ⟨a1, a2⟩ := taken_ok ho hx hp hs
  obtain ⟨b1, b2⟩ := taken_ok ho hx (sort_perm _) (sort_pw (cut l x ++ [x]))
  exact ok_unique a1 b1 fun o k a => (a2 o k a).trans (b2 o k a).symm
end Lk
theorem take_is {l m : List Lk} {x : Lk} {err : Int} (h : TakeRel l x m err) : Lk.take l x = (m, err) := by
  unfold Lk.take
  rcases h with ⟨h, rfl, rfl⟩ | ⟨h1, h, rfl, rfl⟩ | ⟨h1, h2, h3, rfl, rfl⟩ | ⟨h1, h2, h3, l', hp, hs, h⟩
  · rw [if_pos h]
  · rw [if_neg (by simp [h1]), if_pos h]
  · rw [if_neg (by simp [h1]), if_neg (by simp [h2]), if_pos h3]
  · have r1 := ((Lk.wrong_zero l).1 h1).2
    have r2 := (Lk.right_one x).1 ((Lk.wrong_zero [x]).1 h2).2
    have e := Lk.tidy_sort r1 r2 hp hs
    rw [if_neg (by simp [h1]), if_neg (by simp [h2]), if_neg (by simp [h3]), ← e]
    rcases h with ⟨a, rfl, rfl⟩ | ⟨a, rfl, rfl⟩
    · rw [if_pos a]
    · rw [if_neg (by omega)]
theorem free_is {l m : List Lk} {x : Lk} {err : Int} (h : FreeRel l x m err) : Lk.free l x = (m, err) := by
  unfold Lk.free
  rcases h with ⟨h, rfl, rfl⟩ | ⟨h1, h, rfl, rfl⟩ | ⟨h1, h2, h⟩
  · rw [if_pos h]
  · rw [if_neg (by simp [h1]), if_pos h]
  · rw [if_neg (by simp [h1]), if_neg (by simp [h2])]
    rcases h with ⟨a, rfl, rfl⟩ | ⟨a, rfl, rfl⟩
    · rw [if_pos a]
    · rw [if_neg (by omega)]
end Go.Proofs.YtjppfhgkanbemacGreatDoor
