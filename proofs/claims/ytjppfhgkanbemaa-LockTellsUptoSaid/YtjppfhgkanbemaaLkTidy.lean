/-
  The walks of cmp.Compare, cmp.Or, of lock.tidy's closure and of lock.tidy.
-/
import Derived.Test.YtjppfhgkanbemaaLkCut
import Derived.Test.YtjppfhgkanbemaaSort
import Derived.Test.YtjppfhgkanbemaaShelf
namespace Go.Proofs.Ytjppfhgkanbemaa
open Go.RowKit Go.Sort Go.Shelf

def cmpI (a b : Int) : Int := if a < b then -1 else if b < a then 1 else 0
def orI (a b : Int) : Int := if a = 0 then b else a
def Lk.cf (x y : Lk) : Int := orI (cmpI x.o y.o) (cmpI x.f y.f)

theorem ret_int {k : IntKind} {a b : Int} (h : a = b) : Ending.returned (.int k a) = .returned (.int k b) := by rw [h]

theorem compare_any (a b : Int) (w : World) : Calls Try.prog 35 #[.int .i64 a, .int .i64 b] w fun e w' => e = .returned (.int .i64 (cmpI a b)) ∧ w = w' := by
  by_cases h1 : a < b
  · have He : Hid (cmpI a b = -1) := if_pos h1
    go_enter Try.func35, Try.ntmps35
    go_wp2
    go_ret
    exact ⟨by rw [He.out]; rfl, rfl⟩
  · by_cases h2 : b < a
    · have He : Hid (cmpI a b = 1) := (if_neg h1).trans (if_pos h2)
      go_enter Try.func35, Try.ntmps35
      go_wp2
      go_ret
      exact ⟨by rw [He.out]; rfl, rfl⟩
    · have He : Hid (cmpI a b = 0) := (if_neg h1).trans (if_neg h2)
      go_enter Try.func35, Try.ntmps35
      go_wp2
      go_ret
      exact ⟨by rw [He.out]; rfl, rfl⟩

theorem or_any (g : Nat) (a b : Int) (c : Nat) (w : World) (ha : w.cell? ⟨g, 0, none⟩ = some (.int .i64 a)) (hb : w.cell? ⟨g, 1, none⟩ = some (.int .i64 b)) :
    Calls Try.prog 34 #[.slice (some ⟨g, 0, none⟩) 2 c] w fun e w' => e = .returned (.int .i64 (orI a b)) ∧ w = w' := by
  have hx : ∀ k : Nat, k < 2 → w.cell? ⟨g, k, none⟩ = some (.int .i64 (if k = 0 then a else b)) := fun k hk => by
    rcases k with _ | _ | k
    · exact ha
    · exact hb
    · omega
  clear ha hb
  go_enter Try.func34, Try.ntmps34
  go_wp2
  go_loop [8] (fun i => ∃ k : Nat, k ≤ 2 ∧ i = .int .i64 k ∧ Hid ((0 < k → a = 0) ∧ (1 < k → b = 0))) (fun i => 2 - (intOf i).toNat)
  case atStart => exact ⟨0, by omega, rfl, fun h => absurd h (by omega), fun h => absurd h (by omega)⟩
  case round =>
    obtain ⟨k, hk, rfl, hz⟩ := hrel
    by_cases hlt : k < 2
    · have hck := hx k hlt
      clear hx
      generalize hy : (if k = 0 then a else b) = y at hck
      have Hy := Lib.hid hy
      clear hy
      rcases hyz : (y != 0) with _ | _
      · go_wp2
        go_round
        case rel =>
          have y0 : y = 0 := by simpa using hyz
          have e := Hy.out
          rw [y0] at e
          refine ⟨k + 1, by omega, by go_num, fun _ => ?_, fun _ => ?_⟩
          · rcases Nat.eq_zero_or_pos k with h | h
            · simpa [h] using e
            · exact hz.out.1 h
          · have : k = 1 := by omega
            simpa [this] using e
        case measure => simp [intOf]; omega
      · go_wp2
        go_ret
        refine ⟨?_, rfl⟩
        have y0 : y ≠ 0 := by simpa using hyz
        have e := Hy.out
        refine ret_int ?_
        unfold orI
        rcases Nat.eq_zero_or_pos k with h | h
        · rw [if_pos h] at e
          subst e
          rw [if_neg y0]
        · rw [if_neg (by omega)] at e
          rw [if_pos (hz.out.1 h), e]
    · clear hx
      go_wp2
      go_ret
      have h2 : k = 2 := by omega
      refine ⟨ret_int ?_, rfl⟩
      unfold orI
      rw [if_pos (hz.out.1 (by omega)), hz.out.2 (by omega)]

set_option maxHeartbeats 800000 in
theorem tidy1_any (x y : Lk) (W : World) : Calls Try.prog 33 #[.agg x.cells.toArray, .agg y.cells.toArray] W fun e w' => e = .returned (.int .i64 (Lk.cf x y)) ∧ Gr W w' := by
  obtain ⟨xo, xf, xt, xa⟩ := x
  obtain ⟨yo, yf, yt, ya⟩ := y
  simp only [Lk.cells]
  go_enter Try.func33, Try.ntmps33
  go_wp2_with fail
  go_region_held3 (fun w' => w'.cell? ⟨W.heap.size, 0, none⟩ = some (.int .i64 xo) ∧ w'.cell? ⟨W.heap.size, 1, none⟩ = some (.int .i64 xf) ∧ w'.cell? ⟨W.heap.size + 1, 0, none⟩ = some (.int .i64 yo) ∧ w'.cell? ⟨W.heap.size + 1, 1, none⟩ = some (.int .i64 yf))
    (first | go_keep)
    (first
      | (go_at_call 35; refine (compare_any _ _ _).mono ?_; rintro e w' ⟨rfl, rfl⟩)
      | (go_at_call 34; refine (or_any _ (cmpI xo yo) (cmpI xf yf) _ _ (by go_simp) (by go_simp)).mono ?_; rintro e w' ⟨rfl, rfl⟩))
  all_goals go_wp2
  all_goals go_ret
  all_goals exact ⟨rfl, by repeat (first | exact Gr.refl _ | apply Gr.drew | apply Gr.drewN | apply Gr.alloc)⟩

theorem cf_less (x y : Lk) : ltOf Lk.cf x y = Lk.less x y := by
  unfold ltOf Lk.cf orI cmpI Lk.less
  by_cases h1 : x.o < y.o
  · simp [h1]
  · by_cases h2 : y.o < x.o
    · have : ¬ x.o = y.o := by omega
      simp [h1, h2, this]
    · have e : x.o = y.o := by omega
      rw [e]
      by_cases h3 : x.f < y.f
      · simp [h3]
      · by_cases h4 : y.f < x.f <;> simp [h3, h4]

instance : Inhabited Lk := ⟨Lk.zero⟩

theorem lk_swo : SWO (ltOf Lk.cf) where
  irrefl x := by rw [cf_less]; simp [Lk.less]
  trans x y z h1 h2 := by rw [cf_less] at *; simp [Lk.less] at *; omega
  ntrans x y z h1 h2 := by rw [cf_less] at *; simp [Lk.less] at *; omega


theorem isAgg_lk : ∀ w, (isAgg (Try.sortLk_ren.t 24)).run Try.prog w = .ok true w := fun w => by kernel_rfl
theorem sizeOf_lk : ∀ w, (Go.sizeOf (Try.sortLk_ren.t 24)).run Try.prog w = .ok 4 w := fun w => by kernel_rfl

/-- The sort of a row of locks. -/
theorem sortLk_any (base g cap : Nat) (l : List Lk) (w : World) (h : LkOwn w base (.slice (some ⟨g, 0, none⟩) l.length cap) l) (hsz : l.length ≤ 1000) :
    Calls Try.prog 32 #[.slice (some ⟨g, 0, none⟩) l.length cap, .func (.func 33) #[] #[]] w fun e w' => e = .returned (.tuple #[]) ∧
      ∃ l' : List Lk, l'.Perm l ∧ (l'.Pairwise fun x y => Lk.less y x = false) ∧ LkOwn w' base (.slice (some ⟨g, 0, none⟩) l.length cap) l' ∧ w.grownBy w' (some g) := by
  have eg : ∀ args w, (callFunc 33 args).run Try.prog w = .ok (.enter 33 args) w := enters_of Try.func33 (by kernel_rfl) rfl
  have c := sort_own Try.sortLk 4 isAgg_lk sizeOf_lk Lk.cells (fun _ => rfl) (fun x v hv => by simp [Lk.cells] at hv; rcases hv with rfl | rfl | rfl | rfl <;> rfl) Lk.cf lk_swo 33 #[] base 24 g l.length cap l w eg
    (fun W x y => tidy1_any x y W) h rfl (by omega)
  refine Calls.mono (P := Try.prog) (f := 32) c ?_
  rintro e w' ⟨rfl, l', hp, hs, ho, hg⟩
  refine ⟨rfl, l', hp, by simpa only [cf_less] using hs, ?_, hg⟩
  unfold LkOwn
  rw [hp.length_eq]
  exact ho

/-! ### tidy -/

theorem flat_last (r : List Lk) (y : Lk) : (Lk.flat (r ++ [y]))[r.length * 4 + 0]? = some (.int .i64 y.o) ∧ (Lk.flat (r ++ [y]))[r.length * 4 + 1]? = some (.int .i64 y.f) ∧ (Lk.flat (r ++ [y]))[r.length * 4 + 2]? = some (.int .i64 y.t) ∧ (Lk.flat (r ++ [y]))[r.length * 4 + 3]? = some (.bool y.a) := by
  have h := flat_at (r ++ [y]) r.length (by simp)
  simpa using h
theorem flat_len (l : List Lk) : (Lk.flat l).length = l.length * 4 := by
  induction l with
  | nil => rfl
  | cons x r ih => rw [show Lk.flat (x :: r) = x.cells ++ Lk.flat r from rfl, List.length_append, ih, List.length_cons]; simp only [Lk.cells, List.length_cons, List.length_nil]; omega
theorem LkOwn.last {w : World} {base : Nat} {v : Value} {r : List Lk} {yo yf yt z : Int} {ya : Bool}
    (h : w.ownsRow base 24 4 v (r.length + 1) ((Lk.flat (r ++ [⟨yo, yf, yt, ya⟩])).set (r.length * 4 + 2) (.int .i64 z))) : LkOwn w base v (r ++ [⟨yo, yf, z, ya⟩]) := by
  unfold LkOwn
  have e : (Lk.flat (r ++ [⟨yo, yf, yt, ya⟩])).set (r.length * 4 + 2) (.int .i64 z) = Lk.flat (r ++ [⟨yo, yf, z, ya⟩]) := by
    rw [flat_append, flat_append, List.set_append_right _ _ (by rw [flat_len]; omega), flat_len, show r.length * 4 + 2 - r.length * 4 = 2 from by omega]
    rfl
  rw [← e]
  simpa using h

set_option maxHeartbeats 1600000 in
set_option maxRecDepth 100000 in
theorem tidy_any (base g cap : Nat) (l : List Lk) (w : World) (h : LkOwn w base (.slice (some ⟨g, 0, none⟩) l.length cap) l) (hsz : l.length ≤ 1000) :
    Calls Try.prog 24 #[.slice (some ⟨g, 0, none⟩) l.length cap] w fun e w' => ∃ v l', e = .returned v ∧ l'.Perm l ∧ (l'.Pairwise fun x y => Lk.less y x = false) ∧ LkOwn w' w.heap.size v (Lk.tidy l') ∧ w.grownBy w' (some g) := by
  obtain ⟨i0, hi, hz0, hz1, hz2⟩ := info_parts info_lk
  go_enter Try.func24, Try.ntmps24
  go_wp2_with fail
  refine (sortLk_any base g cap l w h hsz).mono ?_
  rintro e w1 ⟨rfl, l', hp, hs, ho, hg⟩
  rw [← hp.length_eq] at hsz ho ⊢
  have hl : LkRd w1 w1.heap.size (some ⟨g, 0, none⟩) l' := by
    have := Rd.of_own ho
    exact this
  have Hp := Lib.hid hp
  have Hs0 := Lib.hid hs
  have Hg := Lib.hid hg
  have hbase : w.heap.size ≤ w1.heap.size := hg.size
  clear hp hs hg h ho
  go_wp2_with fail
  go_loopw [3, 11] (fun v i wr => ∃ k : Nat, k ≤ l'.length ∧ i = .int .i64 k ∧ LkOwn wr w1.heap.size v (Lk.tidy (l'.take k)) ∧ Below w1.heap.size w1 wr) (fun _ i _ => l'.length - (intOf i).toNat)
  case atStart => exact ⟨0, Nat.zero_le _, rfl, World.ownsRow_nil _ _ _ _, Below.refl _ _⟩
  case round =>
    obtain ⟨k, hk, rfl, hown, hB⟩ := hrel
    by_cases hlt : k < l'.length
    · obtain ⟨bl, ol, hA, hbl, hat⟩ := (LkRd.at_ (hl.below hB) hlt)
      cases hA
      obtain ⟨h0, h1, h2, h3⟩ := hat
      have hno : (Lk.tidy (l'.take k)).length ≤ k := by have := Lk.tidy_le (l'.take k); rw [List.length_take] at this; omega
      generalize hxk : l'[k] = x at h0 h1 h2 h3
      obtain ⟨xo, xf, xt, xa⟩ := x
      have Hs := Lib.hid (Lk.tidy_step hlt hxk)
      clear hxk
      dsimp only at h0 h1 h2 h3
      simp only [Nat.zero_add] at h0 h1 h2 h3
      generalize hos : Lk.tidy (l'.take k) = os at *
      have Ho := Lib.hid hos
      clear hos
      rcases own_shape hown with ⟨hv, hn0⟩ | ⟨g', cap', hv, hbg, hgl, hnc⟩
      · obtain rfl : os = [] := List.eq_nil_of_length_eq_zero hn0
        subst hv
        clear hn0
        go_wp2_with fail
        clear h0 h1 h2 h3
        have hB2 : Below w1.heap.size w1 (wr.alloc (.cells #[.int .i64 xo, .int .i64 xf, .int .i64 xt, .bool xa] 24)) := hB.alloc hB.size _
        have hx2 : Blk (wr.alloc (.cells #[.int .i64 xo, .int .i64 xf, .int .i64 xt, .bool xa] 24)) wr.heap.size 24 [.int .i64 xo, .int .i64 xf, .int .i64 xt, .bool xa] := Blk.new _ _ _
        have ho2 := own_alloc hown (.cells #[.int .i64 xo, .int .i64 xf, .int .i64 xt, .bool xa] 24)
        have hgx : w1.heap.size ≤ wr.heap.size := hB.size
        clear hB hown
        generalize wr.alloc (.cells #[.int .i64 xo, .int .i64 xf, .int .i64 xt, .bool xa] 24) = w2 at *
        generalize wr.heap.size = gx at *
        obtain ⟨x0, x1, x2, x3, xfr, xz⟩ := hx2.four

        refine wp_region_quiet_lit (by kernel_rfl) (by kernel_rfl) ?_
        repeat (first | go_big_quiet_step (fail) | quiet_step (fail))
        refine wpQuiet_nil ?_
        intro w3 hw'
        obtain ⟨nq, hw''⟩ := hw'
        have hB3 := below_drewN hB2 nq
        have hx3 := hx2.drewN nq
        have ho3 := own_drewN ho2 nq
        rw [← hw''] at hB3 hx3 ho3
        clear hw'' hB2 hx2 ho2 x0 x1 x2 x3 xfr xz 
        obtain ⟨x0, x1, x2, x3, xfr, xz⟩ := hx3.four
        go_wp2_with (first | (at_builtin; go_must (refine wpList_app1 w3 rfl _ _ _ rfl w1.heap.size 24 i0 _ 4 32 Try.underlying22 hi hz0 hz1 hz2 rfl (by decide) (.slice none 0 0) _ _ rfl ho3 [.int .i64 xo, .int .i64 xf, .int .i64 xt, .bool xa] rfl rfl (by simp [Value.oneCell']) (by omega) (by decide) hB3.size _ rfl ?_); intro v3 w9 ho9 hg9 _))
        go_roundw
        case rel => exact ⟨k + 1, hlt, by go_num, LkOwn.snoc (l := []) (y := ⟨xo, xf, xt, xa⟩) (hn := by simp) ho9 (Hs.out.trans (by rfl)), below_grown hB3 hg9 hB3.size (fun k hk => (ho3.lt k hk).1)⟩
        case measure => simp [intOf]; omega

      · rcases List.eq_nil_or_concat os with rfl | ⟨r, y, rfl⟩
        · rw [List.length_nil] at hv
          subst hv
          go_wp2_with fail
          clear h0 h1 h2 h3
          have hB2 : Below w1.heap.size w1 (wr.alloc (.cells #[.int .i64 xo, .int .i64 xf, .int .i64 xt, .bool xa] 24)) := hB.alloc hB.size _
          have hx2 : Blk (wr.alloc (.cells #[.int .i64 xo, .int .i64 xf, .int .i64 xt, .bool xa] 24)) wr.heap.size 24 [.int .i64 xo, .int .i64 xf, .int .i64 xt, .bool xa] := Blk.new _ _ _
          have ho2 := own_alloc hown (.cells #[.int .i64 xo, .int .i64 xf, .int .i64 xt, .bool xa] 24)
          have hgx : w1.heap.size ≤ wr.heap.size := hB.size
          clear hB hown
          generalize wr.alloc (.cells #[.int .i64 xo, .int .i64 xf, .int .i64 xt, .bool xa] 24) = w2 at *
          generalize wr.heap.size = gx at *
          obtain ⟨x0, x1, x2, x3, xfr, xz⟩ := hx2.four

          refine wp_region_quiet_lit (by kernel_rfl) (by kernel_rfl) ?_
          repeat (first | go_big_quiet_step (fail) | quiet_step (fail))
          refine wpQuiet_nil ?_
          intro w3 hw'
          obtain ⟨nq, hw''⟩ := hw'
          have hB3 := below_drewN hB2 nq
          have hx3 := hx2.drewN nq
          have ho3 := own_drewN ho2 nq
          rw [← hw''] at hB3 hx3 ho3
          clear hw'' hB2 hx2 ho2 x0 x1 x2 x3 xfr xz 
          obtain ⟨x0, x1, x2, x3, xfr, xz⟩ := hx3.four
          go_wp2_with (first | (at_builtin; go_must (refine wpList_app1 w3 rfl _ _ _ rfl w1.heap.size 24 i0 _ 4 32 Try.underlying22 hi hz0 hz1 hz2 rfl (by decide) (.slice (some ⟨g', 0, none⟩) 0 cap') _ _ rfl ho3 [.int .i64 xo, .int .i64 xf, .int .i64 xt, .bool xa] rfl rfl (by simp [Value.oneCell']) (by omega) (by decide) hB3.size _ rfl ?_); intro v3 w9 ho9 hg9 _))
          go_roundw
          case rel => exact ⟨k + 1, hlt, by go_num, LkOwn.snoc (l := []) (y := ⟨xo, xf, xt, xa⟩) (hn := by simp) ho9 (Hs.out.trans (by rfl)), below_grown hB3 hg9 hB3.size (fun k hk => (ho3.lt k hk).1)⟩
          case measure => simp [intOf]; omega

        · obtain ⟨yo, yf, yt, ya⟩ := y
          simp only [List.concat_eq_append, List.length_append, List.length_cons, List.length_nil, Nat.zero_add] at *
          subst hv
          replace hown : wr.ownsRow w1.heap.size 24 4 (.slice (some ⟨g', 0, none⟩) (r.length + 1) cap') (r.length + 1) (Lk.flat (r ++ [⟨yo, yf, yt, ya⟩])) := by
            have := hown
            unfold LkOwn at this
            rw [List.length_append] at this
            exact this
          obtain ⟨l0, l1, l2, l3⟩ := flat_last r ⟨yo, yf, yt, ya⟩
          have l0 := (hown.cellAt (r.length * 4 + 0) (by omega)).trans l0
          have l1 := (hown.cellAt (r.length * 4 + 1) (by omega)).trans l1
          have l2 := (hown.cellAt (r.length * 4 + 2) (by omega)).trans l2
          have l3 := (hown.cellAt (r.length * 4 + 3) (by omega)).trans l3
          simp only [Nat.add_zero] at l0
          dsimp only at l0 l1 l2 l3
          rcases t0 : (yo == xo) with _ | _
          · go_wp2_with fail
            clear h0 h1 h2 h3
            have hB2 : Below w1.heap.size w1 (wr.alloc (.cells #[.int .i64 xo, .int .i64 xf, .int .i64 xt, .bool xa] 24)) := hB.alloc hB.size _
            have hx2 : Blk (wr.alloc (.cells #[.int .i64 xo, .int .i64 xf, .int .i64 xt, .bool xa] 24)) wr.heap.size 24 [.int .i64 xo, .int .i64 xf, .int .i64 xt, .bool xa] := Blk.new _ _ _
            have ho2 := own_alloc hown (.cells #[.int .i64 xo, .int .i64 xf, .int .i64 xt, .bool xa] 24)
            have hgx : w1.heap.size ≤ wr.heap.size := hB.size
            have l0 := (World.cell?_alloc_lt wr (.cells #[.int .i64 xo, .int .i64 xf, .int .i64 xt, .bool xa] 24) _ hgl).trans l0
            have l1 := (World.cell?_alloc_lt wr (.cells #[.int .i64 xo, .int .i64 xf, .int .i64 xt, .bool xa] 24) _ hgl).trans l1
            have l2 := (World.cell?_alloc_lt wr (.cells #[.int .i64 xo, .int .i64 xf, .int .i64 xt, .bool xa] 24) _ hgl).trans l2
            have l3 := (World.cell?_alloc_lt wr (.cells #[.int .i64 xo, .int .i64 xf, .int .i64 xt, .bool xa] 24) _ hgl).trans l3
            clear hB hown
            generalize wr.alloc (.cells #[.int .i64 xo, .int .i64 xf, .int .i64 xt, .bool xa] 24) = w2 at *
            generalize wr.heap.size = gx at *
            obtain ⟨x0, x1, x2, x3, xfr, xz⟩ := hx2.four
            refine wp_region_quiet_lit (by kernel_rfl) (by kernel_rfl) ?_
            repeat (first | go_big_quiet_step (fail) | quiet_step (fail))
            refine wpQuiet_nil ?_
            intro w3 hw'
            obtain ⟨nq, hw''⟩ := hw'
            have hB3 := below_drewN hB2 nq
            have hx3 := hx2.drewN nq
            have ho3 := own_drewN ho2 nq
            rw [← hw''] at hB3 hx3 ho3
            clear hw'' hB2 hx2 ho2 x0 x1 x2 x3 xfr xz l0 l1 l2 l3
            obtain ⟨x0, x1, x2, x3, xfr, xz⟩ := hx3.four
            go_wp2_with (first | (at_builtin; go_must (refine wpList_app1 w3 rfl _ _ _ rfl w1.heap.size 24 i0 _ 4 32 Try.underlying22 hi hz0 hz1 hz2 rfl (by decide) (.slice (some ⟨g', 0, none⟩) (r.length + 1) cap') _ _ rfl ho3 [.int .i64 xo, .int .i64 xf, .int .i64 xt, .bool xa] rfl rfl (by simp [Value.oneCell']) (by omega) (by decide) hB3.size _ rfl ?_); intro v3 w9 ho9 hg9 _))
            go_roundw
            case rel => exact ⟨k + 1, hlt, by go_num, LkOwn.snoc (l := r ++ [⟨yo, yf, yt, ya⟩]) (y := ⟨xo, xf, xt, xa⟩) (hn := by simp) ho9 (Hs.out.trans (by exact Lk.push_apart r ⟨yo, yf, yt, ya⟩ ⟨xo, xf, xt, xa⟩ (by simp [Lk.touch, t0]))), below_grown hB3 hg9 hB3.size (fun k hk => (ho3.lt k hk).1)⟩
            case measure => simp [intOf]; omega

          · rcases t1 : (yt == xf) with _ | _
            · go_wp2_with fail
              clear h0 h1 h2 h3
              have hB2 : Below w1.heap.size w1 (wr.alloc (.cells #[.int .i64 xo, .int .i64 xf, .int .i64 xt, .bool xa] 24)) := hB.alloc hB.size _
              have hx2 : Blk (wr.alloc (.cells #[.int .i64 xo, .int .i64 xf, .int .i64 xt, .bool xa] 24)) wr.heap.size 24 [.int .i64 xo, .int .i64 xf, .int .i64 xt, .bool xa] := Blk.new _ _ _
              have ho2 := own_alloc hown (.cells #[.int .i64 xo, .int .i64 xf, .int .i64 xt, .bool xa] 24)
              have hgx : w1.heap.size ≤ wr.heap.size := hB.size
              have l0 := (World.cell?_alloc_lt wr (.cells #[.int .i64 xo, .int .i64 xf, .int .i64 xt, .bool xa] 24) _ hgl).trans l0
              have l1 := (World.cell?_alloc_lt wr (.cells #[.int .i64 xo, .int .i64 xf, .int .i64 xt, .bool xa] 24) _ hgl).trans l1
              have l2 := (World.cell?_alloc_lt wr (.cells #[.int .i64 xo, .int .i64 xf, .int .i64 xt, .bool xa] 24) _ hgl).trans l2
              have l3 := (World.cell?_alloc_lt wr (.cells #[.int .i64 xo, .int .i64 xf, .int .i64 xt, .bool xa] 24) _ hgl).trans l3
              clear hB hown
              generalize wr.alloc (.cells #[.int .i64 xo, .int .i64 xf, .int .i64 xt, .bool xa] 24) = w2 at *
              generalize wr.heap.size = gx at *
              obtain ⟨x0, x1, x2, x3, xfr, xz⟩ := hx2.four
              refine wp_region_quiet_lit (by kernel_rfl) (by kernel_rfl) ?_
              repeat (first | go_big_quiet_step (fail) | quiet_step (fail))
              refine wpQuiet_nil ?_
              intro w3 hw'
              obtain ⟨nq, hw''⟩ := hw'
              have hB3 := below_drewN hB2 nq
              have hx3 := hx2.drewN nq
              have ho3 := own_drewN ho2 nq
              rw [← hw''] at hB3 hx3 ho3
              clear hw'' hB2 hx2 ho2 x0 x1 x2 x3 xfr xz l0 l1 l2 l3
              obtain ⟨x0, x1, x2, x3, xfr, xz⟩ := hx3.four
              go_wp2_with (first | (at_builtin; go_must (refine wpList_app1 w3 rfl _ _ _ rfl w1.heap.size 24 i0 _ 4 32 Try.underlying22 hi hz0 hz1 hz2 rfl (by decide) (.slice (some ⟨g', 0, none⟩) (r.length + 1) cap') _ _ rfl ho3 [.int .i64 xo, .int .i64 xf, .int .i64 xt, .bool xa] rfl rfl (by simp [Value.oneCell']) (by omega) (by decide) hB3.size _ rfl ?_); intro v3 w9 ho9 hg9 _))
              go_roundw
              case rel => exact ⟨k + 1, hlt, by go_num, LkOwn.snoc (l := r ++ [⟨yo, yf, yt, ya⟩]) (y := ⟨xo, xf, xt, xa⟩) (hn := by simp) ho9 (Hs.out.trans (by exact Lk.push_apart r ⟨yo, yf, yt, ya⟩ ⟨xo, xf, xt, xa⟩ (by simp [Lk.touch, t1]))), below_grown hB3 hg9 hB3.size (fun k hk => (ho3.lt k hk).1)⟩
              case measure => simp [intOf]; omega

            · rcases t2 : (ya == xa) with _ | _
              · go_wp2_with fail
                clear h0 h1 h2 h3
                have hB2 : Below w1.heap.size w1 (wr.alloc (.cells #[.int .i64 xo, .int .i64 xf, .int .i64 xt, .bool xa] 24)) := hB.alloc hB.size _
                have hx2 : Blk (wr.alloc (.cells #[.int .i64 xo, .int .i64 xf, .int .i64 xt, .bool xa] 24)) wr.heap.size 24 [.int .i64 xo, .int .i64 xf, .int .i64 xt, .bool xa] := Blk.new _ _ _
                have ho2 := own_alloc hown (.cells #[.int .i64 xo, .int .i64 xf, .int .i64 xt, .bool xa] 24)
                have hgx : w1.heap.size ≤ wr.heap.size := hB.size
                have l0 := (World.cell?_alloc_lt wr (.cells #[.int .i64 xo, .int .i64 xf, .int .i64 xt, .bool xa] 24) _ hgl).trans l0
                have l1 := (World.cell?_alloc_lt wr (.cells #[.int .i64 xo, .int .i64 xf, .int .i64 xt, .bool xa] 24) _ hgl).trans l1
                have l2 := (World.cell?_alloc_lt wr (.cells #[.int .i64 xo, .int .i64 xf, .int .i64 xt, .bool xa] 24) _ hgl).trans l2
                have l3 := (World.cell?_alloc_lt wr (.cells #[.int .i64 xo, .int .i64 xf, .int .i64 xt, .bool xa] 24) _ hgl).trans l3
                clear hB hown
                generalize wr.alloc (.cells #[.int .i64 xo, .int .i64 xf, .int .i64 xt, .bool xa] 24) = w2 at *
                generalize wr.heap.size = gx at *
                obtain ⟨x0, x1, x2, x3, xfr, xz⟩ := hx2.four
                refine wp_region_quiet_lit (by kernel_rfl) (by kernel_rfl) ?_
                repeat (first | go_big_quiet_step (fail) | quiet_step (fail))
                refine wpQuiet_nil ?_
                intro w3 hw'
                obtain ⟨nq, hw''⟩ := hw'
                have hB3 := below_drewN hB2 nq
                have hx3 := hx2.drewN nq
                have ho3 := own_drewN ho2 nq
                rw [← hw''] at hB3 hx3 ho3
                clear hw'' hB2 hx2 ho2 x0 x1 x2 x3 xfr xz l0 l1 l2 l3
                obtain ⟨x0, x1, x2, x3, xfr, xz⟩ := hx3.four
                go_wp2_with (first | (at_builtin; go_must (refine wpList_app1 w3 rfl _ _ _ rfl w1.heap.size 24 i0 _ 4 32 Try.underlying22 hi hz0 hz1 hz2 rfl (by decide) (.slice (some ⟨g', 0, none⟩) (r.length + 1) cap') _ _ rfl ho3 [.int .i64 xo, .int .i64 xf, .int .i64 xt, .bool xa] rfl rfl (by simp [Value.oneCell']) (by omega) (by decide) hB3.size _ rfl ?_); intro v3 w9 ho9 hg9 _))
                go_roundw
                case rel => exact ⟨k + 1, hlt, by go_num, LkOwn.snoc (l := r ++ [⟨yo, yf, yt, ya⟩]) (y := ⟨xo, xf, xt, xa⟩) (hn := by simp) ho9 (Hs.out.trans (by exact Lk.push_apart r ⟨yo, yf, yt, ya⟩ ⟨xo, xf, xt, xa⟩ (by simp [Lk.touch, t2]))), below_grown hB3 hg9 hB3.size (fun k hk => (ho3.lt k hk).1)⟩
                case measure => simp [intOf]; omega

              · go_wp2_with fail
                clear h0 h1 h2 h3
                have hB2 : Below w1.heap.size w1 (wr.alloc (.cells #[.int .i64 xo, .int .i64 xf, .int .i64 xt, .bool xa] 24)) := hB.alloc hB.size _
                have hx2 : Blk (wr.alloc (.cells #[.int .i64 xo, .int .i64 xf, .int .i64 xt, .bool xa] 24)) wr.heap.size 24 [.int .i64 xo, .int .i64 xf, .int .i64 xt, .bool xa] := Blk.new _ _ _
                have ho2 := own_alloc hown (.cells #[.int .i64 xo, .int .i64 xf, .int .i64 xt, .bool xa] 24)
                have hgx : w1.heap.size ≤ wr.heap.size := hB.size
                have l0 := (World.cell?_alloc_lt wr (.cells #[.int .i64 xo, .int .i64 xf, .int .i64 xt, .bool xa] 24) _ hgl).trans l0
                have l1 := (World.cell?_alloc_lt wr (.cells #[.int .i64 xo, .int .i64 xf, .int .i64 xt, .bool xa] 24) _ hgl).trans l1
                have l2 := (World.cell?_alloc_lt wr (.cells #[.int .i64 xo, .int .i64 xf, .int .i64 xt, .bool xa] 24) _ hgl).trans l2
                have l3 := (World.cell?_alloc_lt wr (.cells #[.int .i64 xo, .int .i64 xf, .int .i64 xt, .bool xa] 24) _ hgl).trans l3
                clear hB hown
                generalize wr.alloc (.cells #[.int .i64 xo, .int .i64 xf, .int .i64 xt, .bool xa] 24) = w2 at *
                generalize wr.heap.size = gx at *
                obtain ⟨x0, x1, x2, x3, xfr, xz⟩ := hx2.four
                refine wp_region_quiet_lit (by kernel_rfl) (by kernel_rfl) ?_
                repeat (first | go_big_quiet_step (fail) | quiet_step (fail))
                refine wpQuiet_nil ?_
                intro w3 hw'
                obtain ⟨nq, hw''⟩ := hw'
                have hB3 := below_drewN hB2 nq
                have hx3 := hx2.drewN nq
                have ho3 := own_drewN ho2 nq
                rw [← hw''] at hB3 hx3 ho3
                clear hw'' hB2 hx2 ho2 x0 x1 x2 x3 xfr xz l0 l1 l2 l3
                obtain ⟨x0, x1, x2, x3, xfr, xz⟩ := hx3.four
                have hfz : w3.frozen? ⟨g', r.length * 4 + 2, none⟩ = false := ho3.frozenAt _
                have hcl : w3.cell? ⟨g', r.length * 4 + 2, none⟩ = some (.int .i64 yt) := (ho3.cellAt _ (by omega)).trans (flat_last r ⟨yo, yf, yt, ya⟩).2.2.1
                go_wp2_with fail
                go_roundw
                case rel =>
                  obtain ⟨s1, s2⟩ := ho3.stored (r.length * 4 + 2) (.int .i64 xt)
                  refine ⟨k + 1, hlt, by go_num, ?_, hB3.grown s2 hB3.size (fun k hk => by cases hk; exact hbg)⟩
                  rw [Hs.out, Lk.push_touch r ⟨yo, yf, yt, ya⟩ ⟨xo, xf, xt, xa⟩ (by simp only [Lk.touch, Bool.and_eq_true]; exact ⟨⟨t0, t1⟩, t2⟩)]
                  exact LkOwn.last s1
                case measure => simp [intOf]; omega

    · go_wp2_with fail
      go_ret
      have e : l'.take k = l' := List.take_of_length_le (by omega)
      rw [e] at hown
      exact ⟨_, l', rfl, Hp.out, Hs0.out, own_base hown hbase, grown_of_below Hg.out hB⟩

end Go.Proofs.Ytjppfhgkanbemaa
