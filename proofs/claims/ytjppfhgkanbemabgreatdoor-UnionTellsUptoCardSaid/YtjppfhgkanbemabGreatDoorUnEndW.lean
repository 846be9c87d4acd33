/-
  (*change).end. (Printed by wip/genunend.py.)
-/
import Derived.Test.YtjppfhgkanbemabGreatDoorUnDropW
import Derived.Deep.RegionLaw
namespace Go.Proofs.YtjppfhgkanbemabGreatDoor
open Go.RowKit Go.Shelf Go.Sort

/-- A row of trees of the call's own, and trees behind a bound, none in the row. -/
def TsFree (w : World) (base : Nat) (v : Value) (ls : List (List En)) : Prop :=
  ∃ vs : List Value, w.ownsRow base 30 1 v ls.length vs ∧ ∀ k (h : k < ls.length), ∃ Ak ck, vs[k]? = some (.slice Ak ls[k].length ck) ∧ ls[k].length ≤ ck ∧ EnRd w w.heap.size Ak ls[k] ∧ (0 < ls[k].length → ∀ a, Ak = some a → base ≤ a.block ∧ some a.block ≠ v.ownBlock)
theorem TsFree.nil (w : World) (base : Nat) : TsFree w base (.slice none 0 0) [] := ⟨[], World.ownsRow_nil _ _ _ _, fun k h => absurd h (Nat.not_lt_zero k)⟩
theorem TsFree.below {w w' : World} {base : Nat} {v : Value} {ls : List (List En)} (h : TsFree w base v ls) (hb : Below w.heap.size w w') : TsFree w' base v ls := by
  obtain ⟨vs, h1, h2⟩ := h
  refine ⟨vs, own_below h1 hb (Nat.le_refl _), fun k hk => ?_⟩
  obtain ⟨Ak, ck, f1, f2, f3, f4⟩ := h2 k hk
  exact ⟨Ak, ck, f1, f2, (Rd.below f3 hb).more hb.size, f4⟩
theorem TsFree.far {w : World} {base g : Nat} {v : Value} {ls : List (List En)} (h : TsFree w base v ls) (hg : g < base) (i : Nat) (u : Value) : TsFree (w.setCell ⟨g, i, none⟩ u) base v ls := by
  obtain ⟨vs, h1, h2⟩ := h
  refine ⟨vs, own_far h1 (own_ne h1 (.inl hg)) i u, fun k hk => ?_⟩
  obtain ⟨Ak, ck, f1, f2, f3, f4⟩ := h2 k hk
  refine ⟨Ak, ck, f1, f2, ⟨f3.1, fun hn => ?_⟩, f4⟩
  obtain ⟨b, o, e, hlt, hc⟩ := f3.2 hn
  refine ⟨b, o, e, by simpa using hlt, fun j u' hu => ?_⟩
  have hne : b ≠ g := fun e2 => by have := (f4 hn _ e).1; change base ≤ b at this; omega
  exact (World.cell?_of_block (a := ⟨b, o + j, none⟩) (Below.heap_setCell w ⟨g, i, none⟩ u b hne)).trans (hc j u' hu)
theorem TsFree.rd {w : World} {base : Nat} {v : Value} {ls : List (List En)} (h : TsFree w base v ls) : ∃ A c, v = .slice A ls.length c ∧ TsRd w w.heap.size A ls ∧ (A = none → c = 0) := by
  obtain ⟨vs, h1, h2⟩ := h
  have key : ∀ A, Rd w w.heap.size 1 A ls.length vs → TsRd w w.heap.size A ls := fun A hr => ⟨vs, hr, fun k hk => by
    obtain ⟨Ak, ck, f1, f2, f3, _⟩ := h2 k hk
    exact ⟨Ak, ck, f1, f2, f3⟩⟩
  rcases own_shape h1 with ⟨rfl, h0⟩ | ⟨g, cap, rfl, _, _, hc⟩
  · have e : ls = [] := List.length_eq_zero_iff.1 h0
    subst e
    exact ⟨none, 0, rfl, TsRd.nil _ _ _, fun _ => rfl⟩
  · exact ⟨some ⟨g, 0, none⟩, cap, rfl, key _ (Rd.of_own h1), fun h => by cases h⟩

section
variable {w : World} {a : Act} {o : Oper} {Q : Exit → Act → World → Prop} {base gl : Nat} {v : Value} {ls : List (List En)} {m : List En} {Ak : Option Addr} {ck : Nat}
set_option maxRecDepth 100000 in
theorem run_appFree (ty : TypeId) (hown : TsFree w base v ls) (hx : Blk w gl 30 [.slice Ak m.length ck]) (hm : EnRd w w.heap.size Ak m) (hc : m.length ≤ ck) (hk : 0 < m.length → ∀ a, Ak = some a → base ≤ a.block ∧ some a.block ≠ v.ownBlock) (hlen : ls.length ≤ 4000000) (hbase : base ≤ w.heap.size) :
    ∃ v' w', (Builtin.append_ #[31, 31] ty #[v, .slice (some ⟨gl, 0, none⟩) 1 1]).run Tryz.prog w = .ok v' w' ∧ TsFree w' base v' (ls ++ [m]) ∧ w.grownBy w' v.ownBlock := by
  obtain ⟨i0, hi, hz0, hz1, hz2⟩ := info_parts info_tr
  obtain ⟨vs, hvs, hel⟩ := hown
  have hr : Rd w w.heap.size 1 (some ⟨gl, 0, none⟩) 1 [.slice Ak m.length ck] := ⟨rfl, fun _ => ⟨_, 0, rfl, hx.lt, fun j u hu => by rw [Nat.zero_add]; exact (hx.cell j).trans hu⟩⟩
  obtain ⟨v', w', h2, h3, h4, hat⟩ := run_appR (P := Tryz.prog) w base 31 ty 30 i0 _ 1 24 Tryz.underlying31 hi hz0 hz1 hz2 rfl (by decide) v ls.length vs hvs (some ⟨gl, 0, none⟩) 1 1 [.slice Ak m.length ck] hr (fun h => by cases h) (fun u hu => by rw [List.mem_singleton.1 hu]; rfl) (by unfold maxLen; omega) (by omega) hbase
  have keep : ∀ (B : Option Addr) (l : List En), EnRd w w.heap.size B l → (0 < l.length → ∀ a, B = some a → base ≤ a.block ∧ some a.block ≠ v.ownBlock) → EnRd w' w'.heap.size B l ∧ (0 < l.length → ∀ a, B = some a → base ≤ a.block ∧ some a.block ≠ v'.ownBlock) := fun B l hB hne => by
    refine ⟨⟨hB.1, fun hn => ?_⟩, fun hn a ha => ⟨(hne hn a ha).1, fun e2 => ?_⟩⟩
    · obtain ⟨b, o, e, hlt, hcl⟩ := hB.2 hn
      refine ⟨b, o, e, Nat.lt_of_lt_of_le hlt h4.size, fun j u hu => ?_⟩
      exact (World.cell?_of_block (a := ⟨b, o + j, none⟩) (h4.block b hlt (hne hn _ e).2)).trans (hcl j u hu)
    · obtain ⟨b, o, e, hlt, _⟩ := hB.2 hn
      rw [e] at ha
      injection ha with ha
      subst ha
      rcases hat with h | h
      · exact (hne hn _ e).2 (e2.trans h)
      · rw [h] at e2; injection e2 with e2; change b = w.heap.size at e2; omega
  have hl : vs.length = ls.length := by have := hvs.1; omega
  refine ⟨v', w', h2, ⟨vs ++ [.slice Ak m.length ck], by rw [List.length_append]; exact h3, fun k hk' => ?_⟩, h4⟩
  rw [List.length_append] at hk'
  by_cases e : k < ls.length
  · obtain ⟨Ak', ck', f1, f2, f3, f4⟩ := hel k e
    obtain ⟨f5, f6⟩ := keep _ _ f3 f4
    rw [List.getElem_append_left e]
    exact ⟨Ak', ck', by rw [List.getElem?_append_left (by omega)]; exact f1, f2, f5, f6⟩
  · have ek : k = ls.length := by simp at hk'; omega
    subst ek
    obtain ⟨f5, f6⟩ := keep _ _ hm hk
    rw [List.getElem_append_right (Nat.le_refl _)]
    simp only [Nat.sub_self, List.getElem_cons_zero]
    exact ⟨Ak, ck, by rw [List.getElem?_append_right (by omega), hl, Nat.sub_self]; rfl, hc, f5, f6⟩
theorem step_appFree {ops : Array Oper} {K : Act → World → Prop} {E : Prop} (W : World) (hgd : o.guard = none) (s x : Operand) (ho : o.op = .call { callee := .builtin .append, args := #[s, x], argTypes := #[31, 31] })
    (hs : a.eval s = v) (hown : TsFree w base v ls) (hxe : a.eval x = .slice (some ⟨gl, 0, none⟩) 1 1) (hx : Blk w gl 30 [.slice Ak m.length ck]) (hm : EnRd w w.heap.size Ak m) (hc : m.length ≤ ck) (hk : 0 < m.length → ∀ a, Ak = some a → base ≤ a.block ∧ some a.block ≠ v.ownBlock) (hlen : ls.length ≤ 4000000) (hbase : base ≤ w.heap.size) (hW : W = w)
    (h : ∀ v' w', TsFree w' base v' (ls ++ [m]) → w.grownBy w' v.ownBlock → K (a.put o.dst v') w') : if Region.wanted o (yielded ops a.tmps) = true then Oper.wp Tryz.prog o a W K Q else E := by
  have hw : Region.wanted o (yielded ops a.tmps) = true := by simp [Region.wanted, hgd]
  rw [if_pos hw]
  subst hW
  obtain ⟨v', w', h2, h3, h4⟩ := run_appFree (ty := o.type) hown hx hm hc hk hlen hbase
  exact Lib.wp_append_run _ s x _ _ ho _ _ hs hxe v' w' h2 (h v' w' h3 h4)
end

theorem rd_far {w w' : World} {lo size n : Nat} {A : Option Addr} {xs : List Value} (h : Rd w w.heap.size size A n xs) (hlo : 0 < n → ∀ a, A = some a → lo ≤ a.block) (hs : w.heap.size ≤ w'.heap.size) (hk : ∀ k, lo ≤ k → k < w.heap.size → w'.heap[k]? = w.heap[k]?) : Rd w' w'.heap.size size A n xs :=
  ⟨h.1, fun hn => by
    obtain ⟨b, o, e, hlt, hc⟩ := h.2 hn
    refine ⟨b, o, e, by omega, fun j u hu => ?_⟩
    exact (World.cell?_of_block (a := ⟨b, o + j, none⟩) (hk b (hlo hn _ e) hlt)).trans (hc j u hu)⟩
/-- A union reads off wherever the blocks from lo on lie as they do here. -/
def UnFar (lo : Nat) (w : World) (A A' : Option Addr) (c c' : Nat) (u : Un) : Prop :=
  ∀ w' : World, w.heap.size ≤ w'.heap.size → (∀ k, lo ≤ k → k < w.heap.size → w'.heap[k]? = w.heap[k]?) → UnRd w' w'.heap.size A A' c c' u
theorem UnFar.here {lo : Nat} {w : World} {A A' : Option Addr} {c c' : Nat} {u : Un} (h : UnFar lo w A A' c c' u) : UnRd w w.heap.size A A' c c' u := h w (Nat.le_refl _) fun _ _ _ => rfl
theorem UnFar.less {lo lo' : Nat} {w : World} {A A' : Option Addr} {c c' : Nat} {u : Un} (h : UnFar lo w A A' c c' u) (hl : lo' ≤ lo) : UnFar lo' w A A' c c' u := fun w' hs hk => h w' hs fun k h1 h2 => hk k (by omega) h2
theorem UnFar.on {lo : Nat} {w w' : World} {A A' : Option Addr} {c c' : Nat} {u : Un} (h : UnFar lo w A A' c c' u) (hs : w.heap.size ≤ w'.heap.size) (hk : ∀ k, lo ≤ k → k < w.heap.size → w'.heap[k]? = w.heap[k]?) : UnFar lo w' A A' c c' u := fun w2 hs2 hk2 => h w2 (Nat.le_trans hs hs2) fun k h1 h2 => (hk2 k h1 (Nat.lt_of_lt_of_le h2 hs)).trans (hk k h1 h2)
theorem UnFar.below {lo : Nat} {w w' : World} {A A' : Option Addr} {c c' : Nat} {u : Un} (h : UnFar lo w A A' c c' u) (hb : Below w.heap.size w w') : UnFar lo w' A A' c c' u := h.on hb.size fun k _ hk => hb.block k hk
theorem UnFar.set {lo : Nat} {w : World} {A A' : Option Addr} {c c' : Nat} {u : Un} (h : UnFar lo w A A' c c' u) {p : Addr} (hp : p.block < lo) (x : Value) : UnFar lo (w.setCell p x) A A' c c' u := h.on (by simp) fun k h1 _ => Below.heap_setCell w p x k (by omega)
theorem UnFar.zero (lo : Nat) (w : World) : UnFar lo w none none 0 0 Un.zero := fun _ _ _ => ⟨Rd.nil, Nat.le_refl _, TsRd.nil _ _ _, fun _ => rfl⟩
/-- What a change answers: a union and an error. -/
def UnResL (lo : Nat) (r : Un × Int) (w : World) (e : Ending) (w' : World) : Prop :=
  ∃ A A' c c', e = .returned (.tuple #[.agg #[.slice A r.1.U.length c, .slice A' r.1.L.length c'], .int .i64 r.2]) ∧ UnFar lo w' A A' c c' r.1 ∧ Below w.heap.size w w'
theorem UnResL.none {lo : Nat} {w w' : World} {e : Int} (h : Below w.heap.size w w') : UnResL lo (Un.zero, e) w (.returned (.tuple #[.agg #[.slice none 0 0, .slice none 0 0], .int .i64 e])) w' :=
  ⟨_, _, _, _, rfl, UnFar.zero lo w', h⟩
theorem un_far {w : World} {lo base base' : Nat} {v vL : Value} {V : List En} {L : List (List En)} (h1 : EnOwn w base v V) (h2 : TsFree w base' vL L) (hl : lo ≤ base) (hl' : lo ≤ base') : ∃ A A' c c', v = .slice A V.length c ∧ vL = .slice A' L.length c' ∧ UnFar lo w A A' c c' ⟨V, L⟩ := by
  obtain ⟨A, c, rfl, hc, hr⟩ := EnOwn.rd h1
  obtain ⟨A', c', rfl, hr', hn⟩ := h2.rd
  refine ⟨A, A', c, c', rfl, rfl, fun w' hs hk => ⟨rd_far hr (fun _ a ha => ?_) hs hk, hc, ?_, hn⟩⟩
  · subst ha
    have := (World.ownsRow.lt h1 a.block rfl).1
    omega
  · obtain ⟨vs, g1, g2⟩ := h2
    refine ⟨vs, rd_far (lo := lo) (Rd.of_own g1) (fun _ a ha => ?_) hs hk, fun k hk' => ?_⟩
    · subst ha
      have := (World.ownsRow.lt g1 a.block rfl).1
      omega
    · obtain ⟨Ak, ck, f1, f2, f3, f4⟩ := g2 k hk'
      exact ⟨Ak, ck, f1, f2, rd_far (lo := lo) f3 (fun hn a ha => Nat.le_trans hl' (f4 hn a ha).1) hs hk⟩

set_option maxHeartbeats 4000000 in
set_option maxRecDepth 100000 in
theorem end_any (gc gu base : Nat) (x1 x2 x3 vU : Value) (V : List En) (A A' : Option Addr) (c c' : Nat) (u : Un) (w : World) (hc : Blk w gc 90 [vU, x1, x2, x3]) (ho : EnOwn w base vU V) (hbw : base ≤ w.heap.size) (hq : Blk w gu 33 [.slice A u.U.length c, .slice A' u.L.length c']) (hl : TsRd w w.heap.size A' u.L) (hL : u.L.length ≤ 1000) (hLL : ∀ l ∈ u.L, l.length ≤ 2000000) (hV : V.length ≤ 2000000) :
    Calls Tryz.prog 47 #[.pointer (some ⟨gc, 0, none⟩), .pointer (some ⟨gu, 0, none⟩)] w (UnResL base (Tr.fin u V) w) := by
  obtain ⟨U, L⟩ := u
  dsimp only at hq hl hL hLL
  obtain ⟨AV, cV, hvV, hcV, hrV⟩ := EnOwn.rd ho
  subst hvV
  obtain ⟨r, hr⟩ : ∃ r, r = Tr.fin ⟨U, L⟩ V := ⟨_, rfl⟩
  have HR : Hid (r = if 80 < V.length then (Un.zero, 5) else (⟨V, L⟩, 0)) := Lib.hid hr
  rw [← hr]
  clear hr
  have hB0 := (Below.refl w.heap.size w).alloc (Nat.le_refl _) (.cells #[.slice none 0 0, .slice none 0 0] 33)
  have hz0 := Blk.new w 33 [.slice none 0 0, .slice none 0 0]
  have hc0 := hc.alloc (.cells #[.slice none 0 0, .slice none 0 0] 33)
  have hq0 := hq.alloc (.cells #[.slice none 0 0, .slice none 0 0] 33)
  have hsz0 : (w.alloc (.cells #[.slice none 0 0, .slice none 0 0] 33)).heap.size = w.heap.size + 1 := World.size_alloc _ _
  have HLL := Lib.hid hLL
  clear hLL hrV
  obtain ⟨k0, k1, k2, k3, kf, kz⟩ := hc0.four
  go_enter Tryz.func47, Tryz.ntmps47
  go_upto_region 1 with fail
  clear hc hq
  rcases t8 : decide ((80 : Int) < (V.length : Int)) with _ | _
  rotate_left
  · have HF : Hid (r = (Un.zero, 5)) := Lib.hid (HR.out.trans (if_pos (by have := of_decide_eq_true t8; omega)))
    obtain ⟨z0, z1, zf, zz⟩ := hz0.two
    go_wp2_with fail
    refine bodyPost_ret (v := .tuple #[.agg #[.slice none 0 0, .slice none 0 0], .int .i64 5]) ?_ rfl ?_
    · simp [results, Tryz.results47, go_sem, z0, z1]
    rw [HF.out]
    exact UnResL.none hB0
  · have HF : Hid (r = (⟨V, L⟩, 0)) := Lib.hid (HR.out.trans (if_neg (by have := of_decide_eq_false t8; omega)))
    have hB1 := hB0.alloc hB0.size (.cells #[.slice AV V.length cV, .slice none 0 0] 33)
    have hz1 := hz0.alloc (.cells #[.slice AV V.length cV, .slice none 0 0] 33)
    have hq1 := hq0.alloc (.cells #[.slice AV V.length cV, .slice none 0 0] 33)
    have hw1 := Blk.new (w.alloc (.cells #[.slice none 0 0, .slice none 0 0] 33)) 33 [.slice AV V.length cV, .slice none 0 0]
    rw [hsz0] at hw1
    have hsz1 : ((w.alloc (.cells #[.slice none 0 0, .slice none 0 0] 33)).alloc (.cells #[.slice AV V.length cV, .slice none 0 0] 33)).heap.size = w.heap.size + 2 := by rw [World.size_alloc, hsz0]
    have hgu := hq0.lt
    go_upto_region 4 with fail
    clear k0 k1 k2 k3 kf kz hc0 hq0 hz0 hB0
    generalize (w.alloc (.cells #[.slice none 0 0, .slice none 0 0] 33)).alloc (.cells #[.slice AV V.length cV, .slice none 0 0] 33) = w1 at *
    obtain ⟨q0, q1, qf, qz⟩ := hq1.two
    go_wp2_with fail
    clear q0 q1 qf qz
    go_loopw [26] (fun i wr => ∃ (k : Nat) (vk : Value), k ≤ L.length ∧ i = .int .i64 k ∧ Blk wr (w.heap.size + 1) 33 [.slice AV V.length cV, vk] ∧ Blk wr w.heap.size 33 [.slice none 0 0, .slice none 0 0] ∧ TsFree wr (w.heap.size + 2) vk (L.take k) ∧ Below w.heap.size w wr ∧ w.heap.size + 2 ≤ wr.heap.size) (fun i _ => L.length - (intOf i).toNat)
    case atStart => exact ⟨0, .slice none 0 0, Nat.zero_le _, rfl, hw1, hz1, TsFree.nil _ _, hB1, Nat.le_of_eq hsz1.symm⟩
    case round =>
      clear hw1 hz1 hB1 hsz1 hq1
      obtain ⟨k, vk, hk, rfl, hwr, hzr, hfr, hB, hsz⟩ := hrel
      by_cases hlt : k < L.length
      · obtain ⟨ws, hrw, hel⟩ := (hl.below hB)
        obtain ⟨Ak, ck, f1, f2, f3⟩ := hel k hlt
        have hlk := HLL.out L[k] (List.getElem_mem hlt)
        have HT : Hid (L.take (k + 1) = L.take k ++ [L[k]]) := Lib.hid (List.take_succ_eq_append_getElem hlt)
        have f3 := f3.more hB.size
        obtain ⟨b, o, hA, hb, hcell⟩ := hrw.2 (by omega)
        have h0 := hcell k _ f1
        subst hA
        clear hel hrw hcell f1
        generalize L[k] = m at f2 f3 hlk HT h0
        obtain ⟨z0, z1, zf, zz⟩ := hwr.two
        go_wp2_with fail
        have f3' : EnRd wr.drew wr.drew.heap.size Ak m := f3
        have hfr' : TsFree wr.drew (w.heap.size + 2) vk (L.take k) := hfr
        have hkl : (L.take k).length ≤ 4000000 := by rw [List.length_take]; omega
        have hvk : ∀ q, vk.ownBlock = some q → w.heap.size + 2 ≤ q ∧ q < wr.heap.size := fun q e => by
          obtain ⟨vs, g1, _⟩ := hfr
          exact World.ownsRow.lt g1 q e
        go_region_law (first
            | (refine step_appFree (w := w2.alloc (.cells #[.slice A2 m.length c2] 30)) _ rfl _ _ rfl rfl hfr3 rfl hlit hr2' hc2 hne2 hkl (Nat.le_trans hsz hb3.size) rfl ?_
               intro v4 w4 hfr4 hg4
               have hwr4 := hwr3.grown hg4 (fun e => by have := (hvk _ e.symm).1; omega)
               obtain ⟨z0, z1, zf, zz⟩ := hwr4.two
               obtain ⟨A4, c4, hv4, _, _⟩ := hfr4.rd
               rw [show (L.take k ++ [m]).length = k + 1 by rw [List.length_append, List.length_take]; simp; omega] at hv4
               subst hv4)
            | (go_simp; go_at_call 30; refine (eclone_any Ak ck m _ (by exact f3') hlk).mono ?_; rintro e w2 ⟨v2, rfl, ho2, hb2⟩
               have hb2' : Below wr.heap.size wr w2 := ((Below.refl _ wr).drew).trans hb2
               obtain ⟨A2, c2, hv2, hc2, hr2⟩ := EnOwn.rd ho2
               have hne2 : 0 < m.length → ∀ a, A2 = some a → w.heap.size + 2 ≤ a.block ∧ some a.block ≠ vk.ownBlock := fun _ a ha => by
                 subst hv2
                 subst ha
                 have g2 : wr.heap.size ≤ a.block := (World.ownsRow.lt ho2 a.block rfl).1
                 exact ⟨by omega, fun e => by have := (hvk _ e.symm).2; omega⟩
               subst hv2
               have hwr2 := hwr.below hb2' hwr.lt
               have hfr2 := hfr.below hb2'
               have hlit := Blk.new w2 30 [.slice A2 m.length c2]
               have hr2' : EnRd (w2.alloc (.cells #[.slice A2 m.length c2] 30)) (w2.alloc (.cells #[.slice A2 m.length c2] 30)).heap.size A2 m := (Rd.alloc hr2 (Nat.le_refl _) _).more (by simp)
               have hfr3 : TsFree (w2.alloc (.cells #[.slice A2 m.length c2] 30)) (w.heap.size + 2) vk (L.take k) := hfr2.below ((Below.refl _ _).alloc (Nat.le_refl _) _)
               have hb3 := hb2'.alloc hb2'.size (.cells #[.slice A2 m.length c2] 30)
               have hwr3 := hwr2.alloc (.cells #[.slice A2 m.length c2] 30)
               obtain ⟨z0, z1, zf, zz⟩ := hwr2.two))
        all_goals
          have hzr4 := ((hzr.below hb2' hzr.lt).alloc (.cells #[.slice A2 m.length c2] 30)).grown hg4 (fun e => by have := (hvk _ e.symm).1; omega)
          have hB4 := (hB.trans (hb3.mono hB.size)).grown hg4 (Nat.le_trans hB.size hb3.size) (fun q e => by have := (hvk q e).1; omega)
          have hs4 : w.heap.size + 2 ≤ w4.heap.size := Nat.le_trans (Nat.le_trans hsz hb3.size) hg4.size
          clear z0 z1 zf zz
          go_wp2_with fail
          go_roundw
          case rel => exact ⟨k + 1, .slice A4 (k + 1) c4, hlt, by go_num, hwr4.set_ 1 _, hzr4.far (p := ⟨w.heap.size + 1, 1, none⟩) (by show w.heap.size ≠ w.heap.size + 1; omega) _, by rw [HT.out]; exact hfr4.far (by omega) 1 _, hB4.setCell (p := ⟨w.heap.size + 1, 1, none⟩) (by show w.heap.size ≤ w.heap.size + 1; omega) _, by simpa using hs4⟩
          case measure => simp [intOf]; omega
      · obtain rfl : k = L.length := by omega
        rw [List.take_length] at hfr
        have hown : EnOwn wr base (.slice AV V.length cV) V := own_below ho hB (Nat.le_refl _)
        have hne : some w.heap.size ≠ (Value.slice AV V.length cV).ownBlock := own_ne ho (.inr (Nat.le_refl _))
        obtain ⟨A6, A6', c6, c6', e1, e2, hfar⟩ := un_far (lo := base) (own_far (own_far hown hne 0 (.slice AV V.length cV)) hne 1 vk) ((hfr.far (g := w.heap.size) (by omega) 0 (.slice AV V.length cV)).far (g := w.heap.size) (by omega) 1 vk) (Nat.le_refl _) (by omega)
        injection e1 with a1 a2 a3
        subst a1 a3 e2
        obtain ⟨z0, z1, zf, zz⟩ := hwr.two
        obtain ⟨y0, y1, yf, yz⟩ := hzr.two
        go_wp2_with fail
        refine bodyPost_ret (v := .tuple #[.agg #[.slice AV V.length cV, .slice A6' L.length c6'], .int .i64 0]) ?_ rfl ?_
        · simp [results, Tryz.results47, go_sem, y0, y1]
        rw [HF.out]
        exact ⟨_, _, _, _, rfl, hfar, (hB.setCell (p := ⟨w.heap.size, 0, none⟩) (Nat.le_refl _) _).setCell (p := ⟨w.heap.size, 1, none⟩) (Nat.le_refl _) _⟩
end Go.Proofs.YtjppfhgkanbemabGreatDoor
