/-
  Lists of trees in memory: dropped, taken, appended.
-/
import Derived.Test.YtjppfhgkanbemaaDoorTrAlive
import Derived.Test.YtjppfhgkanbemaaDoorMem3
import Derived.Laws.AppendOwnNone
import Derived.Lib.AppendZeros
namespace Go.Proofs.YtjppfhgkanbemaaDoor
open Go.RowKit Go.Shelf Go.Sort

theorem field_faultC (a b : Int) (W : World) : (Instr.field 40 (.agg #[.int .i64 a, .int .i64 b]) 0).run Tryd.prog W = .ok (.int .i64 a) W := by kernel_rfl
theorem info_tr : (Tryd.prog.info? 36).map (fun i => (i.zero, i.size, i.bytes)) = some (some (.slice none 0 0), 1, 24) := by kernel_rfl
theorem Addr.add_plain' (b o k : Nat) : (⟨b, o, none⟩ : Addr).add k = ⟨b, o + k, none⟩ := by
  unfold Addr.add
  split
  · rename_i h; subst h; rfl
  · rfl
theorem TsRd.drop {w : World} {B : Nat} {ad : Addr} {ls : List (List En)} (h : TsRd w B (some ad) ls) (k : Nat) : TsRd w B (some (ad.add k)) (ls.drop k) := by
  obtain ⟨vs, h1, h2⟩ := h
  refine ⟨vs.drop k, ⟨by rw [List.length_drop, List.length_drop, h1.1]; omega, fun hn => ?_⟩, fun j hj => ?_⟩
  · rw [List.length_drop] at hn
    obtain ⟨b', o', e, hb, hc⟩ := h1.2 (by omega)
    cases e
    refine ⟨b', o' + k, by rw [Addr.add_plain'], hb, fun j u hu => ?_⟩
    rw [List.getElem?_drop] at hu
    have := hc (k + j) u hu
    rw [← Nat.add_assoc] at this
    exact this
  · rw [List.length_drop] at hj
    obtain ⟨Ak, ck, f1, f2, f3⟩ := h2 (k + j) (by omega)
    exact ⟨Ak, ck, by rw [List.getElem?_drop, List.getElem_drop]; exact f1, by rw [List.getElem_drop]; exact f2, by rw [List.getElem_drop]; exact f3⟩
theorem TsRd.nil (w : World) (B : Nat) (A : Option Addr) : TsRd w B A [] := ⟨[], Rd.nil, fun k h => absurd h (Nat.not_lt_zero k)⟩
theorem TsRd.take {w : World} {B : Nat} {A : Option Addr} {ls : List (List En)} (h : TsRd w B A ls) (k : Nat) : TsRd w B A (ls.take k) := by
  obtain ⟨vs, h1, h2⟩ := h
  refine ⟨vs.take k, ⟨by rw [List.length_take, List.length_take, h1.1]; omega, fun hn => ?_⟩, fun j hj => ?_⟩
  · rw [List.length_take] at hn
    obtain ⟨b', o', e, hb, hc⟩ := h1.2 (by omega)
    refine ⟨b', o', e, hb, fun j u hu => hc j u ?_⟩
    rw [List.getElem?_take] at hu
    split at hu
    · exact hu
    · cases hu
  · rw [List.length_take] at hj
    obtain ⟨Ak, ck, f1, f2, f3⟩ := h2 j (by omega)
    exact ⟨Ak, ck, by rw [List.getElem?_take, if_pos (by omega), List.getElem_take]; exact f1, by rw [List.getElem_take]; exact f2, by rw [List.getElem_take]; exact f3⟩
theorem Sms.drop {ls : List (List En)} (h : Sms ls) (k : Nat) : Sms (ls.drop k) := fun l hl => h l (List.mem_of_mem_drop hl)
theorem Sms.take {ls : List (List En)} (h : Sms ls) (k : Nat) : Sms (ls.take k) := fun l hl => h l (List.mem_of_mem_take hl)

/-- A row of trees of the call's own; the trees lie ahead of it. -/
def TsOwn (w : World) (base : Nat) (v : Value) (ls : List (List En)) : Prop :=
  ∃ vs : List Value, w.ownsRow base 36 1 v ls.length vs ∧ ∀ k (h : k < ls.length), ∃ Ak ck, vs[k]? = some (.slice Ak ls[k].length ck) ∧ ls[k].length ≤ ck ∧ EnRd w base Ak ls[k]
theorem TsOwn.rd {w : World} {base : Nat} {v : Value} {ls : List (List En)} (h : TsOwn w base v ls) (hb : base ≤ w.heap.size) : ∃ A c, v = .slice A ls.length c ∧ ls.length ≤ c ∧ TsRd w w.heap.size A ls := by
  obtain ⟨vs, h1, h2⟩ := h
  have key : ∀ A, Rd w w.heap.size 1 A ls.length vs → TsRd w w.heap.size A ls := fun A hr => ⟨vs, hr, fun k hk => by
    obtain ⟨Ak, ck, f1, f2, f3⟩ := h2 k hk
    exact ⟨Ak, ck, f1, f2, Rd.more f3 hb⟩⟩
  rcases own_shape h1 with ⟨rfl, h0⟩ | ⟨g, cap, rfl, _, _, hc⟩
  · have e : ls = [] := List.length_eq_zero_iff.1 h0
    subst e
    exact ⟨none, 0, rfl, Nat.le_refl _, TsRd.nil _ _ _⟩
  · exact ⟨some ⟨g, 0, none⟩, cap, rfl, hc, key _ (Rd.of_own h1)⟩
theorem TsOwn.start (w : World) : TsOwn (w.alloc (.cells #[] 36)) w.heap.size (.slice (some ⟨w.heap.size, 0, none⟩) 0 0) [] :=
  ⟨[], World.ownsRow_lit (e := 36) (size := 1) w #[] 0 (Nat.le_refl _) (by decide) rfl, fun k h => absurd h (Nat.not_lt_zero k)⟩
theorem TsOwn.below {w w' : World} {base : Nat} {v : Value} {ls : List (List En)} (h : TsOwn w base v ls) (hb : Below w.heap.size w w') (hB : base ≤ w.heap.size) : TsOwn w' base v ls := by
  obtain ⟨vs, h1, h2⟩ := h
  refine ⟨vs, own_below h1 hb (Nat.le_refl _), fun k hk => ?_⟩
  obtain ⟨Ak, ck, f1, f2, f3⟩ := h2 k hk
  exact ⟨Ak, ck, f1, f2, Rd.below f3 (hb.mono hB)⟩

section
variable {P : Program} (w : World)
/-- 'append(own, x...)', x a slice that reads as these cells, nil or not. -/
theorem run_appR (base : Nat) (t ty e : TypeId) (i : TypeInfo) (z : Value) (size bytes : Nat) (ht : P.underlying t = some (.slice e)) (hi : P.info? e = some i) (hz : i.zero = some z)
    (hsize : i.size = size) (hby : i.bytes = bytes) (hzs : z.cells.size = size) (hsz : 0 < size)
    (v : Value) (n : Nat) (xs : List Value) (hown : w.ownsRow base e size v n xs)
    (A : Option Addr) (m c : Nat) (news : List Value) {B : Nat} (hr : Rd w B size A m news) (hA : A = none → c = 0) (h1 : ∀ u ∈ news, u.oneCell' = true)
    (h63 : n + m ≤ maxLen) (hbytes : (n + m) * bytes ≤ 140737488355328) (hbase : base ≤ w.heap.size) :
    ∃ v' w', (Builtin.append_ #[t, t] ty #[v, .slice A m c]).run P w = .ok v' w' ∧ w'.ownsRow base e size v' (n + m) (xs ++ news) ∧ w.grownBy w' v.ownBlock ∧ (v'.ownBlock = v.ownBlock ∨ v'.ownBlock = some w.heap.size) := by
  rcases A with _ | ad
  · have hm : m = 0 := by
      rcases Nat.eq_zero_or_pos m with h | h
      · exact h
      · obtain ⟨b, o, e', _⟩ := hr.2 h; cases e'
    subst hm
    obtain rfl := hA rfl
    have hn : news = [] := List.length_eq_zero_iff.1 (by rw [hr.1]; simp)
    subst hn
    exact ⟨v, w, run_append_owned_none (P := P) (w := w) base t ty e i size ht hi v n xs hown, by simpa using hown, World.grownBy.refl w _, .inl rfl⟩
  · obtain ⟨v', w', h2, h3, h4, _, h5⟩ := run_append_own_at (P := P) w base t ty e i z size bytes ht hi hz hsize hby hzs hsz v n xs hown ad m c news hr.1 (fun j u hu => by
      have hm : 0 < m := by
        rcases Nat.eq_zero_or_pos m with h | h
        · have : news = [] := List.length_eq_zero_iff.1 (by rw [hr.1, h]; simp)
          rw [this] at hu; cases hu
        · exact h
      obtain ⟨b, o, e', hb, hc⟩ := hr.2 hm
      cases e'
      rw [Addr.add_plain']
      exact hc j u hu) h1 h63 hbytes hbase
    exact ⟨v', w', h2, h3, h4, h5⟩
end

/-- A literal of one tree. -/
theorem one_rd (w : World) {A : Option Addr} {n c : Nat} : Rd (w.alloc (.cells #[.slice A n c] 36)) (w.heap.size + 1) 1 (some ⟨w.heap.size, 0, none⟩) 1 [.slice A n c] :=
  ⟨rfl, fun _ => ⟨_, 0, rfl, Nat.lt_succ_self _, fun j u hu => by rw [Nat.zero_add]; exact ((Blk.new w _ [.slice A n c]).cell j).trans hu⟩⟩

section
variable {w : World} {o : Oper} {a : Act} {Q : Exit → Act → World → Prop} {base : Nat} {v : Value} {ls ms : List (List En)} {A : Option Addr} {c B : Nat} {ws : List Value}
set_option maxRecDepth 100000 in
theorem run_appTs (ty : TypeId) (hown : TsOwn w base v ls) (hr : Rd w B 1 A ms.length ws) (hws : ∀ k (h : k < ms.length), ∃ Ak ck, ws[k]? = some (.slice Ak ms[k].length ck) ∧ ms[k].length ≤ ck ∧ EnRd w base Ak ms[k])
    (hA : A = none → c = 0) (hlen : ls.length + ms.length ≤ 4000000000) (hbase : base ≤ w.heap.size) :
    ∃ v' w', (Builtin.append_ #[48, 48] ty #[v, .slice A ms.length c]).run Tryd.prog w = .ok v' w' ∧ TsOwn w' base v' (ls ++ ms) ∧ w.grownBy w' v.ownBlock := by
  obtain ⟨i0, hi, hz0, hz1, hz2⟩ := info_parts info_tr
  obtain ⟨vs, hvs, hel⟩ := hown
  have h1 : ∀ u ∈ ws, u.oneCell' = true := fun u hu => by
    obtain ⟨k, hk, rfl⟩ := List.getElem_of_mem hu
    obtain ⟨Ak, ck, f1, _, _⟩ := hws k (by have := hr.1; omega)
    rw [List.getElem?_eq_getElem hk] at f1
    injection f1 with f1
    rw [f1]; rfl
  obtain ⟨v', w', h2, h3, h4, _⟩ := run_appR (P := Tryd.prog) w base 48 ty 36 i0 _ 1 24 Tryd.underlying48 hi hz0 hz1 hz2 rfl (by decide) v ls.length vs hvs A ms.length c ws hr hA h1 (by unfold maxLen; omega) (by omega) hbase
  have hb : Below base w w' := (Below.refl base w).grown h4 hbase (fun k e => (hvs.lt k e).1)
  have hl : vs.length = ls.length := by have := hvs.1; omega
  refine ⟨v', w', h2, ⟨vs ++ ws, by rw [List.length_append]; exact h3, fun k hk => ?_⟩, h4⟩
  rw [List.length_append] at hk
  by_cases e : k < ls.length
  · obtain ⟨Ak, ck, f1, f2, f3⟩ := hel k e
    rw [List.getElem_append_left e]
    exact ⟨Ak, ck, by rw [List.getElem?_append_left (by omega)]; exact f1, f2, Rd.below f3 hb⟩
  · obtain ⟨Ak, ck, f1, f2, f3⟩ := hws (k - ls.length) (by omega)
    rw [List.getElem_append_right (by omega)]
    exact ⟨Ak, ck, by rw [List.getElem?_append_right (by omega), hl]; exact f1, f2, Rd.below f3 hb⟩
theorem wpList_appTs {ops : Array Oper} {rest : List Oper} (W : World) (hgd : o.guard = none) (s x : Operand) (ho : o.op = .call { callee := .builtin .append, args := #[s, x], argTypes := #[48, 48] })
    (hs : a.eval s = v) (hown : TsOwn w base v ls) (m : Nat) (hx : a.eval x = .slice A m c) (hm : m = ms.length) (hr : Rd w B 1 A ms.length ws) (hws : ∀ k (h : k < ms.length), ∃ Ak ck, ws[k]? = some (.slice Ak ms[k].length ck) ∧ ms[k].length ≤ ck ∧ EnRd w base Ak ms[k])
    (hA : A = none → c = 0) (hlen : ls.length + ms.length ≤ 4000000000) (hbase : base ≤ w.heap.size) (hW : W = w)
    (h : ∀ v' w', TsOwn w' base v' (ls ++ ms) → w.grownBy w' v.ownBlock → wpList Tryd.prog ops Q rest (a.put o.dst v') w') : wpList Tryd.prog ops Q (o :: rest) a W := by
  subst hW hm
  obtain ⟨v', w', h2, h3, h4⟩ := run_appTs (ty := o.type) hown hr hws hA hlen hbase
  exact Lib.wpList_append_run _ hgd s x _ _ ho _ _ hs hx v' w' h2 (h v' w' h3 h4)
theorem step_appTs {ops : Array Oper} {K : Act → World → Prop} {E : Prop} (W : World) (hgd : o.guard = none) (s x : Operand) (ho : o.op = .call { callee := .builtin .append, args := #[s, x], argTypes := #[48, 48] })
    (hs : a.eval s = v) (hown : TsOwn w base v ls) (m : Nat) (hx : a.eval x = .slice A m c) (hm : m = ms.length) (hr : Rd w B 1 A ms.length ws) (hws : ∀ k (h : k < ms.length), ∃ Ak ck, ws[k]? = some (.slice Ak ms[k].length ck) ∧ ms[k].length ≤ ck ∧ EnRd w base Ak ms[k])
    (hA : A = none → c = 0) (hlen : ls.length + ms.length ≤ 4000000000) (hbase : base ≤ w.heap.size) (hW : W = w)
    (h : ∀ v' w', TsOwn w' base v' (ls ++ ms) → w.grownBy w' v.ownBlock → K (a.put o.dst v') w') : if Region.wanted o (yielded ops a.tmps) = true then Oper.wp Tryd.prog o a W K Q else E := by
  have hw : Region.wanted o (yielded ops a.tmps) = true := by simp [Region.wanted, hgd]
  rw [if_pos hw]
  subst hW hm
  obtain ⟨v', w', h2, h3, h4⟩ := run_appTs (ty := o.type) hown hr hws hA hlen hbase
  exact Lib.wp_append_run _ s x _ _ ho _ _ hs hx v' w' h2 (h v' w' h3 h4)
end
end Go.Proofs.YtjppfhgkanbemaaDoor
