/-
  The walk of the document's Runs: the runs of a row's like numbers, as locks.
-/
import Derived.Test.YtjppfhgkanbemaaLkBytes
import Derived.Test.YtjppfhgkanbemaaLkCut
import Derived.Deep.QuietTactic
import Derived.BigQuiet
import Derived.Deep.DeepMust
namespace Go.Proofs.Ytjppfhgkanbemaa
open Go.RowKit

/-- Locks of one owner, in order, that have the bytes below k as f says. -/
structure RunsTo (f : Nat → Int) (o : Int) (k : Nat) (out : List Lk) : Prop where
  ok : Lk.Ok out
  mine : ∀ y ∈ out, y.o = o ∧ y.t ≤ k
  len : out.length ≤ k
  has : ∀ (j : Nat) (a : Bool), j < k → (Lk.Has out o j a ↔ f j = Lk.way a)
  edge : k = 0 ∨ k = 1000 ∨ f k ≠ f (k - 1)

/-- Only draws. -/
def Drew (w w' : World) : Prop := ∃ n, w' = w.drewN n
theorem Drew.refl (w : World) : Drew w w := ⟨0, rfl⟩
theorem Drew.more {w w' : World} (h : Drew w w') (m : Nat) : Drew w (w'.drewN m) := by
  obtain ⟨n, rfl⟩ := h
  exact ⟨n + m, by rw [World.drewN_drewN]⟩
theorem Drew.blk {w w' : World} (h : Drew w w') {g : Nat} {t : TypeId} {cs : List Value} (hb : Blk w g t cs) : Blk w' g t cs := by
  obtain ⟨n, rfl⟩ := h
  exact hb.drewN n
theorem Drew.own {w w' : World} (h : Drew w w') {base : Nat} {e : TypeId} {size n : Nat} {v : Value} {xs : List Value} (ho : w.ownsRow base e size v n xs) : w'.ownsRow base e size v n xs := by
  obtain ⟨m, rfl⟩ := h
  exact own_drewN ho m
theorem Drew.below {w w' : World} (h : Drew w w') {B : Nat} {a : World} (hb : Below B a w) : Below B a w' := by
  obtain ⟨m, rfl⟩ := h
  exact below_drewN hb m
theorem way_inj {a b : Bool} (h : Lk.way a = Lk.way b) : a = b := by
  cases a <;> cases b <;> first | rfl | (exact absurd h (by decide))
theorem runs_start (f : Nat → Int) (o : Int) : RunsTo f o 0 [] :=
  ⟨Lk.ok_nil, fun _ h => (nomatch h), Nat.le_refl _, fun _ _ h => absurd h (Nat.not_lt_zero _), .inl rfl⟩
theorem runs_skip {f : Nat → Int} {o : Int} {k e : Nat} {out : List Lk} (h : RunsTo f o k out) (hke : k < e) (hs : ∀ j, k ≤ j → j < e → f j = f k) (he : e = 1000 ∨ f e ≠ f k) (h0 : ¬ 0 < f k) : RunsTo f o e out := by
  refine ⟨h.ok, fun y hy => ⟨(h.mine y hy).1, ?_⟩, by have := h.len; omega, fun j a hj => ?_, ?_⟩
  · have := (h.mine y hy).2; omega
  · rcases Nat.lt_or_ge j k with hjk | hjk
    · exact h.has j a hjk
    · rw [hs j hjk hj]
      constructor
      · rintro ⟨y, hy, _, _, h3, _⟩
        have := (h.mine y hy).2
        omega
      · intro e2
        exfalso
        rw [e2] at h0
        cases a <;> exact h0 (by decide)
  · right
    rcases he with rfl | he
    · exact .inl rfl
    · right
      rw [hs (e - 1) (by omega) (by omega)]
      exact he
theorem runs_push {f : Nat → Int} {o : Int} {k e : Nat} {out : List Lk} (h : RunsTo f o k out) (ho : 0 ≤ o ∧ o < 4) (hke : k < e) (he0 : e ≤ 1000) (hs : ∀ j, k ≤ j → j < e → f j = f k) (he : e = 1000 ∨ f e ≠ f k) {a : Bool} (h0 : f k = Lk.way a) :
    RunsTo f o e (out ++ [⟨o, k, e, a⟩]) := by
  have hrx : Lk.range ⟨o, k, e, a⟩ = false := by rw [Lk.range_iff]; exact ⟨ho.1, ho.2, by show (0 : Int) ≤ k; omega, by show (k : Int) < e; omega, by show (e : Int) ≤ 1000; omega⟩
  refine ⟨⟨?_, ?_⟩, ?_, by rw [List.length_append]; have := h.len; simp; omega, fun j a' hj => ?_, ?_⟩
  · intro x hx
    rcases List.mem_append.1 hx with hx | hx
    · exact h.ok.1 x hx
    · rw [List.mem_singleton.1 hx]; exact hrx
  · refine List.pairwise_append.2 ⟨h.ok.2, List.pairwise_singleton _ _, fun y hy x hx => ?_⟩
    rw [List.mem_singleton.1 hx, Lk.order_iff]
    obtain ⟨hy1, hy2⟩ := h.mine y hy
    refine ⟨by rw [hy1]; exact Int.le_refl _, fun _ => ?_⟩
    show y.t < (k : Int) ∨ (y.t = (k : Int) ∧ y.a ≠ a)
    rcases Int.lt_or_eq_of_le hy2 with hlt | heq
    · exact .inl hlt
    · right
      refine ⟨heq, fun ea => ?_⟩
      have hry := h.ok.1 y hy
      rw [Lk.range_iff] at hry
      have hk : 0 < k := by omega
      have hh : Lk.Has out o ((k - 1 : Nat) : Int) y.a := ⟨y, hy, hy1, by omega, by omega, rfl⟩
      have h1 := (h.has (k - 1) y.a (by omega)).1 hh
      rcases h.edge with e1 | e1 | e1
      · omega
      · omega
      · exact e1 (by rw [h1, ea, h0])
  · intro y hy
    rcases List.mem_append.1 hy with hy | hy
    · have := h.mine y hy; exact ⟨this.1, by omega⟩
    · rw [List.mem_singleton.1 hy]; exact ⟨rfl, Int.le_refl _⟩
  · rw [Lk.has_append]
    rcases Nat.lt_or_ge j k with hjk | hjk
    · rw [← h.has j a' hjk]
      constructor
      · rintro (h1 | ⟨y, hy, _, h2, _, _⟩)
        · exact h1
        · rw [List.mem_singleton.1 hy] at h2
          have h2' : (k : Int) ≤ j := h2
          omega
      · exact .inl
    · rw [hs j hjk hj, h0]
      constructor
      · rintro (⟨y, hy, _, _, h3, _⟩ | ⟨y, hy, _, _, _, h4⟩)
        · have := (h.mine y hy).2; omega
        · rw [List.mem_singleton.1 hy] at h4; rw [← h4]
      · intro e2
        exact .inr ⟨_, List.mem_singleton.2 rfl, rfl, by show (k : Int) ≤ j; omega, by show (j : Int) < e; omega, way_inj e2⟩
  · right
    rcases he with rfl | he
    · exact .inl rfl
    · right
      rw [hs (e - 1) (by omega) (by omega)]
      exact he

set_option maxHeartbeats 4000000 in
set_option maxRecDepth 100000 in
theorem runs_any (g c : Nat) (f : Nat → Int) (o : Int) (w : World) (hb : Blk w g 3 (brow f)) (ho : 0 ≤ o ∧ o < 4) (hf : ∀ j, f j = 0 ∨ ∃ a, f j = Lk.way a) :
    Calls Try.prog 27 #[.slice (some ⟨g, 0, none⟩) 1001 c, .int .i64 o] w fun e w' => ∃ v out, e = .returned v ∧ LkOwn w' w.heap.size v out ∧ RunsTo f o 1000 out ∧ Below w.heap.size w w' := by
  obtain ⟨i0, hi, hz0, hz1, hz2⟩ := info_parts info_lk
  have hg := hb.lt
  have HF := Lib.hid hf
  clear hf
  go_enter Try.func27, Try.ntmps27
  go_wp2_with fail
  go_loopw [5, 6] (fun v i wr => ∃ (k : Nat) (out : List Lk), k ≤ 1000 ∧ i = .int .i64 k ∧ LkOwn wr w.heap.size v out ∧ Hid (RunsTo f o k out) ∧ out.length ≤ k ∧ Below w.heap.size w wr) (fun _ i _ => 1000 - (intOf i).toNat)
  case atStart => exact ⟨0, [], by omega, rfl, World.ownsRow_nil _ _ _ _, Lib.hid (runs_start f o), Nat.le_refl _, Below.refl _ _⟩
  case round =>
    obtain ⟨k, out, hk, rfl, hown, HR, hlen, hB⟩ := hrel
    by_cases hlt : k < 1000
    · have hbr := hb.below hB hg
      have ak := hbr.bat (t := (k : Int)) (by omega) (by omega)
      rw [Int.toNat_natCast] at ak
      have HK := Lib.hid (rfl : f k = f k)
      obtain ⟨fk, hfk⟩ : ∃ fk, fk = f k := ⟨_, rfl⟩
      rw [← hfk] at ak
      have HFK := Lib.hid hfk
      clear hfk HK
      go_wp2_with fail
      obtain ⟨wo, rfl⟩ : ∃ wo : World, wo = wr := ⟨_, rfl⟩
      go_loopw [7] (fun i wj => ∃ e : Nat, k + 1 ≤ e ∧ e ≤ 1000 ∧ i = .int .i64 e ∧ Drew wo wj ∧ Hid (∀ j, k ≤ j → j < e → f j = f k)) (fun i _ => 1000 - (intOf i).toNat)
      case atStart => exact ⟨k + 1, Nat.le_refl _, hlt, by go_num, Drew.refl _, Lib.hid fun j h1 h2 => by rw [show j = k by omega]⟩
      case round =>
        obtain ⟨e, he1, he2, rfl, hD, HE⟩ := hrel
        rename_i wk _
        have hbk := hD.blk hbr
        have hown2 := hD.own hown
        have hB2 := hD.below hB
        have ak2 := hbk.bat (t := (k : Int)) (by omega) (by omega)
        rw [Int.toNat_natCast, ← HFK.out] at ak2
        clear ak
        by_cases he3 : e < 1000
        · have hd : decide ((e : Int) < 1000) = true := by simp; omega
          have ae := hbk.bat (t := (e : Int)) (by omega) (by omega)
          rw [Int.toNat_natCast] at ae
          obtain ⟨fe, hfe⟩ : ∃ fe, fe = f e := ⟨_, rfl⟩
          rw [← hfe] at ae
          have HFE := Lib.hid hfe
          clear hfe
          rcases ht : (fe == fk) with _ | _
          · have HNE := Lib.hid (show f e ≠ f k by rw [← HFE.out, ← HFK.out]; simpa using ht)
            rcases HF.out k with h0 | ⟨a, ha⟩
            · obtain rfl : fk = 0 := HFK.out.trans h0
              have HN := Lib.hid (runs_skip HR.out (by omega : k < e) HE.out (.inr HNE.out) (by rw [h0]; decide))
              clear h0
              go_wp2_with fail
              go_quiet (fail)
              go_wp2_with fail
              go_roundw
              case rel => exact ⟨e, out, he2, rfl, own_drewN hown2 _, HN, by omega, below_drewN hB2 _⟩
              case measure => simp [intOf]; omega
            · have HN := Lib.hid (runs_push HR.out ho (by omega : k < e) he2 HE.out (.inr HNE.out) ha)
              cases a
              · obtain rfl : fk = 1 := HFK.out.trans ha
                clear ha
                go_wp2_with fail
                go_quiet (fail)
                go_wp2_with (at_builtin; go_must (refine wpList_app1 _ rfl _ _ _ rfl w.heap.size 24 i0 _ 4 32 Try.underlying22 hi hz0 hz1 hz2 rfl (by decide) u5 _ _ rfl (own_drewN hown2 _) [.int .i64 o, .int .i64 k, .int .i64 e, .bool false] rfl rfl (by simp [Value.oneCell']) (by omega) (by decide) (below_drewN hB2 _).size _ rfl ?_); intro v3 w3 own3 hg3 _)
                go_roundw
                case rel => exact ⟨e, out ++ [⟨o, k, e, false⟩], he2, rfl, LkOwn.snoc (y := ⟨o, k, e, false⟩) own3 rfl, HN, by simp; omega, (below_drewN hB2 _).grown hg3 (below_drewN hB2 _).size (fun q e' => (hown2.lt q e').1)⟩
                case measure => simp [intOf]; omega
              · obtain rfl : fk = 2 := HFK.out.trans ha
                clear ha
                go_wp2_with fail
                go_quiet (fail)
                go_wp2_with (at_builtin; go_must (refine wpList_app1 _ rfl _ _ _ rfl w.heap.size 24 i0 _ 4 32 Try.underlying22 hi hz0 hz1 hz2 rfl (by decide) u5 _ _ rfl (own_drewN hown2 _) [.int .i64 o, .int .i64 k, .int .i64 e, .bool true] rfl rfl (by simp [Value.oneCell']) (by omega) (by decide) (below_drewN hB2 _).size _ rfl ?_); intro v3 w3 own3 hg3 _)
                go_roundw
                case rel => exact ⟨e, out ++ [⟨o, k, e, true⟩], he2, rfl, LkOwn.snoc (y := ⟨o, k, e, true⟩) own3 rfl, HN, by simp; omega, (below_drewN hB2 _).grown hg3 (below_drewN hB2 _).size (fun q e' => (hown2.lt q e').1)⟩
                case measure => simp [intOf]; omega
          · have HEQ := Lib.hid (show f e = f k by rw [← HFE.out, ← HFK.out]; simpa using ht)
            go_wp2_with fail
            go_quiet (fail)
            go_wp2_with fail
            go_roundw
            case rel => exact ⟨e + 1, by omega, by omega, by go_num, hD.more _, Lib.hid fun j h1 h2 => by
              rcases Nat.lt_or_ge j e with h | h
              · exact HE.out j h1 h
              · rw [show j = e by omega]; exact HEQ.out⟩
            case measure => simp [intOf]; omega
        · have hd : decide ((e : Int) < 1000) = false := by simp; omega
          have he4 := Lib.hid (show e = 1000 by omega)
          rcases HF.out k with h0 | ⟨a, ha⟩
          · obtain rfl : fk = 0 := HFK.out.trans h0
            have HN := Lib.hid (runs_skip HR.out (by omega : k < e) HE.out (.inl he4.out) (by rw [h0]; decide))
            clear h0
            go_wp2_with fail
            go_quiet (fail)
            go_wp2_with fail
            go_roundw
            case rel => exact ⟨e, out, he2, rfl, own_drewN hown2 _, HN, by omega, below_drewN hB2 _⟩
            case measure => simp [intOf]; omega
          · have HN := Lib.hid (runs_push HR.out ho (by omega : k < e) he2 HE.out (.inl he4.out) ha)
            cases a
            · obtain rfl : fk = 1 := HFK.out.trans ha
              clear ha
              go_wp2_with fail
              go_quiet (fail)
              go_wp2_with (at_builtin; go_must (refine wpList_app1 _ rfl _ _ _ rfl w.heap.size 24 i0 _ 4 32 Try.underlying22 hi hz0 hz1 hz2 rfl (by decide) u5 _ _ rfl (own_drewN hown2 _) [.int .i64 o, .int .i64 k, .int .i64 e, .bool false] rfl rfl (by simp [Value.oneCell']) (by omega) (by decide) (below_drewN hB2 _).size _ rfl ?_); intro v3 w3 own3 hg3 _)
              go_roundw
              case rel => exact ⟨e, out ++ [⟨o, k, e, false⟩], he2, rfl, LkOwn.snoc (y := ⟨o, k, e, false⟩) own3 rfl, HN, by simp; omega, (below_drewN hB2 _).grown hg3 (below_drewN hB2 _).size (fun q e' => (hown2.lt q e').1)⟩
              case measure => simp [intOf]; omega
            · obtain rfl : fk = 2 := HFK.out.trans ha
              clear ha
              go_wp2_with fail
              go_quiet (fail)
              go_wp2_with (at_builtin; go_must (refine wpList_app1 _ rfl _ _ _ rfl w.heap.size 24 i0 _ 4 32 Try.underlying22 hi hz0 hz1 hz2 rfl (by decide) u5 _ _ rfl (own_drewN hown2 _) [.int .i64 o, .int .i64 k, .int .i64 e, .bool true] rfl rfl (by simp [Value.oneCell']) (by omega) (by decide) (below_drewN hB2 _).size _ rfl ?_); intro v3 w3 own3 hg3 _)
              go_roundw
              case rel => exact ⟨e, out ++ [⟨o, k, e, true⟩], he2, rfl, LkOwn.snoc (y := ⟨o, k, e, true⟩) own3 rfl, HN, by simp; omega, (below_drewN hB2 _).grown hg3 (below_drewN hB2 _).size (fun q e' => (hown2.lt q e').1)⟩
              case measure => simp [intOf]; omega
    · obtain rfl : k = 1000 := by omega
      go_wp2_with fail
      go_ret
      exact ⟨_, out, rfl, hown, HR.out, hB⟩
end Go.Proofs.Ytjppfhgkanbemaa
