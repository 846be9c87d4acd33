/-
  (*change).set. (Printed by wip/genunset.py.)
-/
import Derived.Test.YtjppfhgkanbemacGreatDoorMI
import Derived.Test.YtjppfhgkanbemacGreatDoorMH
import Derived.BigRegion
import Derived.Deep.RegionWith
namespace Go.Proofs.YtjppfhgkanbemacGreatDoor
open Go.RowKit Go.Shelf Go.Sort

theorem Tr.setE_sm : ∀ (n : Nat) {U : List En} {e : En}, Tr.Srt U → (∀ x ∈ U, x.P ≠ []) → e.P ≠ [] → Sm U → e.p.size < 4294967281 → e.t.size < 4294967281 → Sm (Tr.setE n U e)
  | 0, U, e, hU, _, _, hs, h1, h2 => fun x hx => by
    rcases (Tr.mem_ins hU x).1 hx with rfl | ⟨h, _⟩
    · have hp : (Tr.adj U e).p = e.p := by unfold Tr.adj; split <;> (try split) <;> rfl
      rw [hp, Tr.adj_t]; exact ⟨h1, h2⟩
    · exact hs x h
  | n + 1, U, e, hU, hn, he, hs, h1, h2 => fun x hx => by
    unfold Tr.setE at hx
    have hp : ∀ X, (Tr.adj X e).p = e.p := fun X => by unfold Tr.adj; split <;> (try split) <;> rfl
    by_cases hc : Pt.dirOf e.P ≠ [] ∧ Tr.dirIn U (Pt.dirOf e.P) = false
    · rw [if_pos hc] at hx
      obtain ⟨g1, _⟩ := Tr.setE_mem n (U := U) (e := Tr.dirEn (Pt.dirOf e.P)) hU hn hc.1
      rcases (Tr.mem_ins g1 x).1 hx with rfl | ⟨h, _⟩
      · rw [hp, Tr.adj_t]; exact ⟨h1, h2⟩
      · refine Tr.setE_sm n (e := Tr.dirEn (Pt.dirOf e.P)) hU hn hc.1 hs ?_ (by show (0 : Nat) < 4294967281; decide) x h
        have hsh := Tr.dir_short he
        have a1 : e.P.length = e.p.size := size_length e.p
        show (Pt.dirOf e.P).length < _
        omega
    · rw [if_neg hc] at hx
      rcases (Tr.mem_ins hU x).1 hx with rfl | ⟨h, _⟩
      · rw [hp, Tr.adj_t]; exact ⟨h1, h2⟩
      · exact hs x h
theorem dirIn_of {U : List En} {d : Pt.Bs} {r : Option En} (h : r = Tr.get U d) : Tr.dirIn U d = (r.isSome && (r.getD En.zero).k == 2) := by
  unfold Tr.dirIn; rw [← h]; cases r <;> rfl

/-- What a call leaves that changes one block's cells and a row: all else that lay there lies as it did; the row stays, or lies anew. -/
structure GrX (g : Nat) (row row' : Option Nat) (w w' : World) : Prop where
  os : w'.os = w.os
  tape : w'.tape = w.tape
  output : w'.output = w.output
  size : w.heap.size ≤ w'.heap.size
  block : ∀ k, k < w.heap.size → k ≠ g → some k ≠ row → w'.heap[k]? = w.heap[k]?
  at_ : ∀ k, row' = some k → row = some k ∨ w.heap.size ≤ k
theorem GrX.of {g : Nat} {row : Option Nat} {w w' : World} {B : Nat} (h : Below B w w') (hB : w.heap.size ≤ B) : GrX g row row w w' := ⟨h.os, h.tape, h.output, h.size, fun k hk _ _ => h.block k (by omega), fun _ h => .inl h⟩
theorem GrX.set (g : Nat) (row : Option Nat) (w : World) (i : Nat) (u : Value) : GrX g row row w (w.setCell ⟨g, i, none⟩ u) :=
  ⟨rfl, rfl, rfl, by simp, fun k _ hg _ => Below.heap_setCell w ⟨g, i, none⟩ u k hg, fun _ h => .inl h⟩
theorem GrX.trans {g : Nat} {r1 r2 r3 : Option Nat} {a b c : World} (h : GrX g r1 r2 a b) (k : GrX g r2 r3 b c) : GrX g r1 r3 a c :=
  ⟨k.os.trans h.os, k.tape.trans h.tape, k.output.trans h.output, Nat.le_trans h.size k.size, fun i hi hg hr => by
    have h2 : some i ≠ r2 := fun e => by
      rcases h.at_ i e.symm with e | e
      · exact hr e.symm
      · omega
    exact (k.block i (Nat.lt_of_lt_of_le hi h.size) hg h2).trans (h.block i hi hg hr), fun i e => by
    rcases k.at_ i e with e | e
    · exact h.at_ i e
    · exact .inr (Nat.le_trans h.size e)⟩
theorem GrX.grown {g : Nat} {w w' : World} {row row' : Option Nat} (h : w.grownBy w' row) (ha : ∀ k, row' = some k → row = some k ∨ w.heap.size ≤ k) : GrX g row row' w w' := ⟨h.os, h.tape, h.output, h.size, fun k hk _ hr => h.block k hk hr, ha⟩
theorem GrX.belowX {g B : Nat} {row row' : Option Nat} {w w' : World} (h : GrX g row row' w w') (hB : B ≤ w.heap.size) (hr : ∀ k, row = some k → B ≤ k) : BelowX B g w w' :=
  ⟨h.os, h.tape, h.output, h.size, fun k hk hg => h.block k (by omega) hg (fun e => by have := hr k e.symm; omega)⟩
theorem GrX.fresh {g : Nat} {row row' : Option Nat} {w w' : World} (h : GrX g row row' w w') {p : Addr} (hp : w.heap.size ≤ p.block) (u : Value) : GrX g row row' w (w'.setCell p u) :=
  ⟨h.os, h.tape, h.output, by simpa using h.size, fun k hk hg hr => (Below.heap_setCell w' p u k (by omega)).trans (h.block k hk hg hr), h.at_⟩
theorem GrX.drew {g : Nat} {row row' : Option Nat} {w w' : World} (h : GrX g row row' w w') : GrX g row row' w w'.drew := ⟨h.os, h.tape, h.output, h.size, h.block, h.at_⟩
theorem GrX.drewN {g : Nat} {row row' : Option Nat} {w w' : World} (h : GrX g row row' w w') (n : Nat) : GrX g row row' w (w'.drewN n) := ⟨h.os, h.tape, h.output, h.size, h.block, h.at_⟩
theorem Blk.keepG {w w' : World} {g k : Nat} {row row' : Option Nat} {t : TypeId} {cs : List Value} (h : Blk w k t cs) (hb : GrX g row row' w w') (hg : k ≠ g) (hr : some k ≠ row) : Blk w' k t cs := (hb.block k h.lt hg hr).trans h
theorem own_lt {w : World} {base : Nat} {e : TypeId} {size n : Nat} {v : Value} {xs : List Value} (h : w.ownsRow base e size v n xs) : ∀ k, v.ownBlock = some k → base ≤ k := fun k hk => (World.ownsRow.lt h k hk).1
theorem Tr.adj_none {U : List En} {e : En} (h : Tr.get U e.P = none) : Tr.set1 U e = Tr.ins e U := by
  unfold Tr.set1 Tr.adj; rw [h]
theorem Tr.adj_dir {U : List En} {e y : En} (h : Tr.get U e.P = some y) (hk : e.k = 2) : Tr.set1 U e = Tr.ins ⟨e.p, e.k, e.t, y.o || y.k == 4⟩ U := by
  unfold Tr.set1 Tr.adj; rw [h]; dsimp only; rw [if_pos hk]
theorem Tr.adj_other {U : List En} {e y : En} (h : Tr.get U e.P = some y) (hk : e.k ≠ 2) : Tr.set1 U e = Tr.ins e U := by
  unfold Tr.set1 Tr.adj; rw [h]; dsimp only; rw [if_neg hk]

/-- What set leaves. -/
def SetRel (gc base : Nat) (x1 x2 x3 vU : Value) (U' : List En) (w : World) (r : Ending) (w' : World) : Prop :=
  r = .returned (.tuple #[]) ∧ ∃ v', Blk w' gc 150 [v', x1, x2, x3] ∧ EnOwn w' base v' U' ∧ GrX gc vU.ownBlock v'.ownBlock w w'

set_option maxHeartbeats 8000000 in
set_option maxRecDepth 100000 in
theorem set_any : ∀ (n gc base : Nat) (x1 x2 x3 vU : Value) (U : List En) (e : En) (w : World), Blk w gc 150 [vU, x1, x2, x3] → EnOwn w base vU U → gc < base → base ≤ w.heap.size → Tr.Srt U → (∀ x ∈ U, x.P ≠ []) → Sm U → e.P ≠ [] → e.P.length ≤ n → e.p.size < 4294967281 → e.t.size < 4294967281 → U.length + n ≤ 900000 →
    Calls Tryz.prog 93 #[.pointer (some ⟨gc, 0, none⟩), e.agg] w (SetRel gc base x1 x2 x3 vU (Tr.setP U e) w) := by
  intro n
  induction n with
  | zero =>
    intro gc base x1 x2 x3 vU U e w _ _ _ _ _ _ _ h1 h2
    exact absurd (List.length_eq_zero_iff.1 (Nat.le_zero.1 h2)) h1
  | succ n ih =>
  intro gc base x1 x2 x3 vU U e w hc0 ho0 hgb hbw hsrt hnem hsm heP hen hep het hlen
  have HSR := Lib.hid hsrt
  have HNE := Lib.hid hnem
  have HSM := Lib.hid hsm
  have HEP := Lib.hid heP
  have HEN := Lib.hid hen
  clear hsrt hnem hsm heP hen
  unfold SetRel
  have HX := Lib.hid (Tr.setP_eq U e)
  obtain ⟨res, hres⟩ : ∃ res, res = Tr.setP U e := ⟨_, rfl⟩
  rw [← hres] at HX
  rw [← hres]
  clear hres
  obtain ⟨X, hX⟩ : ∃ X, X = if Pt.dirOf e.P ≠ [] ∧ Tr.dirIn U (Pt.dirOf e.P) = false then Tr.setP U (Tr.dirEn (Pt.dirOf e.P)) else U := ⟨_, rfl⟩
  rw [← hX] at HX
  have HXL : Hid (X.length ≤ 900000) := Lib.hid (by
    rw [hX]
    split
    · have h1 := Tr.setP_le U (Tr.dirEn (Pt.dirOf e.P))
      have h2 := Tr.dir_short HEP.out
      have h3 := HEN.out
      rw [Tr.dirEn_P] at h1; omega
    · omega)
  have HXS : Hid (Tr.Srt X ∧ Sm X) := Lib.hid (by
    rw [hX]
    split
    · rename_i hc
      refine ⟨(Tr.setP_mem (e := Tr.dirEn (Pt.dirOf e.P)) HSR.out HNE.out hc.1).1, Tr.setE_sm _ (e := Tr.dirEn (Pt.dirOf e.P)) HSR.out HNE.out hc.1 HSM.out ?_ (by show (0 : Nat) < 4294967281; decide)⟩
      have h2 := Tr.dir_short HEP.out
      have a1 : e.P.length = e.p.size := size_length e.p
      show (Pt.dirOf e.P).length < _
      omega
    · exact ⟨HSR.out, HSM.out⟩)
  have HXD := Lib.hid hX
  clear hX
  obtain ⟨ep, ek, et, eo⟩ := e
  have hPe : (⟨ep, ek, et, eo⟩ : En).P = ep.data.toList := rfl
  rw [hPe] at HXD HEP HEN
  dsimp only at hep het
  simp only [En.agg, En.cells]
  have hge : w.heap.size = w.heap.size := rfl
  have hb1 := GrX.of (g := gc) (row := vU.ownBlock) ((Below.refl w.heap.size w).alloc (Nat.le_refl _) (.cells #[.string ep, .int .i64 ek, .string et, .bool eo] 53)) (Nat.le_refl _)
  have hc1 := hc0.alloc (.cells #[.string ep, .int .i64 ek, .string et, .bool eo] 53)
  have ho1 : EnOwn _ base vU U := own_alloc ho0 (.cells #[.string ep, .int .i64 ek, .string et, .bool eo] 53)
  have he1 := Blk.new w 53 [.string ep, .int .i64 ek, .string et, .bool eo]
  have hvo : some w.heap.size ≠ vU.ownBlock := own_ne ho0 (.inr (Nat.le_refl _))
  have hvb := own_lt ho0
  clear hc0 ho0
  obtain ⟨rU, hrU0⟩ : ∃ rU, rU = vU.ownBlock := ⟨_, rfl⟩
  rw [← hrU0] at hb1 hvo hvb ⊢
  go_enter Tryz.func93, Tryz.ntmps93
  go_upto_region 1 with fail
  have hs1 : base ≤ (w.alloc (.cells #[.string ep, .int .i64 ek, .string et, .bool eo] 53)).heap.size := Nat.le_trans hbw hb1.size
  generalize w.alloc (.cells #[.string ep, .int .i64 ek, .string et, .bool eo] 53) = w1 at *
  obtain ⟨e0, e1, e2, e3, ef, ez⟩ := he1.four
  go_wp2_with fail
  clear e0 e1 e2 e3 ef ez
  refine (cut_any ep _ (by omega)).mono ?_
  rintro e w2 ⟨rfl, hD⟩
  have hb2 := hb1.trans (GrX.of (hD.below (B := w1.heap.size)) (Nat.le_refl _))
  have hc2 := hc1.below (hD.below (B := w1.heap.size)) hc1.lt
  have he2 := he1.below (hD.below (B := w1.heap.size)) he1.lt
  have ho2 : EnOwn w2 base vU U := own_below ho1 (hD.below (B := w1.heap.size)) (Nat.le_refl _)
  have hs2 := Nat.le_trans hs1 (hD.below (B := w1.heap.size)).size
  clear hD hb1 hc1 he1 ho1 hs1
  obtain ⟨sd, hsd⟩ : ∃ sd : ByteArray, sd = ⟨(Pt.dirOf ep.data.toList).toArray⟩ := ⟨_, rfl⟩
  have hsl : sd.data.toList = Pt.dirOf ep.data.toList := by rw [hsd]
  have hst : Pt.str (Pt.dirOf ep.data.toList) = .string sd := by rw [hsd]; rfl
  obtain ⟨sn, hsn⟩ : ∃ sn, Pt.str (Pt.nameOf ep.data.toList) = .string sn := ⟨_, rfl⟩
  rw [hst, hsn]
  have hlt : sd.size < ep.size := by have := Tr.dir_short HEP.out; rw [← hsl, size_length, size_length] at this; exact this
  have HXD := Lib.hid HXD.out
  rw [← hsl] at HXD
  have hDE : Tr.dirEn (Pt.dirOf ep.data.toList) = ⟨sd, 2, ⟨#[]⟩, false⟩ := by rw [hsd]; rfl
  have hDL : (Pt.dirOf ep.data.toList).length ≤ n := by have := Tr.dir_short HEP.out; have := HEN.out; omega
  rw [← hsl] at hDE hDL
  rw [hDE] at HXD
  have hse : sd = ⟨(sd.data.toList).toArray⟩ := by simp
  clear hsd hsl hst hsn hDE
  have hgw : w.heap.size ≠ gc := by omega
  go_upto_if 17 with fail
  go_cut [] (fun wx => ∃ v, Blk wx gc 150 [v, x1, x2, x3] ∧ EnOwn wx base v X ∧ Blk wx w.heap.size 53 [.string ep, .int .i64 ek, .string et, .bool eo] ∧ GrX gc rU v.ownBlock w wx ∧ some w.heap.size ≠ v.ownBlock)
  case first =>
    obtain ⟨A, cU, hvU, hcU, hrd⟩ := EnOwn.rd ho2
    have hb2 : GrX gc rU vU.ownBlock w w2 := by rw [← hrU0]; exact hb2
    subst hvU
    obtain ⟨k0, k1, k2, k3, kf, kz⟩ := hc2.four
    rcases empty_cases sd with ⟨hE, g1, g2⟩ | ⟨hE, g1, g2⟩
    · have HXU : Hid (X = U) := Lib.hid (HXD.out.trans (if_neg fun h => h.1 hE))
      clear HXD hE
      have hbb : (!sd.toList.isEmpty) = false := by rw [g2]; rfl
      rw [hbb]
      go_wp2_with fail
      go_meet
      case rel => exact ⟨_, hc2, by rw [HXU.out]; exact ho2, he2, hb2, by rw [← hrU0]; exact hvo⟩
    · have HEE := Lib.hid hE
      clear hE
      have hbb : (!sd.toList.isEmpty) = true := by rw [g2]; rfl
      rw [hbb]
      go_wp2_with fail
      clear k0 k1 k2 k3 kf kz
      refine (get_any A cU U sd w2 hrd HSM.out (by omega) (by omega)).mono ?_
      rintro e w3 ⟨r, rfl, hr, hb⟩
      have hb3 := hb2.trans (GrX.of hb (Nat.le_refl _))
      have hc3 := hc2.below hb hc2.lt
      have he3 := he2.below hb he2.lt
      have ho3 : EnOwn w3 base (.slice A U.length cU) U := own_below ho2 hb (Nat.le_refl _)
      have hs3 := Nat.le_trans hs2 hb.size
      have HD := Lib.hid (dirIn_of (hr.2 (.inl HSR.out)))
      clear hr hb hb2 hc2 he2 ho2 hs2 hrd
      have HX1 := Lib.hid (show r.isSome = true → ((r.getD En.zero).k != 2) = false → X = U from fun h1 h2 => HXD.out.trans (if_neg fun h => by
        have h3 := h.2
        rw [HD.out, h1, Bool.true_and] at h3
        simp at h2 h3
        exact h3 h2))
      have HX2 := Lib.hid (show r.isSome = false → X = Tr.setP U ⟨sd, 2, ⟨#[]⟩, false⟩ from fun h1 => HXD.out.trans (if_pos ⟨HEE.out, by rw [HD.out, h1]; rfl⟩))
      have HX3 := Lib.hid (show ((r.getD En.zero).k != 2) = true → X = Tr.setP U ⟨sd, 2, ⟨#[]⟩, false⟩ from fun h1 => HXD.out.trans (if_pos ⟨HEE.out, by rw [HD.out]; simp at h1 ⊢; intro _; exact h1⟩))
      clear HD HXD
      generalize r.getD En.zero = d at HX1 HX3
      generalize r.isSome = ok at HX1 HX2
      obtain ⟨dp, dk, dt, dop⟩ := d
      simp only [En.agg, En.cells]
      dsimp only at HX1 HX2 HX3
      have hb4 := hb3.trans (GrX.of ((Below.refl w3.heap.size w3).alloc (Nat.le_refl _) (.cells #[.string dp, .int .i64 dk, .string dt, .bool dop] 53)) (Nat.le_refl _))
      have hc4 := hc3.alloc (.cells #[.string dp, .int .i64 dk, .string dt, .bool dop] 53)
      have he4 := he3.alloc (.cells #[.string dp, .int .i64 dk, .string dt, .bool dop] 53)
      have ho4 : EnOwn _ base (.slice A U.length cU) U := own_alloc ho3 (.cells #[.string dp, .int .i64 dk, .string dt, .bool dop] 53)
      have hs4 : base ≤ (w3.alloc (.cells #[.string dp, .int .i64 dk, .string dt, .bool dop] 53)).heap.size := by rw [World.size_alloc]; omega
      have hv4 : some w.heap.size ≠ (Value.slice A U.length cU).ownBlock := by rw [← hrU0]; exact hvo
      clear hb3 hc3 he3 ho3
      have cI : ∀ W, Blk W gc 150 [.slice A U.length cU, x1, x2, x3] → EnOwn W base (.slice A U.length cU) U → base ≤ W.heap.size → Calls Tryz.prog 93 #[.pointer (some ⟨gc, 0, none⟩), .agg #[.string sd, .int .i64 2, .string ⟨#[]⟩, .bool false]] W (SetRel gc base x1 x2 x3 (.slice A U.length cU) (Tr.setP U ⟨sd, 2, ⟨#[]⟩, false⟩) W) := fun W h1 h2 h3 =>
        ih gc base x1 x2 x3 (.slice A U.length cU) U ⟨sd, 2, ⟨#[]⟩, false⟩ W h1 h2 hgb h3 HSR.out HNE.out HSM.out HEE.out hDL (by show sd.size < _; omega) (by show (0 : Nat) < 4294967281; decide) (by omega)
      cases ok
      · have HXX := Lib.hid (HX2.out rfl)
        clear HX1 HX2 HX3
        go_wp2_with fail
        clear hs3
        generalize w3.alloc (.cells #[.string dp, .int .i64 dk, .string dt, .bool dop] 53) = w4 at *
        refine (cI w4 hc4 ho4 hs4).mono ?_
        rintro e w5 ⟨rfl, v5, hc5, ho5, hb5⟩
        go_wp2_with fail
        go_meet
        case rel => exact ⟨v5, hc5, by rw [HXX.out]; exact ho5, he4.keepG hb5 hgw hv4, hb4.trans hb5, fun e => by
          rcases hb5.at_ _ e.symm with h | h
          · exact hv4 h.symm
          · have := he4.lt; omega⟩
      rcases tk : (dk != 2) with _ | _
      · have HXX := Lib.hid (HX1.out rfl tk)
        clear HX1 HX2 HX3 cI
        go_wp2_with fail
        go_meet
        case rel => exact ⟨_, hc4, by rw [HXX.out]; exact ho4, he4, hb4, hv4⟩
      · have HXX := Lib.hid (HX3.out tk)
        clear HX1 HX2 HX3
        go_wp2_with fail
        clear hs3
        generalize w3.alloc (.cells #[.string dp, .int .i64 dk, .string dt, .bool dop] 53) = w4 at *
        refine (cI w4 hc4 ho4 hs4).mono ?_
        rintro e w5 ⟨rfl, v5, hc5, ho5, hb5⟩
        go_wp2_with fail
        go_meet
        case rel => exact ⟨v5, hc5, by rw [HXX.out]; exact ho5, he4.keepG hb5 hgw hv4, hb4.trans hb5, fun e => by
          rcases hb5.at_ _ e.symm with h | h
          · exact hv4 h.symm
          · have := he4.lt; omega⟩
  case rest =>
    clear hb2 hc2 ho2 he2 hs2 HXD
    obtain ⟨v, hc5, ho5, he5, hb5, hve5⟩ := hcut
    generalize wc = wA at *
    have hs5 : w.heap.size ≤ wA.heap.size := hb5.size
    obtain ⟨A, cX, hvX, hcX, hrd⟩ := EnOwn.rd ho5
    subst hvX
    obtain ⟨k0, k1, k2, k3, kf, kz⟩ := hc5.four
    obtain ⟨e0, e1, e2, e3, ef, ez⟩ := he5.four
    have hxl := HXL.out
    go_upto_region 6 with fail
    go_cut [8, 9] (fun kv bv wx => ∃ (k : Nat) (b : Bool), kv = .int .i64 k ∧ bv = .bool b ∧ FindRel X ep.data.toList k b ∧ Blk wx gc 150 [.slice A X.length cX, x1, x2, x3] ∧ EnOwn wx base (.slice A X.length cX) X ∧ Blk wx w.heap.size 53 [.string ep, .int .i64 ek, .string et, .bool eo] ∧ GrX gc rU (Value.slice A X.length cX).ownBlock w wx)
    case first =>
      go_region_held3 (fun W => W.cell? ⟨gc, 0, none⟩ = some (.slice A X.length cX) ∧ W.cell? ⟨w.heap.size, 0, none⟩ = some (.string ep)) (first | exact ⟨k0, e0⟩ | exact hS6 | go_keep) (first | (go_at_call 45; refine (find_any A cX X ep _ (by exact hrd) HXS.out.2 hep (by omega)).mono ?_; rintro e w6 ⟨k, b, rfl, hf, hb⟩; have hS6 : w6.cell? ⟨gc, 0, none⟩ = some (.slice A X.length cX) ∧ w6.cell? ⟨w.heap.size, 0, none⟩ = some (.string ep) := ⟨(hb.cell (p := ⟨gc, 0, none⟩) hc5.lt).trans k0, (hb.cell (p := ⟨w.heap.size, 0, none⟩) he5.lt).trans e0⟩))
      all_goals
        go_wp2_with fail
        go_meet
        case rel =>
          have hb' : Below wA.heap.size wA w6 := ((Below.refl _ wA).drew).trans hb
          exact ⟨k, b, rfl, rfl, hf, hc5.below hb' hc5.lt, own_below ho5 hb' (Nat.le_refl _), he5.below hb' he5.lt, hb5.trans (GrX.of hb' (Nat.le_refl _))⟩
    case rest =>
      clear k0 k1 k2 k3 kf kz e0 e1 e2 e3 ef ez hb5 hc5 he5 ho5 hs5 hrd
      obtain ⟨k, b, rfl, rfl, hf, hc6, ho6, he6, hb6⟩ := hcut
      generalize wc = w6 at *
      have hs6 : w.heap.size ≤ w6.heap.size := hb6.size
      have hkl := hf.1
      have hfg := find_get hf HXS.out.1 HEP.out
      obtain ⟨k0, k1, k2, k3, kf, kz⟩ := hc6.four
      obtain ⟨e0, e1, e2, e3, ef, ez⟩ := he6.four
      have hvb6 := own_lt ho6
      cases b
      · have HR : Hid (res = insAt X k ⟨ep, ek, et, eo⟩) := Lib.hid (by
          rw [HX.out, Tr.adj_none (hfg.2 rfl)]
          exact ins_at hkl (hf.2.2 HXS.out.1).1 (hf.2.2 HXS.out.1).2.1 ((hf.2.2 HXS.out.1).2.2 rfl))
        clear hf hfg
        have hx7 := Blk.new w6 53 [.string ep, .int .i64 ek, .string et, .bool eo]
        have hb7 := hb6.trans (GrX.of ((Below.refl w6.heap.size w6).alloc (Nat.le_refl _) (.cells #[.string ep, .int .i64 ek, .string et, .bool eo] 53)) (Nat.le_refl _))
        have hc7 := hc6.alloc (.cells #[.string ep, .int .i64 ek, .string et, .bool eo] 53)
        have ho7 : EnOwn _ base (.slice A X.length cX) X := own_alloc ho6 (.cells #[.string ep, .int .i64 ek, .string et, .bool eo] 53)
        have hs7 : base ≤ (w6.alloc (.cells #[.string ep, .int .i64 ek, .string et, .bool eo] 53)).heap.size := by rw [World.size_alloc]; omega
        have hz7 : w6.heap.size < (w6.alloc (.cells #[.string ep, .int .i64 ek, .string et, .bool eo] 53)).heap.size := by rw [World.size_alloc]; omega
        rcases own_shape ho6 with ⟨hv8, hv0⟩ | ⟨g, cap, hv8, hbg, hgz, hcap⟩
        · injection hv8 with a1 a2 a3
          subst a1 a3
          have e0 : X = [] := List.length_eq_zero_iff.1 hv0
          subst e0
          have ek0 : k = 0 := by simpa using hkl
          subst ek0
          go_wp2_with fail
          go_region_with (first | (go_at_call 125; refine (einsert_nil w6.heap.size ⟨ep, ek, et, eo⟩ _ (by exact hx7)).mono ?_; rintro e w8 ⟨v8, rfl, ho8, hg8⟩; have hc8 : Blk w8 gc 150 [.slice none ([] : List En).length 0, x1, x2, x3] := hc7.grown (grown_drew hg8) (by intro h; cases h); obtain ⟨k0, k1, k2, k3, kf, kz⟩ := hc8.four; obtain ⟨A8, c8, hv8, _, _⟩ := EnOwn.rd ho8; subst hv8))
          all_goals
            have hb8 := (hb7.trans (GrX.grown (g := gc) (row' := (Value.slice A8 (insAt [] 0 (⟨ep, ek, et, eo⟩ : En)).length c8).ownBlock) (grown_drew hg8) (fun q e => .inr (World.ownsRow.lt ho8 q e).1))).trans (GrX.set gc (Value.slice A8 (insAt [] 0 (⟨ep, ek, et, eo⟩ : En)).length c8).ownBlock w8 0 (.slice A8 (insAt [] 0 (⟨ep, ek, et, eo⟩ : En)).length c8))
            have ho9 : EnOwn (w8.setCell ⟨gc, 0, none⟩ (.slice A8 (insAt [] 0 (⟨ep, ek, et, eo⟩ : En)).length c8)) base (.slice A8 (insAt [] 0 (⟨ep, ek, et, eo⟩ : En)).length c8) res := by
              rw [HR.out]
              exact own_far (own_base (show EnOwn w8 (w6.alloc (.cells #[.string ep, .int .i64 ek, .string et, .bool eo] 53)).heap.size (.slice A8 (insAt [] 0 (⟨ep, ek, et, eo⟩ : En)).length c8) (insAt [] 0 ⟨ep, ek, et, eo⟩) from ho8) hs7) (fun e => by have := (World.ownsRow.lt ho8 gc e.symm).1; change (w6.alloc (.cells #[.string ep, .int .i64 ek, .string et, .bool eo] 53)).heap.size ≤ gc at this; omega) 0 _
            have hc9 : Blk (w8.setCell ⟨gc, 0, none⟩ (.slice A8 (insAt [] 0 (⟨ep, ek, et, eo⟩ : En)).length c8)) gc 150 [.slice A8 (insAt [] 0 (⟨ep, ek, et, eo⟩ : En)).length c8, x1, x2, x3] := hc8.set_ 0 _
            clear hb7 hc7 ho7 hg8 ho8
            go_wp2_with fail
            refine bodyPost_end (results_none Tryz.results93 _ _ _) rfl ?_
            exact ⟨rfl, _, hc9, ho9, hb8⟩
        · injection hv8 with a1 a2 a3
          subst a1 a3
          have hgg : gc ≠ g := by omega
          have hgz6 : g < w6.heap.size := hgz
          go_wp2_with fail
          go_region_with (first | (go_at_call 125; refine (einsert_any base g cX w6.heap.size k X ⟨ep, ek, et, eo⟩ _ (by exact ho7) (by exact hx7) (by omega) hkl (by omega) (by exact hs7)).mono ?_; rintro e w8 ⟨v8, rfl, ho8, hg8, hat⟩; have hc8 : Blk w8 gc 150 [.slice (some ⟨g, 0, none⟩) X.length cX, x1, x2, x3] := hc7.grown (grown_drew hg8) (by intro h; injection h with h; exact hgg h); obtain ⟨k0, k1, k2, k3, kf, kz⟩ := hc8.four; obtain ⟨A8, c8, hv8, _, _⟩ := EnOwn.rd ho8; subst hv8))
          all_goals
            have hvv : some gc ≠ (Value.slice A8 (insAt X k (⟨ep, ek, et, eo⟩ : En)).length c8).ownBlock := own_ne ho8 (.inl hgb)
            have hb8 := (hb7.trans (GrX.grown (g := gc) (row' := (Value.slice A8 (insAt X k (⟨ep, ek, et, eo⟩ : En)).length c8).ownBlock) (grown_drew hg8) (fun q e => by
              rcases hat with h | h
              · rw [h] at e; exact .inl e
              · rw [h] at e; injection e with e; exact .inr (Nat.le_of_eq e)))).trans (GrX.set gc (Value.slice A8 (insAt X k (⟨ep, ek, et, eo⟩ : En)).length c8).ownBlock w8 0 (.slice A8 (insAt X k (⟨ep, ek, et, eo⟩ : En)).length c8))
            have ho9 : EnOwn (w8.setCell ⟨gc, 0, none⟩ (.slice A8 (insAt X k (⟨ep, ek, et, eo⟩ : En)).length c8)) base (.slice A8 (insAt X k (⟨ep, ek, et, eo⟩ : En)).length c8) res := by
              rw [HR.out]
              exact own_far ho8 hvv 0 _
            have hc9 : Blk (w8.setCell ⟨gc, 0, none⟩ (.slice A8 (insAt X k (⟨ep, ek, et, eo⟩ : En)).length c8)) gc 150 [.slice A8 (insAt X k (⟨ep, ek, et, eo⟩ : En)).length c8, x1, x2, x3] := hc8.set_ 0 _
            clear hb7 hc7 ho7 hg8 ho8 hat
            go_wp2_with fail
            refine bodyPost_end (results_none Tryz.results93 _ _ _) rfl ?_
            exact ⟨rfl, _, hc9, ho9, hb8⟩
      · obtain ⟨hlt, hke⟩ := hf.2.1 rfl
        have hget := hfg.1 rfl
        rcases own_shape ho6 with ⟨hv8, hv0⟩ | ⟨g, cap, hv8, hbg, hgz, hcap⟩
        · exact absurd hv0 (by omega)
        injection hv8 with a1 a2 a3
        subst a1 a3
        have hgg : gc ≠ g := by omega
        have hvg : g ≠ w.heap.size := fun h => hve5 (by rw [h]; rfl)
        have hge : w.heap.size ≠ g := fun h => hvg h.symm
        obtain ⟨f0, f1, f2, f3⟩ := eflat_at X k hlt
        have r0 := (ho6.cellAt (k * 4 + 0) (by omega)).trans f0
        have r1 := (ho6.cellAt (k * 4 + 1) (by omega)).trans f1
        have r2 := (ho6.cellAt (k * 4 + 2) (by omega)).trans f2
        have r3 := (ho6.cellAt (k * 4 + 3) (by omega)).trans f3
        simp only [Nat.add_zero] at r0
        clear f0 f1 f2 f3
        have rf : ∀ q, w6.frozen? ⟨g, q, none⟩ = false := fun q => ho6.frozenAt q
        have hset : ∀ eo' : Bool, Tr.ins ⟨ep, ek, et, eo'⟩ X = X.set k ⟨ep, ek, et, eo'⟩ := fun eo' => ins_set (x := ⟨ep, ek, et, eo'⟩) hlt (hf.2.2 HXS.out.1).1 hke
        have HD := Lib.hid (show ek = 2 → res = X.set k ⟨ep, ek, et, X[k].o || X[k].k == 4⟩ from fun h => by rw [HX.out, Tr.adj_dir hget h]; exact hset _)
        have HN := Lib.hid (show ek ≠ 2 → res = X.set k ⟨ep, ek, et, eo⟩ from fun h => by rw [HX.out, Tr.adj_other hget h]; exact hset _)
        clear hset hget hfg hke hf HX
        generalize X[k] = zz at r0 r1 r2 r3 HD HN
        obtain ⟨zp, zk, zt, zo⟩ := zz
        dsimp only at r0 r1 r2 r3 HD HN
        have key : ∀ (wq : World) (qo : Bool), EnOwn wq base (.slice (some ⟨g, 0, none⟩) X.length cX) X → Blk wq gc 150 [.slice (some ⟨g, 0, none⟩) X.length cX, x1, x2, x3] → GrX gc rU (some g) w wq → res = X.set k ⟨ep, ek, et, qo⟩ →
            ∃ v', Blk ((((wq.setCell ⟨g, k * 4, none⟩ (.string ep)).setCell ⟨g, k * 4 + 1, none⟩ (.int .i64 ek)).setCell ⟨g, k * 4 + 2, none⟩ (.string et)).setCell ⟨g, k * 4 + 3, none⟩ (.bool qo)) gc 150 [v', x1, x2, x3] ∧ EnOwn ((((wq.setCell ⟨g, k * 4, none⟩ (.string ep)).setCell ⟨g, k * 4 + 1, none⟩ (.int .i64 ek)).setCell ⟨g, k * 4 + 2, none⟩ (.string et)).setCell ⟨g, k * 4 + 3, none⟩ (.bool qo)) base v' res ∧ GrX gc rU v'.ownBlock w ((((wq.setCell ⟨g, k * 4, none⟩ (.string ep)).setCell ⟨g, k * 4 + 1, none⟩ (.int .i64 ek)).setCell ⟨g, k * 4 + 2, none⟩ (.string et)).setCell ⟨g, k * 4 + 3, none⟩ (.bool qo)) := fun wq qo h1 h2 h3 h4 => by
          obtain ⟨o4, g4⟩ := own_four h1 (k * 4) (.string ep) (.int .i64 ek) (.string et) (.bool qo)
          have ef := eflat_set X k hlt ⟨ep, ek, et, qo⟩
          dsimp only at ef
          rw [ef] at o4
          refine ⟨.slice (some ⟨g, 0, none⟩) X.length cX, (((h2.far (p := ⟨g, _, none⟩) hgg _).far (p := ⟨g, _, none⟩) hgg _).far (p := ⟨g, _, none⟩) hgg _).far (p := ⟨g, _, none⟩) hgg _, ?_, ?_⟩
          · rw [h4]; unfold EnOwn; rw [List.length_set]; exact o4
          · exact h3.trans (GrX.grown g4 (fun q e => .inl e))
        have HK := Lib.hid key
        clear key
        rcases tk : (ek == 2) with _ | _
        · have HF := Lib.hid (HK.out w6 eo ho6 hc6 hb6 (HN.out (by simpa using tk)))
          clear HN HD HK
          go_wp2_with fail
          go_region
          all_goals
            go_wp2_with fail
            refine bodyPost_end (results_none Tryz.results93 _ _ _) rfl ?_
            obtain ⟨v', f1, f2, f3⟩ := HF.out
            exact ⟨rfl, v', f1, f2, f3.drew⟩
        · have HS := Lib.hid (fun q : Bool => HK.out (w6.setCell ⟨w.heap.size, 3, none⟩ (.bool q)) q (own_far ho6 hve5 3 (.bool q)) (hc6.far (p := ⟨w.heap.size, 3, none⟩) (fun h => hgw h.symm) (.bool q)) (hb6.fresh (p := ⟨w.heap.size, 3, none⟩) (Nat.le_refl _) (.bool q)))
          have HD2 := Lib.hid (HD.out (by simpa using tk))
          have he7 : ∀ q : Bool, Blk (w6.setCell ⟨w.heap.size, 3, none⟩ (.bool q)) w.heap.size 53 [.string ep, .int .i64 ek, .string et, .bool q] := fun q => he6.set_ 3 (.bool q)
          clear HN HD HK
          cases zo
          · rcases tz : (zk == 4) with _ | _
            · have HF := Lib.hid (HS.out false (by rw [HD2.out, tz]; rfl))
              clear HS HD2
              obtain ⟨y0, y1, y2, y3, yf, yz⟩ := (he7 false).four
              clear he7
              go_wp2_with fail
              go_region
              all_goals
                go_wp2_with fail
                refine bodyPost_end (results_none Tryz.results93 _ _ _) rfl ?_
                obtain ⟨v', f1, f2, f3⟩ := HF.out
                exact ⟨rfl, v', f1, f2, f3.drew⟩
            · have HF := Lib.hid (HS.out true (by rw [HD2.out, tz]; rfl))
              clear HS HD2
              obtain ⟨y0, y1, y2, y3, yf, yz⟩ := (he7 true).four
              clear he7
              go_wp2_with fail
              go_region
              all_goals
                go_wp2_with fail
                refine bodyPost_end (results_none Tryz.results93 _ _ _) rfl ?_
                obtain ⟨v', f1, f2, f3⟩ := HF.out
                exact ⟨rfl, v', f1, f2, f3.drew⟩
          · have HF := Lib.hid (HS.out true (by rw [HD2.out]; rfl))
            clear HS HD2
            obtain ⟨y0, y1, y2, y3, yf, yz⟩ := (he7 true).four
            clear he7
            go_wp2_with fail
            go_region
            all_goals
              go_wp2_with fail
              refine bodyPost_end (results_none Tryz.results93 _ _ _) rfl ?_
              obtain ⟨v', f1, f2, f3⟩ := HF.out
              exact ⟨rfl, v', f1, f2, f3.drew⟩
end Go.Proofs.YtjppfhgkanbemacGreatDoor
