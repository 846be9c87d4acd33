/-
  Answers in a row; how all begins.
  Play. (Printed by wip/gensyplay.py.)
-/
import Derived.Test.YtjppfhgkanbemacGreatDoorSG
import Derived.Test.YtjppfhgkanbemacGreatDoorSA
namespace Go.Proofs.YtjppfhgkanbemacGreatDoor
open Go.RowKit Go.Shelf Go.Sort

namespace Sy
theorem calls_in : ∀ (l : List Ca) {s : St} {n : Nat}, In n s → Ok s → In (n + l.length) (calls s l).1
  | [], _, _, h, _ => h
  | c :: r, s, n, h, ho => by
    have h1 := calls_in r (h.call ho c) (call_good ho c).1
    have e : n + (c :: r).length = n + 1 + r.length := by rw [List.length_cons]; omega
    rw [e]; exact h1
theorem calls_step {s : St} {l : List Ca} {k : Nat} (hk : k < l.length) : calls s (l.take (k + 1)) = ((call (calls s (l.take k)).1 l[k]).1, (calls s (l.take k)).2 ++ [(call (calls s (l.take k)).1 l[k]).2]) := by
  rw [List.take_succ_eq_append_getElem hk, calls_app]
  rfl
end Sy
/-- Answers' cells. -/
def anCells (l : List An) (vs : List Value) : List Value := (l.zip vs).flatMap fun x => [.int .i64 x.1.err, .int .i64 x.1.n, .string x.1.text, x.2]
theorem an_snoc {l : List An} {vs : List Value} (h : vs.length = l.length) (a : An) (v : Value) : anCells (l ++ [a]) (vs ++ [v]) = anCells l vs ++ [.int .i64 a.err, .int .i64 a.n, .string a.text, v] := by
  unfold anCells
  rw [List.zip_append h.symm, List.flatMap_append]
  rfl
theorem an_len {l : List An} {vs : List Value} (h : vs.length = l.length) : (anCells l vs).length = l.length * 4 := by
  induction l generalizing vs with
  | nil => simp [anCells]
  | cons a t ih =>
    cases vs with
    | nil => simp at h
    | cons v r =>
      have := ih (vs := r) (by simpa using h)
      unfold anCells at this ⊢
      rw [List.zip_cons_cons, List.flatMap_cons, List.length_append, this, List.length_cons]
      simp; omega
theorem an_at {l : List An} {vs : List Value} (h : vs.length = l.length) {k : Nat} (hk : k < l.length) : ∃ v, vs[k]? = some v ∧ (anCells l vs)[k * 4]? = some (.int .i64 l[k].err) ∧ (anCells l vs)[k * 4 + 1]? = some (.int .i64 l[k].n) ∧ (anCells l vs)[k * 4 + 2]? = some (.string l[k].text) ∧ (anCells l vs)[k * 4 + 3]? = some v := by
  induction l generalizing vs k with
  | nil => exact absurd hk (Nat.not_lt_zero _)
  | cons a t ih =>
    cases vs with
    | nil => simp at h
    | cons v r =>
      have e : anCells (a :: t) (v :: r) = [.int .i64 a.err, .int .i64 a.n, .string a.text, v] ++ anCells t r := rfl
      rw [e]
      cases k with
      | zero => exact ⟨v, rfl, rfl, rfl, rfl, rfl⟩
      | succ k =>
        obtain ⟨u, h1, h2, h3, h4, h5⟩ := ih (vs := r) (by simpa using h) (k := k) (by simpa using hk)
        have s : ∀ j, ([.int .i64 a.err, .int .i64 a.n, .string a.text, v] ++ anCells t r)[(k + 1) * 4 + j]? = (anCells t r)[k * 4 + j]? := fun j => by
          rw [List.getElem?_append_right (by simp; omega)]
          congr 1
          simp; omega
        exact ⟨u, h1, (s 0).trans h2, (s 1).trans h3, (s 2).trans h4, (s 3).trans h5⟩
/-- A row of answers of the call's own; their names read wherever the blocks off X lie as here. -/
def OutOwn (X : Nat → Prop) (w : World) (base : Nat) (v : Value) (l : List An) : Prop :=
  ∃ vs : List Value, vs.length = l.length ∧ w.ownsRow base 41 4 v l.length (anCells l vs) ∧ ∀ k (h : k < l.length), ∃ A c, vs[k]? = some (.slice A l[k].names.length c) ∧ Off X w fun w => StrRd w w.heap.size A l[k].names
theorem OutOwn.nil (X : Nat → Prop) (w : World) (base : Nat) : OutOwn X w base (.slice none 0 0) [] := ⟨[], rfl, World.ownsRow_nil _ _ _ _, fun k h => absurd h (Nat.not_lt_zero k)⟩
/-- Another answer behind. -/
theorem OutOwn.snoc {X Y : Nat → Prop} {w w' : World} {base n : Nat} {v' : Value} {l : List An} {a : An} {A : Option Addr} {c : Nat} {vs : List Value} (h1 : vs.length = l.length) (h2 : ∀ k (h : k < l.length), ∃ A c, vs[k]? = some (.slice A l[k].names.length c) ∧ Off X w fun w => StrRd w w.heap.size A l[k].names)
    (ha : Off X w fun w => StrRd w w.heap.size A a.names) (hf : Fr X w w') (hs : Sub w Y X) (ho : w'.ownsRow base 41 4 v' n (anCells l vs ++ [.int .i64 a.err, .int .i64 a.n, .string a.text, .slice A a.names.length c])) (hn : n = l.length + 1) : OutOwn Y w' base v' (l ++ [a]) := by
  refine ⟨vs ++ [.slice A a.names.length c], by simp [h1], ?_, fun k hk => ?_⟩
  · rw [an_snoc h1, List.length_append]
    subst hn
    exact ho
  · rw [List.length_append] at hk
    by_cases e : k < l.length
    · obtain ⟨Ak, ck, e1, e2⟩ := h2 k e
      rw [List.getElem_append_left e]
      exact ⟨Ak, ck, by rw [List.getElem?_append_left (by omega)]; exact e1, e2.on hf hs⟩
    · have ek : k = l.length := by simp at hk; omega
      subst ek
      rw [List.getElem_append_right (Nat.le_refl _)]
      simp only [Nat.sub_self, List.getElem_cons_zero]
      exact ⟨A, c, by rw [List.getElem?_append_right (by omega), h1, Nat.sub_self]; rfl, ha.on hf hs⟩
/-- Other blocks may be written from here on. -/
theorem SyAt.grow {w w' : World} {p : Pl} {s : St} {Y : Nat → Prop} (h : SyAt w p s) (hf : Fr Y w w') (hY : ∀ k, k < w.heap.size → Y k → p.e k) (e' : Nat → Prop) (he : ∀ k, e' k → (k < w.heap.size → p.e k) ∧ k < w'.heap.size) : SyAt w' { p with e := e' } s := by
  have h0 := h.fr hf hY
  have hx : Fr p.X w w' := hf.wide fun k hk y => .inr (hY k hk y)
  have hs : Sub w (Pl.X { p with e := e' }) p.X := fun k hk q => q.elim (fun q => .inl q) fun q => .inr ((he k q).1 hk)
  refine ⟨?_, h0.files, h0.fl, h0.dl, fun i hi => ?_, h0.de, h0.fn, h0.dn, fun k hk q => h.ce k hk ((he k q).1 (h.c_lt hk)), fun k hk => (he k hk).2⟩
  · obtain ⟨AU, AL, AT, cU, cL, cT, hb, _, _, h3⟩ := h0.box
    obtain ⟨AU', AL', AT', cU', cL', cT', hb', h1', h2', h3'⟩ := h.box
    have hb2 : Blk w' p.gs 85 _ := hb'.fr hf fun y => h.ce _ h.gs_c (hY _ hb'.lt y)
    exact ⟨AU', AL', AT', cU', cL', cT', hb2, h1'.on hx hs, h2'.on hx hs, h3'⟩
  · obtain ⟨A, c, hb, h1, h2⟩ := h.ob i hi
    exact ⟨A, c, hb.fr hf fun y => h.ce _ (h.f_c hi) (hY _ hb.lt y), h1.on hx hs, h2⟩
def Sy.fresh : St := ⟨Un.zero, [], [], [], [], List.replicate 4 (List.replicate 8 none)⟩
def zeroSys : List Value := [.slice none 0 0, .slice none 0 0, .slice none 0 0, .slice none 0 0, .pointer none, .pointer none, .pointer none, .pointer none, .pointer none, .pointer none, .pointer none, .pointer none, .pointer none, .pointer none, .pointer none, .pointer none, .pointer none, .pointer none, .pointer none, .pointer none, .pointer none, .pointer none, .pointer none, .pointer none, .pointer none, .pointer none, .pointer none, .pointer none, .pointer none, .pointer none, .pointer none, .pointer none, .pointer none, .pointer none, .pointer none, .pointer none]
theorem SyAt.fresh {w : World} {g : Nat} (h : Blk w g 85 zeroSys) (e : Nat → Prop) (he : ∀ k, e k → k < w.heap.size ∧ k ≠ g) : SyAt w ⟨g, [], [], .slice none 0 0, e⟩ Sy.fresh where
  box := ⟨none, none, none, 0, 0, 0, h, Off.always fun _ => ⟨Rd.nil, Nat.le_refl _, TsRd.nil _ _ _, fun _ => rfl⟩, Off.always fun _ => Rd.nil, Nat.le_refl _⟩
  files := World.ownsRow_nil _ _ _ _
  fl := rfl
  dl := rfl
  ob := fun _ h => absurd h (Nat.not_lt_zero _)
  de := fun _ h => absurd h (Nat.not_lt_zero _)
  fn := List.nodup_nil
  dn := List.nodup_nil
  ce := fun k hk q => by
    rcases hk with hk | hk | hk | hk
    · exact (he k q).2 hk
    · cases hk
    · cases hk
    · cases hk
  el := fun k q => (he k q).1
theorem Sy.set_fresh (u : Un) : Sy.set Sy.fresh (u, 0) = (Sy.start u, (Tr.seenU u).2) := by
  unfold Sy.set
  rw [if_neg (fun h => h rfl)]
  rfl
/-- Calls in a row. -/
def CasRd (w : World) (A : Option Addr) (l : List Ca) : Prop := ∀ k, (hk : k < l.length) → ∃ b o, A = some ⟨b, o, none⟩ ∧ CaAt w b (o + k * 9) l[k]
/-- Answers that read. -/
def AnsRd (w : World) (v : Value) (l : List An) : Prop := ∃ A c vs, v = .slice A l.length c ∧ vs.length = l.length ∧ Rd w w.heap.size 4 A l.length (anCells l vs) ∧ ∀ k (h : k < l.length), ∃ Ak ck, vs[k]? = some (.slice Ak l[k].names.length ck) ∧ StrRd w w.heap.size Ak l[k].names
theorem OutOwn.rd {X : Nat → Prop} {w : World} {base : Nat} {v : Value} {l : List An} (h : OutOwn X w base v l) : AnsRd w v l := by
  obtain ⟨vs, h1, h2, h3⟩ := h
  have key : ∀ A c, v = .slice A l.length c → Rd w w.heap.size 4 A l.length (anCells l vs) → AnsRd w v l := fun A c hv hr => ⟨A, c, vs, hv, h1, hr, fun k hk => by
    obtain ⟨Ak, ck, e1, e2⟩ := h3 k hk
    exact ⟨Ak, ck, e1, e2.here⟩⟩
  rcases own_shape h2 with ⟨hv, h0⟩ | ⟨g, cap, hv, _, _, _⟩
  · have e : l = [] := List.length_eq_zero_iff.1 h0
    subst e
    exact key none 0 hv Rd.nil
  · subst hv
    exact key _ _ rfl (Rd.of_own h2)
/-- What Play answers. -/
def PlayRel (r : (Un × List En × Nat) × List An × Int) (w : World) (e : Ending) (w' : World) : Prop :=
  ∃ A A' c c' AT cT v, e = .returned (.tuple #[.agg #[.slice A r.1.1.U.length c, .slice A' r.1.1.L.length c', .slice AT r.1.2.1.length cT, .int .i64 r.1.2.2], v, .int .i64 r.2.2]) ∧ UnRd w' w'.heap.size A A' c c' r.1.1 ∧ EnRd w' w'.heap.size AT r.1.2.1 ∧ r.1.2.1.length ≤ cT ∧ AnsRd w' v r.2.1 ∧ Below w.heap.size w w'
theorem PlayRel.bad {w w' : World} {e : Int} (h : Below w.heap.size w w') : PlayRel ((Un.zero, [], 0), [], e) w (.returned (.tuple #[.agg #[.slice none 0 0, .slice none 0 0, .slice none 0 0, .int .i64 0], .slice none 0 0, .int .i64 e])) w' :=
  ⟨none, none, 0, 0, none, 0, _, rfl, ⟨Rd.nil, Nat.le_refl _, TsRd.nil _ _ _, fun _ => rfl⟩, Rd.nil, Nat.le_refl _, ⟨none, 0, [], rfl, rfl, Rd.nil, fun k h => absurd h (Nat.not_lt_zero k)⟩, h⟩
end Go.Proofs.YtjppfhgkanbemacGreatDoor

namespace Go.Proofs.YtjppfhgkanbemacGreatDoor
open Go.RowKit Go.Shelf Go.Sort

theorem info_an : (Tryz.prog.info? 41).map (fun i => (i.zero, i.size, i.bytes)) = some (some (.agg #[.int .i64 0, .int .i64 0, .string ⟨#[]⟩, .slice none 0 0]), 4, 56) := by kernel_rfl
theorem Sy.play_bad {u : Un} {l : List Ca} {x : Int} (h : (Tr.wrongU u).1 = x) (hx : x ≠ 0) : Sy.play u l = ((Un.zero, [], 0), [], x) := by unfold Sy.play; rw [h, if_pos hx]
theorem Sy.play_many {u : Un} {l : List Ca} (h : (Tr.wrongU u).1 = 0) (hl : 80 < l.length) : Sy.play u l = ((Un.zero, [], 0), [], 5) := by unfold Sy.play; rw [h, if_neg (fun q => q rfl), if_pos hl]
theorem Sy.play_ok {u : Un} {l : List Ca} (h : (Tr.wrongU u).1 = 0) (hl : l.length ≤ 80) : Sy.play u l = (((Sy.calls (Sy.start u) l).1.u, (Sy.calls (Sy.start u) l).1.T, (Sy.calls (Sy.start u) l).1.files.length), (Sy.calls (Sy.start u) l).2, 0) := by unfold Sy.play; rw [h, if_neg (fun q => q rfl), if_neg (by omega)]
theorem fresh_nil (u : Un) : (Sy.set Sy.fresh (u, 0)).1 = Sy.start u := by rw [Sy.set_fresh]

set_option maxHeartbeats 8000000 in
set_option maxRecDepth 100000 in
theorem play_any (A A' Al : Option Addr) (c c' cl : Nat) (u : Un) (l : List Ca) (w : World) (hu : UnRd w w.heap.size A A' c c' u) (hs : UnSm u) (hl : CasRd w Al l) (hls : ∀ x ∈ l, CaSm x) (hbig : l.length ≤ 4000000) :
    Calls Tryz.prog 15 #[.agg #[.slice A u.U.length c, .slice A' u.L.length c'], .slice Al l.length cl] w (PlayRel (Sy.play u l) w) := by
  have HL := Lib.hid hl
  have HLS := Lib.hid hls
  have HUS := Lib.hid hs
  have HUR := Lib.hid hu
  obtain ⟨R, hR⟩ : ∃ R, R = Sy.play u l := ⟨_, rfl⟩
  rw [← hR]
  have HR := Lib.hid hR
  clear hR
  have cW := fun W q => wrongU_any A A' c c' u W q hs
  have HW0 := Lib.hid (rfl : (Tr.wrongU u).1 = (Tr.wrongU u).1)
  obtain ⟨we, hwe⟩ : ∃ we, we = Tr.wrongU u := ⟨_, rfl⟩
  rw [← hwe] at cW
  have HWE := Lib.hid hwe
  clear hwe HW0 hs hl hls
  obtain ⟨e0, ea⟩ := we
  dsimp only at cW
  have HEQ : Hid ((Tr.wrongU u).1 = e0) := Lib.hid (by rw [← HWE.out])
  clear HWE
  have hBu := (Below.refl w.heap.size w).alloc (Nat.le_refl _) (.cells #[.slice A u.U.length c, .slice A' u.L.length c'] 26)
  have hgu0 := Blk.new w 26 [.slice A u.U.length c, .slice A' u.L.length c']
  have hu0 := (hu.below hBu).more hBu.size
  clear hu
  go_enter Tryz.func15, Tryz.ntmps15
  go_upto_region 1 with fail
  have hB1 := hBu.alloc hBu.size (.cells #[.slice none 0 0, .slice none 0 0, .slice none 0 0, .int .i64 0] 33)
  have hgu1 := hgu0.alloc (.cells #[.slice none 0 0, .slice none 0 0, .slice none 0 0, .int .i64 0] 33)
  have hu1 : UnRd _ _ A A' c c' u := (hu0.below ((Below.refl _ _).alloc (Nat.le_refl _) (.cells #[.slice none 0 0, .slice none 0 0, .slice none 0 0, .int .i64 0] 33))).more ((Below.refl _ _).alloc (Nat.le_refl _) (.cells #[.slice none 0 0, .slice none 0 0, .slice none 0 0, .int .i64 0] 33)).size
  have hz1 := Blk.new (w.alloc (.cells #[.slice A u.U.length c, .slice A' u.L.length c'] 26)) 33 [.slice none 0 0, .slice none 0 0, .slice none 0 0, .int .i64 0]
  have hsa : (w.alloc (.cells #[.slice A u.U.length c, .slice A' u.L.length c'] 26)).heap.size = w.heap.size + 1 := World.size_alloc _ _
  rw [hsa] at hz1
  clear hBu hgu0 hu0 hsa
  generalize (w.alloc (.cells #[.slice A u.U.length c, .slice A' u.L.length c'] 26)).alloc (.cells #[.slice none 0 0, .slice none 0 0, .slice none 0 0, .int .i64 0] 33) = w1 at *
  obtain ⟨q0, q1, qf, qz⟩ := hgu1.two
  obtain ⟨z0, z1, z2, z3, zf, zz⟩ := hz1.four
  go_wp2_with fail
  refine (cW w1 hu1).mono ?_
  rintro e w2 ⟨rfl, hb⟩
  have hB2 := hB1.trans (hb.mono hB1.size)
  have hgu2 := hgu1.below hb hgu1.lt
  have hz2 := hz1.below hb hz1.lt
  have hu2 := (hu1.below hb).more hb.size
  clear q0 q1 qf qz z0 z1 z2 z3 zf zz hB1 hgu1 hz1 hu1 hb cW
  have hB3 := hB2.alloc hB2.size (.cells #[.int .i64 e0, .int .i64 ea] 46)
  have hgu3 := hgu2.alloc (.cells #[.int .i64 e0, .int .i64 ea] 46)
  have hz3 := hz2.alloc (.cells #[.int .i64 e0, .int .i64 ea] 46)
  have hb3 : Below w2.heap.size w2 (w2.alloc (.cells #[.int .i64 e0, .int .i64 ea] 46)) := (Below.refl _ w2).alloc (Nat.le_refl _) _
  have hu3 := (hu2.below hb3).more hb3.size
  have hf3 := Blk.new w2 46 [.int .i64 e0, .int .i64 ea]
  have hgf1 : w.heap.size + 1 < w2.heap.size := hz2.lt
  go_upto_region 2 with fail
  clear hB2 hgu2 hz2 hu2 hb3
  generalize w2.alloc (.cells #[.int .i64 e0, .int .i64 ea] 46) = w3 at *
  generalize w2.heap.size = gf at *
  obtain ⟨q0, q1, qf, qz⟩ := hgu3.two
  obtain ⟨z0, z1, z2, z3, zf, zz⟩ := hz3.four
  obtain ⟨f0, f1, ff, fz⟩ := hf3.two
  rcases te : (e0 != 0) with _ | _
  rotate_left
  · have hne : e0 ≠ 0 := by simpa using te
    have HF := Lib.hid (HR.out.trans (Sy.play_bad HEQ.out hne))
    clear hne
    have hfs1 : ¬ gf = w.heap.size + 1 := by omega
    have hfs2 : ¬ w.heap.size + 1 = gf := by omega
    go_upto_region 3 with fail
    go_region_with (fail)
    all_goals
      go_wp2_with fail
      refine bodyPost_ret (v := .tuple #[.agg #[.slice none 0 0, .slice none 0 0, .slice none 0 0, .int .i64 0], .slice none 0 0, .int .i64 e0]) ?_ rfl ?_
      · simp [results, Tryz.results15, go_sem, z0, z1, z2, z3]
      rw [HF.out]
      refine PlayRel.bad ?_
      first | exact ((((hB3.setCell (p := ⟨w.heap.size + 1, 0, none⟩) (Nat.le_succ _) _).setCell (p := ⟨w.heap.size + 1, 1, none⟩) (Nat.le_succ _) _).setCell (p := ⟨w.heap.size + 1, 2, none⟩) (Nat.le_succ _) _).setCell (p := ⟨w.heap.size + 1, 3, none⟩) (Nat.le_succ _) _) | exact ((((hB3.setCell (p := ⟨w.heap.size + 1, 0, none⟩) (Nat.le_succ _) _).setCell (p := ⟨w.heap.size + 1, 1, none⟩) (Nat.le_succ _) _).setCell (p := ⟨w.heap.size + 1, 2, none⟩) (Nat.le_succ _) _).setCell (p := ⟨w.heap.size + 1, 3, none⟩) (Nat.le_succ _) _).drew
  obtain rfl : e0 = 0 := by simpa using te
  clear te
  rcases tl : decide ((80 : Int) < (l.length : Int)) with _ | _
  rotate_left
  · have HF := Lib.hid (HR.out.trans (Sy.play_many HEQ.out (by have := of_decide_eq_true tl; omega)))
    go_wp2_with fail
    refine bodyPost_ret (v := .tuple #[.agg #[.slice none 0 0, .slice none 0 0, .slice none 0 0, .int .i64 0], .slice none 0 0, .int .i64 5]) ?_ rfl ?_
    · simp [results, Tryz.results15, go_sem, z0, z1, z2, z3]
    rw [HF.out]
    exact PlayRel.bad ((((hB3.setCell (p := ⟨w.heap.size + 1, 0, none⟩) (Nat.le_succ _) _).setCell (p := ⟨w.heap.size + 1, 1, none⟩) (Nat.le_succ _) _).setCell (p := ⟨w.heap.size + 1, 2, none⟩) (Nat.le_succ _) _).setCell (p := ⟨w.heap.size + 1, 3, none⟩) (Nat.le_succ _) _)
  have hl80 : l.length ≤ 80 := by have := of_decide_eq_false tl; omega
  have HF := Lib.hid (HR.out.trans (Sy.play_ok HEQ.out hl80))
  clear HR
  have HOK := Lib.hid (Sy.start_ok (u := u) HEQ.out)
  clear HEQ
  have hUl : u.U.length ≤ 2000000 := HUS.out.2.2 _ (by unfold Un.all; simp)
  have hUL : ∀ x ∈ u.L, x.length ≤ 2000000 := fun x hx => HUS.out.2.2 x (by unfold Un.all; simp [hx])
  have HLL := Lib.hid hUL
  have hLn := HUS.out.2.1
  clear hUL
  go_upto_region 6 with fail
  clear tl f0 f1 ff fz hf3 z0 z1 z2 z3 zf zz q0 q1 qf qz
  have hb4 : Below w3.heap.size w3 (w3.alloc (.cells #[.slice none 0 0, .slice none 0 0, .slice none 0 0, .slice none 0 0, .pointer none, .pointer none, .pointer none, .pointer none, .pointer none, .pointer none, .pointer none, .pointer none, .pointer none, .pointer none, .pointer none, .pointer none, .pointer none, .pointer none, .pointer none, .pointer none, .pointer none, .pointer none, .pointer none, .pointer none, .pointer none, .pointer none, .pointer none, .pointer none, .pointer none, .pointer none, .pointer none, .pointer none, .pointer none, .pointer none, .pointer none, .pointer none] 85)) := (Below.refl _ w3).alloc (Nat.le_refl _) _
  have hB4 := hB3.alloc hB3.size (.cells #[.slice none 0 0, .slice none 0 0, .slice none 0 0, .slice none 0 0, .pointer none, .pointer none, .pointer none, .pointer none, .pointer none, .pointer none, .pointer none, .pointer none, .pointer none, .pointer none, .pointer none, .pointer none, .pointer none, .pointer none, .pointer none, .pointer none, .pointer none, .pointer none, .pointer none, .pointer none, .pointer none, .pointer none, .pointer none, .pointer none, .pointer none, .pointer none, .pointer none, .pointer none, .pointer none, .pointer none, .pointer none, .pointer none] 85)
  have hgu4 := hgu3.alloc (.cells #[.slice none 0 0, .slice none 0 0, .slice none 0 0, .slice none 0 0, .pointer none, .pointer none, .pointer none, .pointer none, .pointer none, .pointer none, .pointer none, .pointer none, .pointer none, .pointer none, .pointer none, .pointer none, .pointer none, .pointer none, .pointer none, .pointer none, .pointer none, .pointer none, .pointer none, .pointer none, .pointer none, .pointer none, .pointer none, .pointer none, .pointer none, .pointer none, .pointer none, .pointer none, .pointer none, .pointer none, .pointer none, .pointer none] 85)
  have hz4 := hz3.alloc (.cells #[.slice none 0 0, .slice none 0 0, .slice none 0 0, .slice none 0 0, .pointer none, .pointer none, .pointer none, .pointer none, .pointer none, .pointer none, .pointer none, .pointer none, .pointer none, .pointer none, .pointer none, .pointer none, .pointer none, .pointer none, .pointer none, .pointer none, .pointer none, .pointer none, .pointer none, .pointer none, .pointer none, .pointer none, .pointer none, .pointer none, .pointer none, .pointer none, .pointer none, .pointer none, .pointer none, .pointer none, .pointer none, .pointer none] 85)
  have hu4 := (hu3.below hb4).more hb4.size
  have hs4 := Blk.new w3 85 [.slice none 0 0, .slice none 0 0, .slice none 0 0, .slice none 0 0, .pointer none, .pointer none, .pointer none, .pointer none, .pointer none, .pointer none, .pointer none, .pointer none, .pointer none, .pointer none, .pointer none, .pointer none, .pointer none, .pointer none, .pointer none, .pointer none, .pointer none, .pointer none, .pointer none, .pointer none, .pointer none, .pointer none, .pointer none, .pointer none, .pointer none, .pointer none, .pointer none, .pointer none, .pointer none, .pointer none, .pointer none, .pointer none]
  have hgs1 : w.heap.size + 1 < w3.heap.size := hz3.lt
  have hsz4 : (w3.alloc (.cells #[.slice none 0 0, .slice none 0 0, .slice none 0 0, .slice none 0 0, .pointer none, .pointer none, .pointer none, .pointer none, .pointer none, .pointer none, .pointer none, .pointer none, .pointer none, .pointer none, .pointer none, .pointer none, .pointer none, .pointer none, .pointer none, .pointer none, .pointer none, .pointer none, .pointer none, .pointer none, .pointer none, .pointer none, .pointer none, .pointer none, .pointer none, .pointer none, .pointer none, .pointer none, .pointer none, .pointer none, .pointer none, .pointer none] 85)).heap.size = w3.heap.size + 1 := World.size_alloc _ _
  go_upto_region 7 with fail
  clear hb4 hB3 hgu3 hz3 hu3
  generalize w3.alloc (.cells #[.slice none 0 0, .slice none 0 0, .slice none 0 0, .slice none 0 0, .pointer none, .pointer none, .pointer none, .pointer none, .pointer none, .pointer none, .pointer none, .pointer none, .pointer none, .pointer none, .pointer none, .pointer none, .pointer none, .pointer none, .pointer none, .pointer none, .pointer none, .pointer none, .pointer none, .pointer none, .pointer none, .pointer none, .pointer none, .pointer none, .pointer none, .pointer none, .pointer none, .pointer none, .pointer none, .pointer none, .pointer none, .pointer none] 85) = w4 at *
  generalize w3.heap.size = gs at *
  obtain ⟨q0, q1, qf, qz⟩ := hgu4.two
  go_wp2_with fail
  refine (eclone_any A c u.U w4 hu4.up hUl).mono ?_
  rintro e w5 ⟨vU, rfl, hoU, hb⟩
  obtain ⟨AV, cV, rfl, hcV, hrV⟩ := EnOwn.rd hoU
  have hB5 := hB4.trans (hb.mono hB4.size)
  have hgu5 := hgu4.below hb hgu4.lt
  have hz5 := hz4.below hb hz4.lt
  have hs5 := hs4.below hb hs4.lt
  have hu5 := (hu4.below hb).more hb.size
  have hsz5 : gs + 1 ≤ w5.heap.size := by have := hb.size; omega
  rw [hsz4] at hoU
  clear q0 q1 qf qz hB4 hgu4 hz4 hs4 hu4 hb hsz4
  have hb6 : Below w5.heap.size w5 (w5.alloc (.cells #[.slice AV u.U.length cV, .slice none 0 0] 26)) := (Below.refl _ w5).alloc (Nat.le_refl _) _
  have ho6 := Blk.new w5 26 [.slice AV u.U.length cV, .slice none 0 0]
  have hgu6 := hgu5.alloc (.cells #[.slice AV u.U.length cV, .slice none 0 0] 26)
  have hsz6 : (w5.alloc (.cells #[.slice AV u.U.length cV, .slice none 0 0] 26)).heap.size = w5.heap.size + 1 := World.size_alloc _ _
  have hll : TsRd w5 w5.heap.size A' u.L := hu5.low
  go_upto_region 8 with fail
  generalize w5.alloc (.cells #[.slice AV u.U.length cV, .slice none 0 0] 26) = w6 at *
  obtain ⟨q0, q1, qf, qz⟩ := hgu6.two
  go_wp2_with fail
  clear q0 q1 qf qz
  obtain ⟨L, hLL⟩ : ∃ L, L = u.L := ⟨_, rfl⟩
  have HLE := Lib.hid hLL
  rw [← hLL] at hll hLn HLL ⊢
  clear hLL
  go_loopw [35] (fun i wr => ∃ (k : Nat) (vk : Value), k ≤ L.length ∧ i = .int .i64 k ∧ Blk wr w5.heap.size 26 [.slice AV u.U.length cV, vk] ∧ TsFree wr (w5.heap.size + 1) vk (L.take k) ∧ Below w5.heap.size w5 wr ∧ w5.heap.size + 1 ≤ wr.heap.size) (fun i _ => L.length - (intOf i).toNat)
  case atStart => exact ⟨0, .slice none 0 0, Nat.zero_le _, rfl, ho6, TsFree.nil _ _, hb6, Nat.le_of_eq hsz6.symm⟩
  case round =>
    clear ho6 hb6 hsz6 hgu6
    obtain ⟨k, vk, hk, rfl, hwr, hfr, hB, hsz⟩ := hrel
    by_cases hlt : k < L.length
    · obtain ⟨ws, hrw, hel⟩ := (hll.below hB)
      obtain ⟨Ak, ck, f1, f2, f3⟩ := hel k hlt
      have hlk := HLL.out L[k] (List.getElem_mem hlt)
      have HT : Hid (L.take (k + 1) = L.take k ++ [L[k]]) := Lib.hid (List.take_succ_eq_append_getElem hlt)
      have f3 := f3.more hB.size
      obtain ⟨b, o, hAb, hb, hcell⟩ := hrw.2 (by omega)
      have h0 := hcell k _ f1
      subst hAb
      clear hel hrw hcell f1
      generalize L[k] = m at f2 f3 hlk HT h0
      obtain ⟨z0, z1, zf, zz⟩ := hwr.two
      go_wp2_with fail
      have f3' : EnRd wr.drew wr.drew.heap.size Ak m := f3
      have hkl : (L.take k).length ≤ 4000000 := by rw [List.length_take]; omega
      have hvk : ∀ q, vk.ownBlock = some q → w5.heap.size + 1 ≤ q ∧ q < wr.heap.size := fun q e => by
        obtain ⟨vs, g1, _⟩ := hfr
        exact World.ownsRow.lt g1 q e
      go_region_law (first
          | (refine step_appFree (w := w2.alloc (.cells #[.slice A2 m.length c2] 23)) _ rfl _ _ rfl rfl hfr3 rfl hlit hr2' hc2 hne2 hkl (Nat.le_trans hsz hb3.size) rfl ?_
             intro v4 w4 hfr4 hg4
             have hwr4 := hwr3.grown hg4 (fun e => by have := (hvk _ e.symm).1; omega)
             obtain ⟨z0, z1, zf, zz⟩ := hwr4.two
             obtain ⟨A4, c4, hv4, _, _⟩ := hfr4.rd
             rw [show (L.take k ++ [m]).length = k + 1 by rw [List.length_append, List.length_take]; simp; omega] at hv4
             subst hv4)
          | (go_simp; go_at_call 39; refine (eclone_any Ak ck m _ (by exact f3') hlk).mono ?_; rintro e w2 ⟨v2, rfl, ho2, hb2⟩
             have hb2' : Below wr.heap.size wr w2 := ((Below.refl _ wr).drew).trans hb2
             obtain ⟨A2, c2, hv2, hc2, hr2⟩ := EnOwn.rd ho2
             have hne2 : 0 < m.length → ∀ a, A2 = some a → w5.heap.size + 1 ≤ a.block ∧ some a.block ≠ vk.ownBlock := fun _ a ha => by
               subst hv2
               subst ha
               have g2 : wr.heap.size ≤ a.block := (World.ownsRow.lt ho2 a.block rfl).1
               exact ⟨by omega, fun e => by have := (hvk _ e.symm).2; omega⟩
             subst hv2
             have hwr2 := hwr.below hb2' hwr.lt
             have hfr2 := hfr.below hb2'
             have hlit := Blk.new w2 23 [.slice A2 m.length c2]
             have hr2' : EnRd (w2.alloc (.cells #[.slice A2 m.length c2] 23)) (w2.alloc (.cells #[.slice A2 m.length c2] 23)).heap.size A2 m := (Rd.alloc hr2 (Nat.le_refl _) _).more (by simp)
             have hfr3 : TsFree (w2.alloc (.cells #[.slice A2 m.length c2] 23)) (w5.heap.size + 1) vk (L.take k) := hfr2.below ((Below.refl _ _).alloc (Nat.le_refl _) _)
             have hb3 := hb2'.alloc hb2'.size (.cells #[.slice A2 m.length c2] 23)
             have hwr3 := hwr2.alloc (.cells #[.slice A2 m.length c2] 23)
             obtain ⟨z0, z1, zf, zz⟩ := hwr2.two))
      all_goals
        have hB4 := (hB.trans (hb3.mono hB.size)).grown hg4 (Nat.le_trans hB.size hb3.size) (fun q e => by have := (hvk q e).1; omega)
        have hs4 : w5.heap.size + 1 ≤ w4.heap.size := Nat.le_trans (Nat.le_trans hsz hb3.size) hg4.size
        clear z0 z1 zf zz
        go_wp2_with fail
        go_roundw
        case rel => exact ⟨k + 1, .slice A4 (k + 1) c4, hlt, by go_num, hwr4.set_ 1 _, by rw [HT.out]; exact hfr4.far (by omega) 1 _, hB4.setCell (p := ⟨w5.heap.size, 1, none⟩) (Nat.le_refl _) _, by simpa using hs4⟩
        case measure => simp [intOf]; omega
    · obtain rfl : k = L.length := by omega
      rw [List.take_length, HLE.out] at hfr
      clear hll HLL hlt hk
      have hoW : EnOwn wr (gs + 1) (.slice AV u.U.length cV) u.U := own_below hoU hB (Nat.le_refl _)
      obtain ⟨A6, A6', cu6, cv6, a1, a2, hfar⟩ := un_far (lo := gs + 1) hoW hfr (Nat.le_refl _) (by omega)
      injection a1 with a1 a3 a4
      subst a1 a4 a2
      have hzr := hz5.below hB hz5.lt
      have hsr := hs5.below hB hs5.lt
      have hBr := hB5.trans (hB.mono hB5.size)
      have hAr := SyAt.fresh hsr (fun k => k = w.heap.size + 1) fun k hk => ⟨by rw [hk]; exact hzr.lt, by omega⟩
      have hoff : Off (Pl.X ⟨gs, [], [], .slice none 0 0, fun k => k = w.heap.size + 1⟩) wr (fun w => UnRd w w.heap.size AV A6' cV cv6 ⟨u.U, u.L⟩) := UnFar.off hfar fun k hk => by
        rcases hk with (hk | hk | hk | hk) | hk
        · have hk : k = gs := hk; omega
        · cases hk
        · cases hk
        · cases hk
        · have hk : k = w.heap.size + 1 := hk; omega
      have cS := sySet_any ⟨gs, [], [], .slice none 0 0, fun k => k = w.heap.size + 1⟩ Sy.fresh AV A6' cV cv6 (u, 0) wr hAr (fun _ => hoff) (fun _ => HUS.out)
      unfold SySetRel at cS
      rw [fresh_nil] at cS
      obtain ⟨x0, x1, xf, xz⟩ := hwr.two
      go_wp2_with fail
      refine cS.mono ?_
      rintro e w7 ⟨rfl, hA7, hf7⟩
      have hB7 : Below w.heap.size w w7 := hBr.trans (hf7.below (B := w.heap.size) hBr.size fun k hk => by have hk : k = gs := hk; omega)
      have hz7 := hzr.fr hf7 (show ¬ w.heap.size + 1 = gs by omega)
      clear x0 x1 xf xz hAr hoff hfar hoW hwr hfr hB hzr hsr hBr cS hf7 hsz
      have HIN : Hid (∀ k, k ≤ l.length → Sy.In k (Sy.calls (Sy.start u) (l.take k)).1) := Lib.hid fun k hk => by
        have h1 := Sy.calls_in (l.take k) (Sy.start_in u) HOK.out
        rw [List.length_take, Nat.min_eq_left hk, Nat.zero_add] at h1
        exact h1
      have HOKS : Hid (∀ k, Sy.Ok (Sy.calls (Sy.start u) (l.take k)).1) := Lib.hid fun k => (Sy.calls_ok HOK.out).1
      have HHB : Hid (w.heap.size + 1 < gs) := Lib.hid hgs1
      obtain ⟨i0, hif, hi0, hi1, hi2⟩ := info_parts info_an
      go_wp2_with fail
      go_loopw [12, 52] (fun va i wr => ∃ (k : Nat) (p : Pl), k ≤ l.length ∧ i = .int .i64 k ∧ Hid (SyAt wr p (Sy.calls (Sy.start u) (l.take k)).1) ∧ Hid (p.gs = gs ∧ p.e = (fun j => j = w.heap.size + 1 ∨ va.ownBlock = some j) ∧ ∀ j, p.C j → w.heap.size + 2 ≤ j) ∧ Hid (OutOwn p.X wr (w.heap.size + 2) va (Sy.calls (Sy.start u) (l.take k)).2) ∧ Hid (Blk wr (w.heap.size + 1) 33 [.slice none 0 0, .slice none 0 0, .slice none 0 0, .int .i64 0]) ∧ Below w.heap.size w wr ∧ w.heap.size + 2 ≤ wr.heap.size) (fun _ i _ => l.length - (intOf i).toNat)
      case atStart =>
        refine ⟨0, ⟨gs, [], [], .slice none 0 0, fun k => k = w.heap.size + 1⟩, Nat.zero_le _, rfl, Lib.hid hA7, Lib.hid ⟨rfl, ?_, ?_⟩, Lib.hid (OutOwn.nil _ _ _), Lib.hid hz7, hB7, by have := hA7.c_lt hA7.gs_c; have h2 := HHB.out; show w.heap.size + 2 ≤ w7.heap.size; have : gs < w7.heap.size := this; omega⟩
        · funext j
          exact propext ⟨fun q => .inl q, fun q => q.elim id fun q => by cases q⟩
        · intro j hj
          have h2 := HHB.out
          rcases hj with hj | hj | hj | hj
          · have hj : j = gs := hj; omega
          · cases hj
          · cases hj
          · cases hj
      case round =>
        clear hA7 hz7 hB7
        obtain ⟨k, p, hk, rfl, HA, HP, HO, HZ, hB, hsz⟩ := hrel
        by_cases hlt : k < l.length
        · obtain ⟨b, o, hAb, hca⟩ := HL.out k hlt
          subst hAb
          have hbw := hca.lt
          have HSTEP := Lib.hid (Sy.calls_step (s := Sy.start u) hlt)
          have hcp : ¬ p.C b := fun q => by have := HP.out.2.2 b q; omega
          have cC := call_any p _ k b (o + k * 9) l[k] wr HA.out (HIN.out k hk) (by omega) (HOKS.out k) (hca.below hB) hcp (HLS.out _ (List.getElem_mem hlt))
          rw [HP.out.1] at cC
          obtain ⟨sk, hsk⟩ : ∃ x, x = Sy.calls (Sy.start u) (l.take k) := ⟨_, rfl⟩
          rw [← hsk] at HA HO HSTEP cC
          clear hsk hca
          obtain ⟨r, hr⟩ : ∃ r, r = Sy.call sk.1 l[k] := ⟨_, rfl⟩
          rw [← hr] at HSTEP cC
          clear hr
          obtain ⟨vs, hv1, hv2, hv3⟩ := HO.out
          have HV3 := Lib.hid hv3
          obtain ⟨Ava, cva, hva⟩ := own_slice hv2
          subst hva
          have hlen := hv2.2
          have hskl : sk.2.length ≤ 80 := by
            have h1 : k ≤ 80 := by omega
            have h2 := congrArg (fun x => x.2.length) HSTEP.out
            simp only [Sy.calls_len, List.length_append, List.length_take, List.length_cons, List.length_nil] at h2
            omega
          clear hlen hv3
          have hlt2 : (k : Int) < (l.length : Int) := by omega
          go_wp2_with fail
          refine cC.mono ?_
          rintro e w1 ⟨p', v, rfl, ⟨An, cn, rfl, hno⟩, hA1, hgs1', hpe1, hF1, hS1⟩
          have HNO := Lib.hid hno
          clear hno
          have hown1 : w1.ownsRow (w.heap.size + 2) 41 4 (.slice Ava sk.2.length cva) sk.2.length (anCells sk.2 vs) := own_fr hv2 hF1 fun j hj q => HA.out.ce j q (by rw [HP.out.2.1]; exact .inr hj)
          have hB1 : Below w.heap.size w w1 := hB.trans (hF1.below (B := w.heap.size) hB.size fun j hj => by have := HP.out.2.2 j hj; omega)
          have hz1 := HZ.out.fr hF1 fun q => by have := HP.out.2.2 _ q; omega
          have hsz1 : w.heap.size + 2 ≤ w1.heap.size := Nat.le_trans hsz hF1.size
          clear hv2
          go_wp2_with (at_builtin; go_must (refine wpList_app1 w1 rfl _ _ _ rfl (w.heap.size + 2) 41 i0 _ 4 56 Tryz.underlying34 hif hi0 hi1 hi2 rfl (by decide) (.slice Ava sk.2.length cva) _ _ rfl hown1 [.int .i64 r.2.err, .int .i64 r.2.n, .string r.2.text, .slice An r.2.names.length cn] rfl rfl (by simp [Value.oneCell']) (by omega) (by decide) hsz1 _ rfl ?_); intro v3 w3 own3 grown3 at3; obtain ⟨A3, c3, rfl⟩ := own_slice own3)
          go_roundw
          case rel =>
            have hpX : Fr p.X wr w1 := hF1.wide fun _ _ q => .inl q
            have hS1' : Sub wr p'.X p.X := fun j hj q => q.elim (fun q => .inl (hS1 j hj q)) fun q => .inr (by rw [← hpe1]; exact q)
            have hY : Fr (fun j => (Value.slice Ava sk.2.length cva).ownBlock = some j) w1 w3 := Fr.grown grown3 fun j hj => hj
            have hYe : ∀ j, j < w1.heap.size → (Value.slice Ava sk.2.length cva).ownBlock = some j → p'.e j := fun j _ q => by rw [hpe1, HP.out.2.1]; exact .inr q
            have hlt3 : ∀ j, (Value.slice A3 (sk.2.length + 1) c3).ownBlock = some j → w.heap.size + 2 ≤ j ∧ j < w3.heap.size := fun j q => World.ownsRow.lt own3 j q
            have hA3 := hA1.grow hY hYe (fun j => j = w.heap.size + 1 ∨ (Value.slice A3 (sk.2.length + 1) c3).ownBlock = some j) (fun j q => ⟨fun hj => by
                rw [hpe1, HP.out.2.1]
                rcases q with q | q
                · exact .inl q
                · rcases at3 with e | e
                  · exact .inr (e ▸ q)
                  · rw [e] at q; injection q with q; omega, by
                rcases q with q | q
                · have := grown3.size; omega
                · exact (hlt3 j q).2⟩)
            refine ⟨k + 1, { p' with e := fun j => j = w.heap.size + 1 ∨ (Value.slice A3 (sk.2.length + 1) c3).ownBlock = some j }, hlt, by go_num, Lib.hid (by rw [HSTEP.out]; exact hA3), Lib.hid ⟨hgs1'.trans HP.out.1, rfl, fun j q => ?_⟩, Lib.hid ?_, Lib.hid ?_, ?_, Nat.le_trans hsz1 grown3.size⟩
            · have q : p'.C j := q
              rcases Nat.lt_or_ge j wr.heap.size with hj | hj
              · exact HP.out.2.2 j (hS1 j hj q)
              · omega
            · rw [HSTEP.out]
              refine OutOwn.snoc (X := p'.X) (w := w1) hv1 (fun j hj => ?_) HNO.out (hY.wide fun j hj q => .inr (hYe j hj q)) (fun j hj q => ?_) own3 rfl
              · obtain ⟨Aj, cj, e1, e2⟩ := HV3.out j hj
                exact ⟨Aj, cj, e1, e2.on hpX hS1'⟩
              · rcases q with q | q
                · exact .inl q
                · right
                  rw [hpe1, HP.out.2.1]
                  rcases q with q | q
                  · exact .inl q
                  · rcases at3 with e | e
                    · exact .inr (e ▸ q)
                    · rw [e] at q; injection q with q; omega
            · exact hz1.grown grown3 fun e => by
                have := (World.ownsRow.lt hown1 _ e.symm).1
                omega
            · exact hB1.grown grown3 hB1.size fun j hj => by have := (World.ownsRow.lt hown1 _ hj).1; omega
          case measure => simp [intOf]; omega
        · obtain rfl : k = l.length := by omega
          rw [List.take_length] at HA HO
          obtain ⟨sk, hsk⟩ : ∃ x, x = Sy.calls (Sy.start u) l := ⟨_, rfl⟩
          have HF2 := Lib.hid HF.out
          rw [← hsk] at HA HO HF2
          clear hsk HF
          obtain ⟨AU, AL, AT, cU, cL, cT, hbx, hU, hT, hcT⟩ := HA.out.box
          have HU := Lib.hid hU
          have HT := Lib.hid hT
          obtain ⟨Af, cf, hvf, _⟩ := HA.out.v_shape
          rw [hvf, HP.out.1] at hbx
          obtain ⟨g0, g1, g2, g3, gff, gz⟩ := hbx.top
          obtain ⟨z0, z1, z2, z3, zf, zz⟩ := HZ.out.four
          have hne1 : ¬ w.heap.size + 1 = gs := by have := HHB.out; omega
          have hne2 : ¬ gs = w.heap.size + 1 := by have := HHB.out; omega
          have hne3 : w.heap.size + 1 ≠ gs := hne1
          clear hU hT hbx
          go_upto_region 20 with fail
          go_region_held3 (fun W => W.cell? ⟨gs, 0, none⟩ = some (.slice AU sk.1.u.U.length cU) ∧ W.cell? ⟨gs, 1, none⟩ = some (.slice AL sk.1.u.L.length cL) ∧ W.cell? ⟨gs, 2, none⟩ = some (.slice AT sk.1.T.length cT) ∧ W.cell? ⟨gs, 3, none⟩ = some (.slice Af sk.1.files.length cf)) (first | exact ⟨g0, g1, g2, g3⟩ | go_keep) (fail)
          all_goals
            have hF9 : Fr (fun j => j = w.heap.size + 1) wr ((((wr.setCell ⟨w.heap.size + 1, 0, none⟩ (.slice AU sk.1.u.U.length cU)).setCell ⟨w.heap.size + 1, 1, none⟩ (.slice AL sk.1.u.L.length cL)).setCell ⟨w.heap.size + 1, 2, none⟩ (.slice AT sk.1.T.length cT)).setCell ⟨w.heap.size + 1, 3, none⟩ (.int .i64 sk.1.files.length)) := ((((Fr.refl (fun j => j = w.heap.size + 1) wr).at_ 0 _).at_ 1 _).at_ 2 _).at_ 3 _
            have hX9 := hF9.wide (X := p.X) fun j _ q => .inr (by rw [HP.out.2.1]; exact .inl q)
            have hB9 := hB.trans ((hF9.below (B := w.heap.size) (by omega) fun j q => by have q : j = w.heap.size + 1 := q; omega))
            have hU9 := (HU.out.on hX9 (Sub.refl _ _)).here
            have hT9 := (HT.out.on hX9 (Sub.refl _ _)).here
            obtain ⟨vs, hv1, hv2, hv3⟩ := HO.out
            have hO9 : AnsRd ((((wr.setCell ⟨w.heap.size + 1, 0, none⟩ (.slice AU sk.1.u.U.length cU)).setCell ⟨w.heap.size + 1, 1, none⟩ (.slice AL sk.1.u.L.length cL)).setCell ⟨w.heap.size + 1, 2, none⟩ (.slice AT sk.1.T.length cT)).setCell ⟨w.heap.size + 1, 3, none⟩ (.int .i64 sk.1.files.length)) _ sk.2 := OutOwn.rd (X := p.X) (base := w.heap.size + 2) ⟨vs, hv1, own_fr hv2 hF9 fun j hj q => by have := (World.ownsRow.lt hv2 j hj).1; have q : j = w.heap.size + 1 := q; omega, fun j hj => by
              obtain ⟨Aj, cj, e1, e2⟩ := hv3 j hj
              exact ⟨Aj, cj, e1, e2.on hX9 (Sub.refl _ _)⟩⟩
            have hz9 : Blk (((((wr.setCell ⟨w.heap.size + 1, 0, none⟩ (.slice AU sk.1.u.U.length cU)).setCell ⟨w.heap.size + 1, 1, none⟩ (.slice AL sk.1.u.L.length cL)).setCell ⟨w.heap.size + 1, 2, none⟩ (.slice AT sk.1.T.length cT)).setCell ⟨w.heap.size + 1, 3, none⟩ (.int .i64 sk.1.files.length)).drew) (w.heap.size + 1) 33 [.slice AU sk.1.u.U.length cU, .slice AL sk.1.u.L.length cL, .slice AT sk.1.T.length cT, .int .i64 sk.1.files.length] := ((((HZ.out.set_ 0 _).set_ 1 _).set_ 2 _).set_ 3 _).drew
            have kU : UnRd (((((wr.setCell ⟨w.heap.size + 1, 0, none⟩ (.slice AU sk.1.u.U.length cU)).setCell ⟨w.heap.size + 1, 1, none⟩ (.slice AL sk.1.u.L.length cL)).setCell ⟨w.heap.size + 1, 2, none⟩ (.slice AT sk.1.T.length cT)).setCell ⟨w.heap.size + 1, 3, none⟩ (.int .i64 sk.1.files.length)).drew) (((((wr.setCell ⟨w.heap.size + 1, 0, none⟩ (.slice AU sk.1.u.U.length cU)).setCell ⟨w.heap.size + 1, 1, none⟩ (.slice AL sk.1.u.L.length cL)).setCell ⟨w.heap.size + 1, 2, none⟩ (.slice AT sk.1.T.length cT)).setCell ⟨w.heap.size + 1, 3, none⟩ (.int .i64 sk.1.files.length)).drew).heap.size AU AL cU cL sk.1.u := hU9.below (Below.refl _ _).drew
            have kT : EnRd (((((wr.setCell ⟨w.heap.size + 1, 0, none⟩ (.slice AU sk.1.u.U.length cU)).setCell ⟨w.heap.size + 1, 1, none⟩ (.slice AL sk.1.u.L.length cL)).setCell ⟨w.heap.size + 1, 2, none⟩ (.slice AT sk.1.T.length cT)).setCell ⟨w.heap.size + 1, 3, none⟩ (.int .i64 sk.1.files.length)).drew) (((((wr.setCell ⟨w.heap.size + 1, 0, none⟩ (.slice AU sk.1.u.U.length cU)).setCell ⟨w.heap.size + 1, 1, none⟩ (.slice AL sk.1.u.L.length cL)).setCell ⟨w.heap.size + 1, 2, none⟩ (.slice AT sk.1.T.length cT)).setCell ⟨w.heap.size + 1, 3, none⟩ (.int .i64 sk.1.files.length)).drew).heap.size AT sk.1.T := hT9
            have kO : AnsRd (((((wr.setCell ⟨w.heap.size + 1, 0, none⟩ (.slice AU sk.1.u.U.length cU)).setCell ⟨w.heap.size + 1, 1, none⟩ (.slice AL sk.1.u.L.length cL)).setCell ⟨w.heap.size + 1, 2, none⟩ (.slice AT sk.1.T.length cT)).setCell ⟨w.heap.size + 1, 3, none⟩ (.int .i64 sk.1.files.length)).drew) u12 sk.2 := hO9
            have kB : Below w.heap.size w (((((wr.setCell ⟨w.heap.size + 1, 0, none⟩ (.slice AU sk.1.u.U.length cU)).setCell ⟨w.heap.size + 1, 1, none⟩ (.slice AL sk.1.u.L.length cL)).setCell ⟨w.heap.size + 1, 2, none⟩ (.slice AT sk.1.T.length cT)).setCell ⟨w.heap.size + 1, 3, none⟩ (.int .i64 sk.1.files.length)).drew) := hB9.drew
            clear hF9 hX9 hB9 hU9 hT9 hv1 hv2 hv3 hO9 z0 z1 z2 z3 zf zz g0 g1 g2 g3 gff gz
            generalize ((((wr.setCell ⟨w.heap.size + 1, 0, none⟩ (.slice AU sk.1.u.U.length cU)).setCell ⟨w.heap.size + 1, 1, none⟩ (.slice AL sk.1.u.L.length cL)).setCell ⟨w.heap.size + 1, 2, none⟩ (.slice AT sk.1.T.length cT)).setCell ⟨w.heap.size + 1, 3, none⟩ (.int .i64 sk.1.files.length)).drew = w9 at *
            obtain ⟨z0, z1, z2, z3, zf, zz⟩ := hz9.four
            go_wp2_with fail
            refine bodyPost_ret (v := .tuple #[.agg #[.slice AU sk.1.u.U.length cU, .slice AL sk.1.u.L.length cL, .slice AT sk.1.T.length cT, .int .i64 sk.1.files.length], u12, .int .i64 0]) ?_ rfl ?_
            · simp [results, Tryz.results15, go_sem, z0, z1, z2, z3]
            rw [HF2.out]
            exact ⟨AU, AL, cU, cL, AT, cT, u12, rfl, kU, kT, hcT, kO, kB⟩
end Go.Proofs.YtjppfhgkanbemacGreatDoor
