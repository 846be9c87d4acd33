/-
  tree.Find and tree.Get.
-/
import Derived.Test.YtjppfhgkanbemabDoorTrMem
namespace Go.Proofs.YtjppfhgkanbemabDoor
open Go.RowKit Go.Shelf

theorem find1_any (x : En) (p : ByteArray) (w : World) (hx : x.p.size < 4294967281) (hp : p.size < 4294967281) :
    Calls Tryd.prog 74 #[.agg #[.string x.p, .int .i64 x.k, .string x.t, .bool x.o], .string p] w fun e w' => e = .returned (.int .i64 (Pt.cmp x.P p.data.toList)) ∧ Below w.heap.size w w' := by
  obtain ⟨xp, xk, xt, xo⟩ := x
  dsimp only at hx ⊢
  go_enter Tryd.func74, Tryd.ntmps74
  go_wp2_with fail
  refine (cmp_any xp p _ hx hp).mono ?_
  rintro e w1 ⟨rfl, hb⟩
  go_wp2_with fail
  go_ret
  exact ⟨rfl, ((Below.refl _ _).alloc (Nat.le_refl _) _).trans (hb.mono (by simp))⟩

theorem find_low {l : List En} {p : Pt.Bs} {m : Nat} (hm : m < l.length) (h : Pt.cmp l[m].P p < 0) : Tr.Srt l → ∀ t (ht : t < l.length), t < m + 1 → Pt.cmp l[t].P p < 0 := by
  intro hs t ht htm
  rcases Nat.eq_or_lt_of_le (show t ≤ m by omega) with e | h2
  · subst e; exact h
  · exact Pt.cmp_trans (srt_lt hs hm h2) h
theorem find_high {l : List En} {p : Pt.Bs} {m : Nat} (hm : m < l.length) (h : 0 ≤ Pt.cmp l[m].P p) : Tr.Srt l → ∀ t (ht : t < l.length), m ≤ t → 0 ≤ Pt.cmp l[t].P p := by
  intro hs t ht htm
  rcases Nat.eq_or_lt_of_le htm with e | h3
  · subst e; exact h
  · refine Int.not_lt.1 fun h2 => ?_
    have := Pt.cmp_trans (srt_lt hs ht h3) h2
    omega

set_option maxHeartbeats 1600000 in
theorem search_any (A : Option Addr) (c : Nat) (l : List En) (p : ByteArray) (w : World) (hl : EnRd w w.heap.size A l) (hs : Sm l) (hp : p.size < 4294967281) (hn : l.length ≤ 2305843009213693952) :
    Calls Tryd.prog 73 #[.slice A l.length c, .string p, .func (.func 74) #[] #[]] w fun e w' => ∃ (k : Nat) (b : Bool), e = .returned (.tuple #[.int .i64 k, .bool b]) ∧ FindRel l p.data.toList k b ∧ Below w.heap.size w w' := by
  have HS := Lib.hid hs
  clear hs
  go_enter Tryd.func73, Tryd.ntmps73
  go_wp2_with fail
  go_loopw [9, 10] (fun vi vj wr => ∃ lo hi : Nat, vi = .int .i64 lo ∧ vj = .int .i64 hi ∧ lo ≤ hi ∧ hi ≤ l.length ∧ Hid (Tr.Srt l → ∀ t (h : t < l.length), t < lo → Pt.cmp l[t].P p.data.toList < 0) ∧ Hid (Tr.Srt l → ∀ t (h : t < l.length), hi ≤ t → 0 ≤ Pt.cmp l[t].P p.data.toList) ∧ Below w.heap.size w wr) (fun vi vj _ => (intOf vj).toNat - (intOf vi).toNat)
  case atStart => exact ⟨0, l.length, rfl, rfl, Nat.zero_le _, Nat.le_refl _, Lib.hid fun _ t _ h => absurd h (Nat.not_lt_zero _), Lib.hid fun _ t h h' => by omega, Below.refl _ _⟩
  case round =>
    obtain ⟨lo, hi, rfl, rfl, hlh, hin, H1, H2, hB⟩ := hrel
    by_cases hlt : lo < hi
    · obtain ⟨m, hm⟩ : ∃ m, m = (lo + hi) / 2 := ⟨_, rfl⟩
      have hml : m < l.length := by omega
      obtain ⟨b, o, rfl, hb, h0, h1, h2, h3⟩ := (EnRd.at_ (hl.below hB) hml)
      have HL := Lib.hid (fun h => find_low (p := p.data.toList) hml h)
      have HH := Lib.hid (fun h => find_high (p := p.data.toList) hml h)
      have hsz := (HS.out.at_ hml).1
      generalize l[m] = y at h0 h1 h2 h3 HL HH hsz
      obtain ⟨yp, yk, yt, yo⟩ := y
      dsimp only at h0 h1 h2 h3 hsz
      rw [hm] at h0 h1 h2 h3
      go_wp2_with fail
      refine (find1_any ⟨yp, yk, yt, yo⟩ p _ hsz hp).mono ?_
      rintro e w1 ⟨rfl, hb1⟩
      have hB1 := hB.trans (hb1.mono hB.size)
      clear h0 h1 h2 h3 hb1
      generalize hcm : Pt.cmp (En.P ⟨yp, yk, yt, yo⟩) p.data.toList = n at HL HH
      by_cases hneg : n < 0
      · go_wp2_with fail
        go_roundw
        case rel => exact ⟨m + 1, hi, by rw [hm]; go_num, rfl, by omega, hin, Lib.hid (HL.out hneg), H2, hB1⟩
        case measure => simp [intOf]; omega
      · go_wp2_with fail
        go_roundw
        case rel => exact ⟨lo, m, rfl, by rw [hm]; go_num, by omega, by omega, H1, Lib.hid (HH.out hneg), hB1⟩
        case measure => simp [intOf]; omega
    · obtain rfl : lo = hi := by omega
      have HE := Lib.hid (fun b hb => find_end (l := l) (p := p.data.toList) (k := lo) (b := b) hin H1.out H2.out hb)
      clear H1 H2
      by_cases hkl : lo < l.length
      · have HE2 := Lib.hid (fun b (hb : b = decide (Pt.cmp l[lo].P p.data.toList = 0)) => HE.out b (by rw [dif_pos hkl]; exact hb))
        clear HE
        obtain ⟨b, o, rfl, hb, h0, h1, h2, h3⟩ := (EnRd.at_ (hl.below hB) hkl)
        have hsz := (HS.out.at_ hkl).1
        generalize l[lo] = y at h0 h1 h2 h3 HE2 hsz
        obtain ⟨yp, yk, yt, yo⟩ := y
        dsimp only at h0 h1 h2 h3 hsz
        go_wp2_with fail
        refine (find1_any ⟨yp, yk, yt, yo⟩ p _ hsz hp).mono ?_
        rintro e w1 ⟨rfl, hb1⟩
        have hB1 := hB.trans (hb1.mono hB.size)
        clear h0 h1 h2 h3 hb1
        generalize Pt.cmp (En.P ⟨yp, yk, yt, yo⟩) p.data.toList = n at HE2
        go_wp2_with fail
        go_ret2
        exact ⟨lo, n == 0, rfl, HE2.out (n == 0) (by rw [Bool.eq_iff_iff]; simp), hB1⟩
      · have HE2 := Lib.hid (HE.out false (by rw [dif_neg hkl]))
        go_wp2_with fail
        go_ret2
        exact ⟨lo, false, rfl, HE2.out, hB⟩

theorem find_any (A : Option Addr) (c : Nat) (l : List En) (p : ByteArray) (w : World) (hl : EnRd w w.heap.size A l) (hs : Sm l) (hp : p.size < 4294967281) (hn : l.length ≤ 2305843009213693952) :
    Calls Tryd.prog 43 #[.slice A l.length c, .string p] w fun e w' => ∃ (k : Nat) (b : Bool), e = .returned (.tuple #[.int .i64 k, .bool b]) ∧ FindRel l p.data.toList k b ∧ Below w.heap.size w w' := by
  go_enter Tryd.func43, Tryd.ntmps43
  go_wp2_with fail
  refine (search_any A c l p w hl hs hp hn).mono ?_
  rintro e w1 ⟨k, b, rfl, hf, hb⟩
  go_wp2_with fail
  go_ret2
  exact ⟨k, b, rfl, hf, hb⟩

/-- What Get answers. -/
def GetRel (l : List En) (p : Pt.Bs) (r : Option En) : Prop := (∀ x, r = some x → p ≠ [] → x ∈ l ∧ x.P = p) ∧ (Tr.Srt l ∨ p = [] → r = Tr.get l p)
set_option maxHeartbeats 1600000 in
theorem get_any (A : Option Addr) (c : Nat) (l : List En) (p : ByteArray) (w : World) (hl : EnRd w w.heap.size A l) (hs : Sm l) (hp : p.size < 4294967281) (hn : l.length ≤ 2305843009213693952) :
    Calls Tryd.prog 14 #[.slice A l.length c, .string p] w fun e w' => ∃ r : Option En, e = .returned (.tuple #[(r.getD En.zero).agg, .bool r.isSome]) ∧ GetRel l p.data.toList r ∧ Below w.heap.size w w' := by
  by_cases h0 : p.data.toList = []
  · have g1 := empty_of h0
    have g2 := isEmpty_of h0
    have HR : Hid (GetRel l p.data.toList (some En.root)) := Lib.hid ⟨fun _ _ hne => absurd h0 hne, fun _ => by rw [h0, Tr.get_root]⟩
    clear h0
    go_enter Tryd.func14, Tryd.ntmps14
    go_wp2_with fail
    refine bodyPost_ret (v := .tuple #[En.root.agg, .bool true]) ?_ rfl ⟨some En.root, rfl, HR.out, ?_⟩
    · simp [results, Tryd.results14, go_sem, En.root, En.agg, En.cells]
    · exact (Below.refl _ _).alloc (Nat.le_refl _) _
  · have g1 := nonempty_of h0
    have g2 := notEmpty_of h0
    have HP := Lib.hid h0
    clear h0
    have hB0 : Below w.heap.size w (w.alloc (.cells #[.string ⟨#[]⟩, .int .i64 0, .string ⟨#[]⟩, .bool false] 32)) := (Below.refl _ _).alloc (Nat.le_refl _) _
    have hr0 := Blk.new w 32 [.string ⟨#[]⟩, .int .i64 0, .string ⟨#[]⟩, .bool false]
    go_enter Tryd.func14, Tryd.ntmps14
    go_wp2_with fail
    generalize w.alloc (.cells #[.string ⟨#[]⟩, .int .i64 0, .string ⟨#[]⟩, .bool false] 32) = w0 at *
    refine (find_any A c l p w0 ((hl.below hB0).more hB0.size) hs hp hn).mono ?_
    rintro e w1 ⟨k, b, rfl, hf, hb⟩
    have hB1 := hB0.trans (hb.mono hB0.size)
    have hr1 := hr0.below hb hr0.lt
    clear hb hB0 hr0
    obtain ⟨r0, r1, r2, r3, rf, rz⟩ := hr1.four
    cases b
    · have HR : Hid (GetRel l p.data.toList none) := Lib.hid ⟨fun _ h => (nomatch h), fun hs => by
        rcases hs with hs | hs
        · exact ((find_get hf hs HP.out).2 rfl).symm
        · exact absurd hs HP.out⟩
      clear hf
      go_wp2_with fail
      refine bodyPost_ret (v := .tuple #[En.zero.agg, .bool false]) ?_ rfl ⟨none, rfl, HR.out, ?_⟩
      · simp [results, Tryd.results14, go_sem, En.zero, En.agg, En.cells, r0, r1, r2, r3]
      · exact ((((hB1.setCell (by simp) _).setCell (by simp) _).setCell (by simp) _).setCell (by simp) _)
    · obtain ⟨hk, hkp⟩ := hf.2.1 rfl
      have HR : Hid (GetRel l p.data.toList (some l[k])) := Lib.hid ⟨fun x h _ => by
          injection h with h; subst h; exact ⟨List.getElem_mem hk, hkp⟩, fun hs => by
        rcases hs with hs | hs
        · exact ((find_get hf hs HP.out).1 rfl).symm
        · exact absurd hs HP.out⟩
      clear hf hkp
      obtain ⟨b, o, rfl, hb, h0, h1, h2, h3⟩ := (EnRd.at_ (hl.below hB1) hk)
      have hne : w.heap.size ≠ b := by omega
      generalize l[k] = y at h0 h1 h2 h3 HR
      obtain ⟨yp, yk, yt, yo⟩ := y
      dsimp only at h0 h1 h2 h3
      go_wp2_with fail
      refine bodyPost_ret (v := .tuple #[(En.mk yp yk yt yo).agg, .bool true]) ?_ rfl ⟨some ⟨yp, yk, yt, yo⟩, rfl, HR.out, ?_⟩
      · simp [results, Tryd.results14, go_sem, En.agg, En.cells, r0, r1, r2, r3]
      · exact ((((hB1.setCell (by simp) _).setCell (by simp) _).setCell (by simp) _).setCell (by simp) _)
end Go.Proofs.YtjppfhgkanbemabDoor
