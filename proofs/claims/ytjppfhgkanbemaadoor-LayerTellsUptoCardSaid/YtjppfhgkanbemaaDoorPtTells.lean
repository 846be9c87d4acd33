/-
  The walk of PathTells: it returns true.
-/
import Derived.Test.YtjppfhgkanbemaaDoorPtParse2
namespace Go.Proofs.YtjppfhgkanbemaaDoor
open Go.RowKit Go.Shelf

theorem bytes_eq (d : Pt.Bs) : (⟨d.toArray⟩ : ByteArray).data.toList = d := rfl
theorem join_top {d s : ByteArray} (h : d.data.toList = []) : Pt.str (Pt.join d.data.toList s.data.toList) = .string s := by
  unfold Pt.join; rw [if_pos h]; rfl
theorem join_in {d s : ByteArray} (h : ¬ d.data.toList = []) : Pt.str (Pt.join d.data.toList s.data.toList) = .string (d ++ ⟨#[47]⟩ ++ s) := by
  unfold Pt.join; rw [if_neg h]
  show _ = Pt.str (d ++ ⟨#[47]⟩ ++ s).data.toList
  rw [data_app, data_app]; simp
theorem parse_len (s : ByteArray) : (Pt.parse s.data.toList).1.length ≤ s.size + 1 := by
  have h := split_len_le s.data.toList
  rw [size_length] at h
  unfold Pt.parse
  split
  · simp
  · split
    · simp
    · split
      · have := List.length_filter_le Pt.counts (Pt.split s.data.toList); simp only; omega
      · simp

theorem StrOwn.form {w : World} {b : Nat} {v : Value} {l : List Pt.Bs} (h : StrOwn w b v l) : ∃ A c, v = .slice A l.length c ∧ StrRd w w.heap.size A l := by
  rcases own_shape h with ⟨hv, h0⟩ | ⟨g, c, hv, _⟩
  · subst hv
    have : l = [] := List.length_eq_zero_iff.1 h0
    subst this
    exact ⟨_, _, rfl, Rd.nil⟩
  · subst hv
    exact ⟨_, _, rfl, Rd.of_own h⟩

set_option maxRecDepth 100000 in
set_option maxHeartbeats 4000000 in
theorem pathTells_any (s t : ByteArray) (w : World) (hs : s.size < 4294967281) (ht : t.size < 4294967281) :
    Calls Tryd.prog 3 #[.string s, .string t] w fun e w' => e = .returned (.bool true) ∧ Below w.heap.size w w' := by
  have c1 := fun W => named_any s W (by unfold maxLen; omega)
  have c2 := fun W => refNamed_any s W (by unfold maxLen; omega)
  have c3 := fun W => clean_any s W (by omega)
  have c4 := fun W => refClean_any s W hs
  have c5 := fun W => under_any s t W (by omega)
  have c6 := fun W => refUnder_any s t W (by omega)
  have c7 := fun W => cut_any s W (by omega)
  have c8 := fun W => refCut_any s W (by omega)
  have c9 := fun W => join_any t s W (by omega) (by omega)
  have c10 := fun W => cmp_any s t W hs ht
  have c11 := fun W => less_any s t W hs ht
  have c12 := fun W => less_any t s W ht hs
  have c13 := fun W => parse_any s W (by omega)
  have c14 := fun W => refParse_any s W hs
  have hp := parse_len s
  have en : ∀ n : Int, decide (-n < 0) = decide (0 < n) := fun n => decide_eq_decide.2 (by omega)
  rw [Pt.cmp_neg s.data.toList t.data.toList, en] at c12
  clear en
  unfold Parsed at c13 c14
  generalize Pt.named s.data.toList = b1 at c1 c2
  generalize Pt.clean s.data.toList = b2 at c3 c4
  generalize Pt.under s.data.toList t.data.toList = b3 at c5 c6
  generalize Pt.cmp s.data.toList t.data.toList = n at c10 c11 c12
  unfold Pt.str at c7 c8
  generalize (⟨(Pt.dirOf s.data.toList).toArray⟩ : ByteArray) = sd at c7 c8
  generalize (⟨(Pt.nameOf s.data.toList).toArray⟩ : ByteArray) = sn at c7 c8
  generalize (Pt.parse s.data.toList).2 = err at c13 c14
  generalize (Pt.parse s.data.toList).1 = l at c13 c14 hp
  have hB := Below.refl w.heap.size w
  by_cases h2 : t.data.toList = []
  · rw [join_top h2] at c9
    have g3 := empty_of h2
    have g4 := isEmpty_of h2
    clear h2
    go_enter Tryd.func3, Tryd.ntmps3
    go_wp2_with (first
      | (go_at_call 10; refine (c1 _).mono ?_; rintro e w' ⟨rfl, rfl⟩)
      | (go_at_call 11; refine (c2 _).mono ?_; rintro e w2 ⟨rfl, hb⟩; replace hB := hB.trans (hb.mono hB.size); clear hb)
      | (go_at_call 12; refine (c3 _).mono ?_; rintro e w3 ⟨rfl, hb⟩; replace hB := hB.trans (hb.mono hB.size); clear hb)
      | (go_at_call 13; refine (c4 _).mono ?_; rintro e w4 ⟨rfl, hb⟩; replace hB := hB.trans (hb.mono hB.size); clear hb)
      | (go_at_call 14; refine (c5 _).mono ?_; rintro e w' ⟨rfl, rfl⟩)
      | (go_at_call 15; refine (c6 _).mono ?_; rintro e w' ⟨rfl, rfl⟩)
      | (go_at_call 16; refine (c7 _).mono ?_; rintro e w7 ⟨rfl, hb⟩; replace hB := hB.trans hb.below; clear hb)
      | (go_at_call 17; refine (c8 _).mono ?_; rintro e w8 ⟨rfl, hb⟩; replace hB := hB.trans hb.below; clear hb)
      | (go_at_call 18; refine (c9 _).mono ?_; rintro e w' ⟨rfl, rfl⟩)
      | (go_at_call 19; refine (c10 _).mono ?_; rintro e w10 ⟨rfl, hb⟩; replace hB := hB.trans (hb.mono hB.size); clear hb)
      | (go_at_call 20; (with_reducible refine (c11 _).mono ?_); rintro e w11 ⟨rfl, hb⟩; replace hB := hB.trans (hb.mono hB.size); clear hb)
      | (go_at_call 20; (with_reducible refine (c12 _).mono ?_); rintro e w12 ⟨rfl, hb⟩; replace hB := hB.trans (hb.mono hB.size); clear hb)
      | (go_at_call 21; refine (c13 _).mono ?_; rintro e w13 ⟨v1, rfl, hS1, hb⟩; replace hB := hB.trans (hb.mono hB.size); obtain ⟨A1, k1, rfl, r1⟩ := hS1.form; clear hb hS1)
      | (go_at_call 22; refine (c14 _).mono ?_; rintro e w14 ⟨v2, rfl, hS2, hb⟩; replace r1 := Rd.below r1 hb; replace hB := hB.trans (hb.mono hB.size); obtain ⟨A2, k2, rfl, r2⟩ := hS2.form; clear hb hS2)
      | (go_at_call 23; refine (sameTexts_any _ _ _ _ _ _ l _ r1 r2 (by omega)).mono ?_; rintro e w15 ⟨rfl, hb⟩; replace hB := hB.trans hb.below; clear hb))
    go_ret
    exact ⟨rfl, hB⟩
  · rw [join_in h2] at c9
    have g3 := nonempty_of h2
    have g4 := notEmpty_of h2
    clear h2
    go_enter Tryd.func3, Tryd.ntmps3
    go_wp2_with (first
      | (go_at_call 10; refine (c1 _).mono ?_; rintro e w' ⟨rfl, rfl⟩)
      | (go_at_call 11; refine (c2 _).mono ?_; rintro e w2 ⟨rfl, hb⟩; replace hB := hB.trans (hb.mono hB.size); clear hb)
      | (go_at_call 12; refine (c3 _).mono ?_; rintro e w3 ⟨rfl, hb⟩; replace hB := hB.trans (hb.mono hB.size); clear hb)
      | (go_at_call 13; refine (c4 _).mono ?_; rintro e w4 ⟨rfl, hb⟩; replace hB := hB.trans (hb.mono hB.size); clear hb)
      | (go_at_call 14; refine (c5 _).mono ?_; rintro e w' ⟨rfl, rfl⟩)
      | (go_at_call 15; refine (c6 _).mono ?_; rintro e w' ⟨rfl, rfl⟩)
      | (go_at_call 16; refine (c7 _).mono ?_; rintro e w7 ⟨rfl, hb⟩; replace hB := hB.trans hb.below; clear hb)
      | (go_at_call 17; refine (c8 _).mono ?_; rintro e w8 ⟨rfl, hb⟩; replace hB := hB.trans hb.below; clear hb)
      | (go_at_call 18; refine (c9 _).mono ?_; rintro e w' ⟨rfl, rfl⟩)
      | (go_at_call 19; refine (c10 _).mono ?_; rintro e w10 ⟨rfl, hb⟩; replace hB := hB.trans (hb.mono hB.size); clear hb)
      | (go_at_call 20; (with_reducible refine (c11 _).mono ?_); rintro e w11 ⟨rfl, hb⟩; replace hB := hB.trans (hb.mono hB.size); clear hb)
      | (go_at_call 20; (with_reducible refine (c12 _).mono ?_); rintro e w12 ⟨rfl, hb⟩; replace hB := hB.trans (hb.mono hB.size); clear hb)
      | (go_at_call 21; refine (c13 _).mono ?_; rintro e w13 ⟨v1, rfl, hS1, hb⟩; replace hB := hB.trans (hb.mono hB.size); obtain ⟨A1, k1, rfl, r1⟩ := hS1.form; clear hb hS1)
      | (go_at_call 22; refine (c14 _).mono ?_; rintro e w14 ⟨v2, rfl, hS2, hb⟩; replace r1 := Rd.below r1 hb; replace hB := hB.trans (hb.mono hB.size); obtain ⟨A2, k2, rfl, r2⟩ := hS2.form; clear hb hS2)
      | (go_at_call 23; refine (sameTexts_any _ _ _ _ _ _ l _ r1 r2 (by omega)).mono ?_; rintro e w15 ⟨rfl, hb⟩; replace hB := hB.trans hb.below; clear hb))
    go_ret
    exact ⟨rfl, hB⟩
end Go.Proofs.YtjppfhgkanbemaaDoor
