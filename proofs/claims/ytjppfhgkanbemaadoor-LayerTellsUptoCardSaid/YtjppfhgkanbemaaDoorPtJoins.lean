/-
  The walk of PathJoins: it returns true.
-/
import Derived.Test.YtjppfhgkanbemaaDoorPtAlive
namespace Go.Proofs.YtjppfhgkanbemaaDoor
open Go.RowKit Go.Shelf

theorem glue_ne {p : Pt.Bs} {ps : List Pt.Bs} (h : p ≠ []) : Pt.glue (p :: ps) ≠ [] := by
  cases ps with
  | nil => exact h
  | cons q r => rw [Pt.glue_cons p (by simp)]; simp
theorem named_ne {p : Pt.Bs} (h : Pt.named p = true) : p ≠ [] := by
  intro e; subst e; cases h
theorem split_snoc (l : Pt.Bs) : ∃ ps n, Pt.split l = ps ++ [n] ∧ Pt.dirOf l = Pt.glue ps ∧ Pt.nameOf l = n := by
  refine ⟨(Pt.split l).dropLast, (Pt.split l).getLast (Pt.split_ne l), (List.dropLast_concat_getLast _).symm, rfl, ?_⟩
  unfold Pt.nameOf
  rw [List.getLastD_eq_getLast?, List.getLast?_eq_some_getLast (Pt.split_ne l)]; rfl
theorem clean_parts {l : Pt.Bs} (h : Pt.clean l = true) : l.length ≤ 80 ∧ ∀ p ∈ Pt.split l, Pt.named p = true := by
  unfold Pt.clean at h
  rw [Bool.and_eq_true, decide_eq_true_eq, List.all_eq_true] at h
  exact h
theorem clean_of {l : Pt.Bs} (h1 : l.length ≤ 80) (h2 : ∀ p ∈ Pt.split l, Pt.named p = true) : Pt.clean l = true := by
  unfold Pt.clean
  rw [Bool.and_eq_true, decide_eq_true_eq, List.all_eq_true]
  exact ⟨h1, h2⟩
theorem clean_cut {l : Pt.Bs} (h : Pt.clean l = true) :
    Pt.join (Pt.dirOf l) (Pt.nameOf l) = l ∧ Pt.named (Pt.nameOf l) = true ∧ (Pt.dirOf l ≠ [] → Pt.clean (Pt.dirOf l) = true) ∧ Pt.under l (Pt.dirOf l) = true ∧ Pt.under (Pt.dirOf l) l = false ∧ ∀ t, Pt.under t l = true → Pt.under t (Pt.dirOf l) = true := by
  obtain ⟨hl, ha⟩ := clean_parts h
  obtain ⟨ps, n, hs, hd, hn⟩ := split_snoc l
  have hg := Pt.glue_split l
  rw [hs] at hg ha
  rw [hd, hn]
  have hnn := ha n (by simp)
  have hlne : l ≠ [] := by
    rw [← hg]
    cases ps with
    | nil => exact named_ne hnn
    | cons p r => exact glue_ne (named_ne (ha p (by simp)))
  cases ps with
  | nil =>
    have hg' : n = l := hg
    subst hg'
    refine ⟨rfl, hnn, fun e => absurd rfl e, under_top hlne, under_nil _, fun t ht => under_top ?_⟩
    obtain ⟨r, rfl⟩ := (Pt.under_iff hlne).1 ht
    simp
  | cons p r =>
    have hdne : Pt.glue (p :: r) ≠ [] := glue_ne (named_ne (ha p (by simp)))
    have e : l = Pt.glue (p :: r) ++ 47 :: n := by
      rw [← hg, Pt.glue_app (by simp) (by simp)]; rfl
    have hlen : l.length = (Pt.glue (p :: r)).length + 1 + n.length := by
      have := congrArg List.length e; rw [List.length_append, List.length_cons] at this; omega
    have hsp : Pt.split (Pt.glue (p :: r)) = p :: r := Pt.split_glue (by simp) (fun q hq d hd' => by
      refine Pt.split_noslash l q ?_ d hd'
      rw [hs]; exact List.mem_append_left _ hq)
    refine ⟨?_, hnn, fun _ => clean_of (by omega) ?_, (Pt.under_iff hdne).2 ⟨n, e⟩, ?_, fun t ht => ?_⟩
    · unfold Pt.join; rw [if_neg hdne]; exact e.symm
    · rw [hsp]; exact fun q hq => ha q (List.mem_append_left _ hq)
    · rw [Bool.eq_false_iff]
      intro hu
      obtain ⟨q, hq⟩ := (Pt.under_iff hlne).1 hu
      have := congrArg List.length hq
      rw [List.length_append, List.length_cons] at this
      omega
    · obtain ⟨q, rfl⟩ := (Pt.under_iff hlne).1 ht
      refine (Pt.under_iff hdne).2 ⟨n ++ 47 :: q, ?_⟩
      rw [e]; simp
theorem cut_len (s : ByteArray) : (Pt.dirOf s.data.toList).length ≤ s.size ∧ (Pt.nameOf s.data.toList).length ≤ s.size := by
  rcases cut_of_last s with ⟨_, hn⟩ | ⟨i, hi, _, hc, hn⟩
  · rw [(cut_no hn).1, (cut_no hn).2, size_length]; simp
  · have h := cut_at (by simpa using hi) hc hn
    rw [h.1, h.2, List.length_take, List.length_drop, size_length]; omega

set_option maxRecDepth 100000 in
set_option maxHeartbeats 4000000 in
theorem pathJoins_any (s t : ByteArray) (w : World) (hs : s.size < 4294967281) :
    Calls Tryd.prog 4 #[.string s, .string t] w fun e w' => e = .returned (.bool true) ∧ Below w.heap.size w w' := by
  have hB := Below.refl w.heap.size w
  have c1 := fun W => clean_any s W (by omega)
  by_cases hc : Pt.clean s.data.toList = true
  · obtain ⟨p1, p2, p3, p4, p5, p6⟩ := clean_cut hc
    have hl := cut_len s
    have c2 := fun W => cut_any s W (by omega)
    have P6 := Lib.hid (p6 t.data.toList)
    rw [hc] at c1
    generalize Pt.dirOf s.data.toList = d at *
    generalize Pt.nameOf s.data.toList = n at *
    have c3 := fun W => join_any ⟨d.toArray⟩ ⟨n.toArray⟩ W (by show n.toArray.size ≤ _; simp; omega) (by show d.toArray.size ≤ _; simp; omega)
    have c4 := fun W => named_any ⟨n.toArray⟩ W (by unfold maxLen; show n.toArray.size ≤ _; simp; omega)
    have c5 := fun W => clean_any ⟨d.toArray⟩ W (by show d.toArray.size ≤ _; simp; omega)
    have c6 := fun W => under_any s ⟨d.toArray⟩ W (by show d.toArray.size ≤ _; simp; omega)
    have c7 := fun W => under_any ⟨d.toArray⟩ s W (by omega)
    have c8 := fun W => under_any t s W (by omega)
    have c9 := fun W => under_any t ⟨d.toArray⟩ W (by show d.toArray.size ≤ _; simp; omega)
    rw [bytes_eq, bytes_eq, p1] at c3
    rw [bytes_eq, p2] at c4
    rw [bytes_eq] at c5 c9
    rw [bytes_eq, p4] at c6
    rw [bytes_eq, p5] at c7
    have e3 : Pt.str s.data.toList = .string s := rfl
    rw [e3] at c3
    unfold Pt.str at c2
    have hsd : (⟨d.toArray⟩ : ByteArray).data.toList = d := rfl
    generalize (⟨d.toArray⟩ : ByteArray) = sd at *
    generalize (⟨n.toArray⟩ : ByteArray) = sn at *
    subst hsd
    have P3 := Lib.hid p3
    clear p1 p2 p3 p4 p5 p6 hl hc
    rcases u1 : Pt.under t.data.toList s.data.toList with _ | _
    · rw [u1] at c8
      by_cases h2 : sd.data.toList = []
      · have g3 := empty_of h2
        have g4 := isEmpty_of h2
        clear h2 u1
        go_enter Tryd.func4, Tryd.ntmps4
        go_wp2_with (first
          | (go_at_call 24; refine (pathAlive_any _).mono ?_; rintro e w1 ⟨rfl, hb⟩; replace hB := hB.trans (hb.mono hB.size); clear hb)
          | (go_at_call 12; (with_reducible refine (c1 _).mono ?_); rintro e w2 ⟨rfl, hb⟩; replace hB := hB.trans (hb.mono hB.size); clear hb)
          | (go_at_call 16; refine (c2 _).mono ?_; rintro e w3 ⟨rfl, hb⟩; replace hB := hB.trans hb.below; clear hb)
          | (go_at_call 18; refine (c3 _).mono ?_; rintro e w' ⟨rfl, rfl⟩)
          | (go_at_call 10; refine (c4 _).mono ?_; rintro e w' ⟨rfl, rfl⟩)
          | (go_at_call 12; (with_reducible refine (c5 _).mono ?_); rintro e w5 ⟨rfl, hb⟩; replace hB := hB.trans (hb.mono hB.size); clear hb)
          | (go_at_call 14; (with_reducible refine (c6 _).mono ?_); rintro e w' ⟨rfl, rfl⟩)
          | (go_at_call 14; (with_reducible refine (c7 _).mono ?_); rintro e w' ⟨rfl, rfl⟩)
          | (go_at_call 14; (with_reducible refine (c8 _).mono ?_); rintro e w' ⟨rfl, rfl⟩)
          | (go_at_call 14; (with_reducible refine (c9 _).mono ?_); rintro e w' ⟨rfl, rfl⟩))
        go_ret
        exact ⟨rfl, hB⟩
      · rw [P3.out h2] at c5
        have g3 := nonempty_of h2
        have g4 := notEmpty_of h2
        clear h2 u1
        go_enter Tryd.func4, Tryd.ntmps4
        go_wp2_with (first
          | (go_at_call 24; refine (pathAlive_any _).mono ?_; rintro e w1 ⟨rfl, hb⟩; replace hB := hB.trans (hb.mono hB.size); clear hb)
          | (go_at_call 12; (with_reducible refine (c1 _).mono ?_); rintro e w2 ⟨rfl, hb⟩; replace hB := hB.trans (hb.mono hB.size); clear hb)
          | (go_at_call 16; refine (c2 _).mono ?_; rintro e w3 ⟨rfl, hb⟩; replace hB := hB.trans hb.below; clear hb)
          | (go_at_call 18; refine (c3 _).mono ?_; rintro e w' ⟨rfl, rfl⟩)
          | (go_at_call 10; refine (c4 _).mono ?_; rintro e w' ⟨rfl, rfl⟩)
          | (go_at_call 12; (with_reducible refine (c5 _).mono ?_); rintro e w5 ⟨rfl, hb⟩; replace hB := hB.trans (hb.mono hB.size); clear hb)
          | (go_at_call 14; (with_reducible refine (c6 _).mono ?_); rintro e w' ⟨rfl, rfl⟩)
          | (go_at_call 14; (with_reducible refine (c7 _).mono ?_); rintro e w' ⟨rfl, rfl⟩)
          | (go_at_call 14; (with_reducible refine (c8 _).mono ?_); rintro e w' ⟨rfl, rfl⟩)
          | (go_at_call 14; (with_reducible refine (c9 _).mono ?_); rintro e w' ⟨rfl, rfl⟩))
        go_ret
        exact ⟨rfl, hB⟩
    · rw [u1] at c8
      rw [P6.out u1] at c9
      by_cases h2 : sd.data.toList = []
      · have g3 := empty_of h2
        have g4 := isEmpty_of h2
        clear h2 u1
        go_enter Tryd.func4, Tryd.ntmps4
        go_wp2_with (first
          | (go_at_call 24; refine (pathAlive_any _).mono ?_; rintro e w1 ⟨rfl, hb⟩; replace hB := hB.trans (hb.mono hB.size); clear hb)
          | (go_at_call 12; (with_reducible refine (c1 _).mono ?_); rintro e w2 ⟨rfl, hb⟩; replace hB := hB.trans (hb.mono hB.size); clear hb)
          | (go_at_call 16; refine (c2 _).mono ?_; rintro e w3 ⟨rfl, hb⟩; replace hB := hB.trans hb.below; clear hb)
          | (go_at_call 18; refine (c3 _).mono ?_; rintro e w' ⟨rfl, rfl⟩)
          | (go_at_call 10; refine (c4 _).mono ?_; rintro e w' ⟨rfl, rfl⟩)
          | (go_at_call 12; (with_reducible refine (c5 _).mono ?_); rintro e w5 ⟨rfl, hb⟩; replace hB := hB.trans (hb.mono hB.size); clear hb)
          | (go_at_call 14; (with_reducible refine (c6 _).mono ?_); rintro e w' ⟨rfl, rfl⟩)
          | (go_at_call 14; (with_reducible refine (c7 _).mono ?_); rintro e w' ⟨rfl, rfl⟩)
          | (go_at_call 14; (with_reducible refine (c8 _).mono ?_); rintro e w' ⟨rfl, rfl⟩)
          | (go_at_call 14; (with_reducible refine (c9 _).mono ?_); rintro e w' ⟨rfl, rfl⟩))
        go_ret
        exact ⟨rfl, hB⟩
      · rw [P3.out h2] at c5
        have g3 := nonempty_of h2
        have g4 := notEmpty_of h2
        clear h2 u1
        go_enter Tryd.func4, Tryd.ntmps4
        go_wp2_with (first
          | (go_at_call 24; refine (pathAlive_any _).mono ?_; rintro e w1 ⟨rfl, hb⟩; replace hB := hB.trans (hb.mono hB.size); clear hb)
          | (go_at_call 12; (with_reducible refine (c1 _).mono ?_); rintro e w2 ⟨rfl, hb⟩; replace hB := hB.trans (hb.mono hB.size); clear hb)
          | (go_at_call 16; refine (c2 _).mono ?_; rintro e w3 ⟨rfl, hb⟩; replace hB := hB.trans hb.below; clear hb)
          | (go_at_call 18; refine (c3 _).mono ?_; rintro e w' ⟨rfl, rfl⟩)
          | (go_at_call 10; refine (c4 _).mono ?_; rintro e w' ⟨rfl, rfl⟩)
          | (go_at_call 12; (with_reducible refine (c5 _).mono ?_); rintro e w5 ⟨rfl, hb⟩; replace hB := hB.trans (hb.mono hB.size); clear hb)
          | (go_at_call 14; (with_reducible refine (c6 _).mono ?_); rintro e w' ⟨rfl, rfl⟩)
          | (go_at_call 14; (with_reducible refine (c7 _).mono ?_); rintro e w' ⟨rfl, rfl⟩)
          | (go_at_call 14; (with_reducible refine (c8 _).mono ?_); rintro e w' ⟨rfl, rfl⟩)
          | (go_at_call 14; (with_reducible refine (c9 _).mono ?_); rintro e w' ⟨rfl, rfl⟩))
        go_ret
        exact ⟨rfl, hB⟩
  · have hf : Pt.clean s.data.toList = false := by simpa using hc
    rw [hf] at c1
    clear hf hc
    go_enter Tryd.func4, Tryd.ntmps4
    go_wp2_with (first
      | (go_at_call 24; refine (pathAlive_any _).mono ?_; rintro e w1 ⟨rfl, hb⟩; replace hB := hB.trans (hb.mono hB.size); clear hb)
      | (go_at_call 12; (with_reducible refine (c1 _).mono ?_); rintro e w2 ⟨rfl, hb⟩; replace hB := hB.trans (hb.mono hB.size); clear hb))
    go_ret
    exact ⟨rfl, hB⟩
end Go.Proofs.YtjppfhgkanbemaaDoor
