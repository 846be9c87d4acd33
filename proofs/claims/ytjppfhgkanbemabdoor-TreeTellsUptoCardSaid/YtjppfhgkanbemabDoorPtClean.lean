/-
  Clean, as the program (a range over strings.SplitSeq) and as the document has it.
-/
import Derived.Test.YtjppfhgkanbemabDoorPtSeq
namespace Go.Proofs.YtjppfhgkanbemabDoor
open Go.RowKit Go.Shelf
attribute [local go_sem] Oper.semAt_some

theorem seq_any (s : ByteArray) (w : World) :
    Calls Tryd.prog 67 #[.string s, .string ⟨#[47]⟩] w fun e w' => e = .returned (.func (.func 101) #[] #[.pointer (some ⟨w.heap.size + 1, 0, none⟩), .pointer (some ⟨w.heap.size, 0, none⟩), .pointer (some ⟨w.heap.size + 2, 0, none⟩)])
      ∧ Boxes w' w.heap.size s ∧ w'.heap.size = w.heap.size + 3 ∧ Below w.heap.size w w' := by
  go_enter Tryd.func67, Tryd.ntmps67
  go_wp2
  go_ret
  refine ⟨rfl, ⟨((Blk.new w _ _).alloc _).alloc _, ?_, ?_⟩, by simp, (((Below.refl _ w).alloc (Nat.le_refl _) _).alloc (by simp) _).alloc (by simp; omega) _⟩
  · have h := (Blk.new (w.alloc (.cells #[.string s] 9)) 9 [.string ⟨#[47]⟩]).alloc (.cells #[.int .i64 0] 3)
    rwa [World.size_alloc] at h
  · have h := Blk.new ((w.alloc (.cells #[.string s] 9)).alloc (.cells #[.string ⟨#[47]⟩] 9)) 3 [.int .i64 0]
    rwa [World.size_alloc, World.size_alloc] at h

theorem Agree.below {b n₀ n : Nat} {w W W' : World} (h : Below n w W) (k : Agree b n₀ W W') (hn : n ≤ w.heap.size) (h1 : n ≤ b) (h2 : n ≤ n₀) : Below n w W' := by
  obtain ⟨row, hg, hr⟩ := k
  exact h.grown hg (Nat.le_trans hn h.size) (fun r e => by rcases hr r e with rfl | ⟨h3, _⟩ <;> omega)
theorem below_agree {b n₀ : Nat} {w W W' : World} (h : Below w.heap.size w W) (k : Agree b n₀ W W') (h1 : w.heap.size ≤ b ∧ w.heap.size ≤ n₀) : Below w.heap.size w W' := Agree.below h k (Nat.le_refl _) h1.1 h1.2
theorem Blk.agree {b n₀ g : Nat} {t : TypeId} {cs : List Value} {W W' : World} (h : Blk W g t cs) (k : Agree b n₀ W W') (hne : g ≠ b) : Blk W' g t cs := by
  obtain ⟨row, hg, hr⟩ := k
  refine h.grown hg (fun e => ?_)
  rcases hr g e.symm with h1 | ⟨_, o, ho, hc⟩
  · exact hne h1
  · rw [show W.heap[g]? = _ from h] at ho
    cases ho
    cases hc
theorem piece_len : ∀ (l : Pt.Bs), ∀ p ∈ Pt.split l, p.length ≤ l.length
  | [] => by intro p hp; simp [Pt.split] at hp; subst hp; simp
  | c :: r => by
    have ih := piece_len r
    intro p hp
    by_cases h : c = 47
    · subst h
      rw [Pt.split_slash] at hp
      rcases List.mem_cons.1 hp with rfl | hp
      · simp
      · have := ih p hp; simp; omega
    · rw [Pt.split_cons h] at hp
      cases hs : Pt.split r with
      | nil => exact absurd hs (Pt.split_ne r)
      | cons q qs =>
        rw [hs] at hp ih
        rcases List.mem_cons.1 hp with rfl | hp
        · have := ih q (by simp); simp; omega
        · have := ih p (by simp [hp]); simp; omega
theorem piece_of {l : Pt.Bs} {pre : List Pt.Bs} {x : Pt.Bs} (h : pre ++ [x] <+: Pt.split l) : x ∈ Pt.split l := h.subset (by simp)

theorem clean_long {s : ByteArray} (h : 80 < s.size) : Pt.clean s.data.toList = false := by
  unfold Pt.clean; rw [size_length, decide_eq_false (by omega)]; rfl
theorem clean_short {s : ByteArray} (h : s.size ≤ 80) : Pt.clean s.data.toList = (Pt.split s.data.toList).all Pt.named := by
  unfold Pt.clean; rw [size_length, decide_eq_true h]; rfl
theorem all_bad {xs pre : List Pt.Bs} {x : Pt.Bs} (h : pre ++ [x] <+: xs) (hx : Pt.named x = false) : xs.all Pt.named = false := by
  rw [List.all_eq_false]
  exact ⟨x, h.subset (by simp), by simp [hx]⟩

set_option maxRecDepth 100000 in
set_option maxHeartbeats 1000000 in
theorem clean_any (s : ByteArray) (w : World) (hs : s.size ≤ 140737488355328) :
    Calls Tryd.prog 38 #[.string s] w fun e w' => e = .returned (.bool (Pt.clean s.data.toList)) ∧ Below w.heap.size w w' := by
  rcases Nat.lt_or_ge 80 s.size with hlen | hlen
  · have HE := Lib.hid (clean_long hlen)
    go_enter Tryd.func38, Tryd.ntmps38
    go_wp2
    exact bodyPost_ret (v := .bool false) (by simp [results, Tryd.results38, go_sem]) rfl ⟨ret_bool HE.out.symm, (Below.refl _ w).alloc (Nat.le_refl _) _⟩
  have HE := Lib.hid (clean_short hlen)
  have h3 : 1 ≤ 3 - 1 - 1 := by decide
  refine (callsIn_wide (n := 3)).1 ?_
  refine callsIn_of_wp_marks Tryd.func38 rfl trivial ?_ rfl
  simp only [Tryd.ntmps38, List.size_toArray, List.length_cons, List.length_nil, Nat.reduceAdd, Nat.reduceSub, Array.replicate_succ, Array.replicate_zero, List.push_toArray, List.append_toArray, List.nil_append, List.cons_append]
  gi_wp2_with (refine ⟨trivial, ?_⟩; gi_at_call 67; refine (callsIn_wide.2 (seq_any _ _)).mono ?_; rintro e w1 ⟨rfl, hbx, hz, hb1⟩)
  have hR1 : Blk w1 w.heap.size 4 [.bool false] := (Blk.new w 4 [.bool false]).below hb1 (by simp)
  have hB1 : Below w.heap.size w w1 := ((Below.refl _ w).alloc (Nat.le_refl _) _).trans (hb1.mono (by simp))
  rw [World.size_alloc] at hbx hz
  clear hb1
  refine range_box (F := Fence.wide) (n := 3) rfl (by decide) (b := w.heap.size + 1) (s := s) (xs := Pt.split s.data.toList) rfl trivial (enters_of Tryd.func101 (by kernel_rfl) rfl) (hands_any 2 _ s (by decide) hs) (by omega) hbx rfl
    (fun pre W => Blk W w.heap.size 4 [.bool false] ∧ Below w.heap.size w W ∧ Hid (pre.all Pt.named = true))
    (fun c _ W => c = .ret ∧ Blk W w.heap.size 4 [.bool false] ∧ Below w.heap.size w W ∧ Hid ((Pt.split s.data.toList).all Pt.named = false))
    (fun pre W W' h k => ⟨h.1.agree k (by omega), below_agree h.2.1 k (by omega), h.2.2⟩)
    (fun c pre W W' h k => ⟨h.1, h.2.1.agree k (by omega), below_agree h.2.2.1 k (by omega), h.2.2.2⟩)
    ⟨hR1, hB1, Lib.hid rfl⟩
    (fun x => { tmps := #[.string s, undef, .pointer (some ⟨w.heap.size, 0, none⟩), Pt.str x, .string s, .int .i64 s.size, .bool (decide (80 < (s.size : Int))), .string s,
      .func (.func 101) #[] #[.pointer (some ⟨w.heap.size + 1 + 1, 0, none⟩), .pointer (some ⟨w.heap.size + 1, 0, none⟩), .pointer (some ⟨w.heap.size + 1 + 2, 0, none⟩)], Pt.str x, undef, undef, undef], defers := [] }) ?assign ?body ?done ?stop
  case assign =>
    intro l x W K hK
    gi_wp2
    exact hK
  case body =>
    rintro l pre x W ⟨hR, hB, HA⟩ hpre hsz
    have hx : x.length ≤ s.size := by rw [← size_length]; exact piece_len _ x (piece_of hpre)
    have c := named_any ⟨x.toArray⟩ W (by unfold maxLen; show x.toArray.size ≤ _; simp; omega)
    obtain ⟨r0, r0f, _⟩ := hR.one
    rcases hn : Pt.named x with _ | _
    · have c' : Calls Tryd.prog 68 #[Pt.str x] W fun e w' => e = .returned (.bool false) ∧ w' = W := c.mono fun e w' ⟨he, hw⟩ => ⟨by rw [he]; exact ret_bool hn, hw⟩
      have HF := Lib.hid (all_bad hpre hn)
      clear c hn
      gi_wp2_with (refine ⟨trivial, ?_⟩; gi_at_call 68; refine (CallsIn.inRound l (callsIn_wide.2 c')).mono ?_; rintro e w' ⟨rfl, rfl⟩)
      exact ⟨(KeepsOthers.setCell _ _ _).from _, rfl, hR.set_ 0 (.bool false), hB.setCell (p := ⟨w.heap.size, 0, none⟩) (Nat.le_refl _) _, HF⟩
    · have c' : Calls Tryd.prog 68 #[Pt.str x] W fun e w' => e = .returned (.bool true) ∧ w' = W := c.mono fun e w' ⟨he, hw⟩ => ⟨by rw [he]; exact ret_bool hn, hw⟩
      have HF := Lib.hid hn
      clear c hn
      gi_wp2_with (refine ⟨trivial, ?_⟩; gi_at_call 68; refine (CallsIn.inRound l (callsIn_wide.2 c')).mono ?_; rintro e w' ⟨rfl, rfl⟩)
      exact ⟨KeepsFrom.refl _ _, Keep3.refl _ _, hR, hB, Lib.hid (by rw [List.all_append, HA.out]; simp [HF.out])⟩
  case done =>
    rintro D W hD ⟨hR, hB, HA⟩ hK
    obtain ⟨r0, r0f, _⟩ := hR.one
    gi_wp2
    have hK' := (Below.heap_setCell W ⟨w.heap.size, 0, none⟩ (.bool true) D (by simp; omega)).trans hK
    refine ⟨by simp, .inl ⟨_, _, rfl, run_takeDeferred hK', ?_⟩⟩
    have hc := cell_kept (((hR.set_ 0 (.bool true)).one).1) (grownBy_putObj' _ D (.deferred none)) (fun r e => by cases e; exact ⟨_, hK', rfl⟩)
    refine ⟨.bool true, by simp [results, Tryd.results38, go_sem, hc], ret_bool (by rw [HE.out, HA.out]), ?_⟩
    exact (hB.setCell (p := ⟨w.heap.size, 0, none⟩) (Nat.le_refl _) _).grown (grownBy_putObj' _ D _) (by simpa using hB.size) (fun k e => by cases e; omega)
  case stop =>
    rintro D c pre W hD ⟨rfl, hR, hB, HA⟩ hK
    obtain ⟨r0, r0f, _⟩ := hR.one
    gi_wp2
    refine ⟨by simp, .inl ⟨_, _, rfl, run_takeDeferred hK, ?_⟩⟩
    have hc := cell_kept r0 (grownBy_putObj' _ D (.deferred none)) (fun r e => by cases e; exact ⟨_, hK, rfl⟩)
    refine ⟨.bool false, by simp [results, Tryd.results38, go_sem, hc], ret_bool (by rw [HE.out, HA.out]), ?_⟩
    exact hB.grown (grownBy_putObj' _ D _) hB.size (fun k e => by cases e; omega)
end Go.Proofs.YtjppfhgkanbemabDoor
