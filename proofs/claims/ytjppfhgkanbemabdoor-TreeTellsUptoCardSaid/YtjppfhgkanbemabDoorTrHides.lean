/-
  tree.Wrong, layer.Wrong and layer.Hides. (Printed by wip/genhides.py.)
-/
import Derived.Test.YtjppfhgkanbemabDoorTrCheck
namespace Go.Proofs.YtjppfhgkanbemabDoor
open Go.RowKit Go.Shelf Go.Sort

theorem wrongT_any (A : Option Addr) (c : Nat) (l : List En) (w : World) (hl : EnRd w w.heap.size A l) (hc : l.length ≤ c) (hs : Sm l) (hn : l.length ≤ 2305843009213693952) :
    Calls Tryd.prog 13 #[.slice A l.length c] w fun e w' => e = .returned (.agg #[.int .i64 (Tr.wrong l false).1, .int .i64 (Tr.wrong l false).2]) ∧ Below w.heap.size w w' := by
  have hB0 : Below w.heap.size w (w.alloc (.cells #[.int .i64 0, .int .i64 0] 29)) := (Below.refl _ _).alloc (Nat.le_refl _) _
  have hq0 := Blk.new w 29 [.int .i64 0, .int .i64 0]
  have cK := fun W h => check_any A c l false W h hc hs hn
  obtain ⟨pr, hpr⟩ : ∃ pr, pr = Tr.wrong l false := ⟨_, rfl⟩
  rw [← hpr] at cK ⊢
  obtain ⟨x, y⟩ := pr
  clear hpr
  dsimp only at cK ⊢
  go_enter Tryd.func13, Tryd.ntmps13
  go_wp2_with fail
  generalize w.alloc (.cells #[.int .i64 0, .int .i64 0] 29) = w0 at *
  refine (cK w0 ((hl.below hB0).more hB0.size)).mono ?_
  rintro e w1 ⟨rfl, hb⟩
  have hB1 := hB0.trans (hb.mono hB0.size)
  have hq1 := hq0.below hb hq0.lt
  obtain ⟨q0, q1, qf, qz⟩ := hq1.two
  go_wp2_with fail
  refine bodyPost_ret (v := .agg #[.int .i64 x, .int .i64 y]) ?_ rfl ⟨rfl, ?_⟩
  · simp [results, Tryd.results13, go_sem, q0, q1]
  · exact (hB1.setCell (by simp) _).setCell (by simp) _

theorem wrongL_any (A : Option Addr) (c : Nat) (l : List En) (w : World) (hl : EnRd w w.heap.size A l) (hc : l.length ≤ c) (hs : Sm l) (hn : l.length ≤ 2305843009213693952) :
    Calls Tryd.prog 66 #[.slice A l.length c] w fun e w' => e = .returned (.agg #[.int .i64 (Tr.wrong l true).1, .int .i64 (Tr.wrong l true).2]) ∧ Below w.heap.size w w' := by
  have hB0 : Below w.heap.size w (w.alloc (.cells #[.int .i64 0, .int .i64 0] 29)) := (Below.refl _ _).alloc (Nat.le_refl _) _
  have hq0 := Blk.new w 29 [.int .i64 0, .int .i64 0]
  have cK := fun W h => check_any A c l true W h hc hs hn
  obtain ⟨pr, hpr⟩ : ∃ pr, pr = Tr.wrong l true := ⟨_, rfl⟩
  rw [← hpr] at cK ⊢
  obtain ⟨x, y⟩ := pr
  clear hpr
  dsimp only at cK ⊢
  go_enter Tryd.func66, Tryd.ntmps66
  go_wp2_with fail
  generalize w.alloc (.cells #[.int .i64 0, .int .i64 0] 29) = w0 at *
  refine (cK w0 ((hl.below hB0).more hB0.size)).mono ?_
  rintro e w1 ⟨rfl, hb⟩
  have hB1 := hB0.trans (hb.mono hB0.size)
  have hq1 := hq0.below hb hq0.lt
  obtain ⟨q0, q1, qf, qz⟩ := hq1.two
  go_wp2_with fail
  refine bodyPost_ret (v := .agg #[.int .i64 x, .int .i64 y]) ?_ rfl ⟨rfl, ?_⟩
  · simp [results, Tryd.results66, go_sem, q0, q1]
  · exact (hB1.setCell (by simp) _).setCell (by simp) _

def strLen : Value → Nat
  | .string s => s.size
  | _ => 0
theorem hides_step {l : List En} {p : Pt.Bs} {r : Option En} (h : r = Tr.get l p) : Tr.hides l p = ((r.isSome && (r.getD En.zero).k != 2) || Tr.hidAll l (Pt.dirOf p)) := by
  unfold Tr.hides Tr.own; rw [← h]; cases r <;> rfl
theorem hidAll_step {l : List En} {q : Pt.Bs} {r : Option En} (hq : ¬ q = []) (h : r = Tr.get l q) : Tr.hidAll l q = ((r.isSome && ((r.getD En.zero).k != 2 || (r.getD En.zero).o)) || Tr.hidAll l (Pt.dirOf q)) := by
  rw [Tr.hidAll_cons l hq]; unfold Tr.bad; rw [← h]; cases r <;> rfl

set_option maxHeartbeats 4000000 in
theorem hides_any (A : Option Addr) (c : Nat) (l : List En) (p : ByteArray) (w : World) (hl : EnRd w w.heap.size A l) (hs : Sm l) (hsrt : Tr.Srt l) (hp : p.size < 4294967281) (hn : l.length ≤ 2305843009213693952) :
    Calls Tryd.prog 61 #[.slice A l.length c, .string p] w fun e w' => e = .returned (.bool (Tr.hides l p.data.toList)) ∧ Below w.heap.size w w' := by
  have HS := Lib.hid hs
  have HT := Lib.hid hsrt
  clear hs hsrt
  go_enter Tryd.func61, Tryd.ntmps61
  go_wp2_with fail
  go_loopw [5] (fun v wr => ∃ q : ByteArray, v = .string q ∧ (q = p ∨ (q.size < p.size ∧ Hid (Tr.hides l p.data.toList = Tr.hidAll l q.data.toList))) ∧ Below w.heap.size w wr) (fun v _ => strLen v)
  case atStart => exact ⟨p, rfl, .inl rfl, Below.refl _ _⟩
  case round =>
    obtain ⟨q, rfl, hcase, hB⟩ := hrel
    have hqs : q.size < 4294967281 := by rcases hcase with h | h; · rw [h]; exact hp
                                         · omega
    rcases empty_cases q with ⟨hE, g1, g2⟩ | ⟨hE, g1, g2⟩
    · have HF : Hid (Tr.hides l p.data.toList = false) := by
        rcases hcase with h | ⟨_, h⟩
        · subst h; exact Lib.hid (by rw [hE]; exact Tr.hides_nil l)
        · exact Lib.hid (by rw [h.out, hE]; exact Tr.hidAll_nil l)
      clear hE
      go_wp2_with fail
      go_ret
      exact ⟨ret_bool HF.out.symm, hB⟩
    · have HE := Lib.hid hE
      clear hE
      go_wp2_with fail
      refine (get_any A c l q wr ((hl.below hB).more hB.size) HS.out hqs hn).mono ?_
      rintro e w1 ⟨r, rfl, hr, hb⟩
      have hB1 := hB.trans (hb.mono hB.size)
      have HR := Lib.hid (hr.2 (.inl HT.out))
      clear hr hb hB
      rcases hcase with h | ⟨hlq, HL⟩
      · subst h
        have HQ := Lib.hid (hides_step HR.out)
        clear HR
        generalize r.getD En.zero = d at HQ
        generalize r.isSome = ok at HQ
        have HR := HQ
        obtain ⟨dp, dk, dt, dop⟩ := d
        simp only [En.agg, En.cells]
        dsimp only at HQ
        cases ok
        · go_wp2_with fail
          refine (cut_any q _ (by omega)).mono ?_
          rintro e w3 ⟨rfl, hD⟩
          have hB3 := (hB1.alloc hB1.size (.cells #[.string dp, .int .i64 dk, .string dt, .bool dop] 32)).trans (hD.below (B := w.heap.size))
          clear hD
          obtain ⟨sd, hsd⟩ : ∃ sd : ByteArray, sd = ⟨(Pt.dirOf q.data.toList).toArray⟩ := ⟨_, rfl⟩
          have hsl : sd.data.toList = Pt.dirOf q.data.toList := by rw [hsd]
          have hst : Pt.str (Pt.dirOf q.data.toList) = .string sd := by rw [hsd]; rfl
          obtain ⟨sn, hsn⟩ : ∃ sn, Pt.str (Pt.nameOf q.data.toList) = .string sn := ⟨_, rfl⟩
          rw [hst, hsn]
          have hlt : sd.size < q.size := by have := Tr.dir_short HE.out; rw [← hsl, size_length, size_length] at this; exact this
          have HN : Hid (Tr.hides l q.data.toList = Tr.hidAll l sd.data.toList) := Lib.hid (by rw [HQ.out, Bool.false_and, Bool.false_or, hsl])
          clear hsd hsl hst hsn HR
          go_wp2_with fail
          go_roundw
          case rel => exact ⟨sd, rfl, .inr ⟨by omega, HN⟩, hB3⟩
          case measure => simp [strLen]; omega
        rcases tk : (dk != 2) with _ | _
        · cases dop
          · go_wp2_with fail
            refine (cut_any q _ (by omega)).mono ?_
            rintro e w3 ⟨rfl, hD⟩
            have hB3 := (hB1.alloc hB1.size (.cells #[.string dp, .int .i64 dk, .string dt, .bool false] 32)).trans (hD.below (B := w.heap.size))
            clear hD
            obtain ⟨sd, hsd⟩ : ∃ sd : ByteArray, sd = ⟨(Pt.dirOf q.data.toList).toArray⟩ := ⟨_, rfl⟩
            have hsl : sd.data.toList = Pt.dirOf q.data.toList := by rw [hsd]
            have hst : Pt.str (Pt.dirOf q.data.toList) = .string sd := by rw [hsd]; rfl
            obtain ⟨sn, hsn⟩ : ∃ sn, Pt.str (Pt.nameOf q.data.toList) = .string sn := ⟨_, rfl⟩
            rw [hst, hsn]
            have hlt : sd.size < q.size := by have := Tr.dir_short HE.out; rw [← hsl, size_length, size_length] at this; exact this
            have HN : Hid (Tr.hides l q.data.toList = Tr.hidAll l sd.data.toList) := Lib.hid (by rw [HQ.out, tk, Bool.and_false, Bool.false_or, hsl])
            clear hsd hsl hst hsn HR
            go_wp2_with fail
            go_roundw
            case rel => exact ⟨sd, rfl, .inr ⟨by omega, HN⟩, hB3⟩
            case measure => simp [strLen]; omega
          · go_wp2_with fail
            refine (cut_any q _ (by omega)).mono ?_
            rintro e w3 ⟨rfl, hD⟩
            have hB3 := (hB1.alloc hB1.size (.cells #[.string dp, .int .i64 dk, .string dt, .bool true] 32)).trans (hD.below (B := w.heap.size))
            clear hD
            obtain ⟨sd, hsd⟩ : ∃ sd : ByteArray, sd = ⟨(Pt.dirOf q.data.toList).toArray⟩ := ⟨_, rfl⟩
            have hsl : sd.data.toList = Pt.dirOf q.data.toList := by rw [hsd]
            have hst : Pt.str (Pt.dirOf q.data.toList) = .string sd := by rw [hsd]; rfl
            obtain ⟨sn, hsn⟩ : ∃ sn, Pt.str (Pt.nameOf q.data.toList) = .string sn := ⟨_, rfl⟩
            rw [hst, hsn]
            have hlt : sd.size < q.size := by have := Tr.dir_short HE.out; rw [← hsl, size_length, size_length] at this; exact this
            have HN : Hid (Tr.hides l q.data.toList = Tr.hidAll l sd.data.toList) := Lib.hid (by rw [HQ.out, tk, Bool.and_false, Bool.false_or, hsl])
            clear hsd hsl hst hsn HR
            go_wp2_with fail
            go_roundw
            case rel => exact ⟨sd, rfl, .inr ⟨by omega, HN⟩, hB3⟩
            case measure => simp [strLen]; omega
        · go_wp2_with fail
          go_ret
          exact ⟨ret_bool (by rw [HQ.out, tk, Bool.and_self, Bool.true_or]), hB1.alloc hB1.size _⟩
      · have HQ := Lib.hid (HL.out.trans (hidAll_step HE.out HR.out))
        clear HR HL
        generalize r.getD En.zero = d at HQ
        generalize r.isSome = ok at HQ
        have HR := HQ
        obtain ⟨dp, dk, dt, dop⟩ := d
        simp only [En.agg, En.cells]
        dsimp only at HQ
        have hne : ¬ q.toList = p.toList := fun e => by
          have := congrArg List.length e
          rw [Lib.toList_data, Lib.toList_data, size_length, size_length] at this
          omega
        have hneb : (q.toList == p.toList) = false := by rw [beq_eq_false_iff_ne]; exact hne
        cases ok
        · go_wp2_with fail
          refine (cut_any q _ (by omega)).mono ?_
          rintro e w3 ⟨rfl, hD⟩
          have hB3 := (hB1.alloc hB1.size (.cells #[.string dp, .int .i64 dk, .string dt, .bool dop] 32)).trans (hD.below (B := w.heap.size))
          clear hD
          obtain ⟨sd, hsd⟩ : ∃ sd : ByteArray, sd = ⟨(Pt.dirOf q.data.toList).toArray⟩ := ⟨_, rfl⟩
          have hsl : sd.data.toList = Pt.dirOf q.data.toList := by rw [hsd]
          have hst : Pt.str (Pt.dirOf q.data.toList) = .string sd := by rw [hsd]; rfl
          obtain ⟨sn, hsn⟩ : ∃ sn, Pt.str (Pt.nameOf q.data.toList) = .string sn := ⟨_, rfl⟩
          rw [hst, hsn]
          have hlt : sd.size < q.size := by have := Tr.dir_short HE.out; rw [← hsl, size_length, size_length] at this; exact this
          have HN : Hid (Tr.hides l p.data.toList = Tr.hidAll l sd.data.toList) := Lib.hid (by rw [HQ.out, Bool.false_and, Bool.false_or, hsl])
          clear hsd hsl hst hsn HR
          go_wp2_with fail
          go_roundw
          case rel => exact ⟨sd, rfl, .inr ⟨by omega, HN⟩, hB3⟩
          case measure => simp [strLen]; omega
        rcases tk : (dk != 2) with _ | _
        · cases dop
          · go_wp2_with fail
            refine (cut_any q _ (by omega)).mono ?_
            rintro e w3 ⟨rfl, hD⟩
            have hB3 := (hB1.alloc hB1.size (.cells #[.string dp, .int .i64 dk, .string dt, .bool false] 32)).trans (hD.below (B := w.heap.size))
            clear hD
            obtain ⟨sd, hsd⟩ : ∃ sd : ByteArray, sd = ⟨(Pt.dirOf q.data.toList).toArray⟩ := ⟨_, rfl⟩
            have hsl : sd.data.toList = Pt.dirOf q.data.toList := by rw [hsd]
            have hst : Pt.str (Pt.dirOf q.data.toList) = .string sd := by rw [hsd]; rfl
            obtain ⟨sn, hsn⟩ : ∃ sn, Pt.str (Pt.nameOf q.data.toList) = .string sn := ⟨_, rfl⟩
            rw [hst, hsn]
            have hlt : sd.size < q.size := by have := Tr.dir_short HE.out; rw [← hsl, size_length, size_length] at this; exact this
            have HN : Hid (Tr.hides l p.data.toList = Tr.hidAll l sd.data.toList) := Lib.hid (by rw [HQ.out, tk, Bool.or_false, Bool.and_false, Bool.false_or, hsl])
            clear hsd hsl hst hsn HR
            go_wp2_with fail
            go_roundw
            case rel => exact ⟨sd, rfl, .inr ⟨by omega, HN⟩, hB3⟩
            case measure => simp [strLen]; omega
          · go_wp2_with fail
            go_ret
            exact ⟨ret_bool (by rw [HQ.out, tk, Bool.false_or, Bool.and_self, Bool.true_or]), hB1.alloc hB1.size _⟩
        · go_wp2_with fail
          go_ret
          exact ⟨ret_bool (by rw [HQ.out, tk, Bool.true_or, Bool.and_self, Bool.true_or]), hB1.alloc hB1.size _⟩
end Go.Proofs.YtjppfhgkanbemabDoor
