/-
  The document's SameAnswer and SameShown at equal ones; tracelaw6.full.
-/
import Derived.Test.YtjppfhgkanbemacGreatDoorSySmA
import Derived.Test.YtjppfhgkanbemacGreatDoorSyNam
import Derived.Test.YtjppfhgkanbemacGreatDoorTrRefN
namespace Go.Proofs.YtjppfhgkanbemacGreatDoor
open Go.RowKit Go.Shelf Go.Sort

set_option maxRecDepth 100000 in
theorem sameAnswer_any (a : An) (A B : Option Addr) (c d : Nat) (w : World) (hA : StrRd w w.heap.size A a.names) (hB : StrRd w w.heap.size B a.names) (hn : a.names.length ≤ 1000000) :
    Calls Tryz.prog 17 #[.agg #[.int .i64 a.err, .int .i64 a.n, .string a.text, .slice A a.names.length c], .agg #[.int .i64 a.err, .int .i64 a.n, .string a.text, .slice B a.names.length d]] w fun e w' => e = .returned (.bool true) ∧ Below w.heap.size w w' := by
  obtain ⟨ae, an, ax, am⟩ := a
  dsimp only at *
  have HA := Lib.hid hA
  have HB := Lib.hid hB
  clear hA hB
  have hB1 := ((Below.refl w.heap.size w).alloc (Nat.le_refl _) (.cells #[.int .i64 ae, .int .i64 an, .string ax, .slice A am.length c] 41))
  have hq1 := Blk.new w 41 [.int .i64 ae, .int .i64 an, .string ax, .slice A am.length c]
  have hB2 := hB1.alloc hB1.size (.cells #[.int .i64 ae, .int .i64 an, .string ax, .slice B am.length d] 41)
  have hq2 := hq1.alloc (.cells #[.int .i64 ae, .int .i64 an, .string ax, .slice B am.length d] 41)
  have hp2 := Blk.new (w.alloc (.cells #[.int .i64 ae, .int .i64 an, .string ax, .slice A am.length c] 41)) 41 [.int .i64 ae, .int .i64 an, .string ax, .slice B am.length d]
  simp only [World.size_alloc] at hp2
  clear hB1 hq1
  obtain ⟨q0, q1, q2, q3, qf, qz⟩ := hq2.four
  obtain ⟨p0, p1, p2, p3, pf, pz⟩ := hp2.four
  have f4 : (ax.toList == ax.toList) = true := by simp
  go_enter Tryz.func17, Tryz.ntmps17
  go_upto_region 1 with fail
  generalize (w.alloc (.cells #[.int .i64 ae, .int .i64 an, .string ax, .slice A am.length c] 41)).alloc (.cells #[.int .i64 ae, .int .i64 an, .string ax, .slice B am.length d] 41) = w2 at *
  go_wp2_with fail
  refine (sameTexts_any A B c d am am w2 ((Rd.below HA.out hB2).more hB2.size) ((Rd.below HB.out hB2).more hB2.size) (by omega) rfl).mono ?_
  rintro e w3 ⟨rfl, hb⟩
  go_wp2_with fail
  go_ret
  exact ⟨rfl, hB2.trans (hb.mono hB2.size)⟩

set_option maxRecDepth 100000 in
theorem sameShown_any (u : Un) (T : List En) (n : Int) (A A' B B' AT BT : Option Addr) (c c' d d' cT dT : Nat) (w : World) (hA : UnRd w w.heap.size A A' c c' u) (hB : UnRd w w.heap.size B B' d d' u) (hT : EnRd w w.heap.size AT T) (hT' : EnRd w w.heap.size BT T) (hu : UnSm u) (hn : T.length ≤ 1000000) :
    Calls Tryz.prog 19 #[.agg #[.slice A u.U.length c, .slice A' u.L.length c', .slice AT T.length cT, .int .i64 n], .agg #[.slice B u.U.length d, .slice B' u.L.length d', .slice BT T.length dT, .int .i64 n]] w fun e w' => e = .returned (.bool true) ∧ Below w.heap.size w w' := by
  have HU := Lib.hid hu
  have HA := Lib.hid hA
  have HB := Lib.hid hB
  have HT := Lib.hid hT
  have HT' := Lib.hid hT'
  clear hA hB hT hT' hu
  have hB1 := ((Below.refl w.heap.size w).alloc (Nat.le_refl _) (.cells #[.slice A u.U.length c, .slice A' u.L.length c', .slice AT T.length cT, .int .i64 n] 33))
  have hq1 := Blk.new w 33 [.slice A u.U.length c, .slice A' u.L.length c', .slice AT T.length cT, .int .i64 n]
  have hB2 := hB1.alloc hB1.size (.cells #[.slice B u.U.length d, .slice B' u.L.length d', .slice BT T.length dT, .int .i64 n] 33)
  have hq2 := hq1.alloc (.cells #[.slice B u.U.length d, .slice B' u.L.length d', .slice BT T.length dT, .int .i64 n] 33)
  have hp2 := Blk.new (w.alloc (.cells #[.slice A u.U.length c, .slice A' u.L.length c', .slice AT T.length cT, .int .i64 n] 33)) 33 [.slice B u.U.length d, .slice B' u.L.length d', .slice BT T.length dT, .int .i64 n]
  simp only [World.size_alloc] at hp2
  clear hB1 hq1
  obtain ⟨q0, q1, q2, q3, qf, qz⟩ := hq2.four
  obtain ⟨p0, p1, p2, p3, pf, pz⟩ := hp2.four
  go_enter Tryz.func19, Tryz.ntmps19
  go_upto_region 1 with fail
  generalize (w.alloc (.cells #[.slice A u.U.length c, .slice A' u.L.length c', .slice AT T.length cT, .int .i64 n] 33)).alloc (.cells #[.slice B u.U.length d, .slice B' u.L.length d', .slice BT T.length dT, .int .i64 n] 33) = w2 at *
  go_wp2_with fail
  clear q0 q1 q2 q3 qf qz p0 p1 p2 p3 pf pz
  refine (sameUnion_any A A' B B' c c' d d' u w2 ((HA.out.below hB2).more hB2.size) ((HB.out.below hB2).more hB2.size) (HU.out.2.2 _ (List.mem_cons_self ..)) (by have := HU.out.2.1; omega) (fun l h => HU.out.2.2 l (List.mem_cons_of_mem _ h))).mono ?_
  rintro e w3 ⟨rfl, hb⟩
  have hB3 := hB2.trans (hb.mono hB2.size)
  have hq3 := hq2.below hb hq2.lt
  have hp3 := hp2.below hb hp2.lt
  clear hb hB2 hq2 hp2
  obtain ⟨q0, q1, q2, q3, qf, qz⟩ := hq3.four
  obtain ⟨p0, p1, p2, p3, pf, pz⟩ := hp3.four
  go_wp2_with fail
  clear q0 q1 q2 q3 qf qz p0 p1 p2 p3 pf pz
  refine (same_any AT BT cT dT T T w3 ((Rd.below HT.out hB3).more hB3.size) ((Rd.below HT'.out hB3).more hB3.size) (by omega) rfl).mono ?_
  rintro e w4 ⟨rfl, hb⟩
  have hB4 := hB3.trans (hb.mono hB3.size)
  have hq4 := hq3.below hb hq3.lt
  have hp4 := hp3.below hb hp3.lt
  obtain ⟨q0, q1, q2, q3, qf, qz⟩ := hq4.four
  obtain ⟨p0, p1, p2, p3, pf, pz⟩ := hp4.four
  go_wp2_with fail
  go_ret
  exact ⟨rfl, hB4⟩
end Go.Proofs.YtjppfhgkanbemacGreatDoor
