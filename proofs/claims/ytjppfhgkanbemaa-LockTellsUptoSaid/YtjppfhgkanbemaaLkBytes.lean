/-
  The walk of the document's Bytes: a row of 1001 numbers, how each byte of an owner's is.
-/
import Derived.Test.YtjppfhgkanbemaaLkTake
import Derived.Test.YtjppfhgkanbemaaLkHow
import Derived.Test.YtjppfhgkanbemaaLkLaw2
namespace Go.Proofs.Ytjppfhgkanbemaa
open Go.RowKit

theorem info_int : (Try.prog.info? 3).map (fun i => (i.zero, i.size, i.bytes)) = some (some (.int .i64 0), 1, 8) := by kernel_rfl
/-- A row of 1001 numbers. -/
def brow (f : Nat → Int) : List Value := (List.range 1001).map fun k => Value.int .i64 (f k)
def upd (f : Nat → Int) (k : Nat) (v : Int) : Nat → Int := fun i => if i = k then v else f i
theorem brow_len (f : Nat → Int) : (brow f).length = 1001 := by unfold brow; rw [List.length_map, List.length_range]
theorem brow_get (f : Nat → Int) {k : Nat} (h : k < 1001) : (brow f)[k]? = some (.int .i64 (f k)) := by
  unfold brow; rw [List.getElem?_map, List.getElem?_range h]; rfl
theorem brow_set (f : Nat → Int) (k : Nat) (v : Int) : (brow f).set k (.int .i64 v) = brow (upd f k v) := by
  apply List.ext_getElem?
  intro i
  rw [List.getElem?_set]
  by_cases hi : i < 1001
  · rw [brow_get _ hi, brow_get _ hi, brow_len]
    by_cases h : k = i
    · subst h; rw [if_pos rfl, if_pos hi]; unfold upd; rw [if_pos rfl]
    · rw [if_neg h]; unfold upd; rw [if_neg (fun e => h e.symm)]
  · rw [List.getElem?_eq_none (by rw [brow_len]; omega), List.getElem?_eq_none (by rw [brow_len]; omega), brow_len]
    by_cases h : k = i
    · subst h; rw [if_pos rfl, if_neg hi]
    · rw [if_neg h]
theorem brow_congr {f g : Nat → Int} (h : ∀ k, k < 1001 → f k = g k) : brow f = brow g := by
  unfold brow
  apply List.map_congr_left
  intro k hk
  rw [h k (by simpa using hk)]
theorem Blk.bat {w : World} {g : Nat} {f : Nat → Int} (h : Blk w g 3 (brow f)) {t : Int} (h0 : 0 ≤ t) (h1 : t < 1001) : w.cell? ⟨g, t.toNat, none⟩ = some (.int .i64 (f t.toNat)) := by
  rw [h.cell]; exact brow_get f (by omega)
theorem Blk.bset {w : World} {g : Nat} {f : Nat → Int} (h : Blk w g 3 (brow f)) (t : Int) (v : Int) : Blk (w.setCell ⟨g, t.toNat, none⟩ (.int .i64 v)) g 3 (brow (upd f t.toNat v)) := by
  have := h.set_ t.toNat (.int .i64 v); rwa [brow_set] at this

/-- One lock's bytes below t, over others. -/
def part (f : Nat → Int) (x : Lk) (o : Int) (t : Int) : Nat → Int := fun k => if x.o = o ∧ x.f ≤ k ∧ (k : Int) < t then Lk.way x.a else f k
def bytesF (l : List Lk) (o : Int) : Nat → Int := l.foldl (fun f x => part f x o x.t) fun _ => 0
theorem part_start (f : Nat → Int) (x : Lk) (o : Int) : part f x o x.f = f := by
  funext k; unfold part; rw [if_neg (by omega)]
theorem part_other (f : Nat → Int) {x : Lk} {o : Int} (h : x.o ≠ o) (t : Int) : part f x o t = f := by
  funext k; unfold part; rw [if_neg (fun e => h e.1)]
theorem part_next (f : Nat → Int) {x : Lk} {o : Int} (h : x.o = o) {t : Int} (h0 : 0 ≤ t) (hf : x.f ≤ t) : upd (part f x o t) t.toNat (Lk.way x.a) = part f x o (t + 1) := by
  funext k
  unfold upd part
  by_cases e : k = t.toNat
  · rw [if_pos e, if_pos (by omega)]
  · rw [if_neg e]
    by_cases c : x.o = o ∧ x.f ≤ k ∧ (k : Int) < t
    · rw [if_pos c, if_pos (by omega)]
    · rw [if_neg c, if_neg (by omega)]
theorem upd_upd (f : Nat → Int) (k : Nat) (a b : Int) : upd (upd f k a) k b = upd f k b := by
  funext i; unfold upd; split <;> rfl
theorem bytesF_next {l : List Lk} {k : Nat} (hk : k < l.length) (o : Int) : part (bytesF (l.take k) o) l[k] o l[k].t = bytesF (l.take (k + 1)) o := by
  unfold bytesF; rw [List.take_succ_eq_append_getElem hk, List.foldl_append]; rfl

theorem brow_made : madeCells #[Value.int .i64 0] 1001 = (brow fun _ => 0).toArray := by
  apply Array.ext
  · rw [size_madeCells, List.size_toArray, brow_len]
  · intro i h1 h2
    simp [madeCells, brow, Nat.mod_one]
theorem made_row : ∃ C0 : Array Value, (∀ w : World, (Instr.makeSlice 44 (.int .i64 1001) (.int .i64 1001)).run Try.prog w = .ok (.slice (some ⟨w.heap.size, 0, none⟩) 1001 1001) (w.alloc (.cells C0 3))) ∧ C0 = (brow fun _ => 0).toArray := by
  obtain ⟨i0, hi, hz0, hz1, hz2⟩ := info_parts info_int
  refine ⟨_, fun w => ?_, brow_made⟩
  have h := run_make (P := Try.prog) (w := w) 44 3 i0 (.int .i64 0) Try.underlying44 hi hz0 .i64 .i64 1001 1001 (by decide) (by decide) (by rw [hz2]; decide) (by decide)
  rw [hz1, show (1001 : Int).toNat = 1001 from rfl, Nat.mul_one] at h
  exact h

set_option maxHeartbeats 4000000 in
set_option maxRecDepth 100000 in
theorem bytes_any (A : Option Addr) (c : Nat) (l : List Lk) (o : Int) (w : World) (hl : LkRd w w.heap.size A l) (hr : ∀ x ∈ l, Lk.range x = false) (hbig : l.length ≤ 1000) :
    Calls Try.prog 26 #[.slice A l.length c, .int .i64 o] w fun e w' => e = .returned (.slice (some ⟨w.heap.size, 0, none⟩) 1001 1001) ∧ Blk w' w.heap.size 3 (brow (bytesF l o)) ∧ Below w.heap.size w w' := by
  obtain ⟨C0, hmk, hC0⟩ := made_row
  have HC := Lib.hid hC0
  clear hC0
  go_enter Try.func26, Try.ntmps26
  go_wp2_with fail
  clear hmk
  have hb0 : Blk (w.alloc (.cells C0 3)) w.heap.size 3 (brow fun _ => 0) := by rw [HC.out]; exact Blk.new w _ _
  have hB0 : Below w.heap.size w (w.alloc (.cells C0 3)) := (Below.refl _ _).alloc (Nat.le_refl _) _
  go_loopw [12] (fun i wr => ∃ k : Nat, k ≤ l.length ∧ i = .int .i64 k ∧ Below w.heap.size w wr ∧ Blk wr w.heap.size 3 (brow (bytesF (l.take k) o))) (fun i _ => l.length - (intOf i).toNat)
  case atStart => exact ⟨0, Nat.zero_le _, rfl, hB0, hb0⟩
  case round =>
    obtain ⟨k, hk, rfl, hB, hb⟩ := hrel
    clear hb0 hB0
    by_cases hlt : k < l.length
    · obtain ⟨bl, ol, rfl, hbl, h0, h1, h2, h3⟩ := (LkRd.at_ (hl.below hB) hlt)
      have hrx := hr _ (List.getElem_mem hlt)
      rw [Lk.range_iff] at hrx
      obtain ⟨_, _, q1, q2, q3⟩ := hrx
      have HN := Lib.hid (bytesF_next hlt o)
      generalize l[k] = x at h0 h1 h2 h3 q1 q2 q3 HN
      obtain ⟨xo, xf, xt, xa⟩ := x
      dsimp only at h0 h1 h2 h3 q1 q2 q3
      go_wp2_with fail
      have hx1 := Blk.new wr 24 [.int .i64 xo, .int .i64 xf, .int .i64 xt, .bool xa]
      have hb1 := hb.alloc (.cells #[.int .i64 xo, .int .i64 xf, .int .i64 xt, .bool xa] 24)
      have hB1 := hB.alloc hB.size (.cells #[.int .i64 xo, .int .i64 xf, .int .i64 xt, .bool xa] 24)
      have hgx : w.heap.size < wr.heap.size := hb.lt
      have HF := Lib.hid (part_start (bytesF (l.take k) o) ⟨xo, xf, xt, xa⟩ o)
      clear h0 h1 h2 h3 hb hB
      generalize wr.alloc (.cells #[.int .i64 xo, .int .i64 xf, .int .i64 xt, .bool xa] 24) = w1 at *
      generalize wr.heap.size = gx at *
      have HG := Lib.hid (rfl : bytesF (l.take k) o = bytesF (l.take k) o)
      generalize bytesF (l.take k) o = f at hb1 HN HF
      clear HG
      obtain ⟨x0, x1, x2, x3, xfr, xz⟩ := hx1.four
      by_cases ho : xo = o
      · have ho' : (xo == o) = true := by simpa using ho
        have HO := Lib.hid ho
        clear ho
        go_loopw [8] (fun i wj => ∃ t : Int, xf ≤ t ∧ t ≤ xt ∧ i = .int .i64 t ∧ Below w.heap.size w wj ∧ Blk wj gx 24 [.int .i64 xo, .int .i64 xf, .int .i64 xt, .bool xa] ∧ Blk wj w.heap.size 3 (brow (part f ⟨xo, xf, xt, xa⟩ o t))) (fun i _ => (xt - intOf i).toNat)
        case atStart => exact ⟨xf, Int.le_refl _, by omega, rfl, hB1, hx1, by rw [HF.out]; exact hb1⟩
        case round =>
          obtain ⟨t, ht1, ht2, rfl, hB2, hx2, hb2⟩ := hrel
          clear hB1 hx1 hb1 x0 x1 x2 x3 xfr xz
          obtain ⟨x0, x1, x2, x3, xfr, xz⟩ := hx2.four
          by_cases hlt2 : t < xt
          · have a1 := hb2.bat (t := t) (by omega) (by omega)
            have a1f := hb2.frozen t.toNat
            have HP := Lib.hid (part_next f (x := ⟨xo, xf, xt, xa⟩) HO.out (by omega : 0 ≤ t) ht1)
            generalize part f ⟨xo, xf, xt, xa⟩ o t t.toNat = old at a1
            have hgne : gx ≠ w.heap.size := by omega
            cases xa
            · go_wp2_with fail
              go_roundw
              case rel => exact ⟨t + 1, by omega, by omega, rfl, hB2.setCell (p := ⟨w.heap.size, t.toNat, none⟩) (Nat.le_refl _) _, hx2.far (by exact hgne) _, by rw [← HP.out]; exact hb2.bset t 1⟩
              case measure => simp [intOf]; omega
            · go_wp2_with fail
              go_roundw
              case rel => exact ⟨t + 1, by omega, by omega, rfl, (hB2.setCell (p := ⟨w.heap.size, t.toNat, none⟩) (Nat.le_refl _) _).setCell (p := ⟨w.heap.size, t.toNat, none⟩) (Nat.le_refl _) _, (hx2.far (by exact hgne) _).far (by exact hgne) _, by rw [← HP.out]; have h := (hb2.bset t 1).bset t 2; rw [upd_upd] at h; exact h⟩
              case measure => simp [intOf]; omega
          · obtain rfl : t = xt := by omega
            go_wp2_with fail
            go_roundw
            case rel => exact ⟨k + 1, by omega, by go_num, hB2, by rw [← HN.out]; exact hb2⟩
            case measure => simp [intOf]; omega
      · have ho' : (xo == o) = false := by simpa using ho
        have HP := Lib.hid (part_other f (x := ⟨xo, xf, xt, xa⟩) ho xt)
        clear ho
        go_loopw [8] (fun i wj => i = .int .i64 xf ∧ wj = w1) (fun _ _ => 0)
        case atStart => exact ⟨rfl, rfl⟩
        case round =>
          obtain ⟨rfl, rfl⟩ := hrel
          go_wp2_with fail
          go_roundw
          case rel => exact ⟨k + 1, by omega, by go_num, hB1, by rw [← HN.out, HP.out]; exact hb1⟩
          case measure => simp [intOf]; omega
    · obtain rfl : k = l.length := by omega
      rw [List.take_length] at hb
      go_wp2_with fail
      go_ret
      exact ⟨rfl, hb, hB⟩
end Go.Proofs.Ytjppfhgkanbemaa
