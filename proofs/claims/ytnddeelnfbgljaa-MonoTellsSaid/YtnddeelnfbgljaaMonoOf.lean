/-
  Measures: that of a list. Conditions: none.
-/
import Derived.Test.YtnddeelnfbgljaaMonoJoin
import Derived.Test.YtnddeelnfbgljaaMonoLaw
import Derived.Test.YtnddeelnfbgljaaSame
import Derived.Deep.RegionLaw
namespace Go.Proofs.Ytnddeelnfbgljaa
open Go.RowKit Go.Deep
set_option linter.unusedVariables false
namespace MN
/-- A measure that lies in memory. -/
def At (w : World) (b : Nat) (m : Ms) : Prop := w.heap[b]? = some (.cells #[.int .i64 m.n, .int .i64 m.s, .int .i64 m.lo, .int .i64 m.hi, .int .i64 m.h] 24 (0, 0))
theorem At.cells {w : World} {b : Nat} {m : Ms} (h : At w b m) : (w.cell? ⟨b, 0, none⟩ = some (.int .i64 m.n) ∧ w.cell? ⟨b, 1, none⟩ = some (.int .i64 m.s) ∧ w.cell? ⟨b, 2, none⟩ = some (.int .i64 m.lo) ∧ w.cell? ⟨b, 3, none⟩ = some (.int .i64 m.hi) ∧ w.cell? ⟨b, 4, none⟩ = some (.int .i64 m.h)) ∧ (∀ i, w.frozen? ⟨b, i, none⟩ = false) ∧ b < w.heap.size := by
  obtain ⟨c, f, k⟩ := blk h
  exact ⟨⟨c 0, c 1, c 2, c 3, c 4⟩, f, k⟩

set_option maxHeartbeats 2000000 in
theorem of_any (a : Option Addr) (n c : Nat) (xs : List Int) (w : World) (h : Sl w a n c xs) :
    Calls Try.prog 12 #[.slice a n c] w fun e w' => e = .returned (of xs).val ∧ Below w.heap.size w w' := by
  have hm := h.hmax
  have hm2 := h.hcap
  unfold maxLen at hm
  have HL := Lib.hid h.hlen
  have HH := Lib.hid h
  clear h
  go_enter Try.func12, Try.ntmps12
  go_wp2_with fail
  refine (none_any _).mono ?_
  rintro e w0 ⟨rfl, hb0⟩
  obtain ⟨hb0, y0⟩ := hold1 hb0 ⟨rfl, rfl, rfl, rfl⟩
  have Y0 := Lib.hid y0
  have ys := (Array.getElem?_eq_some_iff.1 y0).1
  clear y0
  go_wp2_with fail
  go_loopw [9] (fun i wr => ∃ k : Nat, k ≤ n ∧ i = .int .i64 k ∧ wr.heap[w.heap.size]? = some (.cells #[.int .i64 0, .int .i64 0, .int .i64 0, .int .i64 0, .int .i64 0] 24) ∧ At wr w0.heap.size (of (xs.take k)) ∧ Below w.heap.size w wr) (fun i _ => n - (intOf i).toNat)
  case atStart =>
    refine ⟨0, Nat.zero_le _, rfl, (Below.heap_alloc _ _ _ ys).trans Y0.out, heap_alloc_new _ _, hb0.alloc hb0.size _⟩
  case round =>
    obtain ⟨k, hk, rfl, x0, x1, hb⟩ := hrel
    have hz := hb0.size
    by_cases hlt : k < n
    · obtain ⟨⟨o0, o1, o2, o3, o4⟩, d1, d2⟩ := x1.cells
      have X0 := Lib.hid x0
      have X1 := Lib.hid x1
      clear x0 x1
      obtain ⟨b, off, rfl, hbl, hc⟩ := HH.out.hat (by omega)
      have g := (hb.cell (p := ⟨b, off + k, none⟩) hbl).trans (hc k hlt)
      clear hc
      have hlti : (k : Int) < (n : Int) := by omega
      have t1 := take_snoc' xs k (by have := HL.out; omega)
      have t2 := of_snoc (xs.take k) (xs[k]?.getD 0)
      rw [← t1] at t2
      have T2 := Lib.hid t2
      clear t1 t2
      obtain ⟨x, hx⟩ : ∃ x, xs[k]?.getD 0 = x := ⟨_, rfl⟩
      rw [hx] at g T2
      obtain ⟨m, hm0⟩ : ∃ m, of (xs.take k) = m := ⟨_, rfl⟩
      have X1' := Lib.hid (hm0 ▸ X1.out : At wr w0.heap.size m)
      rw [hm0] at T2 o0 o1 o2 o3 o4
      clear hm0 hx X1
      have h1 : I64 (one x).n := by unfold I64; simp [one]
      go_wp2_with fail
      go_region_law (first
        | (go_simp; go_at_call 11; refine (one_any x _).mono ?_; rintro e w1 ⟨rfl, hb1⟩; have z1 : At w1 w0.heap.size m := blk_below (by exact X1'.out) hb1; replace hb1 : Below wr.heap.size wr w1 := (by first | exact hb1 | exact below_of_drew hb1 | exact below_of_drewN hb1); obtain ⟨⟨p0, p1, p2, p3, p4⟩, p5, p6⟩ := z1.cells)
        | (go_simp; go_at_call 13; refine (join_any m (one x) _ h1).mono ?_; rintro e w2 ⟨rfl, hb2⟩; have z2 : At w2 w0.heap.size m := blk_below (by exact z1) hb2; replace hb2 : Below w1.heap.size w1 w2 := (by first | exact hb2 | exact below_of_drew hb2 | exact below_of_drewN hb2); obtain ⟨⟨q0, q1, q2, q3, q4⟩, q5, q6⟩ := z2.cells; have Z2 := Lib.hid z2; clear z2))
      all_goals
        have hb12 : Below w.heap.size w w2 := below_then hb (below_then hb1 hb2)
        try go_wp2_with fail
        go_roundw
      all_goals first
        | exact ⟨k + 1, by omega, by go_num, blk_far (blk_far (blk_far (blk_far (blk_far ((blk_below (blk_below X0.out hb1) hb2)) (by omega)) (by omega)) (by omega)) (by omega)) (by omega), by rw [T2.out]; exact blk_set (blk_set (blk_set (blk_set (blk_set (Z2.out))))), (((((hb12).setCell (p := ⟨w0.heap.size, 0, none⟩) hb0.size _).setCell (p := ⟨w0.heap.size, 1, none⟩) hb0.size _).setCell (p := ⟨w0.heap.size, 2, none⟩) hb0.size _).setCell (p := ⟨w0.heap.size, 3, none⟩) hb0.size _).setCell (p := ⟨w0.heap.size, 4, none⟩) hb0.size _⟩
        | (simp [intOf]; omega)
    · have hxs : xs.take k = xs := List.take_of_length_le (by have := HL.out; omega)
      rw [hxs] at x1
      obtain ⟨⟨o0, o1, o2, o3, o4⟩, d1, d2⟩ := x1.cells
      obtain ⟨c0, c1, c2⟩ := blk x0
      have p0 := c0 0
      have p1 := c0 1
      have p2 := c0 2
      have p3 := c0 3
      have p4 := c0 4
      clear hxs x1 x0 c0
      go_wp2_with fail
      refine bodyPost_ret (v := (of xs).val) (by simp [results, Try.results12, go_sem, p0, p1, p2, p3, p4]) rfl ⟨rfl, ?_⟩
      exact (((((hb).setCell (p := ⟨w.heap.size, 0, none⟩) (Nat.le_refl _) _).setCell (p := ⟨w.heap.size, 1, none⟩) (Nat.le_refl _) _).setCell (p := ⟨w.heap.size, 2, none⟩) (Nat.le_refl _) _).setCell (p := ⟨w.heap.size, 3, none⟩) (Nat.le_refl _) _).setCell (p := ⟨w.heap.size, 4, none⟩) (Nat.le_refl _) _
end MN
theorem Sl.two' (w : World) (k : Nat) (hk : k = w.heap.size) (x y : Int) (T : TypeId) : Sl (w.alloc (.cells #[.int .i64 x, .int .i64 y] T)) (some ⟨k, 0, none⟩) 2 2 [x, y] := by
  subst hk
  exact Sl.two w x y T
end Go.Proofs.Ytnddeelnfbgljaa
