/-
  The document's measures, as they are defined. Conditions: none.
-/
import Derived.Test.YtnddeelnfbgljaaMonoMod
import Derived.Test.YtnddeelnfbgljaaMonoLaw
import Derived.Test.YtnddeelnfbgljaaSame
import Derived.Deep.RegionLaw
namespace Go.Proofs.Ytnddeelnfbgljaa
open Go.RowKit Go.Deep
set_option linter.unusedVariables false
namespace MN

/-- What the loop holds: but for how many, which stands there from the beginning. -/
def AtN (w : World) (b : Nat) (n : Nat) (m : Ms) : Prop := w.heap[b]? = some (.cells #[.int .i64 (n : Int), .int .i64 m.s, .int .i64 m.lo, .int .i64 m.hi, .int .i64 m.h] 24 (0, 0))

def At' (r : Ms) (s lo hi h : Int) : Prop := r.s = s ∧ r.lo = lo ∧ r.hi = hi ∧ r.h = h
theorem At'.to {r : Ms} {s lo hi h : Int} {w : World} {b n : Nat} (e : At' r s lo hi h) (k : w.heap[b]? = some (.cells #[.int .i64 (n : Int), .int .i64 s, .int .i64 lo, .int .i64 hi, .int .i64 h] 24 (0, 0))) : AtN w b n r := by
  obtain ⟨rfl, rfl, rfl, rfl⟩ := e
  exact k

set_option maxHeartbeats 2000000 in
theorem MeasureOf_any (a : Option Addr) (n c : Nat) (xs : List Int) (w : World) (h : Sl w a n c xs) :
    Calls Try.prog 10 #[.slice a n c] w fun e w' => e = .returned (of xs).val ∧ Below w.heap.size w w' := by
  have hm := h.hmax
  have hm2 := h.hcap
  unfold maxLen at hm
  have HL := Lib.hid h.hlen
  have HH := Lib.hid h
  clear h
  go_enter Try.func10, Try.ntmps10
  go_wp2_with fail
  go_loopw [4] (fun i wr => ∃ k : Nat, k ≤ n ∧ i = .int .i64 k ∧ wr.heap[w.heap.size]? = some (.cells #[.int .i64 0, .int .i64 0, .int .i64 0, .int .i64 0, .int .i64 0] 24) ∧ AtN wr (w.heap.size + 1) n (of (xs.take k)) ∧ Below w.heap.size w wr) (fun i _ => n - (intOf i).toNat)
  case atStart =>
    refine ⟨0, Nat.zero_le _, rfl, ?_, ?_, ((Below.refl _ _).alloc (Nat.le_refl _) _).alloc (by simp) _⟩
    · exact (Below.heap_alloc _ _ _ (by simp)).trans (heap_alloc_new _ _)
    · have := heap_alloc_new (w.alloc (.cells #[.int .i64 0, .int .i64 0, .int .i64 0, .int .i64 0, .int .i64 0] 24)) (.cells #[.int .i64 (n : Int), .int .i64 0, .int .i64 9223372036854775807, .int .i64 (-9223372036854775808), .int .i64 0] 24)
      rwa [World.size_alloc] at this
  case round =>
    obtain ⟨k, hk, rfl, x0, x1, hb⟩ := hrel
    obtain ⟨c0, c1, c2⟩ := blk x0
    obtain ⟨d0, d1, d2⟩ := blk x1
    by_cases hlt : k < n
    · obtain ⟨b, off, rfl, hbl, hc⟩ := HH.out.hat (by omega)
      have g := (hb.cell (p := ⟨b, off + k, none⟩) hbl).trans (hc k hlt)
      clear hc
      have hlti : (k : Int) < (n : Int) := by omega
      have t1 := take_snoc' xs k (by have := HL.out; omega)
      have t2 := of_snoc (xs.take k) (xs[k]?.getD 0)
      rw [← t1] at t2
      have T2 := Lib.hid t2
      clear t1 t2
      obtain ⟨x, hx⟩ : ∃ x, xs[k]?.getD 0 = x := ⟨_, rfl⟩
      rw [hx] at g T2
      have hh := of_h (xs.take k)
      obtain ⟨m, hm0⟩ : ∃ m, of (xs.take k) = m := ⟨_, rfl⟩
      rw [hm0] at T2 d0 x1 hh
      clear hm0 hx
      have X0 := Lib.hid x0
      have X1 := Lib.hid x1
      clear x0 x1
      have n1 : ¬ b = w.heap.size + 1 := by omega
      have n2 : ¬ w.heap.size + 1 = b := by omega
      have e0 : IntKind.i64.wrap (m.s + x) = wrap64 (m.s + x) := IntWalk.i64_left _
      have e1 : IntKind.i64.wrap (131 * m.h) = 131 * m.h := IntWalk.i64_in _ (by omega)
      have e2 : IntKind.i64.wrap (131 * m.h + x % 2147483647) = 131 * m.h + x % 2147483647 := IntWalk.i64_in _ (by omega)
      have e3 : IntKind.i64.wrap (131 * m.h + x % 2147483647 + 1) = 131 * m.h + x % 2147483647 + 1 := IntWalk.i64_in _ (by omega)
      have o0 : wr.cell? ⟨w.heap.size + 1, 0, none⟩ = some (.int .i64 (n : Int)) := d0 0
      have o1 : wr.cell? ⟨w.heap.size + 1, 1, none⟩ = some (.int .i64 m.s) := d0 1
      have o2 : wr.cell? ⟨w.heap.size + 1, 2, none⟩ = some (.int .i64 m.lo) := d0 2
      have o3 : wr.cell? ⟨w.heap.size + 1, 3, none⟩ = some (.int .i64 m.hi) := d0 3
      have o4 : wr.cell? ⟨w.heap.size + 1, 4, none⟩ = some (.int .i64 m.h) := d0 4
      clear d0
      by_cases hlo : x < m.lo
      · by_cases hhi : m.hi < x
        · have ylo : decide (x < m.lo) = true := by simp [hlo]
          have yhi : decide (m.hi < x) = true := by simp [hhi]
          have k1 : min m.lo x = x := by omega
          have k2 : max m.hi x = x := by omega
          have HE : At' (of (xs.take (k + 1))) (wrap64 (m.s + x)) x x ((131 * m.h + x % 2147483647 + 1) % 2147483647) := by rw [T2.out, join_one m x]; exact ⟨rfl, k1, k2, rfl⟩
          clear k1 k2
          go_wp2_with fail
          go_region
          go_wp2_with fail
          go_region
          go_wp2_with fail
          go_region
          go_wp2_with fail
          go_region_law (first
            | (go_simp; go_at_call 16; refine (Mod_any _ _).mono ?_; rintro e w' ⟨rfl, rfl⟩))
          all_goals (try go_wp2_with fail)
          all_goals go_roundw
          all_goals first
            | exact ⟨k + 1, by omega, by go_num, blk_far (blk_far (blk_far (blk_far (X0.out) (by omega)) (by omega)) (by omega)) (by omega), HE.to (blk_set (blk_set (blk_set (blk_set (X1.out))))), by repeat' (first | exact hb | apply Below.drew | refine Below.setCell ?_ (Nat.le_succ _) _)⟩
            | (simp [intOf]; omega)
        · have ylo : decide (x < m.lo) = true := by simp [hlo]
          have yhi : decide (m.hi < x) = false := by simp; omega
          have k1 : min m.lo x = x := by omega
          have k2 : max m.hi x = m.hi := by omega
          have HE : At' (of (xs.take (k + 1))) (wrap64 (m.s + x)) x m.hi ((131 * m.h + x % 2147483647 + 1) % 2147483647) := by rw [T2.out, join_one m x]; exact ⟨rfl, k1, k2, rfl⟩
          clear k1 k2
          go_wp2_with fail
          go_region
          go_wp2_with fail
          go_region
          go_wp2_with fail
          go_region
          go_wp2_with fail
          go_region_law (first
            | (go_simp; go_at_call 16; refine (Mod_any _ _).mono ?_; rintro e w' ⟨rfl, rfl⟩))
          all_goals (try go_wp2_with fail)
          all_goals go_roundw
          all_goals first
            | exact ⟨k + 1, by omega, by go_num, blk_far (blk_far (blk_far (X0.out) (by omega)) (by omega)) (by omega), HE.to (blk_set (blk_set (blk_set (X1.out)))), by repeat' (first | exact hb | apply Below.drew | refine Below.setCell ?_ (Nat.le_succ _) _)⟩
            | (simp [intOf]; omega)
      · by_cases hhi : m.hi < x
        · have ylo : decide (x < m.lo) = false := by simp; omega
          have yhi : decide (m.hi < x) = true := by simp [hhi]
          have k1 : min m.lo x = m.lo := by omega
          have k2 : max m.hi x = x := by omega
          have HE : At' (of (xs.take (k + 1))) (wrap64 (m.s + x)) m.lo x ((131 * m.h + x % 2147483647 + 1) % 2147483647) := by rw [T2.out, join_one m x]; exact ⟨rfl, k1, k2, rfl⟩
          clear k1 k2
          go_wp2_with fail
          go_region
          go_wp2_with fail
          go_region
          go_wp2_with fail
          go_region
          go_wp2_with fail
          go_region_law (first
            | (go_simp; go_at_call 16; refine (Mod_any _ _).mono ?_; rintro e w' ⟨rfl, rfl⟩))
          all_goals (try go_wp2_with fail)
          all_goals go_roundw
          all_goals first
            | exact ⟨k + 1, by omega, by go_num, blk_far (blk_far (blk_far (X0.out) (by omega)) (by omega)) (by omega), HE.to (blk_set (blk_set (blk_set (X1.out)))), by repeat' (first | exact hb | apply Below.drew | refine Below.setCell ?_ (Nat.le_succ _) _)⟩
            | (simp [intOf]; omega)
        · have ylo : decide (x < m.lo) = false := by simp; omega
          have yhi : decide (m.hi < x) = false := by simp; omega
          have k1 : min m.lo x = m.lo := by omega
          have k2 : max m.hi x = m.hi := by omega
          have HE : At' (of (xs.take (k + 1))) (wrap64 (m.s + x)) m.lo m.hi ((131 * m.h + x % 2147483647 + 1) % 2147483647) := by rw [T2.out, join_one m x]; exact ⟨rfl, k1, k2, rfl⟩
          clear k1 k2
          go_wp2_with fail
          go_region
          go_wp2_with fail
          go_region
          go_wp2_with fail
          go_region
          go_wp2_with fail
          go_region_law (first
            | (go_simp; go_at_call 16; refine (Mod_any _ _).mono ?_; rintro e w' ⟨rfl, rfl⟩))
          all_goals (try go_wp2_with fail)
          all_goals go_roundw
          all_goals first
            | exact ⟨k + 1, by omega, by go_num, blk_far (blk_far (X0.out) (by omega)) (by omega), HE.to (blk_set (blk_set (X1.out))), by repeat' (first | exact hb | apply Below.drew | refine Below.setCell ?_ (Nat.le_succ _) _)⟩
            | (simp [intOf]; omega)
    · have he : k = n := by omega
      have hxs : xs.take k = xs := List.take_of_length_le (by have := HL.out; omega)
      rw [hxs] at x1
      have hn := of_n xs (by have := HL.out; omega)
      have e0 : (of xs).val = .agg #[.int .i64 (n : Int), .int .i64 (of xs).s, .int .i64 (of xs).lo, .int .i64 (of xs).hi, .int .i64 (of xs).h] := by
        rw [HL.out] at hn
        rw [Ms.val, hn]
      have o0 : wr.cell? ⟨w.heap.size + 1, 0, none⟩ = some (.int .i64 (n : Int)) := (blk x1).1 0
      have o1 : wr.cell? ⟨w.heap.size + 1, 1, none⟩ = some (.int .i64 (of xs).s) := (blk x1).1 1
      have o2 : wr.cell? ⟨w.heap.size + 1, 2, none⟩ = some (.int .i64 (of xs).lo) := (blk x1).1 2
      have o3 : wr.cell? ⟨w.heap.size + 1, 3, none⟩ = some (.int .i64 (of xs).hi) := (blk x1).1 3
      have o4 : wr.cell? ⟨w.heap.size + 1, 4, none⟩ = some (.int .i64 (of xs).h) := (blk x1).1 4
      have E0 := Lib.hid e0
      clear hxs he x1 d0 hn e0
      have p0 := c0 0
      have p1 := c0 1
      have p2 := c0 2
      have p3 := c0 3
      have p4 := c0 4
      go_wp2_with fail
      rw [E0.out]
      refine bodyPost_ret (v := .agg #[.int .i64 (n : Int), .int .i64 (of xs).s, .int .i64 (of xs).lo, .int .i64 (of xs).hi, .int .i64 (of xs).h]) (by simp [results, Try.results10, go_sem, p0, p1, p2, p3, p4]) rfl ⟨rfl, ?_⟩
      exact (((((hb).setCell (p := ⟨w.heap.size, 0, none⟩) (Nat.le_refl _) _).setCell (p := ⟨w.heap.size, 1, none⟩) (Nat.le_refl _) _).setCell (p := ⟨w.heap.size, 2, none⟩) (Nat.le_refl _) _).setCell (p := ⟨w.heap.size, 3, none⟩) (Nat.le_refl _) _).setCell (p := ⟨w.heap.size, 4, none⟩) (Nat.le_refl _) _
end MN
end Go.Proofs.Ytnddeelnfbgljaa
