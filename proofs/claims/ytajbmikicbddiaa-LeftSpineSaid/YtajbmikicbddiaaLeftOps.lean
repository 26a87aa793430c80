/-
  Leftist heaps: the package's exported functions, as plain trees. Conditions: sizes below 2^62.
-/
import Derived.Test.YtajbmikicbddiaaLeftMerged
namespace Go.Proofs.Ytajbmikicbddiaa
open Go.RowKit Go.Deep
namespace LT

set_option maxHeartbeats 800000 in
theorem push_any (x : Int) (t : LT) (p : Option Addr) (w : World) (h : In w p t) (hs : t.size + 1 ≤ 4611686018427387904) :
    Calls Try.prog 18 #[.agg #[.pointer p], .int .i64 x] w fun e w' => ∃ q, e = .returned (.agg #[.pointer q]) ∧ In w' q (push t x) ∧ Below w.heap.size w w' := by
  go_enter Try.func18, Try.ntmps18
  go_wp2_with fail
  go_region_held3 (fun w' => w'.cell? ⟨w.heap.size, 0, none⟩ = some (.pointer p)) (go_keep) (first
    | (go_at_call 44; refine (made_any x .nil .nil none none _ rfl rfl (by simp [size])).mono ?_; rintro e w1 ⟨p1, rfl, hi1, hb1⟩; obtain ⟨hb1, x0, x1⟩ := hold2 hb1 ⟨rfl, rfl, rfl, rfl⟩; obtain ⟨a0, a1, a2⟩ := blk x0; obtain ⟨b0, b1, b2⟩ := blk x1)
    | (go_at_call 41; refine (merged_any _ t (one x) p p1 _ (Nat.le_refl _) (h.below hb1) hi1 (by simp [one_eq, size]; omega)).mono ?_; rintro e w2 ⟨p2, rfl, hi2, hb2⟩; obtain ⟨c0, c1, c2⟩ := blk (blk_below x0 hb2); obtain ⟨d0, d1, d2⟩ := blk (blk_below x1 hb2)))
  go_wp2_with fail
  have f1 := blk_below x1 hb2
  refine bodyPost_ret (v := .agg #[.pointer p2]) (by simp [results, Try.results18, go_sem, d0]) rfl ⟨p2, rfl, hi2.keep (.setCell f1 (by decide)), (below_then hb1 hb2).setCell (p := ⟨w.heap.size + 1, 0, none⟩) (by simp) _⟩
end LT
end Go.Proofs.Ytajbmikicbddiaa
