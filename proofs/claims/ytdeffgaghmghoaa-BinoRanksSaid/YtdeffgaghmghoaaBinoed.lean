/-
  Binomial heaps: the fact that each law asks first. Conditions: none.
-/
import Derived.Test.YtdeffgaghmghoaaBinoInts
import Derived.Test.YtdeffgaghmghoaaRefSort
namespace Go.Proofs.Ytdeffgaghmghoaa
open Go.RowKit Go.Deep
namespace BH
theorem fact_least : (ofL [5, 3]).least = (3, true) := by decide
theorem fact_pop : (pop (ofL [5, 3])).size = 1 := by decide
set_option maxHeartbeats 800000 in
theorem binoed_any (w : World) : Calls Try.prog 6 #[] w fun e w' => e = .returned (.bool true) ∧ Below w.heap.size w w' := by
  go_enter Try.func6, Try.ntmps6
  go_wp2_with fail
  refine (of_any _ _ _ [5, 3] _ (Sl.two _ _ _ _) (by decide)).mono ?_
  rintro e w1 ⟨q1, n1, c1, rfl, hi1, hb1⟩
  obtain ⟨hb1, _⟩ := hold1 hb1 ⟨rfl, rfl, rfl, rfl⟩
  go_wp2_with fail
  refine (pop_any _ q1 n1 c1 _ hi1).mono ?_
  rw [fact_least]
  rintro e w2 ⟨q2, n2, c2, rfl, hi2, hb2⟩
  go_wp2_with fail
  refine (len_any _ q2 n2 c2 _ (hi2.alloc _)).mono ?_
  rw [fact_pop]
  rintro e w3 ⟨rfl, hb3⟩
  obtain ⟨hb3, _⟩ := hold1 hb3 ⟨rfl, rfl, rfl, rfl⟩
  go_wp2_with fail
  go_ret
  exact ⟨rfl, below_then (below_then hb1 hb2) hb3⟩
end BH
end Go.Proofs.Ytdeffgaghmghoaa
