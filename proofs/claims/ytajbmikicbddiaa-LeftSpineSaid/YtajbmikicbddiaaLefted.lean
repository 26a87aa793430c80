/-
  Leftist heaps: the fact that each law asks first. Conditions: none.
-/
import Derived.Test.YtajbmikicbddiaaLeftInts
import Derived.Test.YtajbmikicbddiaaRefSort
namespace Go.Proofs.Ytajbmikicbddiaa
open Go.RowKit Go.Deep
namespace LT
theorem fact_of : ofL [5, 3] = node 3 (node 5 nil nil) nil := by
  have e1 : ofL [5, 3] = merged (merged nil (one 5)) (one 3) := rfl
  rw [e1, merged_nil_left, one_eq, one_eq, merged_low _ _ _ _ _ _ (by decide), merged_nil_left]
  unfold mk
  rw [if_pos (by decide)]
theorem fact_least : (ofL [5, 3]).least = (3, true) := by rw [fact_of]; rfl
theorem fact_pop : (pop (ofL [5, 3])).size = 1 := by rw [fact_of, pop, merged_nil_right]; rfl

set_option maxHeartbeats 800000 in
theorem lefted_any (w : World) : Calls Try.prog 12 #[] w fun e w' => e = .returned (.bool true) ∧ Below w.heap.size w w' := by
  go_enter Try.func12, Try.ntmps12
  go_wp2_with fail
  refine (of_any _ _ _ [5, 3] _ (Sl.two _ _ _ _) (by decide)).mono ?_
  rintro e w1 ⟨q1, rfl, hi1, hb1⟩
  obtain ⟨hb1, _⟩ := hold1 hb1 ⟨rfl, rfl, rfl, rfl⟩
  go_wp2_with fail
  refine (pop_any _ q1 _ hi1 (by rw [ofL_size]; decide)).mono ?_
  rw [fact_least]
  rintro e w2 ⟨q2, rfl, hi2, hb2⟩
  go_wp2_with fail
  refine (len_any _ q2 _ (hi2.alloc _)).mono ?_
  rw [fact_pop]
  rintro e w3 ⟨rfl, hb3⟩
  obtain ⟨hb3, _⟩ := hold1 hb3 ⟨rfl, rfl, rfl, rfl⟩
  go_wp2_with fail
  go_ret
  exact ⟨rfl, below_then (below_then hb1 hb2) hb3⟩
end LT
end Go.Proofs.Ytajbmikicbddiaa
