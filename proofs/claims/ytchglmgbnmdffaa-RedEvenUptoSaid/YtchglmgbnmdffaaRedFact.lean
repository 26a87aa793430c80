/-
  Red: the fact that each law asks first. Conditions: none.
-/
import Derived.Test.YtchglmgbnmdffaaRedKit
namespace Go.Proofs.Ytchglmgbnmdffaa.RED
open Go.RowKit Go.Deep
open Go.Proofs.Ytchglmgbnmdffaa Go.Proofs.Ytchglmgbnmdffaa.ST

set_option maxHeartbeats 800000 in
theorem fact_any (w : World) : Calls Try.prog 37 #[] w fun e w' => e = .returned (.bool true) ∧ Below w.heap.size w w' := by
  have e1 : (ofL [5, 3]).size = 2 := by rw [← toL_length, ofL_once, once_53]; rfl
  have e2 : decide ((3 : Int) ∈ (ofL [5, 3]).toL) = true := by rw [ofL_once, once_53]; decide
  have e3 : decide ((4 : Int) ∈ (ofL [5, 3]).toL) = false := by rw [ofL_once, once_53]; decide
  have g := ofL_good [5, 3]
  go_enter Try.func37, Try.ntmps37
  go_wp2_with fail
  refine (of_any _ _ _ [5, 3] _ (Sl.two _ _ _ _) (by decide)).mono ?_
  rintro e w1 ⟨q1, rfl, hi1, hb1⟩
  obtain ⟨hb1, _⟩ := hold1 hb1 ⟨rfl, rfl, rfl, rfl⟩
  obtain ⟨T, hT⟩ : ∃ T, ofL [5, 3] = T := ⟨_, rfl⟩
  rw [hT] at e1 e2 e3 g hi1
  clear hT
  have zT : T.size ≤ 2 := by omega
  go_wp2_with fail
  refine (len_set _ q1 _ (hi1.alloc _)).mono ?_
  rw [e1]
  rintro e w2 ⟨rfl, hb2⟩
  obtain ⟨hb2, x2⟩ := hold1 hb2 ⟨rfl, rfl, rfl, rfl⟩
  have c2 := (blk x2).1 0
  have hi2 := hi1.below hb2
  have E2 := Lib.hid e2
  have E3 := Lib.hid e3
  clear e1 e2 e3
  go_wp2_with fail
  refine (has_b T 3 true q1 _ hi2 g (by omega) E2.out).mono ?_
  rintro e w3 ⟨rfl, hb3⟩
  have x3 := blk_below x2 hb3
  have c3 := (blk x3).1 0
  have hi3 := hi2.below hb3
  go_wp2_with fail
  refine (has_b T 4 false q1 _ hi3 g (by omega) E3.out).mono ?_
  rintro e w4 ⟨rfl, hb4⟩
  go_wp2_with fail
  go_ret
  exact ⟨rfl, below_then (below_then (below_then hb1 hb2) hb3) hb4⟩
end Go.Proofs.Ytchglmgbnmdffaa.RED
