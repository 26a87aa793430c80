/-
  Splay: who is asked comes up, from the right. Conditions: sizes below 2^62.
-/
import Derived.Test.YtdhknhhahdjeeaaSplayWalks
namespace Go.Proofs.Ytdhknhhahdjeeaa.SPL
open Go.RowKit Go.Deep
open Go.Proofs.Ytdhknhhahdjeeaa Go.Proofs.Ytdhknhhahdjeeaa.ST

set_option linter.unusedVariables false
set_option maxRecDepth 100000 in
set_option maxHeartbeats 1600000 in
theorem upR3 (c c2 : Bool) (y z x : Int) (rl rr tl : ST) (p : Option Addr) (w : World) (h : In w p (.node c y tl (.node c2 z rl rr))) (hs : (ST.node c y tl (.node c2 z rl rr)).size ≤ 4611686018427387904) (hx : y < x)
    (ih : ∀ s : ST, s.size < (ST.node c y tl (.node c2 z rl rr)).size → ∀ (p : Option Addr) (w : World), In w p s → Calls Try.prog 38 #[.pointer p, .int .i64 x] w fun e w' => ∃ q, e = .returned (.pointer q) ∧ In w' q (up s x) ∧ Below w.heap.size w w') (h1 : ¬ (z < x ∧ rr ≠ .nil)) (h2 : ¬ (x < z ∧ rl ≠ .nil)) :
    Calls Try.prog 54 #[.pointer p, .int .i64 x] w fun e w' => ∃ q, e = .returned (.pointer q) ∧ In w' q (up (.node c y tl (.node c2 z rl rr)) x) ∧ Below w.heap.size w w' := by
  have e : up (.node c y tl (.node c2 z rl rr)) x = rotL (.node c y tl (.node c2 z rl rr)) := by
    conv => lhs; unfold up
    simp only
    rw [if_neg (by omega), if_pos hx]
    rw [if_neg h1, if_neg h2]
  rw [e]
  clear e
  simp only [size] at hs
  have RT := left_any c c2 y z rl rr tl _ w h (by simp only [size]; omega)
  have RH := Lib.hid RT
  clear RT ih
  obtain ⟨k, pl, pr, rfl, klt, k0, k1, k2, k3, hl, hr⟩ := h.open
  have hr' := hr
  obtain ⟨j, pa, pb, rfl, jlt, j0, j1, j2, j3, ha, hb⟩ := hr'.open
  by_cases hz : x < z
  · obtain rfl : rl = .nil := Decidable.byContradiction fun hn => h2 ⟨hz, hn⟩
    obtain rfl : pa = none := ha
    clear h1 h2
    have d1 : decide (x < z) = true := by simp [hz]
    have d2 : decide (z < x) = false := by simp; omega
    have d3 : ¬ z < x := by omega
    go_enter Try.func54, Try.ntmps54
    go_wp2_with fail
    refine RH.out.mono ?_
    rintro e w1 ⟨p1, rfl, hi1, hb1⟩
    go_wp2_with fail
    go_ret
    exact ⟨_, rfl, hi1, hb1⟩
  · by_cases hz2 : z < x
    · clear hz; have hz := hz2; clear hz2
      obtain rfl : rr = .nil := Decidable.byContradiction fun hn => h1 ⟨hz, hn⟩
      obtain rfl : pb = none := hb
      clear h1 h2
      have d1 : decide (z < x) = true := by simp [hz]
      have d2 : decide (x < z) = false := by simp; omega
      have d3 : ¬ x < z := by omega
      go_enter Try.func54, Try.ntmps54
      go_wp2_with fail
      refine RH.out.mono ?_
      rintro e w1 ⟨p1, rfl, hi1, hb1⟩
      go_wp2_with fail
      go_ret
      exact ⟨_, rfl, hi1, hb1⟩
    · obtain rfl : x = z := by omega
      have d1 : decide (x < x) = false := by simp
      have d2 : ¬ x < x := by omega
      clear h1 h2 hz hz2
      go_enter Try.func54, Try.ntmps54
      go_wp2_with fail
      refine RH.out.mono ?_
      rintro e w1 ⟨p1, rfl, hi1, hb1⟩
      go_wp2_with fail
      go_ret
      exact ⟨_, rfl, hi1, hb1⟩
end Go.Proofs.Ytdhknhhahdjeeaa.SPL
