/-
  Splay: who is asked comes up, from the left. Conditions: sizes below 2^62.
-/
import Derived.Test.YtdhknhhahdjeeaaSplayWalks
namespace Go.Proofs.Ytdhknhhahdjeeaa.SPL
open Go.RowKit Go.Deep
open Go.Proofs.Ytdhknhhahdjeeaa Go.Proofs.Ytdhknhhahdjeeaa.ST

set_option linter.unusedVariables false
set_option maxRecDepth 100000 in
set_option maxHeartbeats 1600000 in
theorem upL3 (c c2 : Bool) (y z x : Int) (ll lr tr : ST) (p : Option Addr) (w : World) (h : In w p (.node c y (.node c2 z ll lr) tr)) (hs : (ST.node c y (.node c2 z ll lr) tr).size ≤ 4611686018427387904) (hx : x < y)
    (ih : ∀ s : ST, s.size < (ST.node c y (.node c2 z ll lr) tr).size → ∀ (p : Option Addr) (w : World), In w p s → Calls Try.prog 38 #[.pointer p, .int .i64 x] w fun e w' => ∃ q, e = .returned (.pointer q) ∧ In w' q (up s x) ∧ Below w.heap.size w w') (h1 : ¬ (x < z ∧ ll ≠ .nil)) (h2 : ¬ (z < x ∧ lr ≠ .nil)) :
    Calls Try.prog 53 #[.pointer p, .int .i64 x] w fun e w' => ∃ q, e = .returned (.pointer q) ∧ In w' q (up (.node c y (.node c2 z ll lr) tr) x) ∧ Below w.heap.size w w' := by
  have e : up (.node c y (.node c2 z ll lr) tr) x = rotR (.node c y (.node c2 z ll lr) tr) := by
    conv => lhs; unfold up
    simp only
    rw [if_pos hx]
    rw [if_neg h1, if_neg h2]
  rw [e]
  clear e
  simp only [size] at hs
  have RT := right_any c c2 y z ll lr tr _ w h (by simp only [size]; omega)
  have RH := Lib.hid RT
  clear RT ih
  obtain ⟨k, pl, pr, rfl, klt, k0, k1, k2, k3, hl, hr⟩ := h.open
  have hl' := hl
  obtain ⟨j, pa, pb, rfl, jlt, j0, j1, j2, j3, ha, hb⟩ := hl'.open
  by_cases hz : x < z
  · obtain rfl : ll = .nil := Decidable.byContradiction fun hn => h1 ⟨hz, hn⟩
    obtain rfl : pa = none := ha
    clear h1 h2
    have d1 : decide (x < z) = true := by simp [hz]
    have d2 : decide (z < x) = false := by simp; omega
    have d3 : ¬ z < x := by omega
    go_enter Try.func53, Try.ntmps53
    go_wp2_with fail
    refine RH.out.mono ?_
    rintro e w1 ⟨p1, rfl, hi1, hb1⟩
    go_wp2_with fail
    go_ret
    exact ⟨_, rfl, hi1, hb1⟩
  · by_cases hz2 : z < x
    · clear hz; have hz := hz2; clear hz2
      obtain rfl : lr = .nil := Decidable.byContradiction fun hn => h2 ⟨hz, hn⟩
      obtain rfl : pb = none := hb
      clear h1 h2
      have d1 : decide (z < x) = true := by simp [hz]
      have d2 : decide (x < z) = false := by simp; omega
      have d3 : ¬ x < z := by omega
      go_enter Try.func53, Try.ntmps53
      go_wp2_with fail
      refine RH.out.mono ?_
      rintro e w1 ⟨p1, rfl, hi1, hb1⟩
      go_wp2_with fail
      go_ret
      exact ⟨_, rfl, hi1, hb1⟩
    · obtain rfl : x = z := by omega
      have d1 : decide (x < x) = false := by simp
      have d2 : ¬ x < x := by omega
      clear h1 h2 hz hz2
      go_enter Try.func53, Try.ntmps53
      go_wp2_with fail
      refine RH.out.mono ?_
      rintro e w1 ⟨p1, rfl, hi1, hb1⟩
      go_wp2_with fail
      go_ret
      exact ⟨_, rfl, hi1, hb1⟩
end Go.Proofs.Ytdhknhhahdjeeaa.SPL
