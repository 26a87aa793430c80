/-
  Splay: who is asked comes up. Conditions: sizes below 2^62.
-/
import Derived.Test.YtdhknhhahdjeeaaSplayUpL1
import Derived.Test.YtdhknhhahdjeeaaSplayUpL2
import Derived.Test.YtdhknhhahdjeeaaSplayUpL3
import Derived.Test.YtdhknhhahdjeeaaSplayUpR1
import Derived.Test.YtdhknhhahdjeeaaSplayUpR2
import Derived.Test.YtdhknhhahdjeeaaSplayUpR3
namespace Go.Proofs.Ytdhknhhahdjeeaa.SPL
open Go.RowKit Go.Deep
open Go.Proofs.Ytdhknhhahdjeeaa Go.Proofs.Ytdhknhhahdjeeaa.ST

theorem upL_any (c c2 : Bool) (y z x : Int) (ll lr tr : ST) (p : Option Addr) (w : World) (h : In w p (.node c y (.node c2 z ll lr) tr)) (hs : (ST.node c y (.node c2 z ll lr) tr).size ≤ 4611686018427387904) (hx : x < y)
    (ih : ∀ s : ST, s.size < (ST.node c y (.node c2 z ll lr) tr).size → ∀ (p : Option Addr) (w : World), In w p s → Calls Try.prog 38 #[.pointer p, .int .i64 x] w fun e w' => ∃ q, e = .returned (.pointer q) ∧ In w' q (up s x) ∧ Below w.heap.size w w') :
    Calls Try.prog 53 #[.pointer p, .int .i64 x] w fun e w' => ∃ q, e = .returned (.pointer q) ∧ In w' q (up (.node c y (.node c2 z ll lr) tr) x) ∧ Below w.heap.size w w' := by
  by_cases h1 : x < z ∧ ll ≠ .nil
  · exact upL1 c c2 y z x ll lr tr p w h hs hx ih h1.1 h1.2
  · by_cases h2 : z < x ∧ lr ≠ .nil
    · exact upL2 c c2 y z x ll lr tr p w h hs hx ih h2.1 h2.2
    · exact upL3 c c2 y z x ll lr tr p w h hs hx ih h1 h2

theorem upR_any (c c2 : Bool) (y z x : Int) (rl rr tl : ST) (p : Option Addr) (w : World) (h : In w p (.node c y tl (.node c2 z rl rr))) (hs : (ST.node c y tl (.node c2 z rl rr)).size ≤ 4611686018427387904) (hx : y < x)
    (ih : ∀ s : ST, s.size < (ST.node c y tl (.node c2 z rl rr)).size → ∀ (p : Option Addr) (w : World), In w p s → Calls Try.prog 38 #[.pointer p, .int .i64 x] w fun e w' => ∃ q, e = .returned (.pointer q) ∧ In w' q (up s x) ∧ Below w.heap.size w w') :
    Calls Try.prog 54 #[.pointer p, .int .i64 x] w fun e w' => ∃ q, e = .returned (.pointer q) ∧ In w' q (up (.node c y tl (.node c2 z rl rr)) x) ∧ Below w.heap.size w w' := by
  by_cases h1 : z < x ∧ rr ≠ .nil
  · exact upR1 c c2 y z x rl rr tl p w h hs hx ih h1.1 h1.2
  · by_cases h2 : x < z ∧ rl ≠ .nil
    · exact upR2 c c2 y z x rl rr tl p w h hs hx ih h2.1 h2.2
    · exact upR3 c c2 y z x rl rr tl p w h hs hx ih h1 h2

set_option maxRecDepth 100000 in
set_option maxHeartbeats 1600000 in
theorem up_n (x : Int) : ∀ (n : Nat) (t : ST), t.size ≤ n → t.size ≤ 4611686018427387904 → ∀ (p : Option Addr) (w : World), In w p t →
    Calls Try.prog 38 #[.pointer p, .int .i64 x] w fun e w' => ∃ q, e = .returned (.pointer q) ∧ In w' q (up t x) ∧ Below w.heap.size w w' := by
  intro n
  induction n with
  | zero =>
    intro t ht hs p w h
    cases t with
    | node c y l r => simp only [size] at ht; omega
    | nil =>
      rw [up]
      obtain rfl : p = none := h
      clear ht hs
      go_enter Try.func38, Try.ntmps38
      go_wp2_with fail
      go_ret
      exact ⟨none, rfl, rfl, Below.refl _ _⟩
  | succ n ih =>
    intro t ht hs p w h
    cases t with
    | nil =>
      rw [up]
      obtain rfl : p = none := h
      clear ht hs ih
      go_enter Try.func38, Try.ntmps38
      go_wp2_with fail
      go_ret
      exact ⟨none, rfl, rfl, Below.refl _ _⟩
    | node c y l r =>
      have hs' := hs
      simp only [size] at hs ht
      have hh := h
      obtain ⟨k, pl, pr, rfl, klt, k0, k1, k2, k3, hl, hr⟩ := hh.open
      by_cases hx : x < y
      · have d1 : decide (x < y) = true := by simp [hx]
        have d2 : decide (y < x) = false := by simp; omega
        have d3 : ¬ y < x := by omega
        have d4 : (x == y) = false := by simp; omega
        have d5 : ¬ x = y := by omega
        cases l with
        | nil =>
          have e : up (.node c y .nil r) x = .node c y .nil r := by unfold up; simp only; rw [if_pos hx]
          rw [e]
          clear e
          obtain rfl : pl = none := hl
          clear ih
          go_enter Try.func38, Try.ntmps38
          go_wp2_with fail
          go_ret
          exact ⟨_, rfl, h, Below.refl _ _⟩
        | node c2 z ll lr =>
          have K := upL_any c c2 y z x ll lr r _ w h hs' hx (fun s hs2 p w hi => ih s (by simp only [size] at hs2 ht; omega) (by simp only [size] at hs2 hs; omega) p w hi)
          obtain ⟨b2, _, _, rfl, _⟩ := hl
          have KH := Lib.hid K
          clear K ih
          go_enter Try.func38, Try.ntmps38
          go_wp2_with fail
          refine KH.out.mono ?_
          rintro e w1 ⟨p1, rfl, hi1, hb1⟩
          go_wp2_with fail
          go_ret
          exact ⟨_, rfl, hi1, hb1⟩
      · by_cases hy : y < x
        · have d1 : decide (x < y) = false := by simp; omega
          have d2 : decide (y < x) = true := by simp [hy]
          have d4 : (x == y) = false := by simp; omega
          have d5 : ¬ x = y := by omega
          cases r with
          | nil =>
            have e : up (.node c y l .nil) x = .node c y l .nil := by unfold up; simp only; rw [if_neg hx, if_pos hy]
            rw [e]
            clear e
            obtain rfl : pr = none := hr
            clear ih
            go_enter Try.func38, Try.ntmps38
            go_wp2_with fail
            go_ret
            exact ⟨_, rfl, h, Below.refl _ _⟩
          | node c2 z rl rr =>
            have K := upR_any c c2 y z x rl rr l _ w h hs' hy (fun s hs2 p w hi => ih s (by simp only [size] at hs2 ht; omega) (by simp only [size] at hs2 hs; omega) p w hi)
            obtain ⟨b2, _, _, rfl, _⟩ := hr
            have KH := Lib.hid K
            clear K ih
            go_enter Try.func38, Try.ntmps38
            go_wp2_with fail
            refine KH.out.mono ?_
            rintro e w1 ⟨p1, rfl, hi1, hb1⟩
            go_wp2_with fail
            go_ret
            exact ⟨_, rfl, hi1, hb1⟩
        · obtain rfl : x = y := by omega
          have e : up (.node c x l r) x = .node c x l r := by unfold up; rw [if_neg hx, if_neg hy]
          rw [e]
          clear e hx hy ih
          go_enter Try.func38, Try.ntmps38
          go_wp2_with fail
          go_ret
          exact ⟨_, rfl, h, Below.refl _ _⟩

theorem up_any (t : ST) (x : Int) (p : Option Addr) (w : World) (h : In w p t) (hs : t.size ≤ 4611686018427387904) :
    Calls Try.prog 38 #[.pointer p, .int .i64 x] w fun e w' => ∃ q, e = .returned (.pointer q) ∧ In w' q (up t x) ∧ Below w.heap.size w w' := up_n x t.size t (Nat.le_refl _) hs p w h
end Go.Proofs.Ytdhknhhahdjeeaa.SPL
