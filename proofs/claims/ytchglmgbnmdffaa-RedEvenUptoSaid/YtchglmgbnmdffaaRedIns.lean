/-
  Red: a number that is not there is put. Conditions: sizes below 2^60.
-/
import Derived.Test.YtchglmgbnmdffaaRedEven
namespace Go.Proofs.Ytchglmgbnmdffaa.RED
open Go.RowKit Go.Deep
open Go.Proofs.Ytchglmgbnmdffaa Go.Proofs.Ytchglmgbnmdffaa.ST

set_option linter.unusedVariables false
set_option maxRecDepth 100000 in
set_option maxHeartbeats 1600000 in
theorem ins_any (t : ST) (x : Int) : ∀ (p : Option Addr) (w : World), In w p t → t.size ≤ 576460752303423488 →
    Calls Try.prog 59 #[.pointer p, .int .i64 x] w fun e w' => ∃ q, e = .returned (.pointer q) ∧ In w' q (ins t x) ∧ Below w.heap.size w w' := by
  induction t with
  | nil =>
    intro p w h hs
    obtain rfl : p = none := h
    rw [show ins .nil x = .node true x .nil .nil from rfl]
    go_enter Try.func59, Try.ntmps59
    go_wp2_with fail
    refine (made_any true .nil .nil x none none _ rfl rfl (by decide)).mono ?_
    rintro e w1 ⟨p1, rfl, hi1, bw1⟩
    go_wp2_with fail
    go_ret
    exact ⟨_, rfl, hi1, bw1⟩
  | node c y l r ihl ihr =>
    intro p w h hs
    have hs' := hs
    simp only [size] at hs'
    obtain ⟨b, pl, pr, rfl, klt, k0, k1, k2, k3, k4, hl, hr⟩ := h.open
    have zl := ins_size l x
    have zr := ins_size r x
    cases c
    all_goals
      by_cases hx : x < y
      · skip
        have e1 : ∀ c, c = true → ins (.node c y l r) x = .node true y (ins l x) r := fun c hc => by subst hc; simp only [ins]; rw [if_pos hx]
        have e2 : ∀ c, c = false → ins (.node c y l r) x = even (ins l x) y r := fun c hc => by subst hc; simp only [ins]; rw [if_pos hx]
        have d1 : decide (x < y) = true := by simp [hx]
        first | rw [e1 _ rfl] | rw [e2 _ rfl]
        clear e1 e2
        go_enter Try.func59, Try.ntmps59
        go_wp2_with fail
        go_quiet (fail)
        go_wp2_with fail
        refine (ihl pl _ (hl.drewN _) (by omega)).mono ?_
        rintro e w1 ⟨p1, rfl, hi1, b1⟩
        replace b1 := below_of_drewN b1
        have s0 := (b1.cell (p := ⟨b, 0, none⟩) klt).trans k0
        have s1 := (b1.cell (p := ⟨b, 1, none⟩) klt).trans k1
        have klt1 := Nat.lt_of_lt_of_le klt b1.size
        have ho := hr.below b1
        go_wp2_with fail
        first
          | (refine (made_any true (ins l x) r y p1 pr _ hi1 ho (by omega)).mono ?_
             rintro e w2 ⟨p2, rfl, hi2, b2⟩
             go_wp2_with fail
             go_ret
             exact ⟨_, rfl, hi2, below_then b1 b2⟩)
          | (refine (even_any y (ins l x) r p1 pr _ hi1 ho (by omega)).mono ?_
             rintro e w2 ⟨p2, rfl, hi2, b2⟩
             go_wp2_with fail
             go_ret
             exact ⟨_, rfl, hi2, below_then b1 b2⟩)
      · skip
        have e1 : ∀ c, c = true → ins (.node c y l r) x = .node true y l (ins r x) := fun c hc => by subst hc; simp only [ins]; rw [if_neg hx]
        have e2 : ∀ c, c = false → ins (.node c y l r) x = even l y (ins r x) := fun c hc => by subst hc; simp only [ins]; rw [if_neg hx]
        have d1 : decide (x < y) = false := by simp; omega
        first | rw [e1 _ rfl] | rw [e2 _ rfl]
        clear e1 e2
        go_enter Try.func59, Try.ntmps59
        go_wp2_with fail
        go_quiet (fail)
        go_wp2_with fail
        refine (ihr pr _ (hr.drewN _) (by omega)).mono ?_
        rintro e w1 ⟨p1, rfl, hi1, b1⟩
        replace b1 := below_of_drewN b1
        have s0 := (b1.cell (p := ⟨b, 0, none⟩) klt).trans k0
        have s1 := (b1.cell (p := ⟨b, 1, none⟩) klt).trans k1
        have klt1 := Nat.lt_of_lt_of_le klt b1.size
        have ho := hl.below b1
        go_wp2_with fail
        first
          | (refine (made_any true l (ins r x) y pl p1 _ ho hi1 (by omega)).mono ?_
             rintro e w2 ⟨p2, rfl, hi2, b2⟩
             go_wp2_with fail
             go_ret
             exact ⟨_, rfl, hi2, below_then b1 b2⟩)
          | (refine (even_any y l (ins r x) pl p1 _ ho hi1 (by omega)).mono ?_
             rintro e w2 ⟨p2, rfl, hi2, b2⟩
             go_wp2_with fail
             go_ret
             exact ⟨_, rfl, hi2, below_then b1 b2⟩)
end Go.Proofs.Ytchglmgbnmdffaa.RED
