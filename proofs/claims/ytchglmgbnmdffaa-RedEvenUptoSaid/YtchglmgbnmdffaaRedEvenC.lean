/-
  Red: a turn. Conditions: sizes below 2^60.
-/
import Derived.Test.YtchglmgbnmdffaaRedWalks
namespace Go.Proofs.Ytchglmgbnmdffaa.RED
open Go.RowKit Go.Deep
open Go.Proofs.Ytchglmgbnmdffaa Go.Proofs.Ytchglmgbnmdffaa.ST

set_option linter.unusedVariables false
set_option maxRecDepth 100000 in
set_option maxHeartbeats 1600000 in
theorem even_F_F (x : Int) (tl : ST) (tr : ST) (fl : isRed tl = false) (fr : isRed tr = false) (pl pr : Option Addr) (w : World) (hl : In w pl tl) (hr : In w pr tr) (hs : tl.size + tr.size ≤ 1152921504606846970) :
    Calls Try.prog 71 #[.pointer pl, .int .i64 x, .pointer pr] w fun e w' => ∃ q, e = .returned (.pointer q) ∧ In w' q (even tl x tr) ∧ Below w.heap.size w w' := by
  have e : even tl x tr = .node false x tl tr := by
    simp [even, left, right, fl, fr]
  rw [e]
  clear e
  have L0 := isred_b tl false pl w hl fl
  have R0 := isred_b tr false pr w hr fr
  have HL0 := Lib.hid L0
  have HR0 := Lib.hid R0
  clear L0 R0 fl fr
  go_enter Try.func71, Try.ntmps71
  go_wp2_with fail
  refine (HL0.out).mono ?_
  rintro e w' ⟨rfl, rfl⟩
  go_wp2_with fail
  refine (HL0.out).mono ?_
  rintro e w' ⟨rfl, rfl⟩
  go_wp2_with fail
  refine (HR0.out).mono ?_
  rintro e w' ⟨rfl, rfl⟩
  go_wp2_with fail
  refine (HR0.out).mono ?_
  rintro e w' ⟨rfl, rfl⟩
  go_wp2_with fail
  refine (made_any false tl tr x _ _ _ hl hr (by first | omega | (simp only [size]; omega))).mono ?_
  rintro e w1 ⟨p1, rfl, hi1, bw1⟩
  go_wp2_with fail
  go_ret
  exact ⟨_, rfl, hi1, bw1⟩

set_option linter.unusedVariables false
set_option maxRecDepth 100000 in
set_option maxHeartbeats 1600000 in
theorem even_F_TFF (x : Int) (tl : ST) (u : Int) (rb rc : ST) (fl : isRed tl = false) (fr : isRed rb = false) (gr : isRed rc = false) (pl pr : Option Addr) (w : World) (hl : In w pl tl) (hr : In w pr (.node true u rb rc)) (hs : tl.size + (ST.node true u rb rc).size ≤ 1152921504606846970) :
    Calls Try.prog 71 #[.pointer pl, .int .i64 x, .pointer pr] w fun e w' => ∃ q, e = .returned (.pointer q) ∧ In w' q (even tl x (.node true u rb rc)) ∧ Below w.heap.size w w' := by
  have e : even tl x (.node true u rb rc) = .node false x tl (.node true u rb rc) := by
    simp [even, isRed_node, left, right, fl, fr, gr]
  rw [e]
  clear e
  simp only [size] at hs
  have L0 := isred_b tl false pl w hl fl
  have R0 := isred_b (.node true u rb rc) true pr w hr rfl
  have hro := hr
  obtain ⟨rnb, rp, rq, rfl, rklt, rk0, rk1, rk2, rk3, rk4, hr1, hr2⟩ := hro.open
  have R1 := isred_b rb false _ w hr1 fr
  have R2 := isred_b rc false _ w hr2 gr
  have HL0 := Lib.hid L0
  have HR0 := Lib.hid R0
  have HR1 := Lib.hid R1
  have HR2 := Lib.hid R2
  clear L0 R0 R1 R2 fl fr gr
  go_enter Try.func71, Try.ntmps71
  go_wp2_with fail
  refine (HL0.out).mono ?_
  rintro e w' ⟨rfl, rfl⟩
  go_wp2_with fail
  refine (HL0.out).mono ?_
  rintro e w' ⟨rfl, rfl⟩
  go_wp2_with fail
  refine (HR0.out).mono ?_
  rintro e w' ⟨rfl, rfl⟩
  go_wp2_with fail
  refine (HR1.out).mono ?_
  rintro e w' ⟨rfl, rfl⟩
  go_wp2_with fail
  refine (HR0.out).mono ?_
  rintro e w' ⟨rfl, rfl⟩
  go_wp2_with fail
  refine (HR2.out).mono ?_
  rintro e w' ⟨rfl, rfl⟩
  go_wp2_with fail
  refine (made_any false tl (.node true u rb rc) x _ _ _ hl hr (by first | omega | (simp only [size]; omega))).mono ?_
  rintro e w1 ⟨p1, rfl, hi1, bw1⟩
  go_wp2_with fail
  go_ret
  exact ⟨_, rfl, hi1, bw1⟩
end Go.Proofs.Ytchglmgbnmdffaa.RED
