/-
  Wbt: an even tree of two. Conditions: sizes below 2^60.
-/
import Derived.Test.YtchglmgbnmdffaaWbtTurnL
import Derived.Test.YtchglmgbnmdffaaWbtTurnR
namespace Go.Proofs.Ytchglmgbnmdffaa.WBT
open Go.RowKit Go.Deep
open Go.Proofs.Ytchglmgbnmdffaa Go.Proofs.Ytchglmgbnmdffaa.ST

set_option linter.unusedVariables false
set_option maxRecDepth 100000 in
set_option maxHeartbeats 1600000 in
theorem even_any (tl tr : ST) (x : Int) (pl pr : Option Addr) (w : World) (hl : In w pl tl) (hr : In w pr tr) (hs : tl.size + tr.size ≤ 1152921504606846976) :
    Calls Try.prog 67 #[.pointer pl, .int .i64 x, .pointer pr] w fun e w' => ∃ q, e = .returned (.pointer q) ∧ In w' q (even tl x tr) ∧ Below w.heap.size w w' := by
  by_cases h1 : 3 * wt tl < wt tr
  · have H1 := heavy_b tr tl true pr pl w hr hl (by omega) (by simp [h1])
    cases tr with
    | nil => have := wt_pos tl; rw [wt_nil] at h1; omega
    | node c y ta tb =>
      have T := turnL_any c y x ta tb tl pl pr w hr hl (by simp only [size] at hs; omega)
      have e : even tl x (.node c y ta tb) = turnL tl x (.node c y ta tb) := by unfold even; rw [if_pos h1]
      rw [e]
      have HH := Lib.hid H1
      have TH := Lib.hid T
      clear H1 T e h1
      go_enter Try.func67, Try.ntmps67
      go_wp2_with fail
      refine (HH.out).mono ?_
      rintro e w' ⟨rfl, rfl⟩
      go_wp2_with fail
      refine (TH.out).mono ?_
      rintro e w1 ⟨p1, rfl, hi1, bw1⟩
      go_wp2_with fail
      go_ret
      exact ⟨_, rfl, hi1, bw1⟩
  · have H1 := heavy_b tr tl false pr pl w hr hl (by omega) (by simp; omega)
    by_cases h2 : 3 * wt tr < wt tl
    · have H2 := heavy_b tl tr true pl pr w hl hr (by omega) (by simp [h2])
      cases tl with
      | nil => have := wt_pos tr; rw [wt_nil] at h2; omega
      | node c y ta tb =>
        have T := turnR_any c y x ta tb tr pl pr w hl hr (by simp only [size] at hs; omega)
        have e : even (.node c y ta tb) x tr = turnR x tr (.node c y ta tb) := by unfold even; rw [if_neg h1, if_pos h2]
        rw [e]
        have HH := Lib.hid H1
        have HH2 := Lib.hid H2
        have TH := Lib.hid T
        clear H1 H2 T e h1 h2
        go_enter Try.func67, Try.ntmps67
        go_wp2_with fail
        refine (HH.out).mono ?_
        rintro e w' ⟨rfl, rfl⟩
        go_wp2_with fail
        refine (HH2.out).mono ?_
        rintro e w' ⟨rfl, rfl⟩
        go_wp2_with fail
        refine (TH.out).mono ?_
        rintro e w1 ⟨p1, rfl, hi1, bw1⟩
        go_wp2_with fail
        go_ret
        exact ⟨_, rfl, hi1, bw1⟩
    · have H2 := heavy_b tl tr false pl pr w hl hr (by omega) (by simp; omega)
      have T := made_any tl tr x pl pr w hl hr (by omega)
      have e : even tl x tr = mk tl x tr := by unfold even; rw [if_neg h1, if_neg h2]
      rw [e]
      have HH := Lib.hid H1
      have HH2 := Lib.hid H2
      have TH := Lib.hid T
      clear H1 H2 T e h1 h2
      go_enter Try.func67, Try.ntmps67
      go_wp2_with fail
      refine (HH.out).mono ?_
      rintro e w' ⟨rfl, rfl⟩
      go_wp2_with fail
      refine (HH2.out).mono ?_
      rintro e w' ⟨rfl, rfl⟩
      go_wp2_with fail
      refine (TH.out).mono ?_
      rintro e w1 ⟨p1, rfl, hi1, bw1⟩
      go_wp2_with fail
      go_ret
      exact ⟨_, rfl, hi1, bw1⟩
end Go.Proofs.Ytchglmgbnmdffaa.WBT
