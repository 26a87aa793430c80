/-
  Trees of nearly even heights: what a turn makes in memory. Conditions: sizes below 2^62.
-/
import Derived.Test.YtinmmhjllmlimaaAvlWalks
import Derived.Test.YtinmmhjllmlimaaQuiet
namespace Go.Proofs.Ytinmmhjllmlimaa.AVL
open Go.RowKit Go.Deep
open Go.Proofs.Ytinmmhjllmlimaa Go.Proofs.Ytinmmhjllmlimaa.ST


set_option maxRecDepth 100000 in
set_option maxHeartbeats 400000 in
theorem even_mk (tl tr : ST) (x : Int) (pl pr : Option Addr) (w : World) (hl : In w pl tl) (hr : In w pr tr) (hs : tl.size + tr.size ≤ 4611686018427387904) (h1 : ¬ tr.height + 1 < tl.height) (h2 : ¬ tl.height + 1 < tr.height) :
    Calls Try.prog 72 #[.pointer pl, .int .i64 x, .pointer pr] w fun e w' => ∃ p, e = .returned (.pointer p) ∧ In w' p (even tl x tr) ∧ Below w.heap.size w w' := by
    have e : even tl x tr = mk tl x tr := by unfold even; rw [if_neg h1, if_neg h2]
    rw [e]
    have b1 := height_le tl
    have b2 := height_le tr
    have d1 : decide (1 < (tl.height : Int) - (tr.height : Int)) = false := by simp; omega
    have d2 : decide ((tl.height : Int) - (tr.height : Int) < -1) = false := by simp; omega
    have d3 : ¬ (1 < (tl.height : Int) - (tr.height : Int)) := by omega
    have d4 : ¬ ((tl.height : Int) - (tr.height : Int) < -1) := by omega
    clear h1 h2 e
    go_enter Try.func72, Try.ntmps72
    go_wp2_with fail
    refine (height_any tl pl _ hl).mono ?_
    rintro e w' ⟨rfl, rfl⟩
    go_wp2_with fail
    refine (height_any tr pr _ hr).mono ?_
    rintro e w' ⟨rfl, rfl⟩
    go_wp2_with fail
    go_quiet ((first | (go_at_call 78; first | exact quiet_left (height_any _ _ _ (hl.drewN _)) | exact quiet_add_left (height_any _ _ _ (hl.drewN _)))))
    go_wp2_with fail
    go_quiet ((first | (go_at_call 78; first | exact quiet_left (height_any _ _ _ (hl.drewN _)) | exact quiet_add_left (height_any _ _ _ (hl.drewN _)))))
    go_wp2_with fail
    refine (made_any tl tr x pl pr _ (hl.drewN _) (hr.drewN _) hs).mono ?_
    rintro e w1 ⟨p1, rfl, hi1, hb1⟩
    have bw1 := below_of_drewN hb1
    go_wp2_with fail
    go_ret
    exact ⟨_, rfl, hi1, bw1⟩
end Go.Proofs.Ytinmmhjllmlimaa.AVL
