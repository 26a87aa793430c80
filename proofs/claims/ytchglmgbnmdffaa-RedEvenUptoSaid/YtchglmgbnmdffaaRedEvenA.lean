/-
  Red: a turn. Conditions: sizes below 2^60.
-/
import Derived.Test.YtchglmgbnmdffaaRedWalks
namespace Go.Proofs.Ytchglmgbnmdffaa.RED
open Go.RowKit Go.Deep
open Go.Proofs.Ytchglmgbnmdffaa Go.Proofs.Ytchglmgbnmdffaa.ST

set_option linter.unusedVariables false
set_option maxRecDepth 100000 in
set_option maxHeartbeats 1600000 in
theorem even_TT (x : Int) (y z : Int) (m1 m2 lc : ST) (tr : ST)   (pl pr : Option Addr) (w : World) (hl : In w pl (.node true y (.node true z m1 m2) lc)) (hr : In w pr tr) (hs : (ST.node true y (.node true z m1 m2) lc).size + tr.size ≤ 1152921504606846970) :
    Calls Try.prog 71 #[.pointer pl, .int .i64 x, .pointer pr] w fun e w' => ∃ q, e = .returned (.pointer q) ∧ In w' q (even (.node true y (.node true z m1 m2) lc) x tr) ∧ Below w.heap.size w w' := by
  have e : even (.node true y (.node true z m1 m2) lc) x tr = three m1 z m2 y lc x tr := by
    simp [even, isRed_node, left, right, key]
  rw [e]
  clear e
  simp only [size] at hs
  have L0 := isred_b (.node true y (.node true z m1 m2) lc) true pl w hl rfl
  have hlo := hl
  obtain ⟨lnb, lp, lq, rfl, lklt, lk0, lk1, lk2, lk3, lk4, hl1, hl2⟩ := hlo.open
  have hl1' := hl1
  obtain ⟨lcb, ls, lw, rfl, ljlt, lj0, lj1, lj2, lj3, lj4, hl3, hl4⟩ := hl1'.open
  have L1 := isred_b (.node true z m1 m2) true _ w hl1 rfl
  have HL0 := Lib.hid L0
  have HL1 := Lib.hid L1
  clear L0 L1
  go_enter Try.func71, Try.ntmps71
  go_wp2_with fail
  refine (HL0.out).mono ?_
  rintro e w' ⟨rfl, rfl⟩
  go_wp2_with fail
  refine (HL1.out).mono ?_
  rintro e w' ⟨rfl, rfl⟩
  go_wp2_with fail
  go_region_held3 (fun w' => w'.cell? ⟨lnb, 3, none⟩ = some (.pointer (some ⟨lcb, 0, none⟩)) ∧ w'.cell? ⟨lnb, 4, none⟩ = some (.pointer lq) ∧ w'.cell? ⟨lnb, 1, none⟩ = some (.int .i64 y) ∧ w'.cell? ⟨lcb, 3, none⟩ = some (.pointer ls) ∧ w'.cell? ⟨lcb, 1, none⟩ = some (.int .i64 z) ∧ w'.cell? ⟨lcb, 4, none⟩ = some (.pointer lw)) (go_keep) (first
    | (go_at_call 78; refine (three_any m1 m2 lc tr z y x ls lw lq pr _ (by first | exact hl3 | exact hl3.drew | exact hl3.drewN _ | exact (hl3.drewN _).drew | exact (hl3.drewN _).drewN _ | exact ((hl3.drewN _).drewN _).drew) (by first | exact hl4 | exact hl4.drew | exact hl4.drewN _ | exact (hl4.drewN _).drew | exact (hl4.drewN _).drewN _ | exact ((hl4.drewN _).drewN _).drew) (by first | exact hl2 | exact hl2.drew | exact hl2.drewN _ | exact (hl2.drewN _).drew | exact (hl2.drewN _).drewN _ | exact ((hl2.drewN _).drewN _).drew) (by first | exact hr | exact hr.drew | exact hr.drewN _ | exact (hr.drewN _).drew | exact (hr.drewN _).drewN _ | exact ((hr.drewN _).drewN _).drew) (by omega)).mono ?_; rintro e w1 ⟨p1, rfl, hi1, hb1⟩; have bw1 : Below w.heap.size w w1 := (by first | exact hb1 | exact below_of_drewN hb1 | exact below_of_drew hb1 | exact below_of_drewN (below_of_drew hb1) | exact below_of_drewN (below_of_drewN hb1) | exact below_of_drewN (below_of_drewN (below_of_drew hb1))); have s1_0 := (bw1.cell (p := ⟨lnb, 3, none⟩) lklt).trans lk3; have s1_1 := (bw1.cell (p := ⟨lnb, 4, none⟩) lklt).trans lk4; have s1_2 := (bw1.cell (p := ⟨lnb, 1, none⟩) lklt).trans lk1; have s1_3 := (bw1.cell (p := ⟨lcb, 3, none⟩) ljlt).trans lj3; have s1_4 := (bw1.cell (p := ⟨lcb, 1, none⟩) ljlt).trans lj1; have s1_5 := (bw1.cell (p := ⟨lcb, 4, none⟩) ljlt).trans lj4))
  go_wp2_with fail
  go_ret
  exact ⟨_, rfl, hi1, bw1⟩

set_option linter.unusedVariables false
set_option maxRecDepth 100000 in
set_option maxHeartbeats 1600000 in
theorem even_TFT (x : Int) (y z : Int) (lb m1 m2 : ST) (tr : ST) (fl : isRed lb = false)  (pl pr : Option Addr) (w : World) (hl : In w pl (.node true y lb (.node true z m1 m2))) (hr : In w pr tr) (hs : (ST.node true y lb (.node true z m1 m2)).size + tr.size ≤ 1152921504606846970) :
    Calls Try.prog 71 #[.pointer pl, .int .i64 x, .pointer pr] w fun e w' => ∃ q, e = .returned (.pointer q) ∧ In w' q (even (.node true y lb (.node true z m1 m2)) x tr) ∧ Below w.heap.size w w' := by
  have e : even (.node true y lb (.node true z m1 m2)) x tr = three lb y m1 z m2 x tr := by
    simp [even, isRed_node, left, right, key, fl]
  rw [e]
  clear e
  simp only [size] at hs
  have L0 := isred_b (.node true y lb (.node true z m1 m2)) true pl w hl rfl
  have hlo := hl
  obtain ⟨lnb, lp, lq, rfl, lklt, lk0, lk1, lk2, lk3, lk4, hl1, hl2⟩ := hlo.open
  have hl2' := hl2
  obtain ⟨lcb, ls, lw, rfl, ljlt, lj0, lj1, lj2, lj3, lj4, hl3, hl4⟩ := hl2'.open
  have L1 := isred_b lb false _ w hl1 fl
  have L2 := isred_b (.node true z m1 m2) true _ w hl2 rfl
  have HL0 := Lib.hid L0
  have HL1 := Lib.hid L1
  have HL2 := Lib.hid L2
  clear L0 L1 L2 fl
  go_enter Try.func71, Try.ntmps71
  go_wp2_with fail
  refine (HL0.out).mono ?_
  rintro e w' ⟨rfl, rfl⟩
  go_wp2_with fail
  refine (HL1.out).mono ?_
  rintro e w' ⟨rfl, rfl⟩
  go_wp2_with fail
  refine (HL0.out).mono ?_
  rintro e w' ⟨rfl, rfl⟩
  go_wp2_with fail
  refine (HL2.out).mono ?_
  rintro e w' ⟨rfl, rfl⟩
  go_wp2_with fail
  go_region_held3 (fun w' => w'.cell? ⟨lnb, 3, none⟩ = some (.pointer lp) ∧ w'.cell? ⟨lnb, 4, none⟩ = some (.pointer (some ⟨lcb, 0, none⟩)) ∧ w'.cell? ⟨lnb, 1, none⟩ = some (.int .i64 y) ∧ w'.cell? ⟨lcb, 3, none⟩ = some (.pointer ls) ∧ w'.cell? ⟨lcb, 1, none⟩ = some (.int .i64 z) ∧ w'.cell? ⟨lcb, 4, none⟩ = some (.pointer lw)) (go_keep) (first
    | (go_at_call 78; refine (three_any lb m1 m2 tr y z x lp ls lw pr _ (by first | exact hl1 | exact hl1.drew | exact hl1.drewN _ | exact (hl1.drewN _).drew | exact (hl1.drewN _).drewN _ | exact ((hl1.drewN _).drewN _).drew) (by first | exact hl3 | exact hl3.drew | exact hl3.drewN _ | exact (hl3.drewN _).drew | exact (hl3.drewN _).drewN _ | exact ((hl3.drewN _).drewN _).drew) (by first | exact hl4 | exact hl4.drew | exact hl4.drewN _ | exact (hl4.drewN _).drew | exact (hl4.drewN _).drewN _ | exact ((hl4.drewN _).drewN _).drew) (by first | exact hr | exact hr.drew | exact hr.drewN _ | exact (hr.drewN _).drew | exact (hr.drewN _).drewN _ | exact ((hr.drewN _).drewN _).drew) (by omega)).mono ?_; rintro e w1 ⟨p1, rfl, hi1, hb1⟩; have bw1 : Below w.heap.size w w1 := (by first | exact hb1 | exact below_of_drewN hb1 | exact below_of_drew hb1 | exact below_of_drewN (below_of_drew hb1) | exact below_of_drewN (below_of_drewN hb1) | exact below_of_drewN (below_of_drewN (below_of_drew hb1))); have s1_0 := (bw1.cell (p := ⟨lnb, 3, none⟩) lklt).trans lk3; have s1_1 := (bw1.cell (p := ⟨lnb, 4, none⟩) lklt).trans lk4; have s1_2 := (bw1.cell (p := ⟨lnb, 1, none⟩) lklt).trans lk1; have s1_3 := (bw1.cell (p := ⟨lcb, 3, none⟩) ljlt).trans lj3; have s1_4 := (bw1.cell (p := ⟨lcb, 1, none⟩) ljlt).trans lj1; have s1_5 := (bw1.cell (p := ⟨lcb, 4, none⟩) ljlt).trans lj4))
  go_wp2_with fail
  go_ret
  exact ⟨_, rfl, hi1, bw1⟩
end Go.Proofs.Ytchglmgbnmdffaa.RED
