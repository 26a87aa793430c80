/-
  Red: a turn. Conditions: sizes below 2^60.
-/
import Derived.Test.YtchglmgbnmdffaaRedWalks
namespace Go.Proofs.Ytchglmgbnmdffaa.RED
open Go.RowKit Go.Deep
open Go.Proofs.Ytchglmgbnmdffaa Go.Proofs.Ytchglmgbnmdffaa.ST

set_option linter.unusedVariables false
set_option maxRecDepth 100000 in
set_option maxHeartbeats 1600000 in
theorem even_F_TT (x : Int) (tl : ST) (u v : Int) (n1 n2 rc : ST) (fl : isRed tl = false)  (pl pr : Option Addr) (w : World) (hl : In w pl tl) (hr : In w pr (.node true u (.node true v n1 n2) rc)) (hs : tl.size + (ST.node true u (.node true v n1 n2) rc).size ≤ 1152921504606846970) :
    Calls Try.prog 71 #[.pointer pl, .int .i64 x, .pointer pr] w fun e w' => ∃ q, e = .returned (.pointer q) ∧ In w' q (even tl x (.node true u (.node true v n1 n2) rc)) ∧ Below w.heap.size w w' := by
  have e : even tl x (.node true u (.node true v n1 n2) rc) = three tl x n1 v n2 u rc := by
    simp [even, isRed_node, left, right, key, fl]
  rw [e]
  clear e
  simp only [size] at hs
  have L0 := isred_b tl false pl w hl fl
  have R0 := isred_b (.node true u (.node true v n1 n2) rc) true pr w hr rfl
  have hro := hr
  obtain ⟨rnb, rp, rq, rfl, rklt, rk0, rk1, rk2, rk3, rk4, hr1, hr2⟩ := hro.open
  have hr1' := hr1
  obtain ⟨rcb, rs, rw, rfl, rjlt, rj0, rj1, rj2, rj3, rj4, hr3, hr4⟩ := hr1'.open
  have R1 := isred_b (.node true v n1 n2) true _ w hr1 rfl
  have HL0 := Lib.hid L0
  have HR0 := Lib.hid R0
  have HR1 := Lib.hid R1
  clear L0 R0 R1 fl
  go_enter Try.func71, Try.ntmps71
  go_wp2_with fail
  refine (HL0.out).mono ?_
  rintro e w' ⟨rfl, rfl⟩
  go_wp2_with fail
  refine (HL0.out).mono ?_
  rintro e w' ⟨rfl, rfl⟩
  go_wp2_with fail
  refine (HR0.out).mono ?_
  rintro e w' ⟨rfl, rfl⟩
  go_wp2_with fail
  refine (HR1.out).mono ?_
  rintro e w' ⟨rfl, rfl⟩
  go_wp2_with fail
  go_region_held3 (fun w' => w'.cell? ⟨rnb, 3, none⟩ = some (.pointer (some ⟨rcb, 0, none⟩)) ∧ w'.cell? ⟨rnb, 4, none⟩ = some (.pointer rq) ∧ w'.cell? ⟨rnb, 1, none⟩ = some (.int .i64 u) ∧ w'.cell? ⟨rcb, 3, none⟩ = some (.pointer rs) ∧ w'.cell? ⟨rcb, 1, none⟩ = some (.int .i64 v) ∧ w'.cell? ⟨rcb, 4, none⟩ = some (.pointer rw)) (go_keep) (first
    | (go_at_call 78; refine (three_any tl n1 n2 rc x v u _ rs rw rq _ (by first | exact hl | exact hl.drew | exact hl.drewN _ | exact (hl.drewN _).drew | exact (hl.drewN _).drewN _ | exact ((hl.drewN _).drewN _).drew) (by first | exact hr3 | exact hr3.drew | exact hr3.drewN _ | exact (hr3.drewN _).drew | exact (hr3.drewN _).drewN _ | exact ((hr3.drewN _).drewN _).drew) (by first | exact hr4 | exact hr4.drew | exact hr4.drewN _ | exact (hr4.drewN _).drew | exact (hr4.drewN _).drewN _ | exact ((hr4.drewN _).drewN _).drew) (by first | exact hr2 | exact hr2.drew | exact hr2.drewN _ | exact (hr2.drewN _).drew | exact (hr2.drewN _).drewN _ | exact ((hr2.drewN _).drewN _).drew) (by first | omega | (simp only [size]; omega))).mono ?_; rintro e w1 ⟨p1, rfl, hi1, hb1⟩; have bw1 : Below w.heap.size w w1 := (by first | exact hb1 | exact below_of_drewN hb1 | exact below_of_drew hb1 | exact below_of_drewN (below_of_drew hb1) | exact below_of_drewN (below_of_drewN hb1) | exact below_of_drewN (below_of_drewN (below_of_drew hb1))); have s1_0 := (bw1.cell (p := ⟨rnb, 3, none⟩) rklt).trans rk3; have s1_1 := (bw1.cell (p := ⟨rnb, 4, none⟩) rklt).trans rk4; have s1_2 := (bw1.cell (p := ⟨rnb, 1, none⟩) rklt).trans rk1; have s1_3 := (bw1.cell (p := ⟨rcb, 3, none⟩) rjlt).trans rj3; have s1_4 := (bw1.cell (p := ⟨rcb, 1, none⟩) rjlt).trans rj1; have s1_5 := (bw1.cell (p := ⟨rcb, 4, none⟩) rjlt).trans rj4))
  go_wp2_with fail
  go_ret
  exact ⟨_, rfl, hi1, bw1⟩

set_option linter.unusedVariables false
set_option maxRecDepth 100000 in
set_option maxHeartbeats 1600000 in
theorem even_F_TFT (x : Int) (tl : ST) (u v : Int) (rb n1 n2 : ST) (fl : isRed tl = false) (fr : isRed rb = false) (pl pr : Option Addr) (w : World) (hl : In w pl tl) (hr : In w pr (.node true u rb (.node true v n1 n2))) (hs : tl.size + (ST.node true u rb (.node true v n1 n2)).size ≤ 1152921504606846970) :
    Calls Try.prog 71 #[.pointer pl, .int .i64 x, .pointer pr] w fun e w' => ∃ q, e = .returned (.pointer q) ∧ In w' q (even tl x (.node true u rb (.node true v n1 n2))) ∧ Below w.heap.size w w' := by
  have e : even tl x (.node true u rb (.node true v n1 n2)) = three tl x rb u n1 v n2 := by
    simp [even, isRed_node, left, right, key, fl, fr]
  rw [e]
  clear e
  simp only [size] at hs
  have L0 := isred_b tl false pl w hl fl
  have R0 := isred_b (.node true u rb (.node true v n1 n2)) true pr w hr rfl
  have hro := hr
  obtain ⟨rnb, rp, rq, rfl, rklt, rk0, rk1, rk2, rk3, rk4, hr1, hr2⟩ := hro.open
  have hr2' := hr2
  obtain ⟨rcb, rs, rw, rfl, rjlt, rj0, rj1, rj2, rj3, rj4, hr3, hr4⟩ := hr2'.open
  have R1 := isred_b rb false _ w hr1 fr
  have R2 := isred_b (.node true v n1 n2) true _ w hr2 rfl
  have HL0 := Lib.hid L0
  have HR0 := Lib.hid R0
  have HR1 := Lib.hid R1
  have HR2 := Lib.hid R2
  clear L0 R0 R1 R2 fl fr
  go_enter Try.func71, Try.ntmps71
  go_wp2_with fail
  refine (HL0.out).mono ?_
  rintro e w' ⟨rfl, rfl⟩
  go_wp2_with fail
  refine (HL0.out).mono ?_
  rintro e w' ⟨rfl, rfl⟩
  go_wp2_with fail
  refine (HR0.out).mono ?_
  rintro e w' ⟨rfl, rfl⟩
  go_wp2_with fail
  refine (HR1.out).mono ?_
  rintro e w' ⟨rfl, rfl⟩
  go_wp2_with fail
  refine (HR0.out).mono ?_
  rintro e w' ⟨rfl, rfl⟩
  go_wp2_with fail
  refine (HR2.out).mono ?_
  rintro e w' ⟨rfl, rfl⟩
  go_wp2_with fail
  go_region_held3 (fun w' => w'.cell? ⟨rnb, 3, none⟩ = some (.pointer rp) ∧ w'.cell? ⟨rnb, 4, none⟩ = some (.pointer (some ⟨rcb, 0, none⟩)) ∧ w'.cell? ⟨rnb, 1, none⟩ = some (.int .i64 u) ∧ w'.cell? ⟨rcb, 3, none⟩ = some (.pointer rs) ∧ w'.cell? ⟨rcb, 1, none⟩ = some (.int .i64 v) ∧ w'.cell? ⟨rcb, 4, none⟩ = some (.pointer rw)) (go_keep) (first
    | (go_at_call 78; refine (three_any tl rb n1 n2 x u v _ rp rs rw _ (by first | exact hl | exact hl.drew | exact hl.drewN _ | exact (hl.drewN _).drew | exact (hl.drewN _).drewN _ | exact ((hl.drewN _).drewN _).drew) (by first | exact hr1 | exact hr1.drew | exact hr1.drewN _ | exact (hr1.drewN _).drew | exact (hr1.drewN _).drewN _ | exact ((hr1.drewN _).drewN _).drew) (by first | exact hr3 | exact hr3.drew | exact hr3.drewN _ | exact (hr3.drewN _).drew | exact (hr3.drewN _).drewN _ | exact ((hr3.drewN _).drewN _).drew) (by first | exact hr4 | exact hr4.drew | exact hr4.drewN _ | exact (hr4.drewN _).drew | exact (hr4.drewN _).drewN _ | exact ((hr4.drewN _).drewN _).drew) (by first | omega | (simp only [size]; omega))).mono ?_; rintro e w1 ⟨p1, rfl, hi1, hb1⟩; have bw1 : Below w.heap.size w w1 := (by first | exact hb1 | exact below_of_drewN hb1 | exact below_of_drew hb1 | exact below_of_drewN (below_of_drew hb1) | exact below_of_drewN (below_of_drewN hb1) | exact below_of_drewN (below_of_drewN (below_of_drew hb1))); have s1_0 := (bw1.cell (p := ⟨rnb, 3, none⟩) rklt).trans rk3; have s1_1 := (bw1.cell (p := ⟨rnb, 4, none⟩) rklt).trans rk4; have s1_2 := (bw1.cell (p := ⟨rnb, 1, none⟩) rklt).trans rk1; have s1_3 := (bw1.cell (p := ⟨rcb, 3, none⟩) rjlt).trans rj3; have s1_4 := (bw1.cell (p := ⟨rcb, 1, none⟩) rjlt).trans rj1; have s1_5 := (bw1.cell (p := ⟨rcb, 4, none⟩) rjlt).trans rj4))
  go_wp2_with fail
  go_ret
  exact ⟨_, rfl, hi1, bw1⟩
end Go.Proofs.Ytchglmgbnmdffaa.RED
