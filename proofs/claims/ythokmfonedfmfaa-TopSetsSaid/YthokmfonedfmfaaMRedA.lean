/-
  Red: a turn. Conditions: sizes below 2^60.
  Red: a turn. Conditions: sizes below 2^60.
  Red: a turn. Conditions: sizes below 2^60.
  Red: a turn. Conditions: sizes below 2^60.
  Red: a turn. Conditions: sizes below 2^60.
  Red: the turns. Conditions: sizes below 2^60.
  Red: a number that is not there is put. Conditions: sizes below 2^60.
-/
import Derived.Test.YthokmfonedfmfaaRedWalks
namespace Go.Proofs.Ythokmfonedfmfaa.RED
open Go.RowKit Go.Deep
open Go.Proofs.Ythokmfonedfmfaa Go.Proofs.Ythokmfonedfmfaa.ST

set_option linter.unusedVariables false
set_option maxRecDepth 100000 in
set_option maxHeartbeats 1600000 in
theorem even_TT (x : Int) (y z : Int) (m1 m2 lc : ST) (tr : ST)   (pl pr : Option Addr) (w : World) (hl : In w pl (.node true y (.node true z m1 m2) lc)) (hr : In w pr tr) (hs : (ST.node true y (.node true z m1 m2) lc).size + tr.size ≤ 1152921504606846970) :
    Calls Try.prog 108 #[.pointer pl, .int .i64 x, .pointer pr] w fun e w' => ∃ q, e = .returned (.pointer q) ∧ In w' q (even (.node true y (.node true z m1 m2) lc) x tr) ∧ Below w.heap.size w w' := by
  have e : even (.node true y (.node true z m1 m2) lc) x tr = three m1 z m2 y lc x tr := by
    simp [even, isRed_node, left, right, key]
  rw [e]
  clear e
  simp only [size] at hs
  have L0 := isred_b (.node true y (.node true z m1 m2) lc) true pl w hl rfl
  have hlo := hl
  obtain ⟨lnb, lp, lq, rfl, lklt, lk0, lk1, lk2, lk3, lk4, hl1, hl2⟩ := hlo.open
  have hl1' := hl1
  obtain ⟨lcb, ls, lw, rfl, ljlt, lj0, lj1, lj2, lj3, lj4, hl3, hl4⟩ := hl1'.open
  have L1 := isred_b (.node true z m1 m2) true _ w hl1 rfl
  have HL0 := Lib.hid L0
  have HL1 := Lib.hid L1
  clear L0 L1
  go_enter Try.func108, Try.ntmps108
  go_wp2_with fail
  refine (HL0.out).mono ?_
  rintro e w' ⟨rfl, rfl⟩
  go_wp2_with fail
  refine (HL1.out).mono ?_
  rintro e w' ⟨rfl, rfl⟩
  go_wp2_with fail
  go_region_held3 (fun w' => w'.cell? ⟨lnb, 3, none⟩ = some (.pointer (some ⟨lcb, 0, none⟩)) ∧ w'.cell? ⟨lnb, 4, none⟩ = some (.pointer lq) ∧ w'.cell? ⟨lnb, 1, none⟩ = some (.int .i64 y) ∧ w'.cell? ⟨lcb, 3, none⟩ = some (.pointer ls) ∧ w'.cell? ⟨lcb, 1, none⟩ = some (.int .i64 z) ∧ w'.cell? ⟨lcb, 4, none⟩ = some (.pointer lw)) (go_keep) (first
    | (go_at_call 133; refine (three_any m1 m2 lc tr z y x ls lw lq pr _ (by first | exact hl3 | exact hl3.drew | exact hl3.drewN _ | exact (hl3.drewN _).drew | exact (hl3.drewN _).drewN _ | exact ((hl3.drewN _).drewN _).drew) (by first | exact hl4 | exact hl4.drew | exact hl4.drewN _ | exact (hl4.drewN _).drew | exact (hl4.drewN _).drewN _ | exact ((hl4.drewN _).drewN _).drew) (by first | exact hl2 | exact hl2.drew | exact hl2.drewN _ | exact (hl2.drewN _).drew | exact (hl2.drewN _).drewN _ | exact ((hl2.drewN _).drewN _).drew) (by first | exact hr | exact hr.drew | exact hr.drewN _ | exact (hr.drewN _).drew | exact (hr.drewN _).drewN _ | exact ((hr.drewN _).drewN _).drew) (by omega)).mono ?_; rintro e w1 ⟨p1, rfl, hi1, hb1⟩; have bw1 : Below w.heap.size w w1 := (by first | exact hb1 | exact below_of_drewN hb1 | exact below_of_drew hb1 | exact below_of_drewN (below_of_drew hb1) | exact below_of_drewN (below_of_drewN hb1) | exact below_of_drewN (below_of_drewN (below_of_drew hb1))); have s1_0 := (bw1.cell (p := ⟨lnb, 3, none⟩) lklt).trans lk3; have s1_1 := (bw1.cell (p := ⟨lnb, 4, none⟩) lklt).trans lk4; have s1_2 := (bw1.cell (p := ⟨lnb, 1, none⟩) lklt).trans lk1; have s1_3 := (bw1.cell (p := ⟨lcb, 3, none⟩) ljlt).trans lj3; have s1_4 := (bw1.cell (p := ⟨lcb, 1, none⟩) ljlt).trans lj1; have s1_5 := (bw1.cell (p := ⟨lcb, 4, none⟩) ljlt).trans lj4))
  go_wp2_with fail
  go_ret
  exact ⟨_, rfl, hi1, bw1⟩

set_option linter.unusedVariables false
set_option maxRecDepth 100000 in
set_option maxHeartbeats 1600000 in
theorem even_TFT (x : Int) (y z : Int) (lb m1 m2 : ST) (tr : ST) (fl : isRed lb = false)  (pl pr : Option Addr) (w : World) (hl : In w pl (.node true y lb (.node true z m1 m2))) (hr : In w pr tr) (hs : (ST.node true y lb (.node true z m1 m2)).size + tr.size ≤ 1152921504606846970) :
    Calls Try.prog 108 #[.pointer pl, .int .i64 x, .pointer pr] w fun e w' => ∃ q, e = .returned (.pointer q) ∧ In w' q (even (.node true y lb (.node true z m1 m2)) x tr) ∧ Below w.heap.size w w' := by
  have e : even (.node true y lb (.node true z m1 m2)) x tr = three lb y m1 z m2 x tr := by
    simp [even, isRed_node, left, right, key, fl]
  rw [e]
  clear e
  simp only [size] at hs
  have L0 := isred_b (.node true y lb (.node true z m1 m2)) true pl w hl rfl
  have hlo := hl
  obtain ⟨lnb, lp, lq, rfl, lklt, lk0, lk1, lk2, lk3, lk4, hl1, hl2⟩ := hlo.open
  have hl2' := hl2
  obtain ⟨lcb, ls, lw, rfl, ljlt, lj0, lj1, lj2, lj3, lj4, hl3, hl4⟩ := hl2'.open
  have L1 := isred_b lb false _ w hl1 fl
  have L2 := isred_b (.node true z m1 m2) true _ w hl2 rfl
  have HL0 := Lib.hid L0
  have HL1 := Lib.hid L1
  have HL2 := Lib.hid L2
  clear L0 L1 L2 fl
  go_enter Try.func108, Try.ntmps108
  go_wp2_with fail
  refine (HL0.out).mono ?_
  rintro e w' ⟨rfl, rfl⟩
  go_wp2_with fail
  refine (HL1.out).mono ?_
  rintro e w' ⟨rfl, rfl⟩
  go_wp2_with fail
  refine (HL0.out).mono ?_
  rintro e w' ⟨rfl, rfl⟩
  go_wp2_with fail
  refine (HL2.out).mono ?_
  rintro e w' ⟨rfl, rfl⟩
  go_wp2_with fail
  go_region_held3 (fun w' => w'.cell? ⟨lnb, 3, none⟩ = some (.pointer lp) ∧ w'.cell? ⟨lnb, 4, none⟩ = some (.pointer (some ⟨lcb, 0, none⟩)) ∧ w'.cell? ⟨lnb, 1, none⟩ = some (.int .i64 y) ∧ w'.cell? ⟨lcb, 3, none⟩ = some (.pointer ls) ∧ w'.cell? ⟨lcb, 1, none⟩ = some (.int .i64 z) ∧ w'.cell? ⟨lcb, 4, none⟩ = some (.pointer lw)) (go_keep) (first
    | (go_at_call 133; refine (three_any lb m1 m2 tr y z x lp ls lw pr _ (by first | exact hl1 | exact hl1.drew | exact hl1.drewN _ | exact (hl1.drewN _).drew | exact (hl1.drewN _).drewN _ | exact ((hl1.drewN _).drewN _).drew) (by first | exact hl3 | exact hl3.drew | exact hl3.drewN _ | exact (hl3.drewN _).drew | exact (hl3.drewN _).drewN _ | exact ((hl3.drewN _).drewN _).drew) (by first | exact hl4 | exact hl4.drew | exact hl4.drewN _ | exact (hl4.drewN _).drew | exact (hl4.drewN _).drewN _ | exact ((hl4.drewN _).drewN _).drew) (by first | exact hr | exact hr.drew | exact hr.drewN _ | exact (hr.drewN _).drew | exact (hr.drewN _).drewN _ | exact ((hr.drewN _).drewN _).drew) (by omega)).mono ?_; rintro e w1 ⟨p1, rfl, hi1, hb1⟩; have bw1 : Below w.heap.size w w1 := (by first | exact hb1 | exact below_of_drewN hb1 | exact below_of_drew hb1 | exact below_of_drewN (below_of_drew hb1) | exact below_of_drewN (below_of_drewN hb1) | exact below_of_drewN (below_of_drewN (below_of_drew hb1))); have s1_0 := (bw1.cell (p := ⟨lnb, 3, none⟩) lklt).trans lk3; have s1_1 := (bw1.cell (p := ⟨lnb, 4, none⟩) lklt).trans lk4; have s1_2 := (bw1.cell (p := ⟨lnb, 1, none⟩) lklt).trans lk1; have s1_3 := (bw1.cell (p := ⟨lcb, 3, none⟩) ljlt).trans lj3; have s1_4 := (bw1.cell (p := ⟨lcb, 1, none⟩) ljlt).trans lj1; have s1_5 := (bw1.cell (p := ⟨lcb, 4, none⟩) ljlt).trans lj4))
  go_wp2_with fail
  go_ret
  exact ⟨_, rfl, hi1, bw1⟩
end Go.Proofs.Ythokmfonedfmfaa.RED

namespace Go.Proofs.Ythokmfonedfmfaa.RED
open Go.RowKit Go.Deep
open Go.Proofs.Ythokmfonedfmfaa Go.Proofs.Ythokmfonedfmfaa.ST

set_option linter.unusedVariables false
set_option maxRecDepth 100000 in
set_option maxHeartbeats 1600000 in
theorem even_F_TT (x : Int) (tl : ST) (u v : Int) (n1 n2 rc : ST) (fl : isRed tl = false)  (pl pr : Option Addr) (w : World) (hl : In w pl tl) (hr : In w pr (.node true u (.node true v n1 n2) rc)) (hs : tl.size + (ST.node true u (.node true v n1 n2) rc).size ≤ 1152921504606846970) :
    Calls Try.prog 108 #[.pointer pl, .int .i64 x, .pointer pr] w fun e w' => ∃ q, e = .returned (.pointer q) ∧ In w' q (even tl x (.node true u (.node true v n1 n2) rc)) ∧ Below w.heap.size w w' := by
  have e : even tl x (.node true u (.node true v n1 n2) rc) = three tl x n1 v n2 u rc := by
    simp [even, isRed_node, left, right, key, fl]
  rw [e]
  clear e
  simp only [size] at hs
  have L0 := isred_b tl false pl w hl fl
  have R0 := isred_b (.node true u (.node true v n1 n2) rc) true pr w hr rfl
  have hro := hr
  obtain ⟨rnb, rp, rq, rfl, rklt, rk0, rk1, rk2, rk3, rk4, hr1, hr2⟩ := hro.open
  have hr1' := hr1
  obtain ⟨rcb, rs, rw, rfl, rjlt, rj0, rj1, rj2, rj3, rj4, hr3, hr4⟩ := hr1'.open
  have R1 := isred_b (.node true v n1 n2) true _ w hr1 rfl
  have HL0 := Lib.hid L0
  have HR0 := Lib.hid R0
  have HR1 := Lib.hid R1
  clear L0 R0 R1 fl
  go_enter Try.func108, Try.ntmps108
  go_wp2_with fail
  refine (HL0.out).mono ?_
  rintro e w' ⟨rfl, rfl⟩
  go_wp2_with fail
  refine (HL0.out).mono ?_
  rintro e w' ⟨rfl, rfl⟩
  go_wp2_with fail
  refine (HR0.out).mono ?_
  rintro e w' ⟨rfl, rfl⟩
  go_wp2_with fail
  refine (HR1.out).mono ?_
  rintro e w' ⟨rfl, rfl⟩
  go_wp2_with fail
  go_region_held3 (fun w' => w'.cell? ⟨rnb, 3, none⟩ = some (.pointer (some ⟨rcb, 0, none⟩)) ∧ w'.cell? ⟨rnb, 4, none⟩ = some (.pointer rq) ∧ w'.cell? ⟨rnb, 1, none⟩ = some (.int .i64 u) ∧ w'.cell? ⟨rcb, 3, none⟩ = some (.pointer rs) ∧ w'.cell? ⟨rcb, 1, none⟩ = some (.int .i64 v) ∧ w'.cell? ⟨rcb, 4, none⟩ = some (.pointer rw)) (go_keep) (first
    | (go_at_call 133; refine (three_any tl n1 n2 rc x v u _ rs rw rq _ (by first | exact hl | exact hl.drew | exact hl.drewN _ | exact (hl.drewN _).drew | exact (hl.drewN _).drewN _ | exact ((hl.drewN _).drewN _).drew) (by first | exact hr3 | exact hr3.drew | exact hr3.drewN _ | exact (hr3.drewN _).drew | exact (hr3.drewN _).drewN _ | exact ((hr3.drewN _).drewN _).drew) (by first | exact hr4 | exact hr4.drew | exact hr4.drewN _ | exact (hr4.drewN _).drew | exact (hr4.drewN _).drewN _ | exact ((hr4.drewN _).drewN _).drew) (by first | exact hr2 | exact hr2.drew | exact hr2.drewN _ | exact (hr2.drewN _).drew | exact (hr2.drewN _).drewN _ | exact ((hr2.drewN _).drewN _).drew) (by first | omega | (simp only [size]; omega))).mono ?_; rintro e w1 ⟨p1, rfl, hi1, hb1⟩; have bw1 : Below w.heap.size w w1 := (by first | exact hb1 | exact below_of_drewN hb1 | exact below_of_drew hb1 | exact below_of_drewN (below_of_drew hb1) | exact below_of_drewN (below_of_drewN hb1) | exact below_of_drewN (below_of_drewN (below_of_drew hb1))); have s1_0 := (bw1.cell (p := ⟨rnb, 3, none⟩) rklt).trans rk3; have s1_1 := (bw1.cell (p := ⟨rnb, 4, none⟩) rklt).trans rk4; have s1_2 := (bw1.cell (p := ⟨rnb, 1, none⟩) rklt).trans rk1; have s1_3 := (bw1.cell (p := ⟨rcb, 3, none⟩) rjlt).trans rj3; have s1_4 := (bw1.cell (p := ⟨rcb, 1, none⟩) rjlt).trans rj1; have s1_5 := (bw1.cell (p := ⟨rcb, 4, none⟩) rjlt).trans rj4))
  go_wp2_with fail
  go_ret
  exact ⟨_, rfl, hi1, bw1⟩

set_option linter.unusedVariables false
set_option maxRecDepth 100000 in
set_option maxHeartbeats 1600000 in
theorem even_F_TFT (x : Int) (tl : ST) (u v : Int) (rb n1 n2 : ST) (fl : isRed tl = false) (fr : isRed rb = false) (pl pr : Option Addr) (w : World) (hl : In w pl tl) (hr : In w pr (.node true u rb (.node true v n1 n2))) (hs : tl.size + (ST.node true u rb (.node true v n1 n2)).size ≤ 1152921504606846970) :
    Calls Try.prog 108 #[.pointer pl, .int .i64 x, .pointer pr] w fun e w' => ∃ q, e = .returned (.pointer q) ∧ In w' q (even tl x (.node true u rb (.node true v n1 n2))) ∧ Below w.heap.size w w' := by
  have e : even tl x (.node true u rb (.node true v n1 n2)) = three tl x rb u n1 v n2 := by
    simp [even, isRed_node, left, right, key, fl, fr]
  rw [e]
  clear e
  simp only [size] at hs
  have L0 := isred_b tl false pl w hl fl
  have R0 := isred_b (.node true u rb (.node true v n1 n2)) true pr w hr rfl
  have hro := hr
  obtain ⟨rnb, rp, rq, rfl, rklt, rk0, rk1, rk2, rk3, rk4, hr1, hr2⟩ := hro.open
  have hr2' := hr2
  obtain ⟨rcb, rs, rw, rfl, rjlt, rj0, rj1, rj2, rj3, rj4, hr3, hr4⟩ := hr2'.open
  have R1 := isred_b rb false _ w hr1 fr
  have R2 := isred_b (.node true v n1 n2) true _ w hr2 rfl
  have HL0 := Lib.hid L0
  have HR0 := Lib.hid R0
  have HR1 := Lib.hid R1
  have HR2 := Lib.hid R2
  clear L0 R0 R1 R2 fl fr
  go_enter Try.func108, Try.ntmps108
  go_wp2_with fail
  refine (HL0.out).mono ?_
  rintro e w' ⟨rfl, rfl⟩
  go_wp2_with fail
  refine (HL0.out).mono ?_
  rintro e w' ⟨rfl, rfl⟩
  go_wp2_with fail
  refine (HR0.out).mono ?_
  rintro e w' ⟨rfl, rfl⟩
  go_wp2_with fail
  refine (HR1.out).mono ?_
  rintro e w' ⟨rfl, rfl⟩
  go_wp2_with fail
  refine (HR0.out).mono ?_
  rintro e w' ⟨rfl, rfl⟩
  go_wp2_with fail
  refine (HR2.out).mono ?_
  rintro e w' ⟨rfl, rfl⟩
  go_wp2_with fail
  go_region_held3 (fun w' => w'.cell? ⟨rnb, 3, none⟩ = some (.pointer rp) ∧ w'.cell? ⟨rnb, 4, none⟩ = some (.pointer (some ⟨rcb, 0, none⟩)) ∧ w'.cell? ⟨rnb, 1, none⟩ = some (.int .i64 u) ∧ w'.cell? ⟨rcb, 3, none⟩ = some (.pointer rs) ∧ w'.cell? ⟨rcb, 1, none⟩ = some (.int .i64 v) ∧ w'.cell? ⟨rcb, 4, none⟩ = some (.pointer rw)) (go_keep) (first
    | (go_at_call 133; refine (three_any tl rb n1 n2 x u v _ rp rs rw _ (by first | exact hl | exact hl.drew | exact hl.drewN _ | exact (hl.drewN _).drew | exact (hl.drewN _).drewN _ | exact ((hl.drewN _).drewN _).drew) (by first | exact hr1 | exact hr1.drew | exact hr1.drewN _ | exact (hr1.drewN _).drew | exact (hr1.drewN _).drewN _ | exact ((hr1.drewN _).drewN _).drew) (by first | exact hr3 | exact hr3.drew | exact hr3.drewN _ | exact (hr3.drewN _).drew | exact (hr3.drewN _).drewN _ | exact ((hr3.drewN _).drewN _).drew) (by first | exact hr4 | exact hr4.drew | exact hr4.drewN _ | exact (hr4.drewN _).drew | exact (hr4.drewN _).drewN _ | exact ((hr4.drewN _).drewN _).drew) (by first | omega | (simp only [size]; omega))).mono ?_; rintro e w1 ⟨p1, rfl, hi1, hb1⟩; have bw1 : Below w.heap.size w w1 := (by first | exact hb1 | exact below_of_drewN hb1 | exact below_of_drew hb1 | exact below_of_drewN (below_of_drew hb1) | exact below_of_drewN (below_of_drewN hb1) | exact below_of_drewN (below_of_drewN (below_of_drew hb1))); have s1_0 := (bw1.cell (p := ⟨rnb, 3, none⟩) rklt).trans rk3; have s1_1 := (bw1.cell (p := ⟨rnb, 4, none⟩) rklt).trans rk4; have s1_2 := (bw1.cell (p := ⟨rnb, 1, none⟩) rklt).trans rk1; have s1_3 := (bw1.cell (p := ⟨rcb, 3, none⟩) rjlt).trans rj3; have s1_4 := (bw1.cell (p := ⟨rcb, 1, none⟩) rjlt).trans rj1; have s1_5 := (bw1.cell (p := ⟨rcb, 4, none⟩) rjlt).trans rj4))
  go_wp2_with fail
  go_ret
  exact ⟨_, rfl, hi1, bw1⟩
end Go.Proofs.Ythokmfonedfmfaa.RED

namespace Go.Proofs.Ythokmfonedfmfaa.RED
open Go.RowKit Go.Deep
open Go.Proofs.Ythokmfonedfmfaa Go.Proofs.Ythokmfonedfmfaa.ST

set_option linter.unusedVariables false
set_option maxRecDepth 100000 in
set_option maxHeartbeats 1600000 in
theorem even_F_F (x : Int) (tl : ST) (tr : ST) (fl : isRed tl = false) (fr : isRed tr = false) (pl pr : Option Addr) (w : World) (hl : In w pl tl) (hr : In w pr tr) (hs : tl.size + tr.size ≤ 1152921504606846970) :
    Calls Try.prog 108 #[.pointer pl, .int .i64 x, .pointer pr] w fun e w' => ∃ q, e = .returned (.pointer q) ∧ In w' q (even tl x tr) ∧ Below w.heap.size w w' := by
  have e : even tl x tr = .node false x tl tr := by
    simp [even, left, right, fl, fr]
  rw [e]
  clear e
  have L0 := isred_b tl false pl w hl fl
  have R0 := isred_b tr false pr w hr fr
  have HL0 := Lib.hid L0
  have HR0 := Lib.hid R0
  clear L0 R0 fl fr
  go_enter Try.func108, Try.ntmps108
  go_wp2_with fail
  refine (HL0.out).mono ?_
  rintro e w' ⟨rfl, rfl⟩
  go_wp2_with fail
  refine (HL0.out).mono ?_
  rintro e w' ⟨rfl, rfl⟩
  go_wp2_with fail
  refine (HR0.out).mono ?_
  rintro e w' ⟨rfl, rfl⟩
  go_wp2_with fail
  refine (HR0.out).mono ?_
  rintro e w' ⟨rfl, rfl⟩
  go_wp2_with fail
  refine (made_any false tl tr x _ _ _ hl hr (by first | omega | (simp only [size]; omega))).mono ?_
  rintro e w1 ⟨p1, rfl, hi1, bw1⟩
  go_wp2_with fail
  go_ret
  exact ⟨_, rfl, hi1, bw1⟩

set_option linter.unusedVariables false
set_option maxRecDepth 100000 in
set_option maxHeartbeats 1600000 in
theorem even_F_TFF (x : Int) (tl : ST) (u : Int) (rb rc : ST) (fl : isRed tl = false) (fr : isRed rb = false) (gr : isRed rc = false) (pl pr : Option Addr) (w : World) (hl : In w pl tl) (hr : In w pr (.node true u rb rc)) (hs : tl.size + (ST.node true u rb rc).size ≤ 1152921504606846970) :
    Calls Try.prog 108 #[.pointer pl, .int .i64 x, .pointer pr] w fun e w' => ∃ q, e = .returned (.pointer q) ∧ In w' q (even tl x (.node true u rb rc)) ∧ Below w.heap.size w w' := by
  have e : even tl x (.node true u rb rc) = .node false x tl (.node true u rb rc) := by
    simp [even, isRed_node, left, right, fl, fr, gr]
  rw [e]
  clear e
  simp only [size] at hs
  have L0 := isred_b tl false pl w hl fl
  have R0 := isred_b (.node true u rb rc) true pr w hr rfl
  have hro := hr
  obtain ⟨rnb, rp, rq, rfl, rklt, rk0, rk1, rk2, rk3, rk4, hr1, hr2⟩ := hro.open
  have R1 := isred_b rb false _ w hr1 fr
  have R2 := isred_b rc false _ w hr2 gr
  have HL0 := Lib.hid L0
  have HR0 := Lib.hid R0
  have HR1 := Lib.hid R1
  have HR2 := Lib.hid R2
  clear L0 R0 R1 R2 fl fr gr
  go_enter Try.func108, Try.ntmps108
  go_wp2_with fail
  refine (HL0.out).mono ?_
  rintro e w' ⟨rfl, rfl⟩
  go_wp2_with fail
  refine (HL0.out).mono ?_
  rintro e w' ⟨rfl, rfl⟩
  go_wp2_with fail
  refine (HR0.out).mono ?_
  rintro e w' ⟨rfl, rfl⟩
  go_wp2_with fail
  refine (HR1.out).mono ?_
  rintro e w' ⟨rfl, rfl⟩
  go_wp2_with fail
  refine (HR0.out).mono ?_
  rintro e w' ⟨rfl, rfl⟩
  go_wp2_with fail
  refine (HR2.out).mono ?_
  rintro e w' ⟨rfl, rfl⟩
  go_wp2_with fail
  refine (made_any false tl (.node true u rb rc) x _ _ _ hl hr (by first | omega | (simp only [size]; omega))).mono ?_
  rintro e w1 ⟨p1, rfl, hi1, bw1⟩
  go_wp2_with fail
  go_ret
  exact ⟨_, rfl, hi1, bw1⟩
end Go.Proofs.Ythokmfonedfmfaa.RED

namespace Go.Proofs.Ythokmfonedfmfaa.RED
open Go.RowKit Go.Deep
open Go.Proofs.Ythokmfonedfmfaa Go.Proofs.Ythokmfonedfmfaa.ST

set_option linter.unusedVariables false
set_option maxRecDepth 100000 in
set_option maxHeartbeats 1600000 in
theorem even_TFF_TT (x : Int) (y : Int) (lb lc : ST) (u v : Int) (n1 n2 rc : ST) (fl : isRed lb = false) (gl : isRed lc = false)  (pl pr : Option Addr) (w : World) (hl : In w pl (.node true y lb lc)) (hr : In w pr (.node true u (.node true v n1 n2) rc)) (hs : (ST.node true y lb lc).size + (ST.node true u (.node true v n1 n2) rc).size ≤ 1152921504606846970) :
    Calls Try.prog 108 #[.pointer pl, .int .i64 x, .pointer pr] w fun e w' => ∃ q, e = .returned (.pointer q) ∧ In w' q (even (.node true y lb lc) x (.node true u (.node true v n1 n2) rc)) ∧ Below w.heap.size w w' := by
  have e : even (.node true y lb lc) x (.node true u (.node true v n1 n2) rc) = three (.node true y lb lc) x n1 v n2 u rc := by
    simp [even, isRed_node, left, right, key, fl, gl]
  rw [e]
  clear e
  simp only [size] at hs
  have L0 := isred_b (.node true y lb lc) true pl w hl rfl
  have R0 := isred_b (.node true u (.node true v n1 n2) rc) true pr w hr rfl
  have hlo := hl
  obtain ⟨lnb, lp, lq, rfl, lklt, lk0, lk1, lk2, lk3, lk4, hl1, hl2⟩ := hlo.open
  have hro := hr
  obtain ⟨rnb, rp, rq, rfl, rklt, rk0, rk1, rk2, rk3, rk4, hr1, hr2⟩ := hro.open
  have hr1' := hr1
  obtain ⟨rcb, rs, rw, rfl, rjlt, rj0, rj1, rj2, rj3, rj4, hr3, hr4⟩ := hr1'.open
  have L1 := isred_b lb false _ w hl1 fl
  have L2 := isred_b lc false _ w hl2 gl
  have R1 := isred_b (.node true v n1 n2) true _ w hr1 rfl
  have HL0 := Lib.hid L0
  have HL1 := Lib.hid L1
  have HL2 := Lib.hid L2
  have HR0 := Lib.hid R0
  have HR1 := Lib.hid R1
  clear L0 L1 L2 R0 R1 fl gl
  go_enter Try.func108, Try.ntmps108
  go_wp2_with fail
  refine (HL0.out).mono ?_
  rintro e w' ⟨rfl, rfl⟩
  go_wp2_with fail
  refine (HL1.out).mono ?_
  rintro e w' ⟨rfl, rfl⟩
  go_wp2_with fail
  refine (HL0.out).mono ?_
  rintro e w' ⟨rfl, rfl⟩
  go_wp2_with fail
  refine (HL2.out).mono ?_
  rintro e w' ⟨rfl, rfl⟩
  go_wp2_with fail
  refine (HR0.out).mono ?_
  rintro e w' ⟨rfl, rfl⟩
  go_wp2_with fail
  refine (HR1.out).mono ?_
  rintro e w' ⟨rfl, rfl⟩
  go_wp2_with fail
  go_region_held3 (fun w' => w'.cell? ⟨rnb, 3, none⟩ = some (.pointer (some ⟨rcb, 0, none⟩)) ∧ w'.cell? ⟨rnb, 4, none⟩ = some (.pointer rq) ∧ w'.cell? ⟨rnb, 1, none⟩ = some (.int .i64 u) ∧ w'.cell? ⟨rcb, 3, none⟩ = some (.pointer rs) ∧ w'.cell? ⟨rcb, 1, none⟩ = some (.int .i64 v) ∧ w'.cell? ⟨rcb, 4, none⟩ = some (.pointer rw)) (go_keep) (first
    | (go_at_call 133; refine (three_any (.node true y lb lc) n1 n2 rc x v u _ rs rw rq _ (by first | exact hl | exact hl.drew | exact hl.drewN _ | exact (hl.drewN _).drew | exact (hl.drewN _).drewN _ | exact ((hl.drewN _).drewN _).drew) (by first | exact hr3 | exact hr3.drew | exact hr3.drewN _ | exact (hr3.drewN _).drew | exact (hr3.drewN _).drewN _ | exact ((hr3.drewN _).drewN _).drew) (by first | exact hr4 | exact hr4.drew | exact hr4.drewN _ | exact (hr4.drewN _).drew | exact (hr4.drewN _).drewN _ | exact ((hr4.drewN _).drewN _).drew) (by first | exact hr2 | exact hr2.drew | exact hr2.drewN _ | exact (hr2.drewN _).drew | exact (hr2.drewN _).drewN _ | exact ((hr2.drewN _).drewN _).drew) (by first | omega | (simp only [size]; omega))).mono ?_; rintro e w1 ⟨p1, rfl, hi1, hb1⟩; have bw1 : Below w.heap.size w w1 := (by first | exact hb1 | exact below_of_drewN hb1 | exact below_of_drew hb1 | exact below_of_drewN (below_of_drew hb1) | exact below_of_drewN (below_of_drewN hb1) | exact below_of_drewN (below_of_drewN (below_of_drew hb1))); have s1_0 := (bw1.cell (p := ⟨rnb, 3, none⟩) rklt).trans rk3; have s1_1 := (bw1.cell (p := ⟨rnb, 4, none⟩) rklt).trans rk4; have s1_2 := (bw1.cell (p := ⟨rnb, 1, none⟩) rklt).trans rk1; have s1_3 := (bw1.cell (p := ⟨rcb, 3, none⟩) rjlt).trans rj3; have s1_4 := (bw1.cell (p := ⟨rcb, 1, none⟩) rjlt).trans rj1; have s1_5 := (bw1.cell (p := ⟨rcb, 4, none⟩) rjlt).trans rj4))
  go_wp2_with fail
  go_ret
  exact ⟨_, rfl, hi1, bw1⟩

set_option linter.unusedVariables false
set_option maxRecDepth 100000 in
set_option maxHeartbeats 1600000 in
theorem even_TFF_TFT (x : Int) (y : Int) (lb lc : ST) (u v : Int) (rb n1 n2 : ST) (fl : isRed lb = false) (gl : isRed lc = false) (fr : isRed rb = false) (pl pr : Option Addr) (w : World) (hl : In w pl (.node true y lb lc)) (hr : In w pr (.node true u rb (.node true v n1 n2))) (hs : (ST.node true y lb lc).size + (ST.node true u rb (.node true v n1 n2)).size ≤ 1152921504606846970) :
    Calls Try.prog 108 #[.pointer pl, .int .i64 x, .pointer pr] w fun e w' => ∃ q, e = .returned (.pointer q) ∧ In w' q (even (.node true y lb lc) x (.node true u rb (.node true v n1 n2))) ∧ Below w.heap.size w w' := by
  have e : even (.node true y lb lc) x (.node true u rb (.node true v n1 n2)) = three (.node true y lb lc) x rb u n1 v n2 := by
    simp [even, isRed_node, left, right, key, fl, gl, fr]
  rw [e]
  clear e
  simp only [size] at hs
  have L0 := isred_b (.node true y lb lc) true pl w hl rfl
  have R0 := isred_b (.node true u rb (.node true v n1 n2)) true pr w hr rfl
  have hlo := hl
  obtain ⟨lnb, lp, lq, rfl, lklt, lk0, lk1, lk2, lk3, lk4, hl1, hl2⟩ := hlo.open
  have hro := hr
  obtain ⟨rnb, rp, rq, rfl, rklt, rk0, rk1, rk2, rk3, rk4, hr1, hr2⟩ := hro.open
  have hr2' := hr2
  obtain ⟨rcb, rs, rw, rfl, rjlt, rj0, rj1, rj2, rj3, rj4, hr3, hr4⟩ := hr2'.open
  have L1 := isred_b lb false _ w hl1 fl
  have L2 := isred_b lc false _ w hl2 gl
  have R1 := isred_b rb false _ w hr1 fr
  have R2 := isred_b (.node true v n1 n2) true _ w hr2 rfl
  have HL0 := Lib.hid L0
  have HL1 := Lib.hid L1
  have HL2 := Lib.hid L2
  have HR0 := Lib.hid R0
  have HR1 := Lib.hid R1
  have HR2 := Lib.hid R2
  clear L0 L1 L2 R0 R1 R2 fl gl fr
  go_enter Try.func108, Try.ntmps108
  go_wp2_with fail
  refine (HL0.out).mono ?_
  rintro e w' ⟨rfl, rfl⟩
  go_wp2_with fail
  refine (HL1.out).mono ?_
  rintro e w' ⟨rfl, rfl⟩
  go_wp2_with fail
  refine (HL0.out).mono ?_
  rintro e w' ⟨rfl, rfl⟩
  go_wp2_with fail
  refine (HL2.out).mono ?_
  rintro e w' ⟨rfl, rfl⟩
  go_wp2_with fail
  refine (HR0.out).mono ?_
  rintro e w' ⟨rfl, rfl⟩
  go_wp2_with fail
  refine (HR1.out).mono ?_
  rintro e w' ⟨rfl, rfl⟩
  go_wp2_with fail
  refine (HR0.out).mono ?_
  rintro e w' ⟨rfl, rfl⟩
  go_wp2_with fail
  refine (HR2.out).mono ?_
  rintro e w' ⟨rfl, rfl⟩
  go_wp2_with fail
  go_region_held3 (fun w' => w'.cell? ⟨rnb, 3, none⟩ = some (.pointer rp) ∧ w'.cell? ⟨rnb, 4, none⟩ = some (.pointer (some ⟨rcb, 0, none⟩)) ∧ w'.cell? ⟨rnb, 1, none⟩ = some (.int .i64 u) ∧ w'.cell? ⟨rcb, 3, none⟩ = some (.pointer rs) ∧ w'.cell? ⟨rcb, 1, none⟩ = some (.int .i64 v) ∧ w'.cell? ⟨rcb, 4, none⟩ = some (.pointer rw)) (go_keep) (first
    | (go_at_call 133; refine (three_any (.node true y lb lc) rb n1 n2 x u v _ rp rs rw _ (by first | exact hl | exact hl.drew | exact hl.drewN _ | exact (hl.drewN _).drew | exact (hl.drewN _).drewN _ | exact ((hl.drewN _).drewN _).drew) (by first | exact hr1 | exact hr1.drew | exact hr1.drewN _ | exact (hr1.drewN _).drew | exact (hr1.drewN _).drewN _ | exact ((hr1.drewN _).drewN _).drew) (by first | exact hr3 | exact hr3.drew | exact hr3.drewN _ | exact (hr3.drewN _).drew | exact (hr3.drewN _).drewN _ | exact ((hr3.drewN _).drewN _).drew) (by first | exact hr4 | exact hr4.drew | exact hr4.drewN _ | exact (hr4.drewN _).drew | exact (hr4.drewN _).drewN _ | exact ((hr4.drewN _).drewN _).drew) (by first | omega | (simp only [size]; omega))).mono ?_; rintro e w1 ⟨p1, rfl, hi1, hb1⟩; have bw1 : Below w.heap.size w w1 := (by first | exact hb1 | exact below_of_drewN hb1 | exact below_of_drew hb1 | exact below_of_drewN (below_of_drew hb1) | exact below_of_drewN (below_of_drewN hb1) | exact below_of_drewN (below_of_drewN (below_of_drew hb1))); have s1_0 := (bw1.cell (p := ⟨rnb, 3, none⟩) rklt).trans rk3; have s1_1 := (bw1.cell (p := ⟨rnb, 4, none⟩) rklt).trans rk4; have s1_2 := (bw1.cell (p := ⟨rnb, 1, none⟩) rklt).trans rk1; have s1_3 := (bw1.cell (p := ⟨rcb, 3, none⟩) rjlt).trans rj3; have s1_4 := (bw1.cell (p := ⟨rcb, 1, none⟩) rjlt).trans rj1; have s1_5 := (bw1.cell (p := ⟨rcb, 4, none⟩) rjlt).trans rj4))
  go_wp2_with fail
  go_ret
  exact ⟨_, rfl, hi1, bw1⟩
end Go.Proofs.Ythokmfonedfmfaa.RED

namespace Go.Proofs.Ythokmfonedfmfaa.RED
open Go.RowKit Go.Deep
open Go.Proofs.Ythokmfonedfmfaa Go.Proofs.Ythokmfonedfmfaa.ST

set_option linter.unusedVariables false
set_option maxRecDepth 100000 in
set_option maxHeartbeats 1600000 in
theorem even_TFF_F (x : Int) (y : Int) (lb lc : ST) (tr : ST) (fl : isRed lb = false) (gl : isRed lc = false) (fr : isRed tr = false) (pl pr : Option Addr) (w : World) (hl : In w pl (.node true y lb lc)) (hr : In w pr tr) (hs : (ST.node true y lb lc).size + tr.size ≤ 1152921504606846970) :
    Calls Try.prog 108 #[.pointer pl, .int .i64 x, .pointer pr] w fun e w' => ∃ q, e = .returned (.pointer q) ∧ In w' q (even (.node true y lb lc) x tr) ∧ Below w.heap.size w w' := by
  have e : even (.node true y lb lc) x tr = .node false x (.node true y lb lc) tr := by
    simp [even, isRed_node, left, right, fl, gl, fr]
  rw [e]
  clear e
  simp only [size] at hs
  have L0 := isred_b (.node true y lb lc) true pl w hl rfl
  have R0 := isred_b tr false pr w hr fr
  have hlo := hl
  obtain ⟨lnb, lp, lq, rfl, lklt, lk0, lk1, lk2, lk3, lk4, hl1, hl2⟩ := hlo.open
  have L1 := isred_b lb false _ w hl1 fl
  have L2 := isred_b lc false _ w hl2 gl
  have HL0 := Lib.hid L0
  have HL1 := Lib.hid L1
  have HL2 := Lib.hid L2
  have HR0 := Lib.hid R0
  clear L0 L1 L2 R0 fl gl fr
  go_enter Try.func108, Try.ntmps108
  go_wp2_with fail
  refine (HL0.out).mono ?_
  rintro e w' ⟨rfl, rfl⟩
  go_wp2_with fail
  refine (HL1.out).mono ?_
  rintro e w' ⟨rfl, rfl⟩
  go_wp2_with fail
  refine (HL0.out).mono ?_
  rintro e w' ⟨rfl, rfl⟩
  go_wp2_with fail
  refine (HL2.out).mono ?_
  rintro e w' ⟨rfl, rfl⟩
  go_wp2_with fail
  refine (HR0.out).mono ?_
  rintro e w' ⟨rfl, rfl⟩
  go_wp2_with fail
  refine (HR0.out).mono ?_
  rintro e w' ⟨rfl, rfl⟩
  go_wp2_with fail
  refine (made_any false (.node true y lb lc) tr x _ _ _ hl hr (by first | omega | (simp only [size]; omega))).mono ?_
  rintro e w1 ⟨p1, rfl, hi1, bw1⟩
  go_wp2_with fail
  go_ret
  exact ⟨_, rfl, hi1, bw1⟩

set_option linter.unusedVariables false
set_option maxRecDepth 100000 in
set_option maxHeartbeats 1600000 in
theorem even_TFF_TFF (x : Int) (y : Int) (lb lc : ST) (u : Int) (rb rc : ST) (fl : isRed lb = false) (gl : isRed lc = false) (fr : isRed rb = false) (gr : isRed rc = false) (pl pr : Option Addr) (w : World) (hl : In w pl (.node true y lb lc)) (hr : In w pr (.node true u rb rc)) (hs : (ST.node true y lb lc).size + (ST.node true u rb rc).size ≤ 1152921504606846970) :
    Calls Try.prog 108 #[.pointer pl, .int .i64 x, .pointer pr] w fun e w' => ∃ q, e = .returned (.pointer q) ∧ In w' q (even (.node true y lb lc) x (.node true u rb rc)) ∧ Below w.heap.size w w' := by
  have e : even (.node true y lb lc) x (.node true u rb rc) = .node false x (.node true y lb lc) (.node true u rb rc) := by
    simp [even, isRed_node, left, right, fl, gl, fr, gr]
  rw [e]
  clear e
  simp only [size] at hs
  have L0 := isred_b (.node true y lb lc) true pl w hl rfl
  have R0 := isred_b (.node true u rb rc) true pr w hr rfl
  have hlo := hl
  obtain ⟨lnb, lp, lq, rfl, lklt, lk0, lk1, lk2, lk3, lk4, hl1, hl2⟩ := hlo.open
  have hro := hr
  obtain ⟨rnb, rp, rq, rfl, rklt, rk0, rk1, rk2, rk3, rk4, hr1, hr2⟩ := hro.open
  have L1 := isred_b lb false _ w hl1 fl
  have L2 := isred_b lc false _ w hl2 gl
  have R1 := isred_b rb false _ w hr1 fr
  have R2 := isred_b rc false _ w hr2 gr
  have HL0 := Lib.hid L0
  have HL1 := Lib.hid L1
  have HL2 := Lib.hid L2
  have HR0 := Lib.hid R0
  have HR1 := Lib.hid R1
  have HR2 := Lib.hid R2
  clear L0 L1 L2 R0 R1 R2 fl gl fr gr
  go_enter Try.func108, Try.ntmps108
  go_wp2_with fail
  refine (HL0.out).mono ?_
  rintro e w' ⟨rfl, rfl⟩
  go_wp2_with fail
  refine (HL1.out).mono ?_
  rintro e w' ⟨rfl, rfl⟩
  go_wp2_with fail
  refine (HL0.out).mono ?_
  rintro e w' ⟨rfl, rfl⟩
  go_wp2_with fail
  refine (HL2.out).mono ?_
  rintro e w' ⟨rfl, rfl⟩
  go_wp2_with fail
  refine (HR0.out).mono ?_
  rintro e w' ⟨rfl, rfl⟩
  go_wp2_with fail
  refine (HR1.out).mono ?_
  rintro e w' ⟨rfl, rfl⟩
  go_wp2_with fail
  refine (HR0.out).mono ?_
  rintro e w' ⟨rfl, rfl⟩
  go_wp2_with fail
  refine (HR2.out).mono ?_
  rintro e w' ⟨rfl, rfl⟩
  go_wp2_with fail
  refine (made_any false (.node true y lb lc) (.node true u rb rc) x _ _ _ hl hr (by first | omega | (simp only [size]; omega))).mono ?_
  rintro e w1 ⟨p1, rfl, hi1, bw1⟩
  go_wp2_with fail
  go_ret
  exact ⟨_, rfl, hi1, bw1⟩
end Go.Proofs.Ythokmfonedfmfaa.RED

namespace Go.Proofs.Ythokmfonedfmfaa.RED
open Go.RowKit Go.Deep
open Go.Proofs.Ythokmfonedfmfaa Go.Proofs.Ythokmfonedfmfaa.ST

theorem left_red {t : ST} (h : isRed (left t) = true) : ∃ c y z a b r, t = .node c y (.node true z a b) r := by
  cases t with
  | nil => cases h
  | node c y l r =>
    cases l with
    | nil => cases h
    | node c2 z a b =>
      have : c2 = true := h
      subst this
      exact ⟨c, y, z, a, b, r, rfl⟩
theorem right_red {t : ST} (h : isRed (right t) = true) : ∃ c y z a b l, t = .node c y l (.node true z a b) := by
  cases t with
  | nil => cases h
  | node c y l r =>
    cases r with
    | nil => cases h
    | node c2 z a b =>
      have : c2 = true := h
      subst this
      exact ⟨c, y, z, a, b, l, rfl⟩
theorem even_any (x : Int) (tl tr : ST) (pl pr : Option Addr) (w : World) (hl : In w pl tl) (hr : In w pr tr) (hs : tl.size + tr.size ≤ 1152921504606846970) :
    Calls Try.prog 108 #[.pointer pl, .int .i64 x, .pointer pr] w fun e w' => ∃ q, e = .returned (.pointer q) ∧ In w' q (even tl x tr) ∧ Below w.heap.size w w' := by
  cases hL : isRed tl with
  | true =>
    cases hLL : isRed (left tl) with
    | true =>
      obtain ⟨c, y, z, a, b, r, rfl⟩ := left_red hLL
      obtain rfl : c = true := hL
      exact even_TT x y z a b r tr pl pr w hl hr hs
    | false =>
      cases hLR : isRed (right tl) with
      | true =>
        obtain ⟨c, y, z, a, b, l, rfl⟩ := right_red hLR
        obtain rfl : c = true := hL
        exact even_TFT x y z l a b tr hLL pl pr w hl hr hs
      | false =>
        cases tl with
        | nil => cases hL
        | node c y l r =>
          obtain rfl : c = true := hL
          cases hR : isRed tr with
          | false => exact even_TFF_F x y l r tr hLL hLR hR pl pr w hl hr hs
          | true =>
            cases hRL : isRed (left tr) with
            | true =>
              obtain ⟨c, u, v, d, f, g, rfl⟩ := left_red hRL
              obtain rfl : c = true := hR
              exact even_TFF_TT x y l r u v d f g hLL hLR pl pr w hl hr hs
            | false =>
              cases hRR : isRed (right tr) with
              | true =>
                obtain ⟨c, u, v, d, f, g, rfl⟩ := right_red hRR
                obtain rfl : c = true := hR
                exact even_TFF_TFT x y l r u v g d f hLL hLR hRL pl pr w hl hr hs
              | false =>
                cases tr with
                | nil => cases hR
                | node c u d f =>
                  obtain rfl : c = true := hR
                  exact even_TFF_TFF x y l r u d f hLL hLR hRL hRR pl pr w hl hr hs
  | false =>
    cases hR : isRed tr with
    | false => exact even_F_F x tl tr hL hR pl pr w hl hr hs
    | true =>
      cases hRL : isRed (left tr) with
      | true =>
        obtain ⟨c, u, v, d, f, g, rfl⟩ := left_red hRL
        obtain rfl : c = true := hR
        exact even_F_TT x tl u v d f g hL pl pr w hl hr hs
      | false =>
        cases hRR : isRed (right tr) with
        | true =>
          obtain ⟨c, u, v, d, f, g, rfl⟩ := right_red hRR
          obtain rfl : c = true := hR
          exact even_F_TFT x tl u v g d f hL hRL pl pr w hl hr hs
        | false =>
          cases tr with
          | nil => cases hR
          | node c u d f =>
            obtain rfl : c = true := hR
            exact even_F_TFF x tl u d f hL hRL hRR pl pr w hl hr hs
end Go.Proofs.Ythokmfonedfmfaa.RED

namespace Go.Proofs.Ythokmfonedfmfaa.RED
open Go.RowKit Go.Deep
open Go.Proofs.Ythokmfonedfmfaa Go.Proofs.Ythokmfonedfmfaa.ST

set_option linter.unusedVariables false
set_option maxRecDepth 100000 in
set_option maxHeartbeats 1600000 in
theorem ins_any (t : ST) (x : Int) : ∀ (p : Option Addr) (w : World), In w p t → t.size ≤ 576460752303423488 →
    Calls Try.prog 68 #[.pointer p, .int .i64 x] w fun e w' => ∃ q, e = .returned (.pointer q) ∧ In w' q (ins t x) ∧ Below w.heap.size w w' := by
  induction t with
  | nil =>
    intro p w h hs
    obtain rfl : p = none := h
    rw [show ins .nil x = .node true x .nil .nil from rfl]
    go_enter Try.func68, Try.ntmps68
    go_wp2_with fail
    refine (made_any true .nil .nil x none none _ rfl rfl (by decide)).mono ?_
    rintro e w1 ⟨p1, rfl, hi1, bw1⟩
    go_wp2_with fail
    go_ret
    exact ⟨_, rfl, hi1, bw1⟩
  | node c y l r ihl ihr =>
    intro p w h hs
    have hs' := hs
    simp only [size] at hs'
    obtain ⟨b, pl, pr, rfl, klt, k0, k1, k2, k3, k4, hl, hr⟩ := h.open
    have zl := ins_size l x
    have zr := ins_size r x
    cases c
    all_goals
      by_cases hx : x < y
      · skip
        have e1 : ∀ c, c = true → ins (.node c y l r) x = .node true y (ins l x) r := fun c hc => by subst hc; simp only [ins]; rw [if_pos hx]
        have e2 : ∀ c, c = false → ins (.node c y l r) x = even (ins l x) y r := fun c hc => by subst hc; simp only [ins]; rw [if_pos hx]
        have d1 : decide (x < y) = true := by simp [hx]
        first | rw [e1 _ rfl] | rw [e2 _ rfl]
        clear e1 e2
        go_enter Try.func68, Try.ntmps68
        go_wp2_with fail
        go_quiet (fail)
        go_wp2_with fail
        refine (ihl pl _ (hl.drewN _) (by omega)).mono ?_
        rintro e w1 ⟨p1, rfl, hi1, b1⟩
        replace b1 := below_of_drewN b1
        have s0 := (b1.cell (p := ⟨b, 0, none⟩) klt).trans k0
        have s1 := (b1.cell (p := ⟨b, 1, none⟩) klt).trans k1
        have klt1 := Nat.lt_of_lt_of_le klt b1.size
        have ho := hr.below b1
        go_wp2_with fail
        first
          | (refine (made_any true (ins l x) r y p1 pr _ hi1 ho (by omega)).mono ?_
             rintro e w2 ⟨p2, rfl, hi2, b2⟩
             go_wp2_with fail
             go_ret
             exact ⟨_, rfl, hi2, below_then b1 b2⟩)
          | (refine (even_any y (ins l x) r p1 pr _ hi1 ho (by omega)).mono ?_
             rintro e w2 ⟨p2, rfl, hi2, b2⟩
             go_wp2_with fail
             go_ret
             exact ⟨_, rfl, hi2, below_then b1 b2⟩)
      · skip
        have e1 : ∀ c, c = true → ins (.node c y l r) x = .node true y l (ins r x) := fun c hc => by subst hc; simp only [ins]; rw [if_neg hx]
        have e2 : ∀ c, c = false → ins (.node c y l r) x = even l y (ins r x) := fun c hc => by subst hc; simp only [ins]; rw [if_neg hx]
        have d1 : decide (x < y) = false := by simp; omega
        first | rw [e1 _ rfl] | rw [e2 _ rfl]
        clear e1 e2
        go_enter Try.func68, Try.ntmps68
        go_wp2_with fail
        go_quiet (fail)
        go_wp2_with fail
        refine (ihr pr _ (hr.drewN _) (by omega)).mono ?_
        rintro e w1 ⟨p1, rfl, hi1, b1⟩
        replace b1 := below_of_drewN b1
        have s0 := (b1.cell (p := ⟨b, 0, none⟩) klt).trans k0
        have s1 := (b1.cell (p := ⟨b, 1, none⟩) klt).trans k1
        have klt1 := Nat.lt_of_lt_of_le klt b1.size
        have ho := hl.below b1
        go_wp2_with fail
        first
          | (refine (made_any true l (ins r x) y pl p1 _ ho hi1 (by omega)).mono ?_
             rintro e w2 ⟨p2, rfl, hi2, b2⟩
             go_wp2_with fail
             go_ret
             exact ⟨_, rfl, hi2, below_then b1 b2⟩)
          | (refine (even_any y l (ins r x) pl p1 _ ho hi1 (by omega)).mono ?_
             rintro e w2 ⟨p2, rfl, hi2, b2⟩
             go_wp2_with fail
             go_ret
             exact ⟨_, rfl, hi2, below_then b1 b2⟩)
end Go.Proofs.Ythokmfonedfmfaa.RED
