/-
  Wbt: a turn to the left. Conditions: sizes below 2^60.
  Wbt: a turn to the right. Conditions: sizes below 2^60.
  Wbt: an even tree of two. Conditions: sizes below 2^60.
  Wbt: any two are linked. Conditions: sizes below 2^60.
  Wbt: the first number; two are joined. Conditions: sizes below 2^60.
  Wbt: what a number parts. Conditions: sizes below 2^60.
-/
import Derived.Test.YthokmfonedfmfaaWbtWalks
namespace Go.Proofs.Ythokmfonedfmfaa.WBT
open Go.RowKit Go.Deep
open Go.Proofs.Ythokmfonedfmfaa Go.Proofs.Ythokmfonedfmfaa.ST

set_option linter.unusedVariables false
set_option maxRecDepth 100000 in
set_option maxHeartbeats 1600000 in
theorem turnL_one (c : Bool) (y x : Int) (ta tb ts : ST) (pl pr : Option Addr) (w : World) (hn : In w pr (.node c y ta tb)) (ho : In w pl ts) (hs : ta.size + tb.size + ts.size ≤ 1152921504606846976) (hh : wt ta < 2 * wt tb) :
    Calls Try.prog 134 #[.pointer pl, .int .i64 x, .pointer pr] w fun e w' => ∃ q, e = .returned (.pointer q) ∧ In w' q (turnL ts x (.node c y ta tb)) ∧ Below w.heap.size w w' := by
  have e : turnL ts x (.node c y ta tb) = mk (mk ts x ta) y tb := by unfold turnL; simp only; rw [if_pos hh]
  rw [e]
  clear e
  obtain ⟨b, qa, qb, rfl, klt, k0, k1, k2, k3, ha, hb⟩ := hn.open
  have WA := fun m => weight_any ta qa _ (ha.drewN m) (by omega)
  have WB := fun m => weight_any tb qb _ (hb.drewN m) (by omega)
  have ea : wt ta = ta.size + 1 := rfl
  have eb : wt tb = tb.size + 1 := rfl
  obtain ⟨u, hu⟩ : ∃ u, wt ta = u := ⟨_, rfl⟩
  obtain ⟨v, hv⟩ : ∃ v, wt tb = v := ⟨_, rfl⟩
  rw [hu] at WA ea hh
  rw [hv] at WB eb hh
  have WAH := Lib.hid WA
  have WBH := Lib.hid WB
  have bu : u ≤ 1152921504606846977 := by omega
  have bv : v ≤ 1152921504606846977 := by omega
  have ew : IntKind.i64.wrap (2 * (v : Int)) = 2 * (v : Int) := IntWalk.i64_in _ (by omega)
  have d1 : decide ((u : Int) < 2 * (v : Int)) = true := by rw [decide_eq_true_eq]; omega
  have HH := Lib.hid hh
  clear WA WB ea eb hu hv hh
  go_enter Try.func134, Try.ntmps134
  go_wp2_with fail
  go_quiet ((first | (go_at_call 113; first | exact quiet_left (WAH.out _) | exact quiet_add_left (WAH.out _)) | (go_at_call 113; first | exact quiet_left (WBH.out _) | exact quiet_add_left (WBH.out _))))
  clear ew d1
  go_wp2_with fail
  go_region_held3 (fun w' => w'.cell? ⟨b, 2, none⟩ = some (.pointer qa) ∧ w'.cell? ⟨b, 0, none⟩ = some (.int .i64 y) ∧ w'.cell? ⟨b, 3, none⟩ = some (.pointer qb)) (go_keep) (first
    | (have _t := bw1; go_at_call 111; refine (made_any (mk ts x ta) tb y p1 qb _ (by first | exact hi1 | exact hi1.drew) (by first | exact hb.below bw1 | exact (hb.below bw1).drew) (by rw [size_mk]; omega)).mono ?_; rintro e w2 ⟨p2, rfl, hi2, hb2⟩; have bw2 := below_then bw1 hb2; have s2_0 := (bw2.cell (p := ⟨b, 2, none⟩) klt).trans k2; have s2_1 := (bw2.cell (p := ⟨b, 0, none⟩) klt).trans k0; have s2_2 := (bw2.cell (p := ⟨b, 3, none⟩) klt).trans k3)
    | (go_at_call 111; refine (made_any ts ta x pl qa _ (by first | exact ho | exact ho.drew | exact ho.drewN _ | exact (ho.drewN _).drew | exact (ho.drewN _).drewN _ | exact ((ho.drewN _).drewN _).drew) (by first | exact ha | exact ha.drew | exact ha.drewN _ | exact (ha.drewN _).drew | exact (ha.drewN _).drewN _ | exact ((ha.drewN _).drewN _).drew) (by omega)).mono ?_; rintro e w1 ⟨p1, rfl, hi1, hb1⟩; have bw1 : Below w.heap.size w w1 := (by first | exact hb1 | exact below_of_drewN hb1 | exact below_of_drew hb1 | exact below_of_drewN (below_of_drew hb1) | exact below_of_drewN (below_of_drewN hb1) | exact below_of_drewN (below_of_drewN (below_of_drew hb1))); have s1_0 := (bw1.cell (p := ⟨b, 2, none⟩) klt).trans k2; have s1_1 := (bw1.cell (p := ⟨b, 0, none⟩) klt).trans k0; have s1_2 := (bw1.cell (p := ⟨b, 3, none⟩) klt).trans k3))
  go_wp2_with fail
  go_ret
  exact ⟨_, rfl, hi2, bw2⟩

set_option linter.unusedVariables false
set_option maxRecDepth 100000 in
set_option maxHeartbeats 1600000 in
theorem turnL_two (c c2 : Bool) (y x z : Int) (tb ts m n : ST) (pl pr : Option Addr) (w : World) (hn : In w pr (.node c y (.node c2 z m n) tb)) (ho : In w pl ts) (hs : m.size + n.size + tb.size + ts.size ≤ 1152921504606846975) (hh : ¬ wt (ST.node c2 z m n) < 2 * wt tb) :
    Calls Try.prog 134 #[.pointer pl, .int .i64 x, .pointer pr] w fun e w' => ∃ q, e = .returned (.pointer q) ∧ In w' q (turnL ts x (.node c y (.node c2 z m n) tb)) ∧ Below w.heap.size w w' := by
  have e : turnL ts x (.node c y (.node c2 z m n) tb) = mk (mk ts x m) z (mk n y tb) := by unfold turnL; simp only; rw [if_neg hh]
  rw [e]
  clear e
  obtain ⟨b, qa, qb, rfl, klt, k0, k1, k2, k3, ha, hb⟩ := hn.open
  have hin := ha
  obtain ⟨b2, qm, qn, rfl, jlt, j0, j1, j2, j3, hm, hnn⟩ := hin.open
  have WA := fun d => weight_any (ST.node c2 z m n) _ _ (ha.drewN d) (by simp only [size]; omega)
  have WB := fun d => weight_any tb qb _ (hb.drewN d) (by omega)
  have ea : wt (ST.node c2 z m n) = 1 + m.size + n.size + 1 := rfl
  have eb : wt tb = tb.size + 1 := rfl
  obtain ⟨u, hu⟩ : ∃ u, wt (ST.node c2 z m n) = u := ⟨_, rfl⟩
  obtain ⟨v, hv⟩ : ∃ v, wt tb = v := ⟨_, rfl⟩
  rw [hu] at WA ea hh
  rw [hv] at WB eb hh
  have WAH := Lib.hid WA
  have WBH := Lib.hid WB
  have bu : u ≤ 1152921504606846977 := by omega
  have bv : v ≤ 1152921504606846977 := by omega
  have ew : IntKind.i64.wrap (2 * (v : Int)) = 2 * (v : Int) := IntWalk.i64_in _ (by omega)
  have d1 : decide ((u : Int) < 2 * (v : Int)) = false := by rw [decide_eq_false_iff_not]; omega
  clear WA WB ea eb hu hv hh
  go_enter Try.func134, Try.ntmps134
  go_wp2_with fail
  go_quiet ((first | (go_at_call 113; first | exact quiet_left (WAH.out _) | exact quiet_add_left (WAH.out _)) | (go_at_call 113; first | exact quiet_left (WBH.out _) | exact quiet_add_left (WBH.out _))))
  clear ew d1
  go_wp2_with fail
  go_region_held3 (fun w' => w'.cell? ⟨b2, 2, none⟩ = some (.pointer qm) ∧ w'.cell? ⟨b2, 0, none⟩ = some (.int .i64 z) ∧ w'.cell? ⟨b2, 3, none⟩ = some (.pointer qn) ∧ w'.cell? ⟨b, 0, none⟩ = some (.int .i64 y) ∧ w'.cell? ⟨b, 3, none⟩ = some (.pointer qb)) (go_keep) (first
    | (have _t := bw2; go_at_call 111; refine (made_any (mk ts x m) (mk n y tb) z p1 p2 _ (by first | exact (hi1.below hb2) | exact (hi1.below hb2).drew) (by first | exact hi2 | exact hi2.drew) (by rw [size_mk, size_mk]; omega)).mono ?_; rintro e w3 ⟨p3, rfl, hi3, hb3⟩; have bw3 := below_then bw2 hb3; have s3_0 := (bw3.cell (p := ⟨b2, 2, none⟩) jlt).trans j2; have s3_1 := (bw3.cell (p := ⟨b2, 0, none⟩) jlt).trans j0; have s3_2 := (bw3.cell (p := ⟨b2, 3, none⟩) jlt).trans j3; have s3_3 := (bw3.cell (p := ⟨b, 0, none⟩) klt).trans k0; have s3_4 := (bw3.cell (p := ⟨b, 3, none⟩) klt).trans k3)
    | (have _t := bw1; go_at_call 111; refine (made_any n tb y qn qb _ (by first | exact hnn.below bw1 | exact (hnn.below bw1).drew) (by first | exact hb.below bw1 | exact (hb.below bw1).drew) (by omega)).mono ?_; rintro e w2 ⟨p2, rfl, hi2, hb2⟩; have bw2 := below_then bw1 hb2; have s2_0 := (bw2.cell (p := ⟨b2, 2, none⟩) jlt).trans j2; have s2_1 := (bw2.cell (p := ⟨b2, 0, none⟩) jlt).trans j0; have s2_2 := (bw2.cell (p := ⟨b2, 3, none⟩) jlt).trans j3; have s2_3 := (bw2.cell (p := ⟨b, 0, none⟩) klt).trans k0; have s2_4 := (bw2.cell (p := ⟨b, 3, none⟩) klt).trans k3)
    | (go_at_call 111; refine (made_any ts m x pl qm _ (by first | exact ho | exact ho.drew | exact ho.drewN _ | exact (ho.drewN _).drew | exact (ho.drewN _).drewN _ | exact ((ho.drewN _).drewN _).drew) (by first | exact hm | exact hm.drew | exact hm.drewN _ | exact (hm.drewN _).drew | exact (hm.drewN _).drewN _ | exact ((hm.drewN _).drewN _).drew) (by omega)).mono ?_; rintro e w1 ⟨p1, rfl, hi1, hb1⟩; have bw1 : Below w.heap.size w w1 := (by first | exact hb1 | exact below_of_drewN hb1 | exact below_of_drew hb1 | exact below_of_drewN (below_of_drew hb1) | exact below_of_drewN (below_of_drewN hb1) | exact below_of_drewN (below_of_drewN (below_of_drew hb1))); have s1_0 := (bw1.cell (p := ⟨b2, 2, none⟩) jlt).trans j2; have s1_1 := (bw1.cell (p := ⟨b2, 0, none⟩) jlt).trans j0; have s1_2 := (bw1.cell (p := ⟨b2, 3, none⟩) jlt).trans j3; have s1_3 := (bw1.cell (p := ⟨b, 0, none⟩) klt).trans k0; have s1_4 := (bw1.cell (p := ⟨b, 3, none⟩) klt).trans k3))
  go_wp2_with fail
  go_ret
  exact ⟨_, rfl, hi3, bw3⟩
theorem turnL_any (c : Bool) (y x : Int) (ta tb ts : ST) (pl pr : Option Addr) (w : World) (hn : In w pr (.node c y ta tb)) (ho : In w pl ts) (hs : ta.size + tb.size + ts.size ≤ 1152921504606846976) :
    Calls Try.prog 134 #[.pointer pl, .int .i64 x, .pointer pr] w fun e w' => ∃ q, e = .returned (.pointer q) ∧ In w' q (turnL ts x (.node c y ta tb)) ∧ Below w.heap.size w w' := by
  by_cases hh : wt ta < 2 * wt tb
  · exact turnL_one c y x ta tb ts pl pr w hn ho hs hh
  · cases ta with
    | nil => exact absurd (show wt .nil < 2 * wt tb by have := wt_pos tb; rw [wt_nil]; omega) hh
    | node c2 z m n => exact turnL_two c c2 y x z tb ts m n pl pr w hn ho (by simp only [size] at hs; omega) hh
end Go.Proofs.Ythokmfonedfmfaa.WBT

namespace Go.Proofs.Ythokmfonedfmfaa.WBT
open Go.RowKit Go.Deep
open Go.Proofs.Ythokmfonedfmfaa Go.Proofs.Ythokmfonedfmfaa.ST

set_option linter.unusedVariables false
set_option maxRecDepth 100000 in
set_option maxHeartbeats 1600000 in
theorem turnR_one (c : Bool) (y x : Int) (ta tb ts : ST) (pl pr : Option Addr) (w : World) (hn : In w pl (.node c y ta tb)) (ho : In w pr ts) (hs : ta.size + tb.size + ts.size ≤ 1152921504606846976) (hh : wt tb < 2 * wt ta) :
    Calls Try.prog 135 #[.pointer pl, .int .i64 x, .pointer pr] w fun e w' => ∃ q, e = .returned (.pointer q) ∧ In w' q (turnR x ts (.node c y ta tb)) ∧ Below w.heap.size w w' := by
  have e : turnR x ts (.node c y ta tb) = mk ta y (mk tb x ts) := by unfold turnR; simp only; rw [if_pos hh]
  rw [e]
  clear e
  obtain ⟨b, qa, qb, rfl, klt, k0, k1, k2, k3, ha, hb⟩ := hn.open
  have WA := fun m => weight_any ta qa _ (ha.drewN m) (by omega)
  have WB := fun m => weight_any tb qb _ (hb.drewN m) (by omega)
  have ea : wt ta = ta.size + 1 := rfl
  have eb : wt tb = tb.size + 1 := rfl
  obtain ⟨u, hu⟩ : ∃ u, wt ta = u := ⟨_, rfl⟩
  obtain ⟨v, hv⟩ : ∃ v, wt tb = v := ⟨_, rfl⟩
  rw [hu] at WA ea hh
  rw [hv] at WB eb hh
  have WAH := Lib.hid WA
  have WBH := Lib.hid WB
  have bu : u ≤ 1152921504606846977 := by omega
  have bv : v ≤ 1152921504606846977 := by omega
  have ew : IntKind.i64.wrap (2 * (u : Int)) = 2 * (u : Int) := IntWalk.i64_in _ (by omega)
  have d1 : decide ((v : Int) < 2 * (u : Int)) = true := by rw [decide_eq_true_eq]; omega
  have HH := Lib.hid hh
  clear WA WB ea eb hu hv hh
  go_enter Try.func135, Try.ntmps135
  go_wp2_with fail
  go_quiet ((first | (go_at_call 113; first | exact quiet_left (WAH.out _) | exact quiet_add_left (WAH.out _)) | (go_at_call 113; first | exact quiet_left (WBH.out _) | exact quiet_add_left (WBH.out _))))
  clear ew d1
  go_wp2_with fail
  go_region_held3 (fun w' => w'.cell? ⟨b, 2, none⟩ = some (.pointer qa) ∧ w'.cell? ⟨b, 0, none⟩ = some (.int .i64 y) ∧ w'.cell? ⟨b, 3, none⟩ = some (.pointer qb)) (go_keep) (first
    | (have _t := bw1; go_at_call 111; refine (made_any ta (mk tb x ts) y qa p1 _ (by first | exact ha.below bw1 | exact (ha.below bw1).drew) (by first | exact hi1 | exact hi1.drew) (by rw [size_mk]; omega)).mono ?_; rintro e w2 ⟨p2, rfl, hi2, hb2⟩; have bw2 := below_then bw1 hb2; have s2_0 := (bw2.cell (p := ⟨b, 2, none⟩) klt).trans k2; have s2_1 := (bw2.cell (p := ⟨b, 0, none⟩) klt).trans k0; have s2_2 := (bw2.cell (p := ⟨b, 3, none⟩) klt).trans k3)
    | (go_at_call 111; refine (made_any tb ts x qb pr _ (by first | exact hb | exact hb.drew | exact hb.drewN _ | exact (hb.drewN _).drew | exact (hb.drewN _).drewN _ | exact ((hb.drewN _).drewN _).drew) (by first | exact ho | exact ho.drew | exact ho.drewN _ | exact (ho.drewN _).drew | exact (ho.drewN _).drewN _ | exact ((ho.drewN _).drewN _).drew) (by omega)).mono ?_; rintro e w1 ⟨p1, rfl, hi1, hb1⟩; have bw1 : Below w.heap.size w w1 := (by first | exact hb1 | exact below_of_drewN hb1 | exact below_of_drew hb1 | exact below_of_drewN (below_of_drew hb1) | exact below_of_drewN (below_of_drewN hb1) | exact below_of_drewN (below_of_drewN (below_of_drew hb1))); have s1_0 := (bw1.cell (p := ⟨b, 2, none⟩) klt).trans k2; have s1_1 := (bw1.cell (p := ⟨b, 0, none⟩) klt).trans k0; have s1_2 := (bw1.cell (p := ⟨b, 3, none⟩) klt).trans k3))
  go_wp2_with fail
  go_ret
  exact ⟨_, rfl, hi2, bw2⟩

set_option linter.unusedVariables false
set_option maxRecDepth 100000 in
set_option maxHeartbeats 1600000 in
theorem turnR_two (c c2 : Bool) (y x z : Int) (ta ts m n : ST) (pl pr : Option Addr) (w : World) (hn : In w pl (.node c y ta (.node c2 z m n))) (ho : In w pr ts) (hs : m.size + n.size + ta.size + ts.size ≤ 1152921504606846975) (hh : ¬ wt (ST.node c2 z m n) < 2 * wt ta) :
    Calls Try.prog 135 #[.pointer pl, .int .i64 x, .pointer pr] w fun e w' => ∃ q, e = .returned (.pointer q) ∧ In w' q (turnR x ts (.node c y ta (.node c2 z m n))) ∧ Below w.heap.size w w' := by
  have e : turnR x ts (.node c y ta (.node c2 z m n)) = mk (mk ta y m) z (mk n x ts) := by unfold turnR; simp only; rw [if_neg hh]
  rw [e]
  clear e
  obtain ⟨b, qa, qb, rfl, klt, k0, k1, k2, k3, ha, hb⟩ := hn.open
  have hin := hb
  obtain ⟨b2, qm, qn, rfl, jlt, j0, j1, j2, j3, hm, hnn⟩ := hin.open
  have WA := fun d => weight_any (ST.node c2 z m n) _ _ (hb.drewN d) (by simp only [size]; omega)
  have WB := fun d => weight_any ta qa _ (ha.drewN d) (by omega)
  have ea : wt (ST.node c2 z m n) = 1 + m.size + n.size + 1 := rfl
  have eb : wt ta = ta.size + 1 := rfl
  obtain ⟨u, hu⟩ : ∃ u, wt (ST.node c2 z m n) = u := ⟨_, rfl⟩
  obtain ⟨v, hv⟩ : ∃ v, wt ta = v := ⟨_, rfl⟩
  rw [hu] at WA ea hh
  rw [hv] at WB eb hh
  have WAH := Lib.hid WA
  have WBH := Lib.hid WB
  have bu : u ≤ 1152921504606846977 := by omega
  have bv : v ≤ 1152921504606846977 := by omega
  have ew : IntKind.i64.wrap (2 * (v : Int)) = 2 * (v : Int) := IntWalk.i64_in _ (by omega)
  have d1 : decide ((u : Int) < 2 * (v : Int)) = false := by rw [decide_eq_false_iff_not]; omega
  clear WA WB ea eb hu hv hh
  go_enter Try.func135, Try.ntmps135
  go_wp2_with fail
  go_quiet ((first | (go_at_call 113; first | exact quiet_left (WAH.out _) | exact quiet_add_left (WAH.out _)) | (go_at_call 113; first | exact quiet_left (WBH.out _) | exact quiet_add_left (WBH.out _))))
  clear ew d1
  go_wp2_with fail
  go_region_held3 (fun w' => w'.cell? ⟨b2, 2, none⟩ = some (.pointer qm) ∧ w'.cell? ⟨b2, 0, none⟩ = some (.int .i64 z) ∧ w'.cell? ⟨b2, 3, none⟩ = some (.pointer qn) ∧ w'.cell? ⟨b, 0, none⟩ = some (.int .i64 y) ∧ w'.cell? ⟨b, 2, none⟩ = some (.pointer qa)) (go_keep) (first
    | (have _t := bw2; go_at_call 111; refine (made_any (mk ta y m) (mk n x ts) z p1 p2 _ (by first | exact (hi1.below hb2) | exact (hi1.below hb2).drew) (by first | exact hi2 | exact hi2.drew) (by rw [size_mk, size_mk]; omega)).mono ?_; rintro e w3 ⟨p3, rfl, hi3, hb3⟩; have bw3 := below_then bw2 hb3; have s3_0 := (bw3.cell (p := ⟨b2, 2, none⟩) jlt).trans j2; have s3_1 := (bw3.cell (p := ⟨b2, 0, none⟩) jlt).trans j0; have s3_2 := (bw3.cell (p := ⟨b2, 3, none⟩) jlt).trans j3; have s3_3 := (bw3.cell (p := ⟨b, 0, none⟩) klt).trans k0; have s3_4 := (bw3.cell (p := ⟨b, 2, none⟩) klt).trans k2)
    | (have _t := bw1; go_at_call 111; refine (made_any n ts x qn pr _ (by first | exact hnn.below bw1 | exact (hnn.below bw1).drew) (by first | exact ho.below bw1 | exact (ho.below bw1).drew) (by omega)).mono ?_; rintro e w2 ⟨p2, rfl, hi2, hb2⟩; have bw2 := below_then bw1 hb2; have s2_0 := (bw2.cell (p := ⟨b2, 2, none⟩) jlt).trans j2; have s2_1 := (bw2.cell (p := ⟨b2, 0, none⟩) jlt).trans j0; have s2_2 := (bw2.cell (p := ⟨b2, 3, none⟩) jlt).trans j3; have s2_3 := (bw2.cell (p := ⟨b, 0, none⟩) klt).trans k0; have s2_4 := (bw2.cell (p := ⟨b, 2, none⟩) klt).trans k2)
    | (go_at_call 111; refine (made_any ta m y qa qm _ (by first | exact ha | exact ha.drew | exact ha.drewN _ | exact (ha.drewN _).drew | exact (ha.drewN _).drewN _ | exact ((ha.drewN _).drewN _).drew) (by first | exact hm | exact hm.drew | exact hm.drewN _ | exact (hm.drewN _).drew | exact (hm.drewN _).drewN _ | exact ((hm.drewN _).drewN _).drew) (by omega)).mono ?_; rintro e w1 ⟨p1, rfl, hi1, hb1⟩; have bw1 : Below w.heap.size w w1 := (by first | exact hb1 | exact below_of_drewN hb1 | exact below_of_drew hb1 | exact below_of_drewN (below_of_drew hb1) | exact below_of_drewN (below_of_drewN hb1) | exact below_of_drewN (below_of_drewN (below_of_drew hb1))); have s1_0 := (bw1.cell (p := ⟨b2, 2, none⟩) jlt).trans j2; have s1_1 := (bw1.cell (p := ⟨b2, 0, none⟩) jlt).trans j0; have s1_2 := (bw1.cell (p := ⟨b2, 3, none⟩) jlt).trans j3; have s1_3 := (bw1.cell (p := ⟨b, 0, none⟩) klt).trans k0; have s1_4 := (bw1.cell (p := ⟨b, 2, none⟩) klt).trans k2))
  go_wp2_with fail
  go_ret
  exact ⟨_, rfl, hi3, bw3⟩
theorem turnR_any (c : Bool) (y x : Int) (ta tb ts : ST) (pl pr : Option Addr) (w : World) (hn : In w pl (.node c y ta tb)) (ho : In w pr ts) (hs : ta.size + tb.size + ts.size ≤ 1152921504606846976) :
    Calls Try.prog 135 #[.pointer pl, .int .i64 x, .pointer pr] w fun e w' => ∃ q, e = .returned (.pointer q) ∧ In w' q (turnR x ts (.node c y ta tb)) ∧ Below w.heap.size w w' := by
  by_cases hh : wt tb < 2 * wt ta
  · exact turnR_one c y x ta tb ts pl pr w hn ho hs hh
  · cases tb with
    | nil => exact absurd (show wt .nil < 2 * wt ta by have := wt_pos ta; rw [wt_nil]; omega) hh
    | node c2 z m n => exact turnR_two c c2 y x z ta ts m n pl pr w hn ho (by simp only [size] at hs; omega) hh
end Go.Proofs.Ythokmfonedfmfaa.WBT

namespace Go.Proofs.Ythokmfonedfmfaa.WBT
open Go.RowKit Go.Deep
open Go.Proofs.Ythokmfonedfmfaa Go.Proofs.Ythokmfonedfmfaa.ST

set_option linter.unusedVariables false
set_option maxRecDepth 100000 in
set_option maxHeartbeats 1600000 in
theorem even_any (tl tr : ST) (x : Int) (pl pr : Option Addr) (w : World) (hl : In w pl tl) (hr : In w pr tr) (hs : tl.size + tr.size ≤ 1152921504606846976) :
    Calls Try.prog 110 #[.pointer pl, .int .i64 x, .pointer pr] w fun e w' => ∃ q, e = .returned (.pointer q) ∧ In w' q (even tl x tr) ∧ Below w.heap.size w w' := by
  by_cases h1 : 3 * wt tl < wt tr
  · have H1 := heavy_b tr tl true pr pl w hr hl (by omega) (by simp [h1])
    cases tr with
    | nil => have := wt_pos tl; rw [wt_nil] at h1; omega
    | node c y ta tb =>
      have T := turnL_any c y x ta tb tl pl pr w hr hl (by simp only [size] at hs; omega)
      have e : even tl x (.node c y ta tb) = turnL tl x (.node c y ta tb) := by unfold even; rw [if_pos h1]
      rw [e]
      have HH := Lib.hid H1
      have TH := Lib.hid T
      clear H1 T e h1
      go_enter Try.func110, Try.ntmps110
      go_wp2_with fail
      refine (HH.out).mono ?_
      rintro e w' ⟨rfl, rfl⟩
      go_wp2_with fail
      refine (TH.out).mono ?_
      rintro e w1 ⟨p1, rfl, hi1, bw1⟩
      go_wp2_with fail
      go_ret
      exact ⟨_, rfl, hi1, bw1⟩
  · have H1 := heavy_b tr tl false pr pl w hr hl (by omega) (by simp; omega)
    by_cases h2 : 3 * wt tr < wt tl
    · have H2 := heavy_b tl tr true pl pr w hl hr (by omega) (by simp [h2])
      cases tl with
      | nil => have := wt_pos tr; rw [wt_nil] at h2; omega
      | node c y ta tb =>
        have T := turnR_any c y x ta tb tr pl pr w hl hr (by simp only [size] at hs; omega)
        have e : even (.node c y ta tb) x tr = turnR x tr (.node c y ta tb) := by unfold even; rw [if_neg h1, if_pos h2]
        rw [e]
        have HH := Lib.hid H1
        have HH2 := Lib.hid H2
        have TH := Lib.hid T
        clear H1 H2 T e h1 h2
        go_enter Try.func110, Try.ntmps110
        go_wp2_with fail
        refine (HH.out).mono ?_
        rintro e w' ⟨rfl, rfl⟩
        go_wp2_with fail
        refine (HH2.out).mono ?_
        rintro e w' ⟨rfl, rfl⟩
        go_wp2_with fail
        refine (TH.out).mono ?_
        rintro e w1 ⟨p1, rfl, hi1, bw1⟩
        go_wp2_with fail
        go_ret
        exact ⟨_, rfl, hi1, bw1⟩
    · have H2 := heavy_b tl tr false pl pr w hl hr (by omega) (by simp; omega)
      have T := made_any tl tr x pl pr w hl hr (by omega)
      have e : even tl x tr = mk tl x tr := by unfold even; rw [if_neg h1, if_neg h2]
      rw [e]
      have HH := Lib.hid H1
      have HH2 := Lib.hid H2
      have TH := Lib.hid T
      clear H1 H2 T e h1 h2
      go_enter Try.func110, Try.ntmps110
      go_wp2_with fail
      refine (HH.out).mono ?_
      rintro e w' ⟨rfl, rfl⟩
      go_wp2_with fail
      refine (HH2.out).mono ?_
      rintro e w' ⟨rfl, rfl⟩
      go_wp2_with fail
      refine (TH.out).mono ?_
      rintro e w1 ⟨p1, rfl, hi1, bw1⟩
      go_wp2_with fail
      go_ret
      exact ⟨_, rfl, hi1, bw1⟩
end Go.Proofs.Ythokmfonedfmfaa.WBT

namespace Go.Proofs.Ythokmfonedfmfaa.WBT
open Go.RowKit Go.Deep
open Go.Proofs.Ythokmfonedfmfaa Go.Proofs.Ythokmfonedfmfaa.ST
theorem link_lt {c : Bool} {x y : Int} {l a b : ST} (h : 3 * wt l < wt (ST.node c y a b)) : link l x (.node c y a b) = even (link l x a) y b := by
  rw [link.eq_def, if_pos h]
theorem link_gt {c : Bool} {x y : Int} {r a b : ST} (h : ¬ 3 * wt (ST.node c y a b) < wt r) (h2 : 3 * wt r < wt (ST.node c y a b)) : link (.node c y a b) x r = even a y (link b x r) := by
  rw [link.eq_def, if_neg h, if_pos h2]
theorem link_mk {l r : ST} {x : Int} (h : ¬ 3 * wt l < wt r) (h2 : ¬ 3 * wt r < wt l) : link l x r = mk l x r := by
  rw [link.eq_def, if_neg h, if_neg h2]

set_option linter.unusedVariables false
set_option maxRecDepth 100000 in
set_option maxHeartbeats 1600000 in
theorem link_n (x : Int) : ∀ (n : Nat) (tl tr : ST), tl.size + tr.size ≤ n → n ≤ 1152921504606846975 → ∀ (pl pr : Option Addr) (w : World), In w pl tl → In w pr tr →
    Calls Try.prog 69 #[.pointer pl, .int .i64 x, .pointer pr] w fun e w' => ∃ q, e = .returned (.pointer q) ∧ In w' q (link tl x tr) ∧ Below w.heap.size w w' := by
  intro n
  induction n with
  | zero =>
    intro tl tr hn hN pl pr w hl hr
    have h1 : ¬ 3 * wt tl < wt tr := by simp only [wt]; omega
    have h2 : ¬ 3 * wt tr < wt tl := by simp only [wt]; omega
    have H1 := heavy_b tr tl false pr pl w hr hl (by omega) (by simp; omega)
    have H2 := heavy_b tl tr false pl pr w hl hr (by omega) (by simp; omega)
    have T := made_any tl tr x pl pr w hl hr (by omega)
    rw [link_mk h1 h2]
    have HH := Lib.hid H1
    have HH2 := Lib.hid H2
    have TH := Lib.hid T
    clear H1 H2 T h1 h2
    go_enter Try.func69, Try.ntmps69
    go_wp2_with fail
    refine (HH.out).mono ?_
    rintro e w' ⟨rfl, rfl⟩
    go_wp2_with fail
    refine (HH2.out).mono ?_
    rintro e w' ⟨rfl, rfl⟩
    go_wp2_with fail
    refine (TH.out).mono ?_
    rintro e w1 ⟨p1, rfl, hi1, bw1⟩
    go_wp2_with fail
    go_ret
    exact ⟨_, rfl, hi1, bw1⟩
  | succ n ih =>
    intro tl tr hn hN pl pr w hl hr
    by_cases h1 : 3 * wt tl < wt tr
    · have H1 := heavy_b tr tl true pr pl w hr hl (by omega) (by simp [h1])
      cases tr with
      | nil => have := wt_pos tl; rw [wt_nil] at h1; omega
      | node c y ta tb =>
        rw [link_lt h1]
        simp only [size] at hn
        have hz := link_size tl x ta
        have hr' := hr
        obtain ⟨b, qa, qb, rfl, klt, k0, k1, k2, k3, ha, hb⟩ := hr'.open
        have HH := Lib.hid H1
        clear H1 h1
        go_enter Try.func69, Try.ntmps69
        go_wp2_with fail
        refine (HH.out).mono ?_
        rintro e w' ⟨rfl, rfl⟩
        go_wp2_with fail
        go_region_held3 (fun w' => w'.cell? ⟨b, 2, none⟩ = some (.pointer qa) ∧ w'.cell? ⟨b, 0, none⟩ = some (.int .i64 y) ∧ w'.cell? ⟨b, 3, none⟩ = some (.pointer qb)) (go_keep) (first
          | (have _t := bw1; go_at_call 110; refine (even_any (link tl x ta) tb y p1 qb _ (by first | exact hi1 | exact hi1.drew) (by first | exact hb.below bw1 | exact (hb.below bw1).drew) (by omega)).mono ?_; rintro e w2 ⟨p2, rfl, hi2, hb2⟩; have bw2 := below_then bw1 hb2; have s2_0 := (bw2.cell (p := ⟨b, 2, none⟩) klt).trans k2; have s2_1 := (bw2.cell (p := ⟨b, 0, none⟩) klt).trans k0; have s2_2 := (bw2.cell (p := ⟨b, 3, none⟩) klt).trans k3)
          | (go_at_call 69; refine (ih tl ta (by omega) (by omega) pl qa _ (by first | exact hl | exact hl.drew | exact hl.drewN _ | exact (hl.drewN _).drew | exact (hl.drewN _).drewN _ | exact ((hl.drewN _).drewN _).drew) (by first | exact ha | exact ha.drew | exact ha.drewN _ | exact (ha.drewN _).drew | exact (ha.drewN _).drewN _ | exact ((ha.drewN _).drewN _).drew)).mono ?_; rintro e w1 ⟨p1, rfl, hi1, hb1⟩; have bw1 : Below w.heap.size w w1 := (by first | exact hb1 | exact below_of_drewN hb1 | exact below_of_drew hb1 | exact below_of_drewN (below_of_drew hb1) | exact below_of_drewN (below_of_drewN hb1) | exact below_of_drewN (below_of_drewN (below_of_drew hb1))); have s1_0 := (bw1.cell (p := ⟨b, 2, none⟩) klt).trans k2; have s1_1 := (bw1.cell (p := ⟨b, 0, none⟩) klt).trans k0; have s1_2 := (bw1.cell (p := ⟨b, 3, none⟩) klt).trans k3))
        go_wp2_with fail
        go_ret
        exact ⟨_, rfl, hi2, bw2⟩
    · by_cases h2 : 3 * wt tr < wt tl
      · have H1 := heavy_b tr tl false pr pl w hr hl (by omega) (by simp; omega)
        have H2 := heavy_b tl tr true pl pr w hl hr (by omega) (by simp [h2])
        cases tl with
        | nil => have := wt_pos tr; rw [wt_nil] at h2; omega
        | node c y ta tb =>
          rw [link_gt h1 h2]
          simp only [size] at hn
          have hz := link_size tb x tr
          have hl' := hl
          obtain ⟨b, qa, qb, rfl, klt, k0, k1, k2, k3, ha, hb⟩ := hl'.open
          have HH := Lib.hid H1
          have HH2 := Lib.hid H2
          clear H1 H2 h1 h2
          go_enter Try.func69, Try.ntmps69
          go_wp2_with fail
          refine (HH.out).mono ?_
          rintro e w' ⟨rfl, rfl⟩
          go_wp2_with fail
          refine (HH2.out).mono ?_
          rintro e w' ⟨rfl, rfl⟩
          go_wp2_with fail
          go_region_held3 (fun w' => w'.cell? ⟨b, 2, none⟩ = some (.pointer qa) ∧ w'.cell? ⟨b, 0, none⟩ = some (.int .i64 y) ∧ w'.cell? ⟨b, 3, none⟩ = some (.pointer qb)) (go_keep) (first
            | (have _t := bw1; go_at_call 110; refine (even_any ta (link tb x tr) y qa p1 _ (by first | exact ha.below bw1 | exact (ha.below bw1).drew) (by first | exact hi1 | exact hi1.drew) (by omega)).mono ?_; rintro e w2 ⟨p2, rfl, hi2, hb2⟩; have bw2 := below_then bw1 hb2; have s2_0 := (bw2.cell (p := ⟨b, 2, none⟩) klt).trans k2; have s2_1 := (bw2.cell (p := ⟨b, 0, none⟩) klt).trans k0; have s2_2 := (bw2.cell (p := ⟨b, 3, none⟩) klt).trans k3)
            | (go_at_call 69; refine (ih tb tr (by omega) (by omega) qb pr _ (by first | exact hb | exact hb.drew | exact hb.drewN _ | exact (hb.drewN _).drew | exact (hb.drewN _).drewN _ | exact ((hb.drewN _).drewN _).drew) (by first | exact hr | exact hr.drew | exact hr.drewN _ | exact (hr.drewN _).drew | exact (hr.drewN _).drewN _ | exact ((hr.drewN _).drewN _).drew)).mono ?_; rintro e w1 ⟨p1, rfl, hi1, hb1⟩; have bw1 : Below w.heap.size w w1 := (by first | exact hb1 | exact below_of_drewN hb1 | exact below_of_drew hb1 | exact below_of_drewN (below_of_drew hb1) | exact below_of_drewN (below_of_drewN hb1) | exact below_of_drewN (below_of_drewN (below_of_drew hb1))); have s1_0 := (bw1.cell (p := ⟨b, 2, none⟩) klt).trans k2; have s1_1 := (bw1.cell (p := ⟨b, 0, none⟩) klt).trans k0; have s1_2 := (bw1.cell (p := ⟨b, 3, none⟩) klt).trans k3))
          go_wp2_with fail
          go_ret
          exact ⟨_, rfl, hi2, bw2⟩
      · skip
        have H1 := heavy_b tr tl false pr pl w hr hl (by omega) (by simp; omega)
        have H2 := heavy_b tl tr false pl pr w hl hr (by omega) (by simp; omega)
        have T := made_any tl tr x pl pr w hl hr (by omega)
        rw [link_mk h1 h2]
        have HH := Lib.hid H1
        have HH2 := Lib.hid H2
        have TH := Lib.hid T
        clear H1 H2 T h1 h2
        go_enter Try.func69, Try.ntmps69
        go_wp2_with fail
        refine (HH.out).mono ?_
        rintro e w' ⟨rfl, rfl⟩
        go_wp2_with fail
        refine (HH2.out).mono ?_
        rintro e w' ⟨rfl, rfl⟩
        go_wp2_with fail
        refine (TH.out).mono ?_
        rintro e w1 ⟨p1, rfl, hi1, bw1⟩
        go_wp2_with fail
        go_ret
        exact ⟨_, rfl, hi1, bw1⟩

theorem link_any (tl tr : ST) (x : Int) (pl pr : Option Addr) (w : World) (hl : In w pl tl) (hr : In w pr tr) (hs : tl.size + tr.size ≤ 1152921504606846975) :
    Calls Try.prog 69 #[.pointer pl, .int .i64 x, .pointer pr] w fun e w' => ∃ q, e = .returned (.pointer q) ∧ In w' q (link tl x tr) ∧ Below w.heap.size w w' := link_n x _ tl tr (Nat.le_refl _) hs pl pr w hl hr
end Go.Proofs.Ythokmfonedfmfaa.WBT

namespace Go.Proofs.Ythokmfonedfmfaa.WBT
open Go.RowKit Go.Deep
open Go.Proofs.Ythokmfonedfmfaa Go.Proofs.Ythokmfonedfmfaa.ST

set_option linter.unusedVariables false
set_option maxRecDepth 100000 in
set_option maxHeartbeats 1600000 in
theorem first_any (t : ST) : t ≠ .nil → ∀ (p : Option Addr) (w : World), In w p t → t.size ≤ 1152921504606846975 →
    Calls Try.prog 101 #[.pointer p] w fun e w' => ∃ q, e = .returned (.tuple #[.int .i64 (first t).1, .pointer q]) ∧ In w' q (first t).2 ∧ Below w.heap.size w w' := by
  induction t with
  | nil => intro h; exact absurd rfl h
  | node c y l r ihl ihr =>
    intro _ p w h hs
    have hs' := hs
    simp only [size] at hs'
    obtain ⟨b, pl, pr, rfl, klt, k0, k1, k2, k3, hl, hr⟩ := h.open
    cases l with
    | nil =>
      obtain rfl : pl = none := hl
      rw [show first (.node c y .nil r) = (y, r) from rfl]
      go_enter Try.func101, Try.ntmps101
      go_wp2_with fail
      go_quiet (fail)
      go_wp2_with fail
      go_ret2
      exact ⟨_, rfl, hr.drewN _, below_drewN (Below.refl _ _) _⟩
    | node c' z ll lr =>
      rw [show first (.node c y (.node c' z ll lr) r) = ((first (.node c' z ll lr)).1, even (first (.node c' z ll lr)).2 y r) from rfl]
      have hf := first_size (.node c' z ll lr) (by simp)
      have Fh := ihl (by simp) pl w hl (by simp only [size] at *; omega)
      obtain ⟨b', ql, qr, rfl, _⟩ := hl
      obtain ⟨x0, hx0⟩ : ∃ x0, (first (.node c' z ll lr)).1 = x0 := ⟨_, rfl⟩
      obtain ⟨t0, ht0⟩ : ∃ t0, (first (.node c' z ll lr)).2 = t0 := ⟨_, rfl⟩
      rw [hx0, ht0] at Fh
      rw [ht0] at hf
      simp only [hx0, ht0]
      have hsz : t0.size + r.size ≤ 1152921504606846975 := by omega
      have FF := Lib.hid Fh
      clear hx0 ht0 hf Fh hs' hs ihl ihr
      go_enter Try.func101, Try.ntmps101
      go_wp2_with fail
      refine (FF.out).mono ?_
      rintro e w1 ⟨p1, rfl, hi1, bv1⟩
      have s0 := (bv1.cell (p := ⟨b, 0, none⟩) klt).trans k0
      have s3 := (bv1.cell (p := ⟨b, 3, none⟩) klt).trans k3
      have klt1 := Nat.lt_of_lt_of_le klt bv1.size
      have hr1 := hr.below bv1
      go_wp2_with fail
      go_region_held3 (fun w' => w'.cell? ⟨b, 0, none⟩ = some (.int .i64 y) ∧ w'.cell? ⟨b, 3, none⟩ = some (.pointer pr)) (go_keep) (first
        | (go_at_call 110; refine (even_any t0 r y p1 pr _ (by first | exact hi1 | exact hi1.drew | exact hi1.drewN _ | exact (hi1.drewN _).drew | exact (hi1.drewN _).drewN _ | exact ((hi1.drewN _).drewN _).drew) (by first | exact hr1 | exact hr1.drew | exact hr1.drewN _ | exact (hr1.drewN _).drew | exact (hr1.drewN _).drewN _ | exact ((hr1.drewN _).drewN _).drew) (by omega)).mono ?_; rintro e wz1 ⟨p2, rfl, hi2, hbz1⟩; have bwz1 : Below w1.heap.size w1 wz1 := (by first | exact hbz1 | exact below_of_drewN hbz1 | exact below_of_drew hbz1 | exact below_of_drewN (below_of_drew hbz1) | exact below_of_drewN (below_of_drewN hbz1) | exact below_of_drewN (below_of_drewN (below_of_drew hbz1))); have sz1_0 := (bwz1.cell (p := ⟨b, 0, none⟩) klt1).trans s0; have sz1_1 := (bwz1.cell (p := ⟨b, 3, none⟩) klt1).trans s3))
      go_wp2_with fail
      go_ret2
      exact ⟨_, rfl, hi2, below_then bv1 bwz1⟩

set_option linter.unusedVariables false
set_option maxRecDepth 100000 in
set_option maxHeartbeats 1600000 in
theorem joined_any (tl tr : ST) (pl pr : Option Addr) (w : World) (hl : In w pl tl) (hr : In w pr tr) (hs : tl.size + tr.size ≤ 1152921504606846975) :
    Calls Try.prog 62 #[.pointer pl, .pointer pr] w fun e w' => ∃ q, e = .returned (.pointer q) ∧ In w' q (joined tl tr) ∧ Below w.heap.size w w' := by
  cases tr with
  | nil =>
    rw [show joined tl .nil = tl from rfl]
    obtain rfl : pr = none := hr
    go_enter Try.func62, Try.ntmps62
    go_wp2_with fail
    go_ret
    exact ⟨_, rfl, hl, Below.refl _ _⟩
  | node c y a b =>
    rw [show joined tl (.node c y a b) = link tl (first (.node c y a b)).1 (first (.node c y a b)).2 from rfl]
    have hf := first_size (.node c y a b) (by simp)
    have Fh := first_any (.node c y a b) (by simp) pr w hr (by omega)
    obtain ⟨b', ql, qr, rfl, _⟩ := hr
    obtain ⟨x0, hx0⟩ : ∃ x0, (first (.node c y a b)).1 = x0 := ⟨_, rfl⟩
    obtain ⟨t0, ht0⟩ : ∃ t0, (first (.node c y a b)).2 = t0 := ⟨_, rfl⟩
    rw [hx0, ht0] at Fh
    rw [ht0] at hf
    rw [hx0, ht0]
    have hsz : tl.size + t0.size ≤ 1152921504606846975 := by omega
    have FF := Lib.hid Fh
    clear hx0 ht0 hf Fh hs
    go_enter Try.func62, Try.ntmps62
    go_wp2_with fail
    refine (FF.out).mono ?_
    rintro e w1 ⟨p1, rfl, hi1, bv1⟩
    go_wp2_with fail
    refine (link_any tl t0 x0 pl p1 _ (hl.below bv1) hi1 hsz).mono ?_
    rintro e w2 ⟨p2, rfl, hi2, bv2⟩
    go_wp2_with fail
    go_ret
    exact ⟨_, rfl, hi2, below_then bv1 bv2⟩
end Go.Proofs.Ythokmfonedfmfaa.WBT

namespace Go.Proofs.Ythokmfonedfmfaa.WBT
open Go.RowKit Go.Deep
open Go.Proofs.Ythokmfonedfmfaa Go.Proofs.Ythokmfonedfmfaa.ST
theorem split_lt {c : Bool} {x y : Int} {l r : ST} (h : x < y) : split (.node c y l r) x = ((split l x).1, (split l x).2.1, link (split l x).2.2 y r) := by simp only [split]; rw [if_pos h]
theorem split_gt {c : Bool} {x y : Int} {l r : ST} (h : y < x) : split (.node c y l r) x = (link l y (split r x).1, (split r x).2.1, (split r x).2.2) := by simp only [split]; rw [if_neg (by omega), if_pos h]
theorem split_eq {c : Bool} {x : Int} {l r : ST} : split (.node c x l r) x = (l, true, r) := by simp only [split]; rw [if_neg (by omega), if_neg (by omega)]

set_option linter.unusedVariables false
set_option maxRecDepth 100000 in
set_option maxHeartbeats 1600000 in
theorem split_any (t : ST) (x : Int) : ∀ (p : Option Addr) (w : World), In w p t → t.size ≤ 1152921504606846975 →
    Calls Try.prog 61 #[.pointer p, .int .i64 x] w fun e w' => ∃ ql qr, e = .returned (.tuple #[.pointer ql, .bool (split t x).2.1, .pointer qr]) ∧ In w' ql (split t x).1 ∧ In w' qr (split t x).2.2 ∧ Below w.heap.size w w' := by
  induction t with
  | nil =>
    intro p w h hs
    obtain rfl : p = none := h
    go_enter Try.func61, Try.ntmps61
    go_wp2_with fail
    refine bodyPost_ret (v := .tuple #[.pointer none, .bool false, .pointer none]) (by simp [results, Try.results61, go_sem]) rfl ⟨none, none, rfl, rfl, rfl, Below.refl _ _⟩
  | node c y l r ihl ihr =>
    intro p w h hs
    have hs' := hs
    simp only [size] at hs'
    obtain ⟨b, pl, pr, rfl, klt, k0, k1, k2, k3, hl, hr⟩ := h.open
    by_cases hx : x < y
    · rw [split_lt hx]
      have d1 : decide (x < y) = true := by simp [hx]
      have hz := split_size l x
      have IH := ihl pl w hl (by omega)
      obtain ⟨sl, hsl⟩ : ∃ s, (split l x).1 = s := ⟨_, rfl⟩
      obtain ⟨sb, hsb⟩ : ∃ s, (split l x).2.1 = s := ⟨_, rfl⟩
      obtain ⟨sr, hsr⟩ : ∃ s, (split l x).2.2 = s := ⟨_, rfl⟩
      rw [hsl, hsr] at hz
      rw [hsl, hsb, hsr] at IH ⊢
      simp only
      clear hsl hsb hsr ihl ihr
      have IHH := Lib.hid IH
      clear IH
      go_enter Try.func61, Try.ntmps61
      go_wp2_with fail
      refine IHH.out.mono ?_
      rintro e w1 ⟨ql, qr, rfl, h1, h2, b1⟩
      have s0 := (b1.cell (p := ⟨b, 0, none⟩) klt).trans k0
      have s2 := (b1.cell (p := ⟨b, 2, none⟩) klt).trans k2
      have s3 := (b1.cell (p := ⟨b, 3, none⟩) klt).trans k3
      have klt1 := Nat.lt_of_lt_of_le klt b1.size
      have hr1 := hr.below b1
      go_wp2_with fail
      go_region_held3 (fun w' => w'.cell? ⟨b, 0, none⟩ = some (.int .i64 y) ∧ w'.cell? ⟨b, 3, none⟩ = some (.pointer pr)) (go_keep) (first
        | (go_at_call 69; refine (link_any sr r y qr pr _ (by first | exact h2 | exact h2.drew | exact h2.drewN _ | exact (h2.drewN _).drew | exact (h2.drewN _).drewN _ | exact ((h2.drewN _).drewN _).drew) (by first | exact hr1 | exact hr1.drew | exact hr1.drewN _ | exact (hr1.drewN _).drew | exact (hr1.drewN _).drewN _ | exact ((hr1.drewN _).drewN _).drew) (by omega)).mono ?_; rintro e wz1 ⟨q2, rfl, hi2, hbz1⟩; have bwz1 : Below w1.heap.size w1 wz1 := (by first | exact hbz1 | exact below_of_drewN hbz1 | exact below_of_drew hbz1 | exact below_of_drewN (below_of_drew hbz1) | exact below_of_drewN (below_of_drewN hbz1) | exact below_of_drewN (below_of_drewN (below_of_drew hbz1))); have sz1_0 := (bwz1.cell (p := ⟨b, 0, none⟩) klt1).trans s0; have sz1_1 := (bwz1.cell (p := ⟨b, 3, none⟩) klt1).trans s3))
      go_wp2_with fail
      refine bodyPost_ret (v := .tuple #[.pointer ql, .bool sb, .pointer q2]) (by simp [results, Try.results61, go_sem]) rfl ⟨ql, q2, rfl, h1.below bwz1, hi2, below_then b1 bwz1⟩
    by_cases hx : y < x
    · rw [split_gt hx]
      have d1 : decide (x < y) = false := by simp; omega
      have d2 : decide (y < x) = true := by simp [hx]
      have hz := split_size r x
      have IH := ihr pr w hr (by omega)
      obtain ⟨sl, hsl⟩ : ∃ s, (split r x).1 = s := ⟨_, rfl⟩
      obtain ⟨sb, hsb⟩ : ∃ s, (split r x).2.1 = s := ⟨_, rfl⟩
      obtain ⟨sr, hsr⟩ : ∃ s, (split r x).2.2 = s := ⟨_, rfl⟩
      rw [hsl, hsr] at hz
      rw [hsl, hsb, hsr] at IH ⊢
      simp only
      clear hsl hsb hsr ihl ihr
      have IHH := Lib.hid IH
      clear IH
      go_enter Try.func61, Try.ntmps61
      go_wp2_with fail
      refine IHH.out.mono ?_
      rintro e w1 ⟨ql, qr, rfl, h1, h2, b1⟩
      have s0 := (b1.cell (p := ⟨b, 0, none⟩) klt).trans k0
      have s2 := (b1.cell (p := ⟨b, 2, none⟩) klt).trans k2
      have s3 := (b1.cell (p := ⟨b, 3, none⟩) klt).trans k3
      have klt1 := Nat.lt_of_lt_of_le klt b1.size
      have hl1 := hl.below b1
      go_wp2_with fail
      go_region_held3 (fun w' => w'.cell? ⟨b, 2, none⟩ = some (.pointer pl) ∧ w'.cell? ⟨b, 0, none⟩ = some (.int .i64 y)) (go_keep) (first
        | (go_at_call 69; refine (link_any l sl y pl ql _ (by first | exact hl1 | exact hl1.drew | exact hl1.drewN _ | exact (hl1.drewN _).drew | exact (hl1.drewN _).drewN _ | exact ((hl1.drewN _).drewN _).drew) (by first | exact h1 | exact h1.drew | exact h1.drewN _ | exact (h1.drewN _).drew | exact (h1.drewN _).drewN _ | exact ((h1.drewN _).drewN _).drew) (by omega)).mono ?_; rintro e wz1 ⟨q2, rfl, hi2, hbz1⟩; have bwz1 : Below w1.heap.size w1 wz1 := (by first | exact hbz1 | exact below_of_drewN hbz1 | exact below_of_drew hbz1 | exact below_of_drewN (below_of_drew hbz1) | exact below_of_drewN (below_of_drewN hbz1) | exact below_of_drewN (below_of_drewN (below_of_drew hbz1))); have sz1_0 := (bwz1.cell (p := ⟨b, 2, none⟩) klt1).trans s2; have sz1_1 := (bwz1.cell (p := ⟨b, 0, none⟩) klt1).trans s0))
      go_wp2_with fail
      refine bodyPost_ret (v := .tuple #[.pointer q2, .bool sb, .pointer qr]) (by simp [results, Try.results61, go_sem]) rfl ⟨q2, qr, rfl, hi2, h2.below bwz1, below_then b1 bwz1⟩
    · obtain rfl : x = y := by omega
      rw [split_eq]
      have d1 : decide (x < x) = false := by simp
      simp only
      go_enter Try.func61, Try.ntmps61
      go_wp2_with fail
      go_quiet (fail)
      go_wp2_with fail
      refine bodyPost_ret (v := .tuple #[.pointer pl, .bool true, .pointer pr]) (by simp [results, Try.results61, go_sem]) rfl ⟨pl, pr, rfl, hl.drewN _, hr.drewN _, below_drewN (Below.refl _ _) _⟩
end Go.Proofs.Ythokmfonedfmfaa.WBT
