/-
  Wbt: a turn to the left. Conditions: sizes below 2^60.
-/
import Derived.Test.YtchglmgbnmdffaaWbtWalks
namespace Go.Proofs.Ytchglmgbnmdffaa.WBT
open Go.RowKit Go.Deep
open Go.Proofs.Ytchglmgbnmdffaa Go.Proofs.Ytchglmgbnmdffaa.ST

set_option linter.unusedVariables false
set_option maxRecDepth 100000 in
set_option maxHeartbeats 1600000 in
theorem turnL_one (c : Bool) (y x : Int) (ta tb ts : ST) (pl pr : Option Addr) (w : World) (hn : In w pr (.node c y ta tb)) (ho : In w pl ts) (hs : ta.size + tb.size + ts.size ≤ 1152921504606846976) (hh : wt ta < 2 * wt tb) :
    Calls Try.prog 75 #[.pointer pl, .int .i64 x, .pointer pr] w fun e w' => ∃ q, e = .returned (.pointer q) ∧ In w' q (turnL ts x (.node c y ta tb)) ∧ Below w.heap.size w w' := by
  have e : turnL ts x (.node c y ta tb) = mk (mk ts x ta) y tb := by unfold turnL; simp only; rw [if_pos hh]
  rw [e]
  clear e
  obtain ⟨b, qa, qb, rfl, klt, k0, k1, k2, k3, ha, hb⟩ := hn.open
  have WA := fun m => weight_any ta qa _ (ha.drewN m) (by omega)
  have WB := fun m => weight_any tb qb _ (hb.drewN m) (by omega)
  have ea : wt ta = ta.size + 1 := rfl
  have eb : wt tb = tb.size + 1 := rfl
  obtain ⟨u, hu⟩ : ∃ u, wt ta = u := ⟨_, rfl⟩
  obtain ⟨v, hv⟩ : ∃ v, wt tb = v := ⟨_, rfl⟩
  rw [hu] at WA ea hh
  rw [hv] at WB eb hh
  have WAH := Lib.hid WA
  have WBH := Lib.hid WB
  have bu : u ≤ 1152921504606846977 := by omega
  have bv : v ≤ 1152921504606846977 := by omega
  have ew : IntKind.i64.wrap (2 * (v : Int)) = 2 * (v : Int) := IntWalk.i64_in _ (by omega)
  have d1 : decide ((u : Int) < 2 * (v : Int)) = true := by rw [decide_eq_true_eq]; omega
  have HH := Lib.hid hh
  clear WA WB ea eb hu hv hh
  go_enter Try.func75, Try.ntmps75
  go_wp2_with fail
  go_quiet ((first | (go_at_call 48; first | exact quiet_left (WAH.out _) | exact quiet_add_left (WAH.out _)) | (go_at_call 48; first | exact quiet_left (WBH.out _) | exact quiet_add_left (WBH.out _))))
  clear ew d1
  go_wp2_with fail
  go_region_held3 (fun w' => w'.cell? ⟨b, 2, none⟩ = some (.pointer qa) ∧ w'.cell? ⟨b, 0, none⟩ = some (.int .i64 y) ∧ w'.cell? ⟨b, 3, none⟩ = some (.pointer qb)) (go_keep) (first
    | (have _t := bw1; go_at_call 68; refine (made_any (mk ts x ta) tb y p1 qb _ (by first | exact hi1 | exact hi1.drew) (by first | exact hb.below bw1 | exact (hb.below bw1).drew) (by rw [size_mk]; omega)).mono ?_; rintro e w2 ⟨p2, rfl, hi2, hb2⟩; have bw2 := below_then bw1 hb2; have s2_0 := (bw2.cell (p := ⟨b, 2, none⟩) klt).trans k2; have s2_1 := (bw2.cell (p := ⟨b, 0, none⟩) klt).trans k0; have s2_2 := (bw2.cell (p := ⟨b, 3, none⟩) klt).trans k3)
    | (go_at_call 68; refine (made_any ts ta x pl qa _ (by first | exact ho | exact ho.drew | exact ho.drewN _ | exact (ho.drewN _).drew | exact (ho.drewN _).drewN _ | exact ((ho.drewN _).drewN _).drew) (by first | exact ha | exact ha.drew | exact ha.drewN _ | exact (ha.drewN _).drew | exact (ha.drewN _).drewN _ | exact ((ha.drewN _).drewN _).drew) (by omega)).mono ?_; rintro e w1 ⟨p1, rfl, hi1, hb1⟩; have bw1 : Below w.heap.size w w1 := (by first | exact hb1 | exact below_of_drewN hb1 | exact below_of_drew hb1 | exact below_of_drewN (below_of_drew hb1) | exact below_of_drewN (below_of_drewN hb1) | exact below_of_drewN (below_of_drewN (below_of_drew hb1))); have s1_0 := (bw1.cell (p := ⟨b, 2, none⟩) klt).trans k2; have s1_1 := (bw1.cell (p := ⟨b, 0, none⟩) klt).trans k0; have s1_2 := (bw1.cell (p := ⟨b, 3, none⟩) klt).trans k3))
  go_wp2_with fail
  go_ret
  exact ⟨_, rfl, hi2, bw2⟩

set_option linter.unusedVariables false
set_option maxRecDepth 100000 in
set_option maxHeartbeats 1600000 in
theorem turnL_two (c c2 : Bool) (y x z : Int) (tb ts m n : ST) (pl pr : Option Addr) (w : World) (hn : In w pr (.node c y (.node c2 z m n) tb)) (ho : In w pl ts) (hs : m.size + n.size + tb.size + ts.size ≤ 1152921504606846975) (hh : ¬ wt (ST.node c2 z m n) < 2 * wt tb) :
    Calls Try.prog 75 #[.pointer pl, .int .i64 x, .pointer pr] w fun e w' => ∃ q, e = .returned (.pointer q) ∧ In w' q (turnL ts x (.node c y (.node c2 z m n) tb)) ∧ Below w.heap.size w w' := by
  have e : turnL ts x (.node c y (.node c2 z m n) tb) = mk (mk ts x m) z (mk n y tb) := by unfold turnL; simp only; rw [if_neg hh]
  rw [e]
  clear e
  obtain ⟨b, qa, qb, rfl, klt, k0, k1, k2, k3, ha, hb⟩ := hn.open
  have hin := ha
  obtain ⟨b2, qm, qn, rfl, jlt, j0, j1, j2, j3, hm, hnn⟩ := hin.open
  have WA := fun d => weight_any (ST.node c2 z m n) _ _ (ha.drewN d) (by simp only [size]; omega)
  have WB := fun d => weight_any tb qb _ (hb.drewN d) (by omega)
  have ea : wt (ST.node c2 z m n) = 1 + m.size + n.size + 1 := rfl
  have eb : wt tb = tb.size + 1 := rfl
  obtain ⟨u, hu⟩ : ∃ u, wt (ST.node c2 z m n) = u := ⟨_, rfl⟩
  obtain ⟨v, hv⟩ : ∃ v, wt tb = v := ⟨_, rfl⟩
  rw [hu] at WA ea hh
  rw [hv] at WB eb hh
  have WAH := Lib.hid WA
  have WBH := Lib.hid WB
  have bu : u ≤ 1152921504606846977 := by omega
  have bv : v ≤ 1152921504606846977 := by omega
  have ew : IntKind.i64.wrap (2 * (v : Int)) = 2 * (v : Int) := IntWalk.i64_in _ (by omega)
  have d1 : decide ((u : Int) < 2 * (v : Int)) = false := by rw [decide_eq_false_iff_not]; omega
  clear WA WB ea eb hu hv hh
  go_enter Try.func75, Try.ntmps75
  go_wp2_with fail
  go_quiet ((first | (go_at_call 48; first | exact quiet_left (WAH.out _) | exact quiet_add_left (WAH.out _)) | (go_at_call 48; first | exact quiet_left (WBH.out _) | exact quiet_add_left (WBH.out _))))
  clear ew d1
  go_wp2_with fail
  go_region_held3 (fun w' => w'.cell? ⟨b2, 2, none⟩ = some (.pointer qm) ∧ w'.cell? ⟨b2, 0, none⟩ = some (.int .i64 z) ∧ w'.cell? ⟨b2, 3, none⟩ = some (.pointer qn) ∧ w'.cell? ⟨b, 0, none⟩ = some (.int .i64 y) ∧ w'.cell? ⟨b, 3, none⟩ = some (.pointer qb)) (go_keep) (first
    | (have _t := bw2; go_at_call 68; refine (made_any (mk ts x m) (mk n y tb) z p1 p2 _ (by first | exact (hi1.below hb2) | exact (hi1.below hb2).drew) (by first | exact hi2 | exact hi2.drew) (by rw [size_mk, size_mk]; omega)).mono ?_; rintro e w3 ⟨p3, rfl, hi3, hb3⟩; have bw3 := below_then bw2 hb3; have s3_0 := (bw3.cell (p := ⟨b2, 2, none⟩) jlt).trans j2; have s3_1 := (bw3.cell (p := ⟨b2, 0, none⟩) jlt).trans j0; have s3_2 := (bw3.cell (p := ⟨b2, 3, none⟩) jlt).trans j3; have s3_3 := (bw3.cell (p := ⟨b, 0, none⟩) klt).trans k0; have s3_4 := (bw3.cell (p := ⟨b, 3, none⟩) klt).trans k3)
    | (have _t := bw1; go_at_call 68; refine (made_any n tb y qn qb _ (by first | exact hnn.below bw1 | exact (hnn.below bw1).drew) (by first | exact hb.below bw1 | exact (hb.below bw1).drew) (by omega)).mono ?_; rintro e w2 ⟨p2, rfl, hi2, hb2⟩; have bw2 := below_then bw1 hb2; have s2_0 := (bw2.cell (p := ⟨b2, 2, none⟩) jlt).trans j2; have s2_1 := (bw2.cell (p := ⟨b2, 0, none⟩) jlt).trans j0; have s2_2 := (bw2.cell (p := ⟨b2, 3, none⟩) jlt).trans j3; have s2_3 := (bw2.cell (p := ⟨b, 0, none⟩) klt).trans k0; have s2_4 := (bw2.cell (p := ⟨b, 3, none⟩) klt).trans k3)
    | (go_at_call 68; refine (made_any ts m x pl qm _ (by first | exact ho | exact ho.drew | exact ho.drewN _ | exact (ho.drewN _).drew | exact (ho.drewN _).drewN _ | exact ((ho.drewN _).drewN _).drew) (by first | exact hm | exact hm.drew | exact hm.drewN _ | exact (hm.drewN _).drew | exact (hm.drewN _).drewN _ | exact ((hm.drewN _).drewN _).drew) (by omega)).mono ?_; rintro e w1 ⟨p1, rfl, hi1, hb1⟩; have bw1 : Below w.heap.size w w1 := (by first | exact hb1 | exact below_of_drewN hb1 | exact below_of_drew hb1 | exact below_of_drewN (below_of_drew hb1) | exact below_of_drewN (below_of_drewN hb1) | exact below_of_drewN (below_of_drewN (below_of_drew hb1))); have s1_0 := (bw1.cell (p := ⟨b2, 2, none⟩) jlt).trans j2; have s1_1 := (bw1.cell (p := ⟨b2, 0, none⟩) jlt).trans j0; have s1_2 := (bw1.cell (p := ⟨b2, 3, none⟩) jlt).trans j3; have s1_3 := (bw1.cell (p := ⟨b, 0, none⟩) klt).trans k0; have s1_4 := (bw1.cell (p := ⟨b, 3, none⟩) klt).trans k3))
  go_wp2_with fail
  go_ret
  exact ⟨_, rfl, hi3, bw3⟩
theorem turnL_any (c : Bool) (y x : Int) (ta tb ts : ST) (pl pr : Option Addr) (w : World) (hn : In w pr (.node c y ta tb)) (ho : In w pl ts) (hs : ta.size + tb.size + ts.size ≤ 1152921504606846976) :
    Calls Try.prog 75 #[.pointer pl, .int .i64 x, .pointer pr] w fun e w' => ∃ q, e = .returned (.pointer q) ∧ In w' q (turnL ts x (.node c y ta tb)) ∧ Below w.heap.size w w' := by
  by_cases hh : wt ta < 2 * wt tb
  · exact turnL_one c y x ta tb ts pl pr w hn ho hs hh
  · cases ta with
    | nil => exact absurd (show wt .nil < 2 * wt tb by have := wt_pos tb; rw [wt_nil]; omega) hh
    | node c2 z m n => exact turnL_two c c2 y x z tb ts m n pl pr w hn ho (by simp only [size] at hs; omega) hh
end Go.Proofs.Ytchglmgbnmdffaa.WBT
