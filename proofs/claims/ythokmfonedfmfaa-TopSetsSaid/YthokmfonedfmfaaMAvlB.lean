/-
  Trees of nearly even heights: what a turn makes in memory. Conditions: sizes below 2^62.
  Trees of nearly even heights: what a turn makes in memory. Conditions: sizes below 2^62.
  Trees of nearly even heights: what a turn makes in memory. Conditions: sizes below 2^62.
  Trees of nearly even heights: what a turn makes in memory. Conditions: sizes below 2^62.
  Trees of nearly even heights: what a turn makes in memory. Conditions: sizes below 2^62.
  Trees of nearly even heights: what the turns make in memory. Conditions: sizes below 2^62.
-/
import Derived.Test.YthokmfonedfmfaaAvlWalks
import Derived.Test.YthokmfonedfmfaaQuiet
namespace Go.Proofs.Ythokmfonedfmfaa.AVL
open Go.RowKit Go.Deep
open Go.Proofs.Ythokmfonedfmfaa Go.Proofs.Ythokmfonedfmfaa.ST


set_option maxRecDepth 100000 in
set_option maxHeartbeats 400000 in
theorem even_mk (tl tr : ST) (x : Int) (pl pr : Option Addr) (w : World) (hl : In w pl tl) (hr : In w pr tr) (hs : tl.size + tr.size ≤ 4611686018427387904) (h1 : ¬ tr.height + 1 < tl.height) (h2 : ¬ tl.height + 1 < tr.height) :
    Calls Try.prog 95 #[.pointer pl, .int .i64 x, .pointer pr] w fun e w' => ∃ p, e = .returned (.pointer p) ∧ In w' p (even tl x tr) ∧ Below w.heap.size w w' := by
    have e : even tl x tr = mk tl x tr := by unfold even; rw [if_neg h1, if_neg h2]
    rw [e]
    have b1 := height_le tl
    have b2 := height_le tr
    have d1 : decide (1 < (tl.height : Int) - (tr.height : Int)) = false := by simp; omega
    have d2 : decide ((tl.height : Int) - (tr.height : Int) < -1) = false := by simp; omega
    have d3 : ¬ (1 < (tl.height : Int) - (tr.height : Int)) := by omega
    have d4 : ¬ ((tl.height : Int) - (tr.height : Int) < -1) := by omega
    clear h1 h2 e
    go_enter Try.func95, Try.ntmps95
    go_wp2_with fail
    refine (height_any tl pl _ hl).mono ?_
    rintro e w' ⟨rfl, rfl⟩
    go_wp2_with fail
    refine (height_any tr pr _ hr).mono ?_
    rintro e w' ⟨rfl, rfl⟩
    go_wp2_with fail
    go_quiet ((first | (go_at_call 126; first | exact quiet_left (height_any _ _ _ (hl.drewN _)) | exact quiet_add_left (height_any _ _ _ (hl.drewN _)))))
    go_wp2_with fail
    go_quiet ((first | (go_at_call 126; first | exact quiet_left (height_any _ _ _ (hl.drewN _)) | exact quiet_add_left (height_any _ _ _ (hl.drewN _)))))
    go_wp2_with fail
    refine (made_any tl tr x pl pr _ (hl.drewN _) (hr.drewN _) hs).mono ?_
    rintro e w1 ⟨p1, rfl, hi1, hb1⟩
    have bw1 := below_of_drewN hb1
    go_wp2_with fail
    go_ret
    exact ⟨_, rfl, hi1, bw1⟩
end Go.Proofs.Ythokmfonedfmfaa.AVL

namespace Go.Proofs.Ythokmfonedfmfaa.AVL
open Go.RowKit Go.Deep
open Go.Proofs.Ythokmfonedfmfaa Go.Proofs.Ythokmfonedfmfaa.ST


set_option maxRecDepth 100000 in
set_option maxHeartbeats 1000000 in
theorem even_ll (c : Bool) (y : Int) (ll lr tr : ST) (x : Int) (pl pr : Option Addr) (w : World) (hl : In w pl (.node c y ll lr)) (hr : In w pr tr) (hs : (ST.node c y ll lr).size + tr.size ≤ 4611686018427387904) (h1 : tr.height + 1 < (ST.node c y ll lr).height) (hh : lr.height ≤ ll.height) :
    Calls Try.prog 95 #[.pointer pl, .int .i64 x, .pointer pr] w fun e w' => ∃ p, e = .returned (.pointer p) ∧ In w' p (even (.node c y ll lr) x tr) ∧ Below w.heap.size w w' := by
    have b1 := height_le (.node c y ll lr)
    have b2 := height_le tr
    have hs' := hs
    simp only [size] at hs'
    have e : even (.node c y ll lr) x tr = mk ll y (mk lr x tr) := by unfold even; rw [if_pos h1]; simp only [turnL]; rw [if_pos hh]
    rw [e]
    clear e
    obtain ⟨b, pll, plr, rfl, klt, k0, k1, k2, k3, k4, hll, hlr⟩ := hl.open
    have d1 : decide (1 < ((ST.node c y ll lr).height : Int) - (tr.height : Int)) = true := by simp; omega
    have d3 : (1 < ((ST.node c y ll lr).height : Int) - (tr.height : Int)) := by omega
    have d5 : decide (lr.height ≤ ll.height) = true := by simp; omega
    obtain ⟨H, hH⟩ : ∃ H : Nat, H = (ST.node c y ll lr).height := ⟨_, rfl⟩
    have ha := height_any (.node c y ll lr) (some ⟨b, 0, none⟩) w hl
    rw [← hH] at d1 d3 ha b1
    have HH := Lib.hid hH
    clear hH h1 hh
    go_enter Try.func95, Try.ntmps95
    go_wp2_with fail
    refine (ha).mono ?_
    rintro e w' ⟨rfl, rfl⟩
    go_wp2_with fail
    refine (height_any tr pr _ hr).mono ?_
    rintro e w' ⟨rfl, rfl⟩
    go_wp2_with fail
    go_quiet ((first | (go_at_call 126; first | exact quiet_left (height_any _ _ _ (hll.drewN _)) | exact quiet_add_left (height_any _ _ _ (hll.drewN _))) | (go_at_call 126; first | exact quiet_left (height_any _ _ _ (hlr.drewN _)) | exact quiet_add_left (height_any _ _ _ (hlr.drewN _)))))
    go_wp2_with fail
    go_region_held3 (fun w' => w'.cell? ⟨b, 3, none⟩ = some (.pointer pll) ∧ w'.cell? ⟨b, 0, none⟩ = some (.int .i64 y) ∧ w'.cell? ⟨b, 4, none⟩ = some (.pointer plr)) (go_keep) (first
      | (have _t := bw1; go_at_call 107; refine (made_any ll (mk lr x tr) y pll p1 _ (by first | exact hll.below bw1 | exact (hll.below bw1).drew) (by first | exact hi1 | exact hi1.drew) (by simp only [mk, size]; omega)).mono ?_; rintro e w2 ⟨p2, rfl, hi2, hb2⟩; have bw2 := below_then bw1 hb2; have s2_0 := (bw2.cell (p := ⟨b, 3, none⟩) klt).trans k3; have s2_1 := (bw2.cell (p := ⟨b, 0, none⟩) klt).trans k0; have s2_2 := (bw2.cell (p := ⟨b, 4, none⟩) klt).trans k4)
      | (go_at_call 107; refine (made_any lr tr x plr pr _ (by first | exact hlr | exact hlr.drew | exact hlr.drewN _ | exact (hlr.drewN _).drew | exact (hlr.drewN _).drewN _ | exact ((hlr.drewN _).drewN _).drew) (by first | exact hr | exact hr.drew | exact hr.drewN _ | exact (hr.drewN _).drew | exact (hr.drewN _).drewN _ | exact ((hr.drewN _).drewN _).drew) (by omega)).mono ?_; rintro e w1 ⟨p1, rfl, hi1, hb1⟩; have bw1 : Below w.heap.size w w1 := (by first | exact hb1 | exact below_of_drewN hb1 | exact below_of_drew hb1 | exact below_of_drewN (below_of_drew hb1) | exact below_of_drewN (below_of_drewN hb1) | exact below_of_drewN (below_of_drewN (below_of_drew hb1))); have s1_0 := (bw1.cell (p := ⟨b, 3, none⟩) klt).trans k3; have s1_1 := (bw1.cell (p := ⟨b, 0, none⟩) klt).trans k0; have s1_2 := (bw1.cell (p := ⟨b, 4, none⟩) klt).trans k4))
    go_wp2_with fail
    go_ret
    exact ⟨_, rfl, hi2, bw2⟩
end Go.Proofs.Ythokmfonedfmfaa.AVL

namespace Go.Proofs.Ythokmfonedfmfaa.AVL
open Go.RowKit Go.Deep
open Go.Proofs.Ythokmfonedfmfaa Go.Proofs.Ythokmfonedfmfaa.ST


set_option maxRecDepth 100000 in
set_option maxHeartbeats 1000000 in
theorem even_lr (c : Bool) (y : Int) (ll lr tr : ST) (x : Int) (pl pr : Option Addr) (w : World) (hl : In w pl (.node c y ll lr)) (hr : In w pr tr) (hs : (ST.node c y ll lr).size + tr.size ≤ 4611686018427387904) (h1 : tr.height + 1 < (ST.node c y ll lr).height) (hh : ¬ lr.height ≤ ll.height) :
    Calls Try.prog 95 #[.pointer pl, .int .i64 x, .pointer pr] w fun e w' => ∃ p, e = .returned (.pointer p) ∧ In w' p (even (.node c y ll lr) x tr) ∧ Below w.heap.size w w' := by
    have b1 := height_le (.node c y ll lr)
    have b2 := height_le tr
    have hs' := hs
    simp only [size] at hs'
    cases lr with
    | nil => exact absurd (Nat.zero_le _) hh
    | node c2 z ml mr =>
    have e : even (.node c y ll (.node c2 z ml mr)) x tr = mk (mk ll y ml) z (mk mr x tr) := by unfold even; rw [if_pos h1]; simp only [turnL]; rw [if_neg hh]
    simp only [size] at hs'
    rw [e]
    clear e
    obtain ⟨b, pll, plr, rfl, klt, k0, k1, k2, k3, k4, hll, hlr⟩ := hl.open
    have hlr' := hlr
    obtain ⟨b', pml, pmr, rfl, jlt, j0, j1, j2, j3, j4, hml, hmr⟩ := hlr'.open
    have d1 : decide (1 < ((ST.node c y ll (ST.node c2 z ml mr)).height : Int) - (tr.height : Int)) = true := by simp; omega
    have d3 : (1 < ((ST.node c y ll (ST.node c2 z ml mr)).height : Int) - (tr.height : Int)) := by omega
    have d5 : decide ((ST.node c2 z ml mr).height ≤ ll.height) = false := by simp; omega
    obtain ⟨H, hH⟩ : ∃ H : Nat, H = (ST.node c y ll (ST.node c2 z ml mr)).height := ⟨_, rfl⟩
    have ha := height_any (.node c y ll (ST.node c2 z ml mr)) (some ⟨b, 0, none⟩) w hl
    rw [← hH] at d1 d3 ha b1
    have HH := Lib.hid hH
    clear hH h1 hh
    go_enter Try.func95, Try.ntmps95
    go_wp2_with fail
    refine (ha).mono ?_
    rintro e w' ⟨rfl, rfl⟩
    go_wp2_with fail
    refine (height_any tr pr _ hr).mono ?_
    rintro e w' ⟨rfl, rfl⟩
    go_wp2_with fail
    go_quiet ((first | (go_at_call 126; first | exact quiet_left (height_any _ _ _ (hll.drewN _)) | exact quiet_add_left (height_any _ _ _ (hll.drewN _))) | (go_at_call 126; first | exact quiet_left (height_any _ _ _ (hlr.drewN _)) | exact quiet_add_left (height_any _ _ _ (hlr.drewN _)))))
    go_wp2_with fail
    go_wp2_with fail
    go_region_held3 (fun w' => w'.cell? ⟨b, 3, none⟩ = some (.pointer pll) ∧ w'.cell? ⟨b, 0, none⟩ = some (.int .i64 y) ∧ w'.cell? ⟨b', 3, none⟩ = some (.pointer pml) ∧ w'.cell? ⟨b', 0, none⟩ = some (.int .i64 z) ∧ w'.cell? ⟨b', 4, none⟩ = some (.pointer pmr)) (go_keep) (first
      | (have _t := bw2; go_at_call 107; refine (made_any (mk ll y ml) (mk mr x tr) z p1 p2 _ (by first | exact (hi1.below hb2) | exact (hi1.below hb2).drew) (by first | exact hi2 | exact hi2.drew) (by simp only [mk, size]; omega)).mono ?_; rintro e w3 ⟨p3, rfl, hi3, hb3⟩; have bw3 := below_then bw2 hb3; have s3_0 := (bw3.cell (p := ⟨b, 3, none⟩) klt).trans k3; have s3_1 := (bw3.cell (p := ⟨b, 0, none⟩) klt).trans k0; have s3_2 := (bw3.cell (p := ⟨b', 3, none⟩) jlt).trans j3; have s3_3 := (bw3.cell (p := ⟨b', 0, none⟩) jlt).trans j0; have s3_4 := (bw3.cell (p := ⟨b', 4, none⟩) jlt).trans j4)
      | (have _t := bw1; go_at_call 107; refine (made_any mr tr x pmr pr _ (by first | exact hmr.below bw1 | exact (hmr.below bw1).drew) (by first | exact hr.below bw1 | exact (hr.below bw1).drew) (by omega)).mono ?_; rintro e w2 ⟨p2, rfl, hi2, hb2⟩; have bw2 := below_then bw1 hb2; have s2_0 := (bw2.cell (p := ⟨b, 3, none⟩) klt).trans k3; have s2_1 := (bw2.cell (p := ⟨b, 0, none⟩) klt).trans k0; have s2_2 := (bw2.cell (p := ⟨b', 3, none⟩) jlt).trans j3; have s2_3 := (bw2.cell (p := ⟨b', 0, none⟩) jlt).trans j0; have s2_4 := (bw2.cell (p := ⟨b', 4, none⟩) jlt).trans j4)
      | (go_at_call 107; refine (made_any ll ml y pll pml _ (by first | exact hll | exact hll.drew | exact hll.drewN _ | exact (hll.drewN _).drew | exact (hll.drewN _).drewN _ | exact ((hll.drewN _).drewN _).drew) (by first | exact hml | exact hml.drew | exact hml.drewN _ | exact (hml.drewN _).drew | exact (hml.drewN _).drewN _ | exact ((hml.drewN _).drewN _).drew) (by omega)).mono ?_; rintro e w1 ⟨p1, rfl, hi1, hb1⟩; have bw1 : Below w.heap.size w w1 := (by first | exact hb1 | exact below_of_drewN hb1 | exact below_of_drew hb1 | exact below_of_drewN (below_of_drew hb1) | exact below_of_drewN (below_of_drewN hb1) | exact below_of_drewN (below_of_drewN (below_of_drew hb1))); have s1_0 := (bw1.cell (p := ⟨b, 3, none⟩) klt).trans k3; have s1_1 := (bw1.cell (p := ⟨b, 0, none⟩) klt).trans k0; have s1_2 := (bw1.cell (p := ⟨b', 3, none⟩) jlt).trans j3; have s1_3 := (bw1.cell (p := ⟨b', 0, none⟩) jlt).trans j0; have s1_4 := (bw1.cell (p := ⟨b', 4, none⟩) jlt).trans j4))
    go_wp2_with fail
    go_ret
    exact ⟨_, rfl, hi3, bw3⟩
end Go.Proofs.Ythokmfonedfmfaa.AVL

namespace Go.Proofs.Ythokmfonedfmfaa.AVL
open Go.RowKit Go.Deep
open Go.Proofs.Ythokmfonedfmfaa Go.Proofs.Ythokmfonedfmfaa.ST


set_option maxRecDepth 100000 in
set_option maxHeartbeats 1000000 in
theorem even_rr (c : Bool) (y : Int) (rl rr tl : ST) (x : Int) (pl pr : Option Addr) (w : World) (hl : In w pl tl) (hr : In w pr (.node c y rl rr)) (hs : tl.size + (ST.node c y rl rr).size ≤ 4611686018427387904) (h1 : tl.height + 1 < (ST.node c y rl rr).height) (hh : rl.height ≤ rr.height) :
    Calls Try.prog 95 #[.pointer pl, .int .i64 x, .pointer pr] w fun e w' => ∃ p, e = .returned (.pointer p) ∧ In w' p (even tl x (.node c y rl rr)) ∧ Below w.heap.size w w' := by
    have b1 := height_le tl
    have b2 := height_le (.node c y rl rr)
    have hs' := hs
    simp only [size] at hs'
    have e : even tl x (.node c y rl rr) = mk (mk tl x rl) y rr := by unfold even; rw [if_neg (by omega), if_pos h1]; simp only [turnR]; rw [if_pos hh]
    rw [e]
    clear e
    obtain ⟨b, prl, prr, rfl, klt, k0, k1, k2, k3, k4, hrl, hrr⟩ := hr.open
    have d1 : decide (1 < (tl.height : Int) - ((ST.node c y rl rr).height : Int)) = false := by simp; omega
    have d3 : ¬ (1 < (tl.height : Int) - ((ST.node c y rl rr).height : Int)) := by omega
    have d2 : decide ((tl.height : Int) - ((ST.node c y rl rr).height : Int) < -1) = true := by simp; omega
    have d4 : ((tl.height : Int) - ((ST.node c y rl rr).height : Int) < -1) := by omega
    have d5 : decide (rl.height ≤ rr.height) = true := by simp; omega
    obtain ⟨H, hH⟩ : ∃ H : Nat, H = (ST.node c y rl rr).height := ⟨_, rfl⟩
    have ha := height_any (.node c y rl rr) (some ⟨b, 0, none⟩) w hr
    rw [← hH] at d1 d3 d2 d4 ha b2
    have HH := Lib.hid hH
    clear hH h1 hh
    go_enter Try.func95, Try.ntmps95
    go_wp2_with fail
    refine (height_any tl pl _ hl).mono ?_
    rintro e w' ⟨rfl, rfl⟩
    go_wp2_with fail
    refine (ha).mono ?_
    rintro e w' ⟨rfl, rfl⟩
    go_wp2_with fail
    go_quiet ((first | (go_at_call 126; first | exact quiet_left (height_any _ _ _ (hl.drewN _)) | exact quiet_add_left (height_any _ _ _ (hl.drewN _)))))
    go_wp2_with fail
    go_quiet ((first | (go_at_call 126; first | exact quiet_left (height_any _ _ _ (hrl.drewN _)) | exact quiet_add_left (height_any _ _ _ (hrl.drewN _))) | (go_at_call 126; first | exact quiet_left (height_any _ _ _ (hrr.drewN _)) | exact quiet_add_left (height_any _ _ _ (hrr.drewN _)))))
    go_wp2_with fail
    go_region_held3 (fun w' => w'.cell? ⟨b, 3, none⟩ = some (.pointer prl) ∧ w'.cell? ⟨b, 0, none⟩ = some (.int .i64 y) ∧ w'.cell? ⟨b, 4, none⟩ = some (.pointer prr)) (go_keep) (first
      | (have _t := bw1; go_at_call 107; refine (made_any (mk tl x rl) rr y p1 prr _ (by first | exact hi1 | exact hi1.drew) (by first | exact hrr.below bw1 | exact (hrr.below bw1).drew) (by simp only [mk, size]; omega)).mono ?_; rintro e w2 ⟨p2, rfl, hi2, hb2⟩; have bw2 := below_then bw1 hb2; have s2_0 := (bw2.cell (p := ⟨b, 3, none⟩) klt).trans k3; have s2_1 := (bw2.cell (p := ⟨b, 0, none⟩) klt).trans k0; have s2_2 := (bw2.cell (p := ⟨b, 4, none⟩) klt).trans k4)
      | (go_at_call 107; refine (made_any tl rl x pl prl _ (by first | exact hl | exact hl.drew | exact hl.drewN _ | exact (hl.drewN _).drew | exact (hl.drewN _).drewN _ | exact ((hl.drewN _).drewN _).drew) (by first | exact hrl | exact hrl.drew | exact hrl.drewN _ | exact (hrl.drewN _).drew | exact (hrl.drewN _).drewN _ | exact ((hrl.drewN _).drewN _).drew) (by omega)).mono ?_; rintro e w1 ⟨p1, rfl, hi1, hb1⟩; have bw1 : Below w.heap.size w w1 := (by first | exact hb1 | exact below_of_drewN hb1 | exact below_of_drew hb1 | exact below_of_drewN (below_of_drew hb1) | exact below_of_drewN (below_of_drewN hb1) | exact below_of_drewN (below_of_drewN (below_of_drew hb1))); have s1_0 := (bw1.cell (p := ⟨b, 3, none⟩) klt).trans k3; have s1_1 := (bw1.cell (p := ⟨b, 0, none⟩) klt).trans k0; have s1_2 := (bw1.cell (p := ⟨b, 4, none⟩) klt).trans k4))
    go_wp2_with fail
    go_ret
    exact ⟨_, rfl, hi2, bw2⟩
end Go.Proofs.Ythokmfonedfmfaa.AVL

namespace Go.Proofs.Ythokmfonedfmfaa.AVL
open Go.RowKit Go.Deep
open Go.Proofs.Ythokmfonedfmfaa Go.Proofs.Ythokmfonedfmfaa.ST


set_option maxRecDepth 100000 in
set_option maxHeartbeats 1000000 in
theorem even_rl (c : Bool) (y : Int) (rl rr tl : ST) (x : Int) (pl pr : Option Addr) (w : World) (hl : In w pl tl) (hr : In w pr (.node c y rl rr)) (hs : tl.size + (ST.node c y rl rr).size ≤ 4611686018427387904) (h1 : tl.height + 1 < (ST.node c y rl rr).height) (hh : ¬ rl.height ≤ rr.height) :
    Calls Try.prog 95 #[.pointer pl, .int .i64 x, .pointer pr] w fun e w' => ∃ p, e = .returned (.pointer p) ∧ In w' p (even tl x (.node c y rl rr)) ∧ Below w.heap.size w w' := by
    have b1 := height_le tl
    have b2 := height_le (.node c y rl rr)
    have hs' := hs
    simp only [size] at hs'
    cases rl with
    | nil => exact absurd (Nat.zero_le _) hh
    | node c2 z ml mr =>
    have e : even tl x (.node c y (.node c2 z ml mr) rr) = mk (mk tl x ml) z (mk mr y rr) := by unfold even; rw [if_neg (by omega), if_pos h1]; simp only [turnR]; rw [if_neg hh]
    simp only [size] at hs'
    rw [e]
    clear e
    obtain ⟨b, prl, prr, rfl, klt, k0, k1, k2, k3, k4, hrl, hrr⟩ := hr.open
    have hrl' := hrl
    obtain ⟨b', pml, pmr, rfl, jlt, j0, j1, j2, j3, j4, hml, hmr⟩ := hrl'.open
    have d1 : decide (1 < (tl.height : Int) - ((ST.node c y (ST.node c2 z ml mr) rr).height : Int)) = false := by simp; omega
    have d3 : ¬ (1 < (tl.height : Int) - ((ST.node c y (ST.node c2 z ml mr) rr).height : Int)) := by omega
    have d2 : decide ((tl.height : Int) - ((ST.node c y (ST.node c2 z ml mr) rr).height : Int) < -1) = true := by simp; omega
    have d4 : ((tl.height : Int) - ((ST.node c y (ST.node c2 z ml mr) rr).height : Int) < -1) := by omega
    have d5 : decide ((ST.node c2 z ml mr).height ≤ rr.height) = false := by simp; omega
    obtain ⟨H, hH⟩ : ∃ H : Nat, H = (ST.node c y (ST.node c2 z ml mr) rr).height := ⟨_, rfl⟩
    have ha := height_any (.node c y (ST.node c2 z ml mr) rr) (some ⟨b, 0, none⟩) w hr
    rw [← hH] at d1 d3 d2 d4 ha b2
    have HH := Lib.hid hH
    clear hH h1 hh
    go_enter Try.func95, Try.ntmps95
    go_wp2_with fail
    refine (height_any tl pl _ hl).mono ?_
    rintro e w' ⟨rfl, rfl⟩
    go_wp2_with fail
    refine (ha).mono ?_
    rintro e w' ⟨rfl, rfl⟩
    go_wp2_with fail
    go_quiet ((first | (go_at_call 126; first | exact quiet_left (height_any _ _ _ (hl.drewN _)) | exact quiet_add_left (height_any _ _ _ (hl.drewN _)))))
    go_wp2_with fail
    go_quiet ((first | (go_at_call 126; first | exact quiet_left (height_any _ _ _ (hrl.drewN _)) | exact quiet_add_left (height_any _ _ _ (hrl.drewN _))) | (go_at_call 126; first | exact quiet_left (height_any _ _ _ (hrr.drewN _)) | exact quiet_add_left (height_any _ _ _ (hrr.drewN _)))))
    go_wp2_with fail
    go_wp2_with fail
    go_region_held3 (fun w' => w'.cell? ⟨b, 0, none⟩ = some (.int .i64 y) ∧ w'.cell? ⟨b, 4, none⟩ = some (.pointer prr) ∧ w'.cell? ⟨b', 3, none⟩ = some (.pointer pml) ∧ w'.cell? ⟨b', 0, none⟩ = some (.int .i64 z) ∧ w'.cell? ⟨b', 4, none⟩ = some (.pointer pmr)) (go_keep) (first
      | (have _t := bw2; go_at_call 107; refine (made_any (mk tl x ml) (mk mr y rr) z p1 p2 _ (by first | exact (hi1.below hb2) | exact (hi1.below hb2).drew) (by first | exact hi2 | exact hi2.drew) (by simp only [mk, size]; omega)).mono ?_; rintro e w3 ⟨p3, rfl, hi3, hb3⟩; have bw3 := below_then bw2 hb3; have s3_0 := (bw3.cell (p := ⟨b, 0, none⟩) klt).trans k0; have s3_1 := (bw3.cell (p := ⟨b, 4, none⟩) klt).trans k4; have s3_2 := (bw3.cell (p := ⟨b', 3, none⟩) jlt).trans j3; have s3_3 := (bw3.cell (p := ⟨b', 0, none⟩) jlt).trans j0; have s3_4 := (bw3.cell (p := ⟨b', 4, none⟩) jlt).trans j4)
      | (have _t := bw1; go_at_call 107; refine (made_any mr rr y pmr prr _ (by first | exact hmr.below bw1 | exact (hmr.below bw1).drew) (by first | exact hrr.below bw1 | exact (hrr.below bw1).drew) (by omega)).mono ?_; rintro e w2 ⟨p2, rfl, hi2, hb2⟩; have bw2 := below_then bw1 hb2; have s2_0 := (bw2.cell (p := ⟨b, 0, none⟩) klt).trans k0; have s2_1 := (bw2.cell (p := ⟨b, 4, none⟩) klt).trans k4; have s2_2 := (bw2.cell (p := ⟨b', 3, none⟩) jlt).trans j3; have s2_3 := (bw2.cell (p := ⟨b', 0, none⟩) jlt).trans j0; have s2_4 := (bw2.cell (p := ⟨b', 4, none⟩) jlt).trans j4)
      | (go_at_call 107; refine (made_any tl ml x pl pml _ (by first | exact hl | exact hl.drew | exact hl.drewN _ | exact (hl.drewN _).drew | exact (hl.drewN _).drewN _ | exact ((hl.drewN _).drewN _).drew) (by first | exact hml | exact hml.drew | exact hml.drewN _ | exact (hml.drewN _).drew | exact (hml.drewN _).drewN _ | exact ((hml.drewN _).drewN _).drew) (by omega)).mono ?_; rintro e w1 ⟨p1, rfl, hi1, hb1⟩; have bw1 : Below w.heap.size w w1 := (by first | exact hb1 | exact below_of_drewN hb1 | exact below_of_drew hb1 | exact below_of_drewN (below_of_drew hb1) | exact below_of_drewN (below_of_drewN hb1) | exact below_of_drewN (below_of_drewN (below_of_drew hb1))); have s1_0 := (bw1.cell (p := ⟨b, 0, none⟩) klt).trans k0; have s1_1 := (bw1.cell (p := ⟨b, 4, none⟩) klt).trans k4; have s1_2 := (bw1.cell (p := ⟨b', 3, none⟩) jlt).trans j3; have s1_3 := (bw1.cell (p := ⟨b', 0, none⟩) jlt).trans j0; have s1_4 := (bw1.cell (p := ⟨b', 4, none⟩) jlt).trans j4))
    go_wp2_with fail
    go_ret
    exact ⟨_, rfl, hi3, bw3⟩
end Go.Proofs.Ythokmfonedfmfaa.AVL

namespace Go.Proofs.Ythokmfonedfmfaa.AVL
open Go.RowKit Go.Deep
open Go.Proofs.Ythokmfonedfmfaa Go.Proofs.Ythokmfonedfmfaa.ST


theorem even_any (tl tr : ST) (x : Int) (pl pr : Option Addr) (w : World) (hl : In w pl tl) (hr : In w pr tr) (hs : tl.size + tr.size ≤ 4611686018427387904) :
    Calls Try.prog 95 #[.pointer pl, .int .i64 x, .pointer pr] w fun e w' => ∃ p, e = .returned (.pointer p) ∧ In w' p (even tl x tr) ∧ Below w.heap.size w w' := by
    by_cases h1 : tr.height + 1 < tl.height
    · cases tl with
      | nil => simp [height] at h1
      | node c y ll lr =>
        by_cases hh : lr.height ≤ ll.height
        · exact even_ll c y ll lr tr x pl pr w hl hr hs h1 hh
        · exact even_lr c y ll lr tr x pl pr w hl hr hs h1 hh
    · by_cases h2 : tl.height + 1 < tr.height
      · cases tr with
        | nil => simp [height] at h2
        | node c y rl rr =>
          by_cases hh : rl.height ≤ rr.height
          · exact even_rr c y rl rr tl x pl pr w hl hr hs h2 hh
          · exact even_rl c y rl rr tl x pl pr w hl hr hs h2 hh
      · exact even_mk tl tr x pl pr w hl hr hs h1 h2
end Go.Proofs.Ythokmfonedfmfaa.AVL
