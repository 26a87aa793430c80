/-
  Splay: a new node and a turn in memory. Conditions: sizes below 2^62.
-/
import Derived.Test.YthokmfonedfmfaaSplayIn
namespace Go.Proofs.Ythokmfonedfmfaa.SPL
open Go.RowKit Go.Deep
open Go.Proofs.Ythokmfonedfmfaa Go.Proofs.Ythokmfonedfmfaa.ST

set_option maxHeartbeats 400000 in
theorem made_any (tl tr : ST) (x : Int) (pl pr : Option Addr) (w : World) (hl : In w pl tl) (hr : In w pr tr) (hs : tl.size + tr.size ≤ 4611686018427387904) :
    Calls Try.prog 66 #[.pointer pl, .int .i64 x, .pointer pr] w fun e w' => ∃ p, e = .returned (.pointer p) ∧ In w' p (mk tl x tr) ∧ Below w.heap.size w w' := by
  have fin : ∀ (n : Int), n = ((mk tl x tr).size : Int) → In (w.alloc (.cells #[.int .i64 x, .int .i64 n, .pointer pl, .pointer pr] 115)) (some ⟨w.heap.size, 0, none⟩) (mk tl x tr) :=
    fun n a => In.new hl hr a
  have FIN := Lib.hid fin
  clear fin
  go_enter Try.func66, Try.ntmps66
  go_wp2_with fail
  refine (size_any tl pl _ hl).mono ?_
  rintro e w' ⟨rfl, rfl⟩
  go_wp2_with fail
  refine (size_any tr pr _ hr).mono ?_
  rintro e w' ⟨rfl, rfl⟩
  go_wp2_with fail
  go_ret
  exact ⟨_, rfl, FIN.out _ (by simp [mk, size]), (Below.refl _ _).alloc (Nat.le_refl _) _⟩
/-- A turn's result. -/
abbrev Makes (f : FuncId) (p : Option Addr) (w : World) (t : ST) : Prop := Calls Try.prog f #[.pointer p] w fun e w' => ∃ q, e = .returned (.pointer q) ∧ In w' q t ∧ Below w.heap.size w w'
theorem size_mk (l : ST) (x : Int) (r : ST) : (mk l x r).size = 1 + l.size + r.size := rfl

set_option maxRecDepth 100000 in
set_option maxHeartbeats 800000 in
theorem right_any (c c2 : Bool) (y z : Int) (ta tb tr : ST) (p : Option Addr) (w : World) (h : In w p (.node c y (.node c2 z ta tb) tr)) (hs : (ST.node c y (.node c2 z ta tb) tr).size ≤ 4611686018427387904) : Makes 129 p w (mk ta z (mk tb y tr)) := by
  simp only [size] at hs
  obtain ⟨k, pl, pr, rfl, klt, k0, k1, k2, k3, hl, hr⟩ := h.open
  obtain ⟨j, pa, pb, rfl, jlt, j0, j1, j2, j3, ha, hb⟩ := hl.open
  go_enter Try.func129, Try.ntmps129
  go_wp2_with fail
  go_region_held3 (fun w' => w'.cell? ⟨k, 2, none⟩ = some (.pointer (some ⟨j, 0, none⟩)) ∧ w'.cell? ⟨j, 2, none⟩ = some (.pointer pa) ∧ w'.cell? ⟨j, 0, none⟩ = some (.int .i64 z) ∧ w'.cell? ⟨j, 3, none⟩ = some (.pointer pb) ∧ w'.cell? ⟨k, 0, none⟩ = some (.int .i64 y) ∧ w'.cell? ⟨k, 3, none⟩ = some (.pointer pr)) (go_keep) (first
    | (have _t := bw1; go_at_call 66; refine (made_any ta (mk tb y tr) z pa p1 _ (by first | exact ha.below bw1 | exact (ha.below bw1).drew) (by first | exact hi1 | exact hi1.drew) (by rw [size_mk]; omega)).mono ?_; rintro e w2 ⟨p2, rfl, hi2, hb2⟩; have bw2 := below_then bw1 hb2; have s2_0 := (bw2.cell (p := ⟨k, 2, none⟩) klt).trans k2; have s2_1 := (bw2.cell (p := ⟨j, 2, none⟩) jlt).trans j2; have s2_2 := (bw2.cell (p := ⟨j, 0, none⟩) jlt).trans j0; have s2_3 := (bw2.cell (p := ⟨j, 3, none⟩) jlt).trans j3; have s2_4 := (bw2.cell (p := ⟨k, 0, none⟩) klt).trans k0; have s2_5 := (bw2.cell (p := ⟨k, 3, none⟩) klt).trans k3)
    | (go_at_call 66; refine (made_any tb tr y pb pr _ (by first | exact hb | exact hb.drew | exact hb.drewN _ | exact (hb.drewN _).drew | exact (hb.drewN _).drewN _ | exact ((hb.drewN _).drewN _).drew) (by first | exact hr | exact hr.drew | exact hr.drewN _ | exact (hr.drewN _).drew | exact (hr.drewN _).drewN _ | exact ((hr.drewN _).drewN _).drew) (by omega)).mono ?_; rintro e w1 ⟨p1, rfl, hi1, hb1⟩; have bw1 : Below w.heap.size w w1 := (by first | exact hb1 | exact below_of_drewN hb1 | exact below_of_drew hb1 | exact below_of_drewN (below_of_drew hb1) | exact below_of_drewN (below_of_drewN hb1) | exact below_of_drewN (below_of_drewN (below_of_drew hb1))); have s1_0 := (bw1.cell (p := ⟨k, 2, none⟩) klt).trans k2; have s1_1 := (bw1.cell (p := ⟨j, 2, none⟩) jlt).trans j2; have s1_2 := (bw1.cell (p := ⟨j, 0, none⟩) jlt).trans j0; have s1_3 := (bw1.cell (p := ⟨j, 3, none⟩) jlt).trans j3; have s1_4 := (bw1.cell (p := ⟨k, 0, none⟩) klt).trans k0; have s1_5 := (bw1.cell (p := ⟨k, 3, none⟩) klt).trans k3))
  go_wp2_with fail
  go_ret
  exact ⟨_, rfl, hi2, bw2⟩

set_option maxRecDepth 100000 in
set_option maxHeartbeats 800000 in
theorem left_any (c c2 : Bool) (y z : Int) (ta tb tl : ST) (p : Option Addr) (w : World) (h : In w p (.node c y tl (.node c2 z ta tb))) (hs : (ST.node c y tl (.node c2 z ta tb)).size ≤ 4611686018427387904) : Makes 130 p w (mk (mk tl y ta) z tb) := by
  simp only [size] at hs
  obtain ⟨k, pl, pr, rfl, klt, k0, k1, k2, k3, hl, hr⟩ := h.open
  obtain ⟨j, pa, pb, rfl, jlt, j0, j1, j2, j3, ha, hb⟩ := hr.open
  go_enter Try.func130, Try.ntmps130
  go_wp2_with fail
  go_region_held3 (fun w' => w'.cell? ⟨k, 3, none⟩ = some (.pointer (some ⟨j, 0, none⟩)) ∧ w'.cell? ⟨j, 2, none⟩ = some (.pointer pa) ∧ w'.cell? ⟨j, 0, none⟩ = some (.int .i64 z) ∧ w'.cell? ⟨j, 3, none⟩ = some (.pointer pb) ∧ w'.cell? ⟨k, 0, none⟩ = some (.int .i64 y) ∧ w'.cell? ⟨k, 2, none⟩ = some (.pointer pl)) (go_keep) (first
    | (have _t := bw1; go_at_call 66; refine (made_any (mk tl y ta) tb z p1 pb _ (by first | exact hi1 | exact hi1.drew) (by first | exact hb.below bw1 | exact (hb.below bw1).drew) (by rw [size_mk]; omega)).mono ?_; rintro e w2 ⟨p2, rfl, hi2, hb2⟩; have bw2 := below_then bw1 hb2; have s2_0 := (bw2.cell (p := ⟨k, 3, none⟩) klt).trans k3; have s2_1 := (bw2.cell (p := ⟨j, 2, none⟩) jlt).trans j2; have s2_2 := (bw2.cell (p := ⟨j, 0, none⟩) jlt).trans j0; have s2_3 := (bw2.cell (p := ⟨j, 3, none⟩) jlt).trans j3; have s2_4 := (bw2.cell (p := ⟨k, 0, none⟩) klt).trans k0; have s2_5 := (bw2.cell (p := ⟨k, 2, none⟩) klt).trans k2)
    | (go_at_call 66; refine (made_any tl ta y pl pa _ (by first | exact hl | exact hl.drew | exact hl.drewN _ | exact (hl.drewN _).drew | exact (hl.drewN _).drewN _ | exact ((hl.drewN _).drewN _).drew) (by first | exact ha | exact ha.drew | exact ha.drewN _ | exact (ha.drewN _).drew | exact (ha.drewN _).drewN _ | exact ((ha.drewN _).drewN _).drew) (by omega)).mono ?_; rintro e w1 ⟨p1, rfl, hi1, hb1⟩; have bw1 : Below w.heap.size w w1 := (by first | exact hb1 | exact below_of_drewN hb1 | exact below_of_drew hb1 | exact below_of_drewN (below_of_drew hb1) | exact below_of_drewN (below_of_drewN hb1) | exact below_of_drewN (below_of_drewN (below_of_drew hb1))); have s1_0 := (bw1.cell (p := ⟨k, 3, none⟩) klt).trans k3; have s1_1 := (bw1.cell (p := ⟨j, 2, none⟩) jlt).trans j2; have s1_2 := (bw1.cell (p := ⟨j, 0, none⟩) jlt).trans j0; have s1_3 := (bw1.cell (p := ⟨j, 3, none⟩) jlt).trans j3; have s1_4 := (bw1.cell (p := ⟨k, 0, none⟩) klt).trans k0; have s1_5 := (bw1.cell (p := ⟨k, 2, none⟩) klt).trans k2))
  go_wp2_with fail
  go_ret
  exact ⟨_, rfl, hi2, bw2⟩
end Go.Proofs.Ythokmfonedfmfaa.SPL
