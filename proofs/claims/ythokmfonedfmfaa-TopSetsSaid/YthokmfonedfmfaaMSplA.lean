/-
  Splay: who is asked comes up, from the left. Conditions: sizes below 2^62.
  Splay: who is asked comes up, from the left. Conditions: sizes below 2^62.
  Splay: who is asked comes up, from the left. Conditions: sizes below 2^62.
-/
import Derived.Test.YthokmfonedfmfaaSplayWalks
namespace Go.Proofs.Ythokmfonedfmfaa.SPL
open Go.RowKit Go.Deep
open Go.Proofs.Ythokmfonedfmfaa Go.Proofs.Ythokmfonedfmfaa.ST

set_option linter.unusedVariables false
set_option maxRecDepth 100000 in
set_option maxHeartbeats 1600000 in
theorem upL1 (c c2 : Bool) (y z x : Int) (ll lr tr : ST) (p : Option Addr) (w : World) (h : In w p (.node c y (.node c2 z ll lr) tr)) (hs : (ST.node c y (.node c2 z ll lr) tr).size ≤ 4611686018427387904) (hx : x < y)
    (ih : ∀ s : ST, s.size < (ST.node c y (.node c2 z ll lr) tr).size → ∀ (p : Option Addr) (w : World), In w p s → Calls Try.prog 65 #[.pointer p, .int .i64 x] w fun e w' => ∃ q, e = .returned (.pointer q) ∧ In w' q (up s x) ∧ Below w.heap.size w w') (hz : x < z) (hn : ll ≠ .nil) :
    Calls Try.prog 104 #[.pointer p, .int .i64 x] w fun e w' => ∃ q, e = .returned (.pointer q) ∧ In w' q (up (.node c y (.node c2 z ll lr) tr) x) ∧ Below w.heap.size w w' := by
  have e : up (.node c y (.node c2 z ll lr) tr) x = rotR (rotR (mk (mk (up ll x) z lr) y tr)) := by
    conv => lhs; unfold up
    simp only
    rw [if_pos hx]
    rw [if_pos ⟨hz, hn⟩]
  rw [e]
  clear e
  obtain ⟨k, pl, pr, rfl, klt, k0, k1, k2, k3, hl, hr⟩ := h.open
  have hl' := hl
  obtain ⟨j, pa, pb, rfl, jlt, j0, j1, j2, j3, ha, hb⟩ := hl'.open
  simp only [size] at hs ih
  obtain ⟨c3, v, ul, ur, hu⟩ := up_some hn x
  have su := up_size ll x
  have ih1 := fun p W hW => ih ll (by omega) p W hW
  obtain ⟨b3, _, _, ep, _⟩ : ∃ b3 q1 q2, pa = some ⟨b3, 0, none⟩ ∧ q1 = (none : Option Addr) ∧ q2 = (none : Option Addr) := by
    cases ll with
    | nil => exact absurd rfl hn
    | node c4 v4 l4 r4 => obtain ⟨b4, _, _, e4, _⟩ := ha; exact ⟨b4, none, none, e4, rfl, rfl⟩
  subst ep
  rw [hu] at ih1 su ⊢
  simp only [size] at su
  have IH1 := Lib.hid ih1
  have HS := Lib.hid hs
  have HU := Lib.hid hu
  clear ih ih1 hu hn
  have d1 : decide (x < z) = true := by simp [hz]
  have d2 : decide (z < x) = false := by simp; omega
  have d3 : ¬ z < x := by omega
  go_enter Try.func104, Try.ntmps104
  go_wp2_with fail
  go_region_held3 (fun w' => w'.cell? ⟨k, 2, none⟩ = some (.pointer (some ⟨j, 0, none⟩)) ∧ w'.cell? ⟨j, 2, none⟩ = some (.pointer (some ⟨b3, 0, none⟩)) ∧ w'.cell? ⟨j, 0, none⟩ = some (.int .i64 z) ∧ w'.cell? ⟨j, 3, none⟩ = some (.pointer pb) ∧ w'.cell? ⟨k, 0, none⟩ = some (.int .i64 y) ∧ w'.cell? ⟨k, 3, none⟩ = some (.pointer pr)) (go_keep) (first
    | (have _t := bw4; go_at_call 129; refine (right_any false c3 z v ul ur (mk lr y tr) p4 _ (by first | exact hi4 | exact hi4.drew) (by simp only [size_mk, size]; have := HS.out; omega)).mono ?_; rintro e w5 ⟨p5, rfl, hi5, hb5⟩; have bw5 := below_then bw4 hb5; have s5_0 := (bw5.cell (p := ⟨k, 2, none⟩) klt).trans k2; have s5_1 := (bw5.cell (p := ⟨j, 2, none⟩) jlt).trans j2; have s5_2 := (bw5.cell (p := ⟨j, 0, none⟩) jlt).trans j0; have s5_3 := (bw5.cell (p := ⟨j, 3, none⟩) jlt).trans j3; have s5_4 := (bw5.cell (p := ⟨k, 0, none⟩) klt).trans k0; have s5_5 := (bw5.cell (p := ⟨k, 3, none⟩) klt).trans k3)
    | (have _t := bw3; go_at_call 129; refine (right_any false false y z (ST.node c3 v ul ur) lr tr p3 _ (by first | exact hi3 | exact hi3.drew) (by simp only [size]; have := HS.out; omega)).mono ?_; rintro e w4 ⟨p4, rfl, hi4, hb4⟩; have bw4 := below_then bw3 hb4; have s4_0 := (bw4.cell (p := ⟨k, 2, none⟩) klt).trans k2; have s4_1 := (bw4.cell (p := ⟨j, 2, none⟩) jlt).trans j2; have s4_2 := (bw4.cell (p := ⟨j, 0, none⟩) jlt).trans j0; have s4_3 := (bw4.cell (p := ⟨j, 3, none⟩) jlt).trans j3; have s4_4 := (bw4.cell (p := ⟨k, 0, none⟩) klt).trans k0; have s4_5 := (bw4.cell (p := ⟨k, 3, none⟩) klt).trans k3)
    | (have _t := bw2; go_at_call 66; refine (made_any (mk (ST.node c3 v ul ur) z lr) tr y p2 pr _ (by first | exact hi2 | exact hi2.drew) (by first | exact hr.below bw2 | exact (hr.below bw2).drew) (by simp only [size_mk, size]; have := HS.out; omega)).mono ?_; rintro e w3 ⟨p3, rfl, hi3, hb3⟩; have bw3 := below_then bw2 hb3; have s3_0 := (bw3.cell (p := ⟨k, 2, none⟩) klt).trans k2; have s3_1 := (bw3.cell (p := ⟨j, 2, none⟩) jlt).trans j2; have s3_2 := (bw3.cell (p := ⟨j, 0, none⟩) jlt).trans j0; have s3_3 := (bw3.cell (p := ⟨j, 3, none⟩) jlt).trans j3; have s3_4 := (bw3.cell (p := ⟨k, 0, none⟩) klt).trans k0; have s3_5 := (bw3.cell (p := ⟨k, 3, none⟩) klt).trans k3)
    | (have _t := bw1; go_at_call 66; refine (made_any (ST.node c3 v ul ur) lr z p1 pb _ (by first | exact hi1 | exact hi1.drew) (by first | exact hb.below bw1 | exact (hb.below bw1).drew) (by simp only [size]; have := HS.out; omega)).mono ?_; rintro e w2 ⟨p2, rfl, hi2, hb2⟩; have bw2 := below_then bw1 hb2; have s2_0 := (bw2.cell (p := ⟨k, 2, none⟩) klt).trans k2; have s2_1 := (bw2.cell (p := ⟨j, 2, none⟩) jlt).trans j2; have s2_2 := (bw2.cell (p := ⟨j, 0, none⟩) jlt).trans j0; have s2_3 := (bw2.cell (p := ⟨j, 3, none⟩) jlt).trans j3; have s2_4 := (bw2.cell (p := ⟨k, 0, none⟩) klt).trans k0; have s2_5 := (bw2.cell (p := ⟨k, 3, none⟩) klt).trans k3)
    | (go_at_call 65; refine (IH1.out _ _ (by first | exact ha | exact ha.drew | exact ha.drewN _ | exact (ha.drewN _).drew | exact (ha.drewN _).drewN _ | exact ((ha.drewN _).drewN _).drew)).mono ?_; rintro e w1 ⟨p1, rfl, hi1, hb1⟩; have bw1 : Below w.heap.size w w1 := (by first | exact hb1 | exact below_of_drewN hb1 | exact below_of_drew hb1 | exact below_of_drewN (below_of_drew hb1) | exact below_of_drewN (below_of_drewN hb1) | exact below_of_drewN (below_of_drewN (below_of_drew hb1))); have s1_0 := (bw1.cell (p := ⟨k, 2, none⟩) klt).trans k2; have s1_1 := (bw1.cell (p := ⟨j, 2, none⟩) jlt).trans j2; have s1_2 := (bw1.cell (p := ⟨j, 0, none⟩) jlt).trans j0; have s1_3 := (bw1.cell (p := ⟨j, 3, none⟩) jlt).trans j3; have s1_4 := (bw1.cell (p := ⟨k, 0, none⟩) klt).trans k0; have s1_5 := (bw1.cell (p := ⟨k, 3, none⟩) klt).trans k3))
  go_wp2_with fail
  go_ret
  exact ⟨_, rfl, hi5, bw5⟩
end Go.Proofs.Ythokmfonedfmfaa.SPL

namespace Go.Proofs.Ythokmfonedfmfaa.SPL
open Go.RowKit Go.Deep
open Go.Proofs.Ythokmfonedfmfaa Go.Proofs.Ythokmfonedfmfaa.ST

set_option linter.unusedVariables false
set_option maxRecDepth 100000 in
set_option maxHeartbeats 1600000 in
theorem upL2 (c c2 : Bool) (y z x : Int) (ll lr tr : ST) (p : Option Addr) (w : World) (h : In w p (.node c y (.node c2 z ll lr) tr)) (hs : (ST.node c y (.node c2 z ll lr) tr).size ≤ 4611686018427387904) (hx : x < y)
    (ih : ∀ s : ST, s.size < (ST.node c y (.node c2 z ll lr) tr).size → ∀ (p : Option Addr) (w : World), In w p s → Calls Try.prog 65 #[.pointer p, .int .i64 x] w fun e w' => ∃ q, e = .returned (.pointer q) ∧ In w' q (up s x) ∧ Below w.heap.size w w') (hz : z < x) (hn : lr ≠ .nil) :
    Calls Try.prog 104 #[.pointer p, .int .i64 x] w fun e w' => ∃ q, e = .returned (.pointer q) ∧ In w' q (up (.node c y (.node c2 z ll lr) tr) x) ∧ Below w.heap.size w w' := by
  have e : up (.node c y (.node c2 z ll lr) tr) x = rotR (mk (rotL (mk ll z (up lr x))) y tr) := by
    conv => lhs; unfold up
    simp only
    rw [if_pos hx]
    rw [if_neg (by rintro ⟨h1, _⟩; omega), if_pos ⟨hz, hn⟩]
  rw [e]
  clear e
  obtain ⟨k, pl, pr, rfl, klt, k0, k1, k2, k3, hl, hr⟩ := h.open
  have hl' := hl
  obtain ⟨j, pa, pb, rfl, jlt, j0, j1, j2, j3, ha, hb⟩ := hl'.open
  simp only [size] at hs ih
  obtain ⟨c3, v, ul, ur, hu⟩ := up_some hn x
  have su := up_size lr x
  have ih1 := fun p W hW => ih lr (by omega) p W hW
  obtain ⟨b3, _, _, ep, _⟩ : ∃ b3 q1 q2, pb = some ⟨b3, 0, none⟩ ∧ q1 = (none : Option Addr) ∧ q2 = (none : Option Addr) := by
    cases lr with
    | nil => exact absurd rfl hn
    | node c4 v4 l4 r4 => obtain ⟨b4, _, _, e4, _⟩ := hb; exact ⟨b4, none, none, e4, rfl, rfl⟩
  subst ep
  rw [hu] at ih1 su ⊢
  simp only [size] at su
  have IH1 := Lib.hid ih1
  have HS := Lib.hid hs
  have HU := Lib.hid hu
  clear ih ih1 hu hn
  have d1 : decide (z < x) = true := by simp [hz]
  have d2 : decide (x < z) = false := by simp; omega
  have d3 : ¬ x < z := by omega
  go_enter Try.func104, Try.ntmps104
  go_wp2_with fail
  go_region_held3 (fun w' => w'.cell? ⟨k, 2, none⟩ = some (.pointer (some ⟨j, 0, none⟩)) ∧ w'.cell? ⟨j, 2, none⟩ = some (.pointer pa) ∧ w'.cell? ⟨j, 0, none⟩ = some (.int .i64 z) ∧ w'.cell? ⟨j, 3, none⟩ = some (.pointer (some ⟨b3, 0, none⟩)) ∧ w'.cell? ⟨k, 0, none⟩ = some (.int .i64 y) ∧ w'.cell? ⟨k, 3, none⟩ = some (.pointer pr)) (go_keep) (first
    | (have _t := bw4; go_at_call 129; refine (right_any false false y v (mk ll z ul) ur tr p4 _ (by first | exact hi4 | exact hi4.drew) (by simp only [size_mk, size]; have := HS.out; omega)).mono ?_; rintro e w5 ⟨p5, rfl, hi5, hb5⟩; have bw5 := below_then bw4 hb5; have s5_0 := (bw5.cell (p := ⟨k, 2, none⟩) klt).trans k2; have s5_1 := (bw5.cell (p := ⟨j, 2, none⟩) jlt).trans j2; have s5_2 := (bw5.cell (p := ⟨j, 0, none⟩) jlt).trans j0; have s5_3 := (bw5.cell (p := ⟨j, 3, none⟩) jlt).trans j3; have s5_4 := (bw5.cell (p := ⟨k, 0, none⟩) klt).trans k0; have s5_5 := (bw5.cell (p := ⟨k, 3, none⟩) klt).trans k3)
    | (have _t := bw3; go_at_call 66; refine (made_any (mk (mk ll z ul) v ur) tr y p3 pr _ (by first | exact hi3 | exact hi3.drew) (by first | exact hr.below bw3 | exact (hr.below bw3).drew) (by simp only [size_mk]; have := HS.out; omega)).mono ?_; rintro e w4 ⟨p4, rfl, hi4, hb4⟩; have bw4 := below_then bw3 hb4; have s4_0 := (bw4.cell (p := ⟨k, 2, none⟩) klt).trans k2; have s4_1 := (bw4.cell (p := ⟨j, 2, none⟩) jlt).trans j2; have s4_2 := (bw4.cell (p := ⟨j, 0, none⟩) jlt).trans j0; have s4_3 := (bw4.cell (p := ⟨j, 3, none⟩) jlt).trans j3; have s4_4 := (bw4.cell (p := ⟨k, 0, none⟩) klt).trans k0; have s4_5 := (bw4.cell (p := ⟨k, 3, none⟩) klt).trans k3)
    | (have _t := bw2; go_at_call 130; refine (left_any false c3 z v ul ur ll p2 _ (by first | exact hi2 | exact hi2.drew) (by simp only [size]; have := HS.out; omega)).mono ?_; rintro e w3 ⟨p3, rfl, hi3, hb3⟩; have bw3 := below_then bw2 hb3; have s3_0 := (bw3.cell (p := ⟨k, 2, none⟩) klt).trans k2; have s3_1 := (bw3.cell (p := ⟨j, 2, none⟩) jlt).trans j2; have s3_2 := (bw3.cell (p := ⟨j, 0, none⟩) jlt).trans j0; have s3_3 := (bw3.cell (p := ⟨j, 3, none⟩) jlt).trans j3; have s3_4 := (bw3.cell (p := ⟨k, 0, none⟩) klt).trans k0; have s3_5 := (bw3.cell (p := ⟨k, 3, none⟩) klt).trans k3)
    | (have _t := bw1; go_at_call 66; refine (made_any ll (ST.node c3 v ul ur) z pa p1 _ (by first | exact ha.below bw1 | exact (ha.below bw1).drew) (by first | exact hi1 | exact hi1.drew) (by simp only [size]; have := HS.out; omega)).mono ?_; rintro e w2 ⟨p2, rfl, hi2, hb2⟩; have bw2 := below_then bw1 hb2; have s2_0 := (bw2.cell (p := ⟨k, 2, none⟩) klt).trans k2; have s2_1 := (bw2.cell (p := ⟨j, 2, none⟩) jlt).trans j2; have s2_2 := (bw2.cell (p := ⟨j, 0, none⟩) jlt).trans j0; have s2_3 := (bw2.cell (p := ⟨j, 3, none⟩) jlt).trans j3; have s2_4 := (bw2.cell (p := ⟨k, 0, none⟩) klt).trans k0; have s2_5 := (bw2.cell (p := ⟨k, 3, none⟩) klt).trans k3)
    | (go_at_call 65; refine (IH1.out _ _ (by first | exact hb | exact hb.drew | exact hb.drewN _ | exact (hb.drewN _).drew | exact (hb.drewN _).drewN _ | exact ((hb.drewN _).drewN _).drew)).mono ?_; rintro e w1 ⟨p1, rfl, hi1, hb1⟩; have bw1 : Below w.heap.size w w1 := (by first | exact hb1 | exact below_of_drewN hb1 | exact below_of_drew hb1 | exact below_of_drewN (below_of_drew hb1) | exact below_of_drewN (below_of_drewN hb1) | exact below_of_drewN (below_of_drewN (below_of_drew hb1))); have s1_0 := (bw1.cell (p := ⟨k, 2, none⟩) klt).trans k2; have s1_1 := (bw1.cell (p := ⟨j, 2, none⟩) jlt).trans j2; have s1_2 := (bw1.cell (p := ⟨j, 0, none⟩) jlt).trans j0; have s1_3 := (bw1.cell (p := ⟨j, 3, none⟩) jlt).trans j3; have s1_4 := (bw1.cell (p := ⟨k, 0, none⟩) klt).trans k0; have s1_5 := (bw1.cell (p := ⟨k, 3, none⟩) klt).trans k3))
  go_wp2_with fail
  go_ret
  exact ⟨_, rfl, hi5, bw5⟩
end Go.Proofs.Ythokmfonedfmfaa.SPL

namespace Go.Proofs.Ythokmfonedfmfaa.SPL
open Go.RowKit Go.Deep
open Go.Proofs.Ythokmfonedfmfaa Go.Proofs.Ythokmfonedfmfaa.ST

set_option linter.unusedVariables false
set_option maxRecDepth 100000 in
set_option maxHeartbeats 1600000 in
theorem upL3 (c c2 : Bool) (y z x : Int) (ll lr tr : ST) (p : Option Addr) (w : World) (h : In w p (.node c y (.node c2 z ll lr) tr)) (hs : (ST.node c y (.node c2 z ll lr) tr).size ≤ 4611686018427387904) (hx : x < y)
    (ih : ∀ s : ST, s.size < (ST.node c y (.node c2 z ll lr) tr).size → ∀ (p : Option Addr) (w : World), In w p s → Calls Try.prog 65 #[.pointer p, .int .i64 x] w fun e w' => ∃ q, e = .returned (.pointer q) ∧ In w' q (up s x) ∧ Below w.heap.size w w') (h1 : ¬ (x < z ∧ ll ≠ .nil)) (h2 : ¬ (z < x ∧ lr ≠ .nil)) :
    Calls Try.prog 104 #[.pointer p, .int .i64 x] w fun e w' => ∃ q, e = .returned (.pointer q) ∧ In w' q (up (.node c y (.node c2 z ll lr) tr) x) ∧ Below w.heap.size w w' := by
  have e : up (.node c y (.node c2 z ll lr) tr) x = rotR (.node c y (.node c2 z ll lr) tr) := by
    conv => lhs; unfold up
    simp only
    rw [if_pos hx]
    rw [if_neg h1, if_neg h2]
  rw [e]
  clear e
  simp only [size] at hs
  have RT := right_any c c2 y z ll lr tr _ w h (by simp only [size]; omega)
  have RH := Lib.hid RT
  clear RT ih
  obtain ⟨k, pl, pr, rfl, klt, k0, k1, k2, k3, hl, hr⟩ := h.open
  have hl' := hl
  obtain ⟨j, pa, pb, rfl, jlt, j0, j1, j2, j3, ha, hb⟩ := hl'.open
  by_cases hz : x < z
  · obtain rfl : ll = .nil := Decidable.byContradiction fun hn => h1 ⟨hz, hn⟩
    obtain rfl : pa = none := ha
    clear h1 h2
    have d1 : decide (x < z) = true := by simp [hz]
    have d2 : decide (z < x) = false := by simp; omega
    have d3 : ¬ z < x := by omega
    go_enter Try.func104, Try.ntmps104
    go_wp2_with fail
    refine RH.out.mono ?_
    rintro e w1 ⟨p1, rfl, hi1, hb1⟩
    go_wp2_with fail
    go_ret
    exact ⟨_, rfl, hi1, hb1⟩
  · by_cases hz2 : z < x
    · clear hz; have hz := hz2; clear hz2
      obtain rfl : lr = .nil := Decidable.byContradiction fun hn => h2 ⟨hz, hn⟩
      obtain rfl : pb = none := hb
      clear h1 h2
      have d1 : decide (z < x) = true := by simp [hz]
      have d2 : decide (x < z) = false := by simp; omega
      have d3 : ¬ x < z := by omega
      go_enter Try.func104, Try.ntmps104
      go_wp2_with fail
      refine RH.out.mono ?_
      rintro e w1 ⟨p1, rfl, hi1, hb1⟩
      go_wp2_with fail
      go_ret
      exact ⟨_, rfl, hi1, hb1⟩
    · obtain rfl : x = z := by omega
      have d1 : decide (x < x) = false := by simp
      have d2 : ¬ x < x := by omega
      clear h1 h2 hz hz2
      go_enter Try.func104, Try.ntmps104
      go_wp2_with fail
      refine RH.out.mono ?_
      rintro e w1 ⟨p1, rfl, hi1, hb1⟩
      go_wp2_with fail
      go_ret
      exact ⟨_, rfl, hi1, hb1⟩
end Go.Proofs.Ythokmfonedfmfaa.SPL
