/-
  Trees of nearly even heights: what a number that is put makes in memory. Conditions: sizes below 2^62.
-/
import Derived.Test.YtinmmhjllmlimaaAvlFirst
namespace Go.Proofs.Ytinmmhjllmlimaa.AVL
open Go.RowKit Go.Deep
open Go.Proofs.Ytinmmhjllmlimaa Go.Proofs.Ytinmmhjllmlimaa.ST

set_option maxRecDepth 100000 in
set_option maxHeartbeats 800000 in
theorem put_any (t : ST) (x : Int) : ∀ (p : Option Addr) (w : World), In w p t → t.size ≤ 2305843009213693952 →
    Calls Try.prog 51 #[.pointer p, .int .i64 x] w fun e w' => ∃ q, e = .returned (.pointer q) ∧ In w' q (put t x) ∧ Below w.heap.size w w' := by
  induction t with
  | nil =>
    intro p w h hs
    obtain rfl : p = none := h
    go_enter Try.func51, Try.ntmps51
    go_wp2_with fail
    refine (made_any .nil .nil x none none _ rfl rfl (by decide)).mono ?_
    rintro e w1 ⟨p1, rfl, hi1, bw1⟩
    go_wp2_with fail
    go_ret
    exact ⟨_, rfl, hi1, bw1⟩
  | node c y l r ihl ihr =>
    intro p w h hs
    have hs' := hs
    simp only [size] at hs'
    obtain ⟨b, pl, pr, rfl, klt, k0, k1, k2, k3, k4, hl, hr⟩ := h.open
    by_cases hx : x < y
    · have e : put (.node c y l r) x = even (put l x) y r := by simp only [put]; rw [if_pos hx]
      rw [e]
      clear e
      have d1 : decide (x < y) = true := by simp [hx]
      go_enter Try.func51, Try.ntmps51
      go_wp2_with fail
      go_region_held3 (fun w' => w'.cell? ⟨b, 3, none⟩ = some (.pointer pl) ∧ w'.cell? ⟨b, 0, none⟩ = some (.int .i64 y) ∧ w'.cell? ⟨b, 4, none⟩ = some (.pointer pr)) (go_keep) (first
        | (have _t := bw1; go_at_call 72; refine (even_any (put l x) r y p1 pr _ (by first | exact hi1 | exact hi1.drew) (by first | exact hr.below bw1 | exact (hr.below bw1).drew) (by have := put_size l x; omega)).mono ?_; rintro e w2 ⟨p2, rfl, hi2, hb2⟩; have bw2 := below_then bw1 hb2; have s2_0 := (bw2.cell (p := ⟨b, 3, none⟩) klt).trans k3; have s2_1 := (bw2.cell (p := ⟨b, 0, none⟩) klt).trans k0; have s2_2 := (bw2.cell (p := ⟨b, 4, none⟩) klt).trans k4)
        | (go_at_call 51; refine (ihl pl _ (by first | exact hl | exact hl.drew | exact hl.drewN _ | exact (hl.drewN _).drew | exact (hl.drewN _).drewN _ | exact ((hl.drewN _).drewN _).drew) (by omega)).mono ?_; rintro e w1 ⟨p1, rfl, hi1, hb1⟩; have bw1 : Below w.heap.size w w1 := (by first | exact hb1 | exact below_of_drewN hb1 | exact below_of_drew hb1 | exact below_of_drewN (below_of_drew hb1) | exact below_of_drewN (below_of_drewN hb1) | exact below_of_drewN (below_of_drewN (below_of_drew hb1))); have s1_0 := (bw1.cell (p := ⟨b, 3, none⟩) klt).trans k3; have s1_1 := (bw1.cell (p := ⟨b, 0, none⟩) klt).trans k0; have s1_2 := (bw1.cell (p := ⟨b, 4, none⟩) klt).trans k4))
      go_wp2_with fail
      go_ret
      exact ⟨_, rfl, hi2, bw2⟩
    by_cases hx : y < x
    · have e : put (.node c y l r) x = even l y (put r x) := by simp only [put]; rw [if_neg (by omega), if_pos hx]
      rw [e]
      clear e
      have d1 : decide (x < y) = false := by simp; omega
      have d2 : decide (y < x) = true := by simp [hx]
      have d3 : ¬ x < y := by omega
      go_enter Try.func51, Try.ntmps51
      go_wp2_with fail
      go_region_held3 (fun w' => w'.cell? ⟨b, 3, none⟩ = some (.pointer pl) ∧ w'.cell? ⟨b, 0, none⟩ = some (.int .i64 y) ∧ w'.cell? ⟨b, 4, none⟩ = some (.pointer pr)) (go_keep) (first
        | (have _t := bw1; go_at_call 72; refine (even_any l (put r x) y pl p1 _ (by first | exact hl.below bw1 | exact (hl.below bw1).drew) (by first | exact hi1 | exact hi1.drew) (by have := put_size r x; omega)).mono ?_; rintro e w2 ⟨p2, rfl, hi2, hb2⟩; have bw2 := below_then bw1 hb2; have s2_0 := (bw2.cell (p := ⟨b, 3, none⟩) klt).trans k3; have s2_1 := (bw2.cell (p := ⟨b, 0, none⟩) klt).trans k0; have s2_2 := (bw2.cell (p := ⟨b, 4, none⟩) klt).trans k4)
        | (go_at_call 51; refine (ihr pr _ (by first | exact hr | exact hr.drew | exact hr.drewN _ | exact (hr.drewN _).drew | exact (hr.drewN _).drewN _ | exact ((hr.drewN _).drewN _).drew) (by omega)).mono ?_; rintro e w1 ⟨p1, rfl, hi1, hb1⟩; have bw1 : Below w.heap.size w w1 := (by first | exact hb1 | exact below_of_drewN hb1 | exact below_of_drew hb1 | exact below_of_drewN (below_of_drew hb1) | exact below_of_drewN (below_of_drewN hb1) | exact below_of_drewN (below_of_drewN (below_of_drew hb1))); have s1_0 := (bw1.cell (p := ⟨b, 3, none⟩) klt).trans k3; have s1_1 := (bw1.cell (p := ⟨b, 0, none⟩) klt).trans k0; have s1_2 := (bw1.cell (p := ⟨b, 4, none⟩) klt).trans k4))
      go_wp2_with fail
      go_ret
      exact ⟨_, rfl, hi2, bw2⟩
    · have hxy : y = x := by omega
      subst hxy
      have d1 : decide (y < y) = false := by simp
      have d3 : ¬ y < y := by omega
      have e : put (.node c y l r) y = .node c y l r := by simp only [put]; rw [if_neg (by omega), if_neg (by omega)]
      rw [e]
      clear e
      go_enter Try.func51, Try.ntmps51
      go_wp2_with fail
      go_ret
      exact ⟨_, rfl, h, Below.refl _ _⟩
end Go.Proofs.Ytinmmhjllmlimaa.AVL
