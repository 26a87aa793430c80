/-
  Wbt: the first number; two are joined. Conditions: sizes below 2^60.
-/
import Derived.Test.YtchglmgbnmdffaaWbtLink
namespace Go.Proofs.Ytchglmgbnmdffaa.WBT
open Go.RowKit Go.Deep
open Go.Proofs.Ytchglmgbnmdffaa Go.Proofs.Ytchglmgbnmdffaa.ST

set_option linter.unusedVariables false
set_option maxRecDepth 100000 in
set_option maxHeartbeats 1600000 in
theorem first_any (t : ST) : t ≠ .nil → ∀ (p : Option Addr) (w : World), In w p t → t.size ≤ 1152921504606846975 →
    Calls Try.prog 69 #[.pointer p] w fun e w' => ∃ q, e = .returned (.tuple #[.int .i64 (first t).1, .pointer q]) ∧ In w' q (first t).2 ∧ Below w.heap.size w w' := by
  induction t with
  | nil => intro h; exact absurd rfl h
  | node c y l r ihl ihr =>
    intro _ p w h hs
    have hs' := hs
    simp only [size] at hs'
    obtain ⟨b, pl, pr, rfl, klt, k0, k1, k2, k3, hl, hr⟩ := h.open
    cases l with
    | nil =>
      obtain rfl : pl = none := hl
      rw [show first (.node c y .nil r) = (y, r) from rfl]
      go_enter Try.func69, Try.ntmps69
      go_wp2_with fail
      go_quiet (fail)
      go_wp2_with fail
      go_ret2
      exact ⟨_, rfl, hr.drewN _, below_drewN (Below.refl _ _) _⟩
    | node c' z ll lr =>
      rw [show first (.node c y (.node c' z ll lr) r) = ((first (.node c' z ll lr)).1, even (first (.node c' z ll lr)).2 y r) from rfl]
      have hf := first_size (.node c' z ll lr) (by simp)
      have Fh := ihl (by simp) pl w hl (by simp only [size] at *; omega)
      obtain ⟨b', ql, qr, rfl, _⟩ := hl
      obtain ⟨x0, hx0⟩ : ∃ x0, (first (.node c' z ll lr)).1 = x0 := ⟨_, rfl⟩
      obtain ⟨t0, ht0⟩ : ∃ t0, (first (.node c' z ll lr)).2 = t0 := ⟨_, rfl⟩
      rw [hx0, ht0] at Fh
      rw [ht0] at hf
      simp only [hx0, ht0]
      have hsz : t0.size + r.size ≤ 1152921504606846975 := by omega
      have FF := Lib.hid Fh
      clear hx0 ht0 hf Fh hs' hs ihl ihr
      go_enter Try.func69, Try.ntmps69
      go_wp2_with fail
      refine (FF.out).mono ?_
      rintro e w1 ⟨p1, rfl, hi1, bv1⟩
      have s0 := (bv1.cell (p := ⟨b, 0, none⟩) klt).trans k0
      have s3 := (bv1.cell (p := ⟨b, 3, none⟩) klt).trans k3
      have klt1 := Nat.lt_of_lt_of_le klt bv1.size
      have hr1 := hr.below bv1
      go_wp2_with fail
      go_region_held3 (fun w' => w'.cell? ⟨b, 0, none⟩ = some (.int .i64 y) ∧ w'.cell? ⟨b, 3, none⟩ = some (.pointer pr)) (go_keep) (first
        | (go_at_call 67; refine (even_any t0 r y p1 pr _ (by first | exact hi1 | exact hi1.drew | exact hi1.drewN _ | exact (hi1.drewN _).drew | exact (hi1.drewN _).drewN _ | exact ((hi1.drewN _).drewN _).drew) (by first | exact hr1 | exact hr1.drew | exact hr1.drewN _ | exact (hr1.drewN _).drew | exact (hr1.drewN _).drewN _ | exact ((hr1.drewN _).drewN _).drew) (by omega)).mono ?_; rintro e wz1 ⟨p2, rfl, hi2, hbz1⟩; have bwz1 : Below w1.heap.size w1 wz1 := (by first | exact hbz1 | exact below_of_drewN hbz1 | exact below_of_drew hbz1 | exact below_of_drewN (below_of_drew hbz1) | exact below_of_drewN (below_of_drewN hbz1) | exact below_of_drewN (below_of_drewN (below_of_drew hbz1))); have sz1_0 := (bwz1.cell (p := ⟨b, 0, none⟩) klt1).trans s0; have sz1_1 := (bwz1.cell (p := ⟨b, 3, none⟩) klt1).trans s3))
      go_wp2_with fail
      go_ret2
      exact ⟨_, rfl, hi2, below_then bv1 bwz1⟩

set_option linter.unusedVariables false
set_option maxRecDepth 100000 in
set_option maxHeartbeats 1600000 in
theorem joined_any (tl tr : ST) (pl pr : Option Addr) (w : World) (hl : In w pl tl) (hr : In w pr tr) (hs : tl.size + tr.size ≤ 1152921504606846975) :
    Calls Try.prog 51 #[.pointer pl, .pointer pr] w fun e w' => ∃ q, e = .returned (.pointer q) ∧ In w' q (joined tl tr) ∧ Below w.heap.size w w' := by
  cases tr with
  | nil =>
    rw [show joined tl .nil = tl from rfl]
    obtain rfl : pr = none := hr
    go_enter Try.func51, Try.ntmps51
    go_wp2_with fail
    go_ret
    exact ⟨_, rfl, hl, Below.refl _ _⟩
  | node c y a b =>
    rw [show joined tl (.node c y a b) = link tl (first (.node c y a b)).1 (first (.node c y a b)).2 from rfl]
    have hf := first_size (.node c y a b) (by simp)
    have Fh := first_any (.node c y a b) (by simp) pr w hr (by omega)
    obtain ⟨b', ql, qr, rfl, _⟩ := hr
    obtain ⟨x0, hx0⟩ : ∃ x0, (first (.node c y a b)).1 = x0 := ⟨_, rfl⟩
    obtain ⟨t0, ht0⟩ : ∃ t0, (first (.node c y a b)).2 = t0 := ⟨_, rfl⟩
    rw [hx0, ht0] at Fh
    rw [ht0] at hf
    rw [hx0, ht0]
    have hsz : tl.size + t0.size ≤ 1152921504606846975 := by omega
    have FF := Lib.hid Fh
    clear hx0 ht0 hf Fh hs
    go_enter Try.func51, Try.ntmps51
    go_wp2_with fail
    refine (FF.out).mono ?_
    rintro e w1 ⟨p1, rfl, hi1, bv1⟩
    go_wp2_with fail
    refine (link_any tl t0 x0 pl p1 _ (hl.below bv1) hi1 hsz).mono ?_
    rintro e w2 ⟨p2, rfl, hi2, bv2⟩
    go_wp2_with fail
    go_ret
    exact ⟨_, rfl, hi2, below_then bv1 bv2⟩
end Go.Proofs.Ytchglmgbnmdffaa.WBT
