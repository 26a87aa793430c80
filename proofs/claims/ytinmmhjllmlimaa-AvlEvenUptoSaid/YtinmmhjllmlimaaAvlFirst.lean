/-
  Trees of nearly even heights: the first number, and what is left. Conditions: sizes below 2^62.
-/
import Derived.Test.YtinmmhjllmlimaaAvlEven
import Derived.Test.YtinmmhjllmlimaaAvlSize
namespace Go.Proofs.Ytinmmhjllmlimaa.AVL
open Go.RowKit Go.Deep
open Go.Proofs.Ytinmmhjllmlimaa Go.Proofs.Ytinmmhjllmlimaa.ST

set_option maxRecDepth 100000 in
set_option maxHeartbeats 800000 in
theorem first_any (t : ST) : t ≠ .nil → ∀ (p : Option Addr) (w : World), In w p t → t.size ≤ 2305843009213693952 →
    Calls Try.prog 73 #[.pointer p] w fun e w' => ∃ q, e = .returned (.tuple #[.int .i64 (first t).1, .pointer q]) ∧ In w' q (first t).2 ∧ Below w.heap.size w w' := by
  induction t with
  | nil => intro h; exact absurd rfl h
  | node c y l r ihl ihr =>
    intro _ p w h hs
    have hs' := hs
    simp only [size] at hs'
    obtain ⟨b, pl, pr, rfl, klt, k0, k1, k2, k3, k4, hl, hr⟩ := h.open
    cases l with
    | nil =>
      obtain rfl : pl = none := hl
      rw [show first (.node c y .nil r) = (y, r) from rfl]
      go_enter Try.func73, Try.ntmps73
      go_wp2_with fail
      go_quiet (fail)
      go_wp2_with fail
      go_ret2
      exact ⟨_, rfl, hr.drewN _, below_drewN (Below.refl _ _) _⟩
    | node c' z ll lr =>
      rw [show first (.node c y (.node c' z ll lr) r) = ((first (.node c' z ll lr)).1, even (first (.node c' z ll lr)).2 y r) from rfl]
      have hf := first_size (.node c' z ll lr) (by simp)
      have F := ihl (by simp) pl w hl (by simp only [size] at *; omega)
      obtain ⟨b', ql, qr, rfl, _⟩ := hl
      obtain ⟨x0, hx0⟩ : ∃ x0, x0 = (first (.node c' z ll lr)).1 := ⟨_, rfl⟩
      obtain ⟨t0, ht0⟩ : ∃ t0, t0 = (first (.node c' z ll lr)).2 := ⟨_, rfl⟩
      rw [← hx0, ← ht0] at F
      rw [← ht0] at hf
      show Calls Try.prog 73 #[.pointer (some ⟨b, 0, none⟩)] w fun e w' => ∃ q, e = .returned (.tuple #[.int .i64 (first (.node c' z ll lr)).1, .pointer q]) ∧ In w' q (even (first (.node c' z ll lr)).2 y r) ∧ Below w.heap.size w w'
      rw [← hx0, ← ht0]
      have hsz : t0.size + r.size ≤ 2305843009213693952 := by omega
      have FF := Lib.hid F
      clear hx0 ht0 hf F hs' hs ihl ihr
      go_enter Try.func73, Try.ntmps73
      go_wp2_with fail
      refine (FF.out).mono ?_
      rintro e w1 ⟨p1, rfl, hi1, bw1⟩
      have s0 := (bw1.cell (p := ⟨b, 0, none⟩) klt).trans k0
      have s4 := (bw1.cell (p := ⟨b, 4, none⟩) klt).trans k4
      have klt1 := Nat.lt_of_lt_of_le klt bw1.size
      have hr1 := hr.below bw1
      go_wp2_with fail
      go_region_held3 (fun w' => w'.cell? ⟨b, 0, none⟩ = some (.int .i64 y) ∧ w'.cell? ⟨b, 4, none⟩ = some (.pointer pr)) (go_keep) (first
        | (go_at_call 72; refine (even_any t0 r y p1 pr _ (by first | exact hi1 | exact hi1.drew | exact hi1.drewN _ | exact (hi1.drewN _).drew | exact (hi1.drewN _).drewN _ | exact ((hi1.drewN _).drewN _).drew) (by first | exact hr1 | exact hr1.drew | exact hr1.drewN _ | exact (hr1.drewN _).drew | exact (hr1.drewN _).drewN _ | exact ((hr1.drewN _).drewN _).drew) (by omega)).mono ?_; rintro e w2 ⟨p2, rfl, hi2, hb1⟩; have bv1 : Below w1.heap.size w1 w2 := (by first | exact hb1 | exact below_of_drewN hb1 | exact below_of_drew hb1 | exact below_of_drewN (below_of_drew hb1) | exact below_of_drewN (below_of_drewN hb1) | exact below_of_drewN (below_of_drewN (below_of_drew hb1))); have s1_0 := (bv1.cell (p := ⟨b, 0, none⟩) klt1).trans s0; have s1_1 := (bv1.cell (p := ⟨b, 4, none⟩) klt1).trans s4))
      go_wp2_with fail
      go_ret2
      exact ⟨_, rfl, hi2, below_then bw1 bv1⟩
end Go.Proofs.Ytinmmhjllmlimaa.AVL
