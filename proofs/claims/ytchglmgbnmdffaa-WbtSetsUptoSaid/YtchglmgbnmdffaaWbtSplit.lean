/-
  Wbt: what a number parts. Conditions: sizes below 2^60.
-/
import Derived.Test.YtchglmgbnmdffaaWbtFirst
namespace Go.Proofs.Ytchglmgbnmdffaa.WBT
open Go.RowKit Go.Deep
open Go.Proofs.Ytchglmgbnmdffaa Go.Proofs.Ytchglmgbnmdffaa.ST
theorem split_lt {c : Bool} {x y : Int} {l r : ST} (h : x < y) : split (.node c y l r) x = ((split l x).1, (split l x).2.1, link (split l x).2.2 y r) := by simp only [split]; rw [if_pos h]
theorem split_gt {c : Bool} {x y : Int} {l r : ST} (h : y < x) : split (.node c y l r) x = (link l y (split r x).1, (split r x).2.1, (split r x).2.2) := by simp only [split]; rw [if_neg (by omega), if_pos h]
theorem split_eq {c : Bool} {x : Int} {l r : ST} : split (.node c x l r) x = (l, true, r) := by simp only [split]; rw [if_neg (by omega), if_neg (by omega)]

set_option linter.unusedVariables false
set_option maxRecDepth 100000 in
set_option maxHeartbeats 1600000 in
theorem split_any (t : ST) (x : Int) : ∀ (p : Option Addr) (w : World), In w p t → t.size ≤ 1152921504606846975 →
    Calls Try.prog 49 #[.pointer p, .int .i64 x] w fun e w' => ∃ ql qr, e = .returned (.tuple #[.pointer ql, .bool (split t x).2.1, .pointer qr]) ∧ In w' ql (split t x).1 ∧ In w' qr (split t x).2.2 ∧ Below w.heap.size w w' := by
  induction t with
  | nil =>
    intro p w h hs
    obtain rfl : p = none := h
    go_enter Try.func49, Try.ntmps49
    go_wp2_with fail
    refine bodyPost_ret (v := .tuple #[.pointer none, .bool false, .pointer none]) (by simp [results, Try.results49, go_sem]) rfl ⟨none, none, rfl, rfl, rfl, Below.refl _ _⟩
  | node c y l r ihl ihr =>
    intro p w h hs
    have hs' := hs
    simp only [size] at hs'
    obtain ⟨b, pl, pr, rfl, klt, k0, k1, k2, k3, hl, hr⟩ := h.open
    by_cases hx : x < y
    · rw [split_lt hx]
      have d1 : decide (x < y) = true := by simp [hx]
      have hz := split_size l x
      have IH := ihl pl w hl (by omega)
      obtain ⟨sl, hsl⟩ : ∃ s, (split l x).1 = s := ⟨_, rfl⟩
      obtain ⟨sb, hsb⟩ : ∃ s, (split l x).2.1 = s := ⟨_, rfl⟩
      obtain ⟨sr, hsr⟩ : ∃ s, (split l x).2.2 = s := ⟨_, rfl⟩
      rw [hsl, hsr] at hz
      rw [hsl, hsb, hsr] at IH ⊢
      simp only
      clear hsl hsb hsr ihl ihr
      have IHH := Lib.hid IH
      clear IH
      go_enter Try.func49, Try.ntmps49
      go_wp2_with fail
      refine IHH.out.mono ?_
      rintro e w1 ⟨ql, qr, rfl, h1, h2, b1⟩
      have s0 := (b1.cell (p := ⟨b, 0, none⟩) klt).trans k0
      have s2 := (b1.cell (p := ⟨b, 2, none⟩) klt).trans k2
      have s3 := (b1.cell (p := ⟨b, 3, none⟩) klt).trans k3
      have klt1 := Nat.lt_of_lt_of_le klt b1.size
      have hr1 := hr.below b1
      go_wp2_with fail
      go_region_held3 (fun w' => w'.cell? ⟨b, 0, none⟩ = some (.int .i64 y) ∧ w'.cell? ⟨b, 3, none⟩ = some (.pointer pr)) (go_keep) (first
        | (go_at_call 50; refine (link_any sr r y qr pr _ (by first | exact h2 | exact h2.drew | exact h2.drewN _ | exact (h2.drewN _).drew | exact (h2.drewN _).drewN _ | exact ((h2.drewN _).drewN _).drew) (by first | exact hr1 | exact hr1.drew | exact hr1.drewN _ | exact (hr1.drewN _).drew | exact (hr1.drewN _).drewN _ | exact ((hr1.drewN _).drewN _).drew) (by omega)).mono ?_; rintro e wz1 ⟨q2, rfl, hi2, hbz1⟩; have bwz1 : Below w1.heap.size w1 wz1 := (by first | exact hbz1 | exact below_of_drewN hbz1 | exact below_of_drew hbz1 | exact below_of_drewN (below_of_drew hbz1) | exact below_of_drewN (below_of_drewN hbz1) | exact below_of_drewN (below_of_drewN (below_of_drew hbz1))); have sz1_0 := (bwz1.cell (p := ⟨b, 0, none⟩) klt1).trans s0; have sz1_1 := (bwz1.cell (p := ⟨b, 3, none⟩) klt1).trans s3))
      go_wp2_with fail
      refine bodyPost_ret (v := .tuple #[.pointer ql, .bool sb, .pointer q2]) (by simp [results, Try.results49, go_sem]) rfl ⟨ql, q2, rfl, h1.below bwz1, hi2, below_then b1 bwz1⟩
    by_cases hx : y < x
    · rw [split_gt hx]
      have d1 : decide (x < y) = false := by simp; omega
      have d2 : decide (y < x) = true := by simp [hx]
      have hz := split_size r x
      have IH := ihr pr w hr (by omega)
      obtain ⟨sl, hsl⟩ : ∃ s, (split r x).1 = s := ⟨_, rfl⟩
      obtain ⟨sb, hsb⟩ : ∃ s, (split r x).2.1 = s := ⟨_, rfl⟩
      obtain ⟨sr, hsr⟩ : ∃ s, (split r x).2.2 = s := ⟨_, rfl⟩
      rw [hsl, hsr] at hz
      rw [hsl, hsb, hsr] at IH ⊢
      simp only
      clear hsl hsb hsr ihl ihr
      have IHH := Lib.hid IH
      clear IH
      go_enter Try.func49, Try.ntmps49
      go_wp2_with fail
      refine IHH.out.mono ?_
      rintro e w1 ⟨ql, qr, rfl, h1, h2, b1⟩
      have s0 := (b1.cell (p := ⟨b, 0, none⟩) klt).trans k0
      have s2 := (b1.cell (p := ⟨b, 2, none⟩) klt).trans k2
      have s3 := (b1.cell (p := ⟨b, 3, none⟩) klt).trans k3
      have klt1 := Nat.lt_of_lt_of_le klt b1.size
      have hl1 := hl.below b1
      go_wp2_with fail
      go_region_held3 (fun w' => w'.cell? ⟨b, 2, none⟩ = some (.pointer pl) ∧ w'.cell? ⟨b, 0, none⟩ = some (.int .i64 y)) (go_keep) (first
        | (go_at_call 50; refine (link_any l sl y pl ql _ (by first | exact hl1 | exact hl1.drew | exact hl1.drewN _ | exact (hl1.drewN _).drew | exact (hl1.drewN _).drewN _ | exact ((hl1.drewN _).drewN _).drew) (by first | exact h1 | exact h1.drew | exact h1.drewN _ | exact (h1.drewN _).drew | exact (h1.drewN _).drewN _ | exact ((h1.drewN _).drewN _).drew) (by omega)).mono ?_; rintro e wz1 ⟨q2, rfl, hi2, hbz1⟩; have bwz1 : Below w1.heap.size w1 wz1 := (by first | exact hbz1 | exact below_of_drewN hbz1 | exact below_of_drew hbz1 | exact below_of_drewN (below_of_drew hbz1) | exact below_of_drewN (below_of_drewN hbz1) | exact below_of_drewN (below_of_drewN (below_of_drew hbz1))); have sz1_0 := (bwz1.cell (p := ⟨b, 2, none⟩) klt1).trans s2; have sz1_1 := (bwz1.cell (p := ⟨b, 0, none⟩) klt1).trans s0))
      go_wp2_with fail
      refine bodyPost_ret (v := .tuple #[.pointer q2, .bool sb, .pointer qr]) (by simp [results, Try.results49, go_sem]) rfl ⟨q2, qr, rfl, hi2, h2.below bwz1, below_then b1 bwz1⟩
    · obtain rfl : x = y := by omega
      rw [split_eq]
      have d1 : decide (x < x) = false := by simp
      simp only
      go_enter Try.func49, Try.ntmps49
      go_wp2_with fail
      go_quiet (fail)
      go_wp2_with fail
      refine bodyPost_ret (v := .tuple #[.pointer pl, .bool true, .pointer pr]) (by simp [results, Try.results49, go_sem]) rfl ⟨pl, pr, rfl, hl.drewN _, hr.drewN _, below_drewN (Below.refl _ _) _⟩
end Go.Proofs.Ytchglmgbnmdffaa.WBT
