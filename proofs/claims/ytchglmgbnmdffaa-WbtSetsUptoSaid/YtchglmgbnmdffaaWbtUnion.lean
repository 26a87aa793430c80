/-
  Wbt: those of one of both. Conditions: sizes below 2^60.
-/
import Derived.Test.YtchglmgbnmdffaaWbtSplit
namespace Go.Proofs.Ytchglmgbnmdffaa.WBT
open Go.RowKit Go.Deep
open Go.Proofs.Ytchglmgbnmdffaa Go.Proofs.Ytchglmgbnmdffaa.ST

set_option linter.unusedVariables false
set_option maxRecDepth 100000 in
set_option maxHeartbeats 1600000 in
theorem union_any (a : ST) : ∀ (d : ST) (pa pb : Option Addr) (w : World), In w pa a → In w pb d → a.size + d.size ≤ 1152921504606846974 →
    Calls Try.prog 57 #[.pointer pa, .pointer pb] w fun e w' => ∃ q, e = .returned (.pointer q) ∧ In w' q (union a d) ∧ Below w.heap.size w w' := by
  induction a with
  | nil =>
    intro d pa pb w ha hb hs
    rw [show union .nil d = d from by rw [union]]
    obtain rfl : pa = none := ha
    go_enter Try.func57, Try.ntmps57
    go_wp2_with fail
    go_ret
    exact ⟨_, rfl, hb, Below.refl _ _⟩
  | node c x l r ihl ihr =>
    intro d pa pb w ha hb hs
    have ha' := ha
    obtain ⟨b, pl, pr, rfl, klt, k0, k1, k2, k3, hl, hr⟩ := ha'.open
    cases d with
    | nil =>
      rw [show union (.node c x l r) .nil = .node c x l r from by rw [union]]
      obtain rfl : pb = none := hb
      go_enter Try.func57, Try.ntmps57
      go_wp2_with fail
      go_ret
      exact ⟨_, rfl, ha, Below.refl _ _⟩
    | node c' y l' r' =>
      rw [union]
      have hz := split_size (.node c' y l' r') x
      have SPL := split_any (.node c' y l' r') x pb w hb (by omega)
      obtain ⟨b', _, _, rfl, _⟩ := hb
      obtain ⟨sl, hsl⟩ : ∃ s, (split (.node c' y l' r') x).1 = s := ⟨_, rfl⟩
      obtain ⟨sb, hsb⟩ : ∃ s, (split (.node c' y l' r') x).2.1 = s := ⟨_, rfl⟩
      obtain ⟨sr, hsr⟩ : ∃ s, (split (.node c' y l' r') x).2.2 = s := ⟨_, rfl⟩
      rw [hsl, hsr] at hz
      rw [hsl, hsb, hsr] at SPL
      rw [hsl, hsr]
      simp only [size] at hs hz
      have SH := Lib.hid SPL
      have z1 := union_size l sl
      have z2 := union_size r sr
      clear hsl hsb hsr SPL
      go_enter Try.func57, Try.ntmps57
      go_wp2_with fail
      refine SH.out.mono ?_
      rintro e w1 ⟨ql, qr, rfl, h1, h2, b1⟩
      have s0 := (b1.cell (p := ⟨b, 0, none⟩) klt).trans k0
      have s2 := (b1.cell (p := ⟨b, 2, none⟩) klt).trans k2
      have s3 := (b1.cell (p := ⟨b, 3, none⟩) klt).trans k3
      have klt1 := Nat.lt_of_lt_of_le klt b1.size
      have hl1 := hl.below b1
      have hr1 := hr.below b1
      go_wp2_with fail
      go_region_held3 (fun w' => w'.cell? ⟨b, 2, none⟩ = some (.pointer pl) ∧ w'.cell? ⟨b, 0, none⟩ = some (.int .i64 x) ∧ w'.cell? ⟨b, 3, none⟩ = some (.pointer pr)) (go_keep) (first
        | (have _t := bwz2; go_at_call 50; refine (link_any (union l sl) (union r sr) x p1 p2 _ (by first | exact (hi1.below hbz2) | exact (hi1.below hbz2).drew) (by first | exact hi2 | exact hi2.drew) (by omega)).mono ?_; rintro e wz3 ⟨p3, rfl, hi3, hbz3⟩; have bwz3 := below_then bwz2 hbz3; have sz3_0 := (bwz3.cell (p := ⟨b, 2, none⟩) klt1).trans s2; have sz3_1 := (bwz3.cell (p := ⟨b, 0, none⟩) klt1).trans s0; have sz3_2 := (bwz3.cell (p := ⟨b, 3, none⟩) klt1).trans s3)
        | (have _t := bwz1; go_at_call 57; refine (ihr sr pr qr _ (by first | exact hr1.below bwz1 | exact (hr1.below bwz1).drew) (by first | exact h2.below bwz1 | exact (h2.below bwz1).drew) (by omega)).mono ?_; rintro e wz2 ⟨p2, rfl, hi2, hbz2⟩; have bwz2 := below_then bwz1 hbz2; have sz2_0 := (bwz2.cell (p := ⟨b, 2, none⟩) klt1).trans s2; have sz2_1 := (bwz2.cell (p := ⟨b, 0, none⟩) klt1).trans s0; have sz2_2 := (bwz2.cell (p := ⟨b, 3, none⟩) klt1).trans s3)
        | (go_at_call 57; refine (ihl sl pl ql _ (by first | exact hl1 | exact hl1.drew | exact hl1.drewN _ | exact (hl1.drewN _).drew | exact (hl1.drewN _).drewN _ | exact ((hl1.drewN _).drewN _).drew) (by first | exact h1 | exact h1.drew | exact h1.drewN _ | exact (h1.drewN _).drew | exact (h1.drewN _).drewN _ | exact ((h1.drewN _).drewN _).drew) (by omega)).mono ?_; rintro e wz1 ⟨p1, rfl, hi1, hbz1⟩; have bwz1 : Below w1.heap.size w1 wz1 := (by first | exact hbz1 | exact below_of_drewN hbz1 | exact below_of_drew hbz1 | exact below_of_drewN (below_of_drew hbz1) | exact below_of_drewN (below_of_drewN hbz1) | exact below_of_drewN (below_of_drewN (below_of_drew hbz1))); have sz1_0 := (bwz1.cell (p := ⟨b, 2, none⟩) klt1).trans s2; have sz1_1 := (bwz1.cell (p := ⟨b, 0, none⟩) klt1).trans s0; have sz1_2 := (bwz1.cell (p := ⟨b, 3, none⟩) klt1).trans s3))
      go_wp2_with fail
      go_ret
      exact ⟨_, rfl, hi3, below_then b1 bwz3⟩
end Go.Proofs.Ytchglmgbnmdffaa.WBT
