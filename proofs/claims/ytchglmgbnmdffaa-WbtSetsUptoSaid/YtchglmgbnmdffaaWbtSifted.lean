/-
  Wbt: those of one that the other one has, or has not. Conditions: sizes below 2^60.
-/
import Derived.Test.YtchglmgbnmdffaaWbtSplit
namespace Go.Proofs.Ytchglmgbnmdffaa.WBT
open Go.RowKit Go.Deep
open Go.Proofs.Ytchglmgbnmdffaa Go.Proofs.Ytchglmgbnmdffaa.ST

set_option linter.unusedVariables false
set_option maxRecDepth 100000 in
set_option maxHeartbeats 1600000 in
theorem sifted_any (want : Bool) (a : ST) : ∀ (d : ST) (pa pb : Option Addr) (w : World), In w pa a → In w pb d → a.size ≤ 1152921504606846974 → d.size ≤ 1152921504606846974 →
    Calls Try.prog 56 #[.pointer pa, .pointer pb, .bool want] w fun e w' => ∃ q, e = .returned (.pointer q) ∧ In w' q (sifted a d want) ∧ Below w.heap.size w w' := by
  induction a with
  | nil =>
    intro d pa pb w ha hb hs hd
    rw [show sifted .nil d want = .nil from rfl]
    obtain rfl : pa = none := ha
    go_enter Try.func56, Try.ntmps56
    go_wp2_with fail
    go_ret
    exact ⟨none, rfl, rfl, Below.refl _ _⟩
  | node c x l r ihl ihr =>
    intro d pa pb w ha hb hs hd
    obtain ⟨b, pl, pr, rfl, klt, k0, k1, k2, k3, hl, hr⟩ := ha.open
    have hz := split_size d x
    have SPL := split_any d x pb w hb (by omega)
    have e : sifted (.node c x l r) d want = if (split d x).2.1 = want then link (sifted l (split d x).1 want) x (sifted r (split d x).2.2 want) else joined (sifted l (split d x).1 want) (sifted r (split d x).2.2 want) := by rw [sifted]
    rw [e]
    clear e
    obtain ⟨sl, hsl⟩ : ∃ s, (split d x).1 = s := ⟨_, rfl⟩
    obtain ⟨sb, hsb⟩ : ∃ s, (split d x).2.1 = s := ⟨_, rfl⟩
    obtain ⟨sr, hsr⟩ : ∃ s, (split d x).2.2 = s := ⟨_, rfl⟩
    rw [hsl, hsr] at hz
    rw [hsl, hsb, hsr] at SPL
    rw [hsl, hsb, hsr]
    simp only [size] at hs
    have SH := Lib.hid SPL
    have z1 := sifted_size l want sl
    have z2 := sifted_size r want sr
    clear hsl hsb hsr SPL
    by_cases hw : sb = want
    · rw [if_pos hw]
      subst hw
      have dw : (sb == sb) = true := by simp
      go_enter Try.func56, Try.ntmps56
      go_wp2_with fail
      refine SH.out.mono ?_
      rintro e w1 ⟨ql, qr, rfl, h1, h2, b1⟩
      have s0 := (b1.cell (p := ⟨b, 0, none⟩) klt).trans k0
      have s2 := (b1.cell (p := ⟨b, 2, none⟩) klt).trans k2
      have s3 := (b1.cell (p := ⟨b, 3, none⟩) klt).trans k3
      have klt1 := Nat.lt_of_lt_of_le klt b1.size
      have hl1 := hl.below b1
      have hr1 := hr.below b1
      go_wp2_with fail
      go_region_held3 (fun w' => w'.cell? ⟨b, 2, none⟩ = some (.pointer pl) ∧ w'.cell? ⟨b, 3, none⟩ = some (.pointer pr)) (go_keep) (first
        | (have _t := bwz1; go_at_call 56; refine (ihr sr pr qr _ (by first | exact hr1.below bwz1 | exact (hr1.below bwz1).drew) (by first | exact h2.below bwz1 | exact (h2.below bwz1).drew) (by omega) (by omega)).mono ?_; rintro e wz2 ⟨p2, rfl, hi2, hbz2⟩; have bwz2 := below_then bwz1 hbz2; have sz2_0 := (bwz2.cell (p := ⟨b, 2, none⟩) klt1).trans s2; have sz2_1 := (bwz2.cell (p := ⟨b, 3, none⟩) klt1).trans s3)
        | (go_at_call 56; refine (ihl sl pl ql _ (by first | exact hl1 | exact hl1.drew | exact hl1.drewN _ | exact (hl1.drewN _).drew | exact (hl1.drewN _).drewN _ | exact ((hl1.drewN _).drewN _).drew) (by first | exact h1 | exact h1.drew | exact h1.drewN _ | exact (h1.drewN _).drew | exact (h1.drewN _).drewN _ | exact ((h1.drewN _).drewN _).drew) (by omega) (by omega)).mono ?_; rintro e wz1 ⟨p1, rfl, hi1, hbz1⟩; have bwz1 : Below w1.heap.size w1 wz1 := (by first | exact hbz1 | exact below_of_drewN hbz1 | exact below_of_drew hbz1 | exact below_of_drewN (below_of_drew hbz1) | exact below_of_drewN (below_of_drewN hbz1) | exact below_of_drewN (below_of_drewN (below_of_drew hbz1))); have sz1_0 := (bwz1.cell (p := ⟨b, 2, none⟩) klt1).trans s2; have sz1_1 := (bwz1.cell (p := ⟨b, 3, none⟩) klt1).trans s3))
      have t0 := (bwz2.cell (p := ⟨b, 0, none⟩) klt1).trans s0
      have hi1' := hi1.below hbz2
      go_wp2_with fail
      refine (link_any (sifted l sl sb) (sifted r sr sb) x p1 p2 _ hi1' hi2 (by omega)).mono ?_
      rintro e w4 ⟨p4, rfl, hi4, b4⟩
      go_wp2_with fail
      go_ret
      exact ⟨_, rfl, hi4, below_then b1 (below_then bwz2 b4)⟩
    · rw [if_neg hw]
      have dw : (sb == want) = false := by simp [hw]
      go_enter Try.func56, Try.ntmps56
      go_wp2_with fail
      refine SH.out.mono ?_
      rintro e w1 ⟨ql, qr, rfl, h1, h2, b1⟩
      have s0 := (b1.cell (p := ⟨b, 0, none⟩) klt).trans k0
      have s2 := (b1.cell (p := ⟨b, 2, none⟩) klt).trans k2
      have s3 := (b1.cell (p := ⟨b, 3, none⟩) klt).trans k3
      have klt1 := Nat.lt_of_lt_of_le klt b1.size
      have hl1 := hl.below b1
      have hr1 := hr.below b1
      go_wp2_with fail
      go_region_held3 (fun w' => w'.cell? ⟨b, 2, none⟩ = some (.pointer pl) ∧ w'.cell? ⟨b, 3, none⟩ = some (.pointer pr)) (go_keep) (first
        | (have _t := bwz1; go_at_call 56; refine (ihr sr pr qr _ (by first | exact hr1.below bwz1 | exact (hr1.below bwz1).drew) (by first | exact h2.below bwz1 | exact (h2.below bwz1).drew) (by omega) (by omega)).mono ?_; rintro e wz2 ⟨p2, rfl, hi2, hbz2⟩; have bwz2 := below_then bwz1 hbz2; have sz2_0 := (bwz2.cell (p := ⟨b, 2, none⟩) klt1).trans s2; have sz2_1 := (bwz2.cell (p := ⟨b, 3, none⟩) klt1).trans s3)
        | (go_at_call 56; refine (ihl sl pl ql _ (by first | exact hl1 | exact hl1.drew | exact hl1.drewN _ | exact (hl1.drewN _).drew | exact (hl1.drewN _).drewN _ | exact ((hl1.drewN _).drewN _).drew) (by first | exact h1 | exact h1.drew | exact h1.drewN _ | exact (h1.drewN _).drew | exact (h1.drewN _).drewN _ | exact ((h1.drewN _).drewN _).drew) (by omega) (by omega)).mono ?_; rintro e wz1 ⟨p1, rfl, hi1, hbz1⟩; have bwz1 : Below w1.heap.size w1 wz1 := (by first | exact hbz1 | exact below_of_drewN hbz1 | exact below_of_drew hbz1 | exact below_of_drewN (below_of_drew hbz1) | exact below_of_drewN (below_of_drewN hbz1) | exact below_of_drewN (below_of_drewN (below_of_drew hbz1))); have sz1_0 := (bwz1.cell (p := ⟨b, 2, none⟩) klt1).trans s2; have sz1_1 := (bwz1.cell (p := ⟨b, 3, none⟩) klt1).trans s3))
      have t0 := (bwz2.cell (p := ⟨b, 0, none⟩) klt1).trans s0
      have hi1' := hi1.below hbz2
      go_wp2_with fail
      refine (joined_any (sifted l sl want) (sifted r sr want) p1 p2 _ hi1' hi2 (by omega)).mono ?_
      rintro e w4 ⟨p4, rfl, hi4, b4⟩
      go_wp2_with fail
      go_ret
      exact ⟨_, rfl, hi4, below_then b1 (below_then bwz2 b4)⟩
end Go.Proofs.Ytchglmgbnmdffaa.WBT
