/-
  Leftist heaps: what the merge makes in memory. Conditions: sizes below 2^62.
-/
import Derived.Test.YtajbmikicbddiaaLeftWalks
namespace Go.Proofs.Ytajbmikicbddiaa
open Go.RowKit Go.Deep
namespace LT
set_option maxHeartbeats 800000 in
theorem merged_any (n : Nat) : ∀ (ta tb : LT) (pa pb : Option Addr) (w : World), ta.size + tb.size ≤ n → In w pa ta → In w pb tb → ta.size + tb.size ≤ 4611686018427387904 →
    Calls Try.prog 41 #[.pointer pa, .pointer pb] w fun e w' => ∃ p, e = .returned (.pointer p) ∧ In w' p (merged ta tb) ∧ Below w.heap.size w w' := by
  induction n with
  | zero =>
    intro ta tb pa pb w hn ha hb hs
    cases ta with
    | node x l r => simp only [size] at hn; omega
    | nil =>
      obtain rfl : pa = none := ha
      rw [merged_nil_left]
      go_enter Try.func41, Try.ntmps41
      go_wp2_with fail
      go_ret
      exact ⟨_, rfl, hb, Below.refl _ _⟩
  | succ n ih =>
    intro ta tb pa pb w hn ha hb hs
    cases ta with
    | nil =>
      obtain rfl : pa = none := ha
      rw [merged_nil_left]
      go_enter Try.func41, Try.ntmps41
      go_wp2_with fail
      go_ret
      exact ⟨_, rfl, hb, Below.refl _ _⟩
    | node x l r =>
      cases tb with
      | nil =>
        obtain ⟨b, pl, pr, rfl, h2, h3, h4, h5, h6, h7, h8, h9⟩ := ha.open
        obtain rfl : pb = none := hb
        rw [merged_nil_right]
        go_enter Try.func41, Try.ntmps41
        go_wp2_with fail
        go_ret
        exact ⟨_, rfl, ha, Below.refl _ _⟩
      | node y l' r' =>
        obtain ⟨b, pl, pr, rfl, h2, h3, h4, h5, h6, h7, h8, h9⟩ := ha.open
        obtain ⟨b', pl', pr', rfl, k2, k3, k4, k5, k6, k7, k8, k9⟩ := hb.open
        by_cases hy : y < x
        · have hyb : decide (y < x) = true := by simp [hy]
          rw [merged_low _ _ _ _ _ _ hy]
          go_enter Try.func41, Try.ntmps41
          go_wp2_with fail
          go_quiet (fail)
          go_wp2_with fail
          go_region_held3 (fun w' => w'.cell? ⟨b', 0, none⟩ = some (.int .i64 y) ∧ w'.cell? ⟨b', 3, none⟩ = some (.pointer pl') ∧ w'.cell? ⟨b', 4, none⟩ = some (.pointer pr')) (go_keep) (first
            | (go_at_call 41; refine (ih r' (.node x l r) pr' (some ⟨b, 0, none⟩) _ (by simp only [size] at hn ⊢; omega) (by first | exact k9.drewN _ | exact (k9.drewN _).drew) (by first | exact ha.drewN _ | exact (ha.drewN _).drew) (by simp only [size] at hs ⊢; omega)).mono ?_; rintro e w1 ⟨p1, rfl, hi1, hb1⟩; replace hb1 := below_of_drewN hb1; have c0 := (hb1.cell (p := ⟨b', 0, none⟩) k2).trans k3; have c3 := (hb1.cell (p := ⟨b', 3, none⟩) k2).trans k6; have c4 := (hb1.cell (p := ⟨b', 4, none⟩) k2).trans k7)
            | (go_at_call 44; refine (made_any y l' (merged r' (.node x l r)) pl' p1 _ (k8.below hb1) (by exact hi1) (by rw [merged_size]; simp only [size] at hs ⊢; omega)).mono ?_; rintro e w2 ⟨p2, rfl, hi2, hb2⟩; have d0 := (hb2.cell (p := ⟨b', 0, none⟩) (Nat.lt_of_lt_of_le k2 hb1.size)).trans c0; have d3 := (hb2.cell (p := ⟨b', 3, none⟩) (Nat.lt_of_lt_of_le k2 hb1.size)).trans c3; have d4 := (hb2.cell (p := ⟨b', 4, none⟩) (Nat.lt_of_lt_of_le k2 hb1.size)).trans c4))
          go_wp2_with fail
          go_ret
          exact ⟨_, rfl, hi2, below_then hb1 hb2⟩
        · have hyb : decide (y < x) = false := by simp [hy]
          rw [merged_high _ _ _ _ _ _ hy]
          go_enter Try.func41, Try.ntmps41
          go_wp2_with fail
          go_quiet (fail)
          go_wp2_with fail
          go_region_held3 (fun w' => w'.cell? ⟨b, 0, none⟩ = some (.int .i64 x) ∧ w'.cell? ⟨b, 3, none⟩ = some (.pointer pl) ∧ w'.cell? ⟨b, 4, none⟩ = some (.pointer pr)) (go_keep) (first
            | (go_at_call 41; refine (ih r (.node y l' r') pr (some ⟨b', 0, none⟩) _ (by simp only [size] at hn ⊢; omega) (by first | exact h9.drewN _ | exact (h9.drewN _).drew) (by first | exact hb.drewN _ | exact (hb.drewN _).drew) (by simp only [size] at hs ⊢; omega)).mono ?_; rintro e w1 ⟨p1, rfl, hi1, hb1⟩; replace hb1 := below_of_drewN hb1; have c0 := (hb1.cell (p := ⟨b, 0, none⟩) h2).trans h3; have c3 := (hb1.cell (p := ⟨b, 3, none⟩) h2).trans h6; have c4 := (hb1.cell (p := ⟨b, 4, none⟩) h2).trans h7)
            | (go_at_call 44; refine (made_any x l (merged r (.node y l' r')) pl p1 _ (h8.below hb1) hi1 (by rw [merged_size]; simp only [size] at hs ⊢; omega)).mono ?_; rintro e w2 ⟨p2, rfl, hi2, hb2⟩; have d0 := (hb2.cell (p := ⟨b, 0, none⟩) (Nat.lt_of_lt_of_le h2 hb1.size)).trans c0; have d3 := (hb2.cell (p := ⟨b, 3, none⟩) (Nat.lt_of_lt_of_le h2 hb1.size)).trans c3; have d4 := (hb2.cell (p := ⟨b, 4, none⟩) (Nat.lt_of_lt_of_le h2 hb1.size)).trans c4))
          go_wp2_with fail
          go_ret
          exact ⟨_, rfl, hi2, below_then hb1 hb2⟩
end LT
end Go.Proofs.Ytajbmikicbddiaa
