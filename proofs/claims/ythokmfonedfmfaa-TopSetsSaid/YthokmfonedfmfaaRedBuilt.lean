/-
  Red: numbers that rise are built anew. Conditions: at most 2^44 numbers.
-/
import Derived.Test.YthokmfonedfmfaaRedWalks
import Derived.Test.YthokmfonedfmfaaWords
namespace Go.Proofs.Ythokmfonedfmfaa.RED
open Go.RowKit Go.Deep
open Go.Proofs.Ythokmfonedfmfaa Go.Proofs.Ythokmfonedfmfaa.ST
theorem built_size (l : List Int) (d : Int) : (built l d).size = l.length := by rw [← toL_length, built_toL l.length l d (Nat.le_refl _)]

set_option linter.unusedVariables false
set_option maxRecDepth 100000 in
set_option maxHeartbeats 1600000 in
theorem built_n : ∀ (m : Nat) (xs : List Int) (a : Option Addr) (n c : Nat) (d : Int) (w : World), n ≤ m → m ≤ 17592186044416 → -1000 - (17592186044416 - (m : Int)) ≤ d → d ≤ 1000 → Sl w a n c xs →
    Calls Try.prog 60 #[.slice a n c, .int .i64 d] w fun e w' => ∃ q, e = .returned (.pointer q) ∧ In w' q (built xs d) ∧ Below w.heap.size w w' := by
  intro m
  induction m with
  | zero =>
    intro xs a n c d w hn hm hd hd2 h
    have hl := h.hlen
    obtain rfl : n = 0 := by omega
    have e : built xs d = .nil := by rw [built, dif_pos hl]
    rw [e]
    clear e hl
    go_enter Try.func60, Try.ntmps60
    go_wp2_with fail
    go_ret
    exact ⟨none, rfl, rfl, Below.refl _ _⟩
  | succ m ih =>
    intro xs a n c d w hn hm hd hd2 h
    have hl := h.hlen
    by_cases h0 : n = 0
    · subst h0
      have e : built xs d = .nil := by rw [built, dif_pos hl]
      rw [e]
      clear e hl ih
      go_enter Try.func60, Try.ntmps60
      go_wp2_with fail
      go_ret
      exact ⟨none, rfl, rfl, Below.refl _ _⟩
    · obtain ⟨k, hk⟩ : ∃ k, n / 2 = k := ⟨_, rfl⟩
      have hkn : k < n := by omega
      have e : built xs d = .node (d == 0) (xs[k]?.getD 0) (built (xs.take k) (d - 1)) (built (xs.drop (k + 1)) (d - 1)) := by
        rw [built, dif_neg (by omega), hl, hk]
      rw [e]
      clear e
      have hc := h.hcap
      have hmx := h.hmax
      unfold maxLen at hmx
      have HF := h.front (k := k) (by omega)
      have HR := h.rest (k := k + 1) (by omega)
      obtain ⟨b, off, rfl, hbl, hcell⟩ := h.hat (by omega)
      have g := hcell k hkn
      obtain ⟨y, hy⟩ : ∃ y, xs[k]?.getD 0 = y := ⟨_, rfl⟩
      rw [hy] at g ⊢
      have z1 := built_size (xs.take k) (d - 1)
      have z2 := built_size (xs.drop (k + 1)) (d - 1)
      rw [List.length_take] at z1
      rw [List.length_drop] at z2
      have hs1 := Try.slice_to (some ⟨b, off, none⟩) n c k (by omega)
      have hs2 : ∀ W : World, (Instr.slice 22 (.slice (some ⟨b, off, none⟩) n c) (some (.int .i64 ((k : Int) + 1))) none none).run Try.prog W = .ok (.slice (cutAt (some ⟨b, off, none⟩) c (k + 1)) (n - (k + 1)) (c - (k + 1))) W := fun W => by
        have := Try.slice_from (some ⟨b, off, none⟩) n c (k + 1) (by omega) W
        rwa [show (((k + 1 : Nat) : Int)) = (k : Int) + 1 by omega] at this
      obtain ⟨t1, ht1⟩ : ∃ t, built (xs.take k) (d - 1) = t := ⟨_, rfl⟩
      obtain ⟨t2, ht2⟩ : ∃ t, built (xs.drop (k + 1)) (d - 1) = t := ⟨_, rfl⟩
      have I1 := fun W hW => ih (xs.take k) (some ⟨b, off, none⟩) k c (d - 1) W (by omega) (by omega) (by omega) (by omega) hW
      have I2 := fun W hW => ih (xs.drop (k + 1)) (cutAt (some ⟨b, off, none⟩) c (k + 1)) (n - (k + 1)) (c - (k + 1)) (d - 1) W (by omega) (by omega) (by omega) (by omega) hW
      rw [ht1] at I1 z1 ⊢
      rw [ht2] at I2 z2 ⊢
      obtain ⟨dd, hdd⟩ : ∃ b, (d == 0) = b := ⟨_, rfl⟩
      rw [hdd]
      have zt : t1.size + t2.size ≤ 17592186044416 := by omega
      have hq : (n : Int) / 2 = (k : Int) := by omega
      have hq2 : (n : Int).tdiv 2 = (k : Int) := by rw [Int.tdiv_eq_ediv_of_nonneg (by omega)]; exact hq
      have hki : (0 : Int) ≤ (k : Int) := by omega
      have hkn2 : (k : Int) < (n : Int) := by omega
      have hn0 : ((n : Int) == 0) = false := by simp; omega
      have ew1 : IntKind.i64.wrap (d - 1) = d - 1 := IntWalk.i64_in _ (by omega)
      have ew2 : IntKind.i64.wrap ((k : Int) + 1) = (k : Int) + 1 := IntWalk.i64_in _ (by omega)
      have hn0' : decide (n = 0) = false := by simp; omega
      have I1H := Lib.hid I1
      have I2H := Lib.hid I2
      have HFH := Lib.hid HF
      have HRH := Lib.hid HR
      clear I1 I2 HF HR ih hcell hy ht1 ht2 z1 z2 hk hl h h0
      go_enter Try.func60, Try.ntmps60
      go_wp2_with fail
      go_region_held3 (fun w' => w'.cell? ⟨b, off + k, none⟩ = some (.int .i64 y)) (go_keep) (first
        | (have _t := bw2; go_at_call 100; refine (made_any dd t1 t2 y p1 p2 _ (by first | exact (hi1.below hb2) | exact (hi1.below hb2).drew) (by first | exact hi2 | exact hi2.drew) (by omega)).mono ?_; rintro e w3 ⟨p3, rfl, hi3, hb3⟩; have bw3 := below_then bw2 hb3; have s3_0 := (bw3.cell (p := ⟨b, off + k, none⟩) hbl).trans g)
        | (have _t := bw1; go_at_call 60; refine (I2H.out _ (by first | exact HRH.out.below bw1 | exact (HRH.out.below bw1).drew)).mono ?_; rintro e w2 ⟨p2, rfl, hi2, hb2⟩; have bw2 := below_then bw1 hb2; have s2_0 := (bw2.cell (p := ⟨b, off + k, none⟩) hbl).trans g)
        | (go_at_call 60; refine (I1H.out _ (by first | exact HFH.out | exact HFH.out.drew | exact HFH.out.drewN _ | exact (HFH.out.drewN _).drew | exact (HFH.out.drewN _).drewN _ | exact ((HFH.out.drewN _).drewN _).drew)).mono ?_; rintro e w1 ⟨p1, rfl, hi1, hb1⟩; have bw1 : Below w.heap.size w w1 := (by first | exact hb1 | exact below_of_drewN hb1 | exact below_of_drew hb1 | exact below_of_drewN (below_of_drew hb1) | exact below_of_drewN (below_of_drewN hb1) | exact below_of_drewN (below_of_drewN (below_of_drew hb1))); have s1_0 := (bw1.cell (p := ⟨b, off + k, none⟩) hbl).trans g))
      go_wp2_with fail
      go_ret
      exact ⟨_, rfl, hi3, bw3⟩
theorem built_any (xs : List Int) (a : Option Addr) (n c : Nat) (d : Int) (w : World) (hn : n ≤ 17592186044416) (hd : -1 ≤ d) (hd2 : d ≤ 1000) (h : Sl w a n c xs) :
    Calls Try.prog 60 #[.slice a n c, .int .i64 d] w fun e w' => ∃ q, e = .returned (.pointer q) ∧ In w' q (built xs d) ∧ Below w.heap.size w w' :=
  built_n n xs a n c d w (Nat.le_refl _) hn (by omega) hd2 h
end Go.Proofs.Ythokmfonedfmfaa.RED
