/-
  Treap: two, of which all of the second one are greater, are joined. Conditions: sizes below 2^62.
-/
import Derived.Test.YtdhknhhahdjeeaaTreapSplit
namespace Go.Proofs.Ytdhknhhahdjeeaa.TRP
open Go.RowKit Go.Deep
open Go.Proofs.Ytdhknhhahdjeeaa Go.Proofs.Ytdhknhhahdjeeaa.ST
open Go.Proofs.Ytdhknhhahdjeeaa.TRP0 (mk split Tp Hp Plain)

set_option linter.unusedVariables false
set_option maxRecDepth 100000 in
set_option maxHeartbeats 1600000 in
theorem joined_n : ∀ (n : Nat) (a d : ST), a.size + d.size ≤ n → n ≤ 4611686018427387904 → ∀ (pa pb : Option Addr) (w : World), In w pa a → In w pb d →
    Calls Try.prog 49 #[.pointer pa, .pointer pb] w fun e w' => ∃ q, e = .returned (.pointer q) ∧ In w' q (joined a d) ∧ Below w.heap.size w w' := by
  intro n
  induction n with
  | zero =>
    intro a d hn hN pa pb w ha hb
    cases a with
    | node c x l r => simp only [size] at hn; omega
    | nil =>
      rw [joined_nil]
      obtain rfl : pa = none := ha
      go_enter Try.func49, Try.ntmps49
      go_wp2_with fail
      go_ret
      exact ⟨_, rfl, hb, Below.refl _ _⟩
  | succ n ih =>
    intro a d hn hN pa pb w ha hb
    cases a with
    | nil =>
      rw [joined_nil]
      obtain rfl : pa = none := ha
      go_enter Try.func49, Try.ntmps49
      go_wp2_with fail
      go_ret
      exact ⟨_, rfl, hb, Below.refl _ _⟩
    | node c x l r =>
      have ha' := ha
      obtain ⟨b, pl, pr, rfl, klt, k0, k1, k2, k3, k4, hl, hr⟩ := ha'.open
      cases d with
      | nil =>
        rw [joined_nil2]
        obtain rfl : pb = none := hb
        go_enter Try.func49, Try.ntmps49
        go_wp2_with fail
        go_ret
        exact ⟨_, rfl, ha, Below.refl _ _⟩
      | node c' y l' r' =>
        have hb' := hb
        obtain ⟨b', pl', pr', rfl, jlt, j0, j1, j2, j3, j4, hl', hr'⟩ := hb'.open
        simp only [size] at hn ih
        have AB := fun m => above_any c x y l r _ _ (ha.drewN m)
        obtain ⟨A, hA⟩ : ∃ A, ab x y = A := ⟨_, rfl⟩
        rw [hA] at AB
        have AH := Lib.hid AB
        have j1' := j1
        obtain ⟨Q, hQ⟩ : ∃ Q, prioI y = Q := ⟨_, rfl⟩
        rw [hQ] at AH
        clear AB
        cases A with
        | true =>
          rw [joined_a hA]
          rw [← hQ] at AH
          clear hA hQ
          go_enter Try.func49, Try.ntmps49
          go_wp2_with fail
          go_quiet ((first | (go_at_call 55; first | exact quiet_left (AH.out _) | exact quiet_add_left (AH.out _))))
          go_wp2_with fail
          go_region_held3 (fun w' => w'.cell? ⟨b, 3, none⟩ = some (.pointer pl) ∧ w'.cell? ⟨b, 0, none⟩ = some (.int .i64 x) ∧ w'.cell? ⟨b, 1, none⟩ = some (.int .i64 (prioI x)) ∧ w'.cell? ⟨b, 4, none⟩ = some (.pointer pr)) (go_keep) (first
            | (have _t := bw1; go_at_call 56; refine (made_any l (joined r (.node c' y l' r')) x pl p1 _ (by first | exact hl.below bw1 | exact (hl.below bw1).drew) (by first | exact hi1 | exact hi1.drew) (by rw [joined_size]; simp only [size]; omega)).mono ?_; rintro e w2 ⟨p2, rfl, hi2, hb2⟩; have bw2 := below_then bw1 hb2; have s2_0 := (bw2.cell (p := ⟨b, 3, none⟩) klt).trans k3; have s2_1 := (bw2.cell (p := ⟨b, 0, none⟩) klt).trans k0; have s2_2 := (bw2.cell (p := ⟨b, 1, none⟩) klt).trans k1; have s2_3 := (bw2.cell (p := ⟨b, 4, none⟩) klt).trans k4)
            | (go_at_call 49; refine (ih r (.node c' y l' r') (by simp only [size]; omega) (by omega) pr _ _ (by first | exact hr | exact hr.drew | exact hr.drewN _ | exact (hr.drewN _).drew | exact (hr.drewN _).drewN _ | exact ((hr.drewN _).drewN _).drew) (by first | exact hb | exact hb.drew | exact hb.drewN _ | exact (hb.drewN _).drew | exact (hb.drewN _).drewN _ | exact ((hb.drewN _).drewN _).drew)).mono ?_; rintro e w1 ⟨p1, rfl, hi1, hb1⟩; have bw1 : Below w.heap.size w w1 := (by first | exact hb1 | exact below_of_drewN hb1 | exact below_of_drew hb1 | exact below_of_drewN (below_of_drew hb1) | exact below_of_drewN (below_of_drewN hb1) | exact below_of_drewN (below_of_drewN (below_of_drew hb1))); have s1_0 := (bw1.cell (p := ⟨b, 3, none⟩) klt).trans k3; have s1_1 := (bw1.cell (p := ⟨b, 0, none⟩) klt).trans k0; have s1_2 := (bw1.cell (p := ⟨b, 1, none⟩) klt).trans k1; have s1_3 := (bw1.cell (p := ⟨b, 4, none⟩) klt).trans k4))
          go_wp2_with fail
          go_ret
          exact ⟨_, rfl, hi2, bw2⟩
        | false =>
          rw [joined_b hA]
          rw [← hQ] at AH
          clear hA hQ
          go_enter Try.func49, Try.ntmps49
          go_wp2_with fail
          go_quiet ((first | (go_at_call 55; first | exact quiet_left (AH.out _) | exact quiet_add_left (AH.out _))))
          go_wp2_with fail
          go_region_held3 (fun w' => w'.cell? ⟨b', 3, none⟩ = some (.pointer pl') ∧ w'.cell? ⟨b', 0, none⟩ = some (.int .i64 y) ∧ w'.cell? ⟨b', 1, none⟩ = some (.int .i64 (prioI y)) ∧ w'.cell? ⟨b', 4, none⟩ = some (.pointer pr')) (go_keep) (first
            | (have _t := bw1; go_at_call 56; refine (made_any (joined (.node c x l r) l') r' y p1 pr' _ (by first | exact hi1 | exact hi1.drew) (by first | exact hr'.below bw1 | exact (hr'.below bw1).drew) (by rw [joined_size]; simp only [size]; omega)).mono ?_; rintro e w2 ⟨p2, rfl, hi2, hb2⟩; have bw2 := below_then bw1 hb2; have s2_0 := (bw2.cell (p := ⟨b', 3, none⟩) jlt).trans j3; have s2_1 := (bw2.cell (p := ⟨b', 0, none⟩) jlt).trans j0; have s2_2 := (bw2.cell (p := ⟨b', 1, none⟩) jlt).trans j1; have s2_3 := (bw2.cell (p := ⟨b', 4, none⟩) jlt).trans j4)
            | (go_at_call 49; refine (ih (.node c x l r) l' (by simp only [size]; omega) (by omega) _ pl' _ (by first | exact ha | exact ha.drew | exact ha.drewN _ | exact (ha.drewN _).drew | exact (ha.drewN _).drewN _ | exact ((ha.drewN _).drewN _).drew) (by first | exact hl' | exact hl'.drew | exact hl'.drewN _ | exact (hl'.drewN _).drew | exact (hl'.drewN _).drewN _ | exact ((hl'.drewN _).drewN _).drew)).mono ?_; rintro e w1 ⟨p1, rfl, hi1, hb1⟩; have bw1 : Below w.heap.size w w1 := (by first | exact hb1 | exact below_of_drewN hb1 | exact below_of_drew hb1 | exact below_of_drewN (below_of_drew hb1) | exact below_of_drewN (below_of_drewN hb1) | exact below_of_drewN (below_of_drewN (below_of_drew hb1))); have s1_0 := (bw1.cell (p := ⟨b', 3, none⟩) jlt).trans j3; have s1_1 := (bw1.cell (p := ⟨b', 0, none⟩) jlt).trans j0; have s1_2 := (bw1.cell (p := ⟨b', 1, none⟩) jlt).trans j1; have s1_3 := (bw1.cell (p := ⟨b', 4, none⟩) jlt).trans j4))
          go_wp2_with fail
          go_ret
          exact ⟨_, rfl, hi2, bw2⟩
theorem joined_any (a d : ST) (pa pb : Option Addr) (w : World) (ha : In w pa a) (hb : In w pb d) (hs : a.size + d.size ≤ 4611686018427387904) :
    Calls Try.prog 49 #[.pointer pa, .pointer pb] w fun e w' => ∃ q, e = .returned (.pointer q) ∧ In w' q (joined a d) ∧ Below w.heap.size w w' :=
  joined_n _ a d (Nat.le_refl _) hs pa pb w ha hb
end Go.Proofs.Ytdhknhhahdjeeaa.TRP
