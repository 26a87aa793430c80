/-
  Treap: those of one of both. Conditions: sizes below 2^62.
-/
import Derived.Test.YtdhknhhahdjeeaaTreapSplit
namespace Go.Proofs.Ytdhknhhahdjeeaa.TRP
open Go.RowKit Go.Deep
open Go.Proofs.Ytdhknhhahdjeeaa Go.Proofs.Ytdhknhhahdjeeaa.ST
open Go.Proofs.Ytdhknhhahdjeeaa.TRP0 (mk split Tp Hp Plain)

set_option linter.unusedVariables false
set_option maxRecDepth 100000 in
set_option maxHeartbeats 1600000 in
theorem union_n : ∀ (n : Nat) (a d : ST), a.size + d.size ≤ n → n ≤ 4611686018427387904 → ∀ (pa pb : Option Addr) (w : World), In w pa a → In w pb d →
    Calls Try.prog 52 #[.pointer pa, .pointer pb] w fun e w' => ∃ q, e = .returned (.pointer q) ∧ In w' q (union a d) ∧ Below w.heap.size w w' := by
  intro n
  induction n with
  | zero =>
    intro a d hn hN pa pb w ha hb
    cases a with
    | node c x l r => simp only [size] at hn; omega
    | nil =>
      rw [union_nil]
      obtain rfl : pa = none := ha
      go_enter Try.func52, Try.ntmps52
      go_wp2_with fail
      go_ret
      exact ⟨_, rfl, hb, Below.refl _ _⟩
  | succ n ih =>
    intro a d hn hN pa pb w ha hb
    cases a with
    | nil =>
      rw [union_nil]
      obtain rfl : pa = none := ha
      go_enter Try.func52, Try.ntmps52
      go_wp2_with fail
      go_ret
      exact ⟨_, rfl, hb, Below.refl _ _⟩
    | node c x l r =>
      have ha' := ha
      obtain ⟨b, pl, pr, rfl, klt, k0, k1, k2, k3, k4, hl, hr⟩ := ha'.open
      cases d with
      | nil =>
        rw [union_nil2]
        obtain rfl : pb = none := hb
        go_enter Try.func52, Try.ntmps52
        go_wp2_with fail
        go_ret
        exact ⟨_, rfl, ha, Below.refl _ _⟩
      | node c' y l' r' =>
        have hb' := hb
        obtain ⟨b', pl', pr', rfl, jlt, j0, j1, j2, j3, j4, hl', hr'⟩ := hb'.open
        have AB := fun m => above_any c x y l r _ _ (ha.drewN m)
        obtain ⟨A, hA⟩ : ∃ A, ab x y = A := ⟨_, rfl⟩
        rw [hA] at AB
        have AH := Lib.hid AB
        clear AB
        by_cases hxy : x = y
        · have dx : (x != y) = false := by simp [hxy]
          rw [union_stay (fun e => e.2 hxy)]
          have HX := Lib.hid hxy
          clear hxy hA
          cases A
          all_goals
            have hz := split_size (.node c' y l' r') x
            have SPL := fun p W h => split_any (.node c' y l' r') x p W h (by simp only [size] at *; omega)
            obtain ⟨sl, hsl⟩ : ∃ s, (split (.node c' y l' r') x).1 = s := ⟨_, rfl⟩
            obtain ⟨sb, hsb⟩ : ∃ s, (split (.node c' y l' r') x).2.1 = s := ⟨_, rfl⟩
            obtain ⟨sr, hsr⟩ : ∃ s, (split (.node c' y l' r') x).2.2 = s := ⟨_, rfl⟩
            rw [hsl, hsr] at hz
            rw [hsl, hsb, hsr] at SPL
            rw [hsl, hsr]
            simp only [size] at hn hz
            have SH := Lib.hid SPL
            have z1 := union_size l sl
            have z2 := union_size r sr
            clear hsl hsb hsr SPL
            go_enter Try.func52, Try.ntmps52
            go_wp2_with fail
            go_quiet ((first | (go_at_call 55; first | exact quiet_left (AH.out _) | exact quiet_add_left (AH.out _))))
            go_wp2_with fail
            refine (SH.out _ _ (by first | exact hb.drewN _ | exact hb)).mono ?_
            rintro e w1 ⟨ql, qr, rfl, h1, h2, b1⟩
            replace b1 := below_of_drewN b1
            have s0 := (b1.cell (p := ⟨b, 0, none⟩) klt).trans k0
            have s1 := (b1.cell (p := ⟨b, 1, none⟩) klt).trans k1
            have s3 := (b1.cell (p := ⟨b, 3, none⟩) klt).trans k3
            have s4 := (b1.cell (p := ⟨b, 4, none⟩) klt).trans k4
            have klt1 := Nat.lt_of_lt_of_le klt b1.size
            have hl1 := hl.below b1
            have hr1 := hr.below b1
            go_wp2_with fail
            go_region_held3 (fun w' => w'.cell? ⟨b, 3, none⟩ = some (.pointer pl) ∧ w'.cell? ⟨b, 0, none⟩ = some (.int .i64 x) ∧ w'.cell? ⟨b, 1, none⟩ = some (.int .i64 (prioI x)) ∧ w'.cell? ⟨b, 4, none⟩ = some (.pointer pr)) (go_keep) (first
              | (have _t := bwz2; go_at_call 56; refine (made_any (union l sl) (union r sr) x p1 p2 _ (by first | exact (hi1.below hbz2) | exact (hi1.below hbz2).drew) (by first | exact hi2 | exact hi2.drew) (by omega)).mono ?_; rintro e wz3 ⟨p3, rfl, hi3, hbz3⟩; have bwz3 := below_then bwz2 hbz3; have sz3_0 := (bwz3.cell (p := ⟨b, 3, none⟩) klt1).trans s3; have sz3_1 := (bwz3.cell (p := ⟨b, 0, none⟩) klt1).trans s0; have sz3_2 := (bwz3.cell (p := ⟨b, 1, none⟩) klt1).trans s1; have sz3_3 := (bwz3.cell (p := ⟨b, 4, none⟩) klt1).trans s4)
              | (have _t := bwz1; go_at_call 52; refine (ih r sr (by omega) (by omega) pr qr _ (by first | exact hr1.below bwz1 | exact (hr1.below bwz1).drew) (by first | exact h2.below bwz1 | exact (h2.below bwz1).drew)).mono ?_; rintro e wz2 ⟨p2, rfl, hi2, hbz2⟩; have bwz2 := below_then bwz1 hbz2; have sz2_0 := (bwz2.cell (p := ⟨b, 3, none⟩) klt1).trans s3; have sz2_1 := (bwz2.cell (p := ⟨b, 0, none⟩) klt1).trans s0; have sz2_2 := (bwz2.cell (p := ⟨b, 1, none⟩) klt1).trans s1; have sz2_3 := (bwz2.cell (p := ⟨b, 4, none⟩) klt1).trans s4)
              | (go_at_call 52; refine (ih l sl (by omega) (by omega) pl ql _ (by first | exact hl1 | exact hl1.drew | exact hl1.drewN _ | exact (hl1.drewN _).drew | exact (hl1.drewN _).drewN _ | exact ((hl1.drewN _).drewN _).drew) (by first | exact h1 | exact h1.drew | exact h1.drewN _ | exact (h1.drewN _).drew | exact (h1.drewN _).drewN _ | exact ((h1.drewN _).drewN _).drew)).mono ?_; rintro e wz1 ⟨p1, rfl, hi1, hbz1⟩; have bwz1 : Below w1.heap.size w1 wz1 := (by first | exact hbz1 | exact below_of_drewN hbz1 | exact below_of_drew hbz1 | exact below_of_drewN (below_of_drew hbz1) | exact below_of_drewN (below_of_drewN hbz1) | exact below_of_drewN (below_of_drewN (below_of_drew hbz1))); have sz1_0 := (bwz1.cell (p := ⟨b, 3, none⟩) klt1).trans s3; have sz1_1 := (bwz1.cell (p := ⟨b, 0, none⟩) klt1).trans s0; have sz1_2 := (bwz1.cell (p := ⟨b, 1, none⟩) klt1).trans s1; have sz1_3 := (bwz1.cell (p := ⟨b, 4, none⟩) klt1).trans s4))
            go_wp2_with fail
            go_ret
            exact ⟨_, rfl, hi3, below_then b1 bwz3⟩
        · have dx : (x != y) = true := by simp [hxy]
          cases A with
          | true =>
            rw [union_stay (fun e => by rw [hA] at e; cases e.1)]
            clear hA hxy
            have hz := split_size (.node c' y l' r') x
            have SPL := fun p W h => split_any (.node c' y l' r') x p W h (by simp only [size] at *; omega)
            obtain ⟨sl, hsl⟩ : ∃ s, (split (.node c' y l' r') x).1 = s := ⟨_, rfl⟩
            obtain ⟨sb, hsb⟩ : ∃ s, (split (.node c' y l' r') x).2.1 = s := ⟨_, rfl⟩
            obtain ⟨sr, hsr⟩ : ∃ s, (split (.node c' y l' r') x).2.2 = s := ⟨_, rfl⟩
            rw [hsl, hsr] at hz
            rw [hsl, hsb, hsr] at SPL
            rw [hsl, hsr]
            simp only [size] at hn hz
            have SH := Lib.hid SPL
            have z1 := union_size l sl
            have z2 := union_size r sr
            clear hsl hsb hsr SPL
            go_enter Try.func52, Try.ntmps52
            go_wp2_with fail
            go_quiet ((first | (go_at_call 55; first | exact quiet_left (AH.out _) | exact quiet_add_left (AH.out _))))
            go_wp2_with fail
            refine (SH.out _ _ (by first | exact hb.drewN _ | exact hb)).mono ?_
            rintro e w1 ⟨ql, qr, rfl, h1, h2, b1⟩
            replace b1 := below_of_drewN b1
            have s0 := (b1.cell (p := ⟨b, 0, none⟩) klt).trans k0
            have s1 := (b1.cell (p := ⟨b, 1, none⟩) klt).trans k1
            have s3 := (b1.cell (p := ⟨b, 3, none⟩) klt).trans k3
            have s4 := (b1.cell (p := ⟨b, 4, none⟩) klt).trans k4
            have klt1 := Nat.lt_of_lt_of_le klt b1.size
            have hl1 := hl.below b1
            have hr1 := hr.below b1
            go_wp2_with fail
            go_region_held3 (fun w' => w'.cell? ⟨b, 3, none⟩ = some (.pointer pl) ∧ w'.cell? ⟨b, 0, none⟩ = some (.int .i64 x) ∧ w'.cell? ⟨b, 1, none⟩ = some (.int .i64 (prioI x)) ∧ w'.cell? ⟨b, 4, none⟩ = some (.pointer pr)) (go_keep) (first
              | (have _t := bwz2; go_at_call 56; refine (made_any (union l sl) (union r sr) x p1 p2 _ (by first | exact (hi1.below hbz2) | exact (hi1.below hbz2).drew) (by first | exact hi2 | exact hi2.drew) (by omega)).mono ?_; rintro e wz3 ⟨p3, rfl, hi3, hbz3⟩; have bwz3 := below_then bwz2 hbz3; have sz3_0 := (bwz3.cell (p := ⟨b, 3, none⟩) klt1).trans s3; have sz3_1 := (bwz3.cell (p := ⟨b, 0, none⟩) klt1).trans s0; have sz3_2 := (bwz3.cell (p := ⟨b, 1, none⟩) klt1).trans s1; have sz3_3 := (bwz3.cell (p := ⟨b, 4, none⟩) klt1).trans s4)
              | (have _t := bwz1; go_at_call 52; refine (ih r sr (by omega) (by omega) pr qr _ (by first | exact hr1.below bwz1 | exact (hr1.below bwz1).drew) (by first | exact h2.below bwz1 | exact (h2.below bwz1).drew)).mono ?_; rintro e wz2 ⟨p2, rfl, hi2, hbz2⟩; have bwz2 := below_then bwz1 hbz2; have sz2_0 := (bwz2.cell (p := ⟨b, 3, none⟩) klt1).trans s3; have sz2_1 := (bwz2.cell (p := ⟨b, 0, none⟩) klt1).trans s0; have sz2_2 := (bwz2.cell (p := ⟨b, 1, none⟩) klt1).trans s1; have sz2_3 := (bwz2.cell (p := ⟨b, 4, none⟩) klt1).trans s4)
              | (go_at_call 52; refine (ih l sl (by omega) (by omega) pl ql _ (by first | exact hl1 | exact hl1.drew | exact hl1.drewN _ | exact (hl1.drewN _).drew | exact (hl1.drewN _).drewN _ | exact ((hl1.drewN _).drewN _).drew) (by first | exact h1 | exact h1.drew | exact h1.drewN _ | exact (h1.drewN _).drew | exact (h1.drewN _).drewN _ | exact ((h1.drewN _).drewN _).drew)).mono ?_; rintro e wz1 ⟨p1, rfl, hi1, hbz1⟩; have bwz1 : Below w1.heap.size w1 wz1 := (by first | exact hbz1 | exact below_of_drewN hbz1 | exact below_of_drew hbz1 | exact below_of_drewN (below_of_drew hbz1) | exact below_of_drewN (below_of_drewN hbz1) | exact below_of_drewN (below_of_drewN (below_of_drew hbz1))); have sz1_0 := (bwz1.cell (p := ⟨b, 3, none⟩) klt1).trans s3; have sz1_1 := (bwz1.cell (p := ⟨b, 0, none⟩) klt1).trans s0; have sz1_2 := (bwz1.cell (p := ⟨b, 1, none⟩) klt1).trans s1; have sz1_3 := (bwz1.cell (p := ⟨b, 4, none⟩) klt1).trans s4))
            go_wp2_with fail
            go_ret
            exact ⟨_, rfl, hi3, below_then b1 bwz3⟩
          | false =>
            rw [union_swap hA hxy]
            clear hA hxy
            have hz := split_size (.node c x l r) y
            have SPL := fun p W h => split_any (.node c x l r) y p W h (by simp only [size] at *; omega)
            obtain ⟨sl, hsl⟩ : ∃ s, (split (.node c x l r) y).1 = s := ⟨_, rfl⟩
            obtain ⟨sb, hsb⟩ : ∃ s, (split (.node c x l r) y).2.1 = s := ⟨_, rfl⟩
            obtain ⟨sr, hsr⟩ : ∃ s, (split (.node c x l r) y).2.2 = s := ⟨_, rfl⟩
            rw [hsl, hsr] at hz
            rw [hsl, hsb, hsr] at SPL
            rw [hsl, hsr]
            simp only [size] at hn hz
            have SH := Lib.hid SPL
            have z1 := union_size l' sl
            have z2 := union_size r' sr
            clear hsl hsb hsr SPL
            go_enter Try.func52, Try.ntmps52
            go_wp2_with fail
            go_quiet ((first | (go_at_call 55; first | exact quiet_left (AH.out _) | exact quiet_add_left (AH.out _))))
            go_wp2_with fail
            refine (SH.out _ _ (by first | exact ha.drewN _ | exact ha)).mono ?_
            rintro e w1 ⟨ql, qr, rfl, h1, h2, b1⟩
            replace b1 := below_of_drewN b1
            have s0 := (b1.cell (p := ⟨b', 0, none⟩) jlt).trans j0
            have s1 := (b1.cell (p := ⟨b', 1, none⟩) jlt).trans j1
            have s3 := (b1.cell (p := ⟨b', 3, none⟩) jlt).trans j3
            have s4 := (b1.cell (p := ⟨b', 4, none⟩) jlt).trans j4
            have klt1 := Nat.lt_of_lt_of_le jlt b1.size
            have hl1 := hl'.below b1
            have hr1 := hr'.below b1
            go_wp2_with fail
            go_region_held3 (fun w' => w'.cell? ⟨b', 3, none⟩ = some (.pointer pl') ∧ w'.cell? ⟨b', 0, none⟩ = some (.int .i64 y) ∧ w'.cell? ⟨b', 1, none⟩ = some (.int .i64 (prioI y)) ∧ w'.cell? ⟨b', 4, none⟩ = some (.pointer pr')) (go_keep) (first
              | (have _t := bwz2; go_at_call 56; refine (made_any (union l' sl) (union r' sr) y p1 p2 _ (by first | exact (hi1.below hbz2) | exact (hi1.below hbz2).drew) (by first | exact hi2 | exact hi2.drew) (by omega)).mono ?_; rintro e wz3 ⟨p3, rfl, hi3, hbz3⟩; have bwz3 := below_then bwz2 hbz3; have sz3_0 := (bwz3.cell (p := ⟨b', 3, none⟩) klt1).trans s3; have sz3_1 := (bwz3.cell (p := ⟨b', 0, none⟩) klt1).trans s0; have sz3_2 := (bwz3.cell (p := ⟨b', 1, none⟩) klt1).trans s1; have sz3_3 := (bwz3.cell (p := ⟨b', 4, none⟩) klt1).trans s4)
              | (have _t := bwz1; go_at_call 52; refine (ih r' sr (by omega) (by omega) pr' qr _ (by first | exact hr1.below bwz1 | exact (hr1.below bwz1).drew) (by first | exact h2.below bwz1 | exact (h2.below bwz1).drew)).mono ?_; rintro e wz2 ⟨p2, rfl, hi2, hbz2⟩; have bwz2 := below_then bwz1 hbz2; have sz2_0 := (bwz2.cell (p := ⟨b', 3, none⟩) klt1).trans s3; have sz2_1 := (bwz2.cell (p := ⟨b', 0, none⟩) klt1).trans s0; have sz2_2 := (bwz2.cell (p := ⟨b', 1, none⟩) klt1).trans s1; have sz2_3 := (bwz2.cell (p := ⟨b', 4, none⟩) klt1).trans s4)
              | (go_at_call 52; refine (ih l' sl (by omega) (by omega) pl' ql _ (by first | exact hl1 | exact hl1.drew | exact hl1.drewN _ | exact (hl1.drewN _).drew | exact (hl1.drewN _).drewN _ | exact ((hl1.drewN _).drewN _).drew) (by first | exact h1 | exact h1.drew | exact h1.drewN _ | exact (h1.drewN _).drew | exact (h1.drewN _).drewN _ | exact ((h1.drewN _).drewN _).drew)).mono ?_; rintro e wz1 ⟨p1, rfl, hi1, hbz1⟩; have bwz1 : Below w1.heap.size w1 wz1 := (by first | exact hbz1 | exact below_of_drewN hbz1 | exact below_of_drew hbz1 | exact below_of_drewN (below_of_drew hbz1) | exact below_of_drewN (below_of_drewN hbz1) | exact below_of_drewN (below_of_drewN (below_of_drew hbz1))); have sz1_0 := (bwz1.cell (p := ⟨b', 3, none⟩) klt1).trans s3; have sz1_1 := (bwz1.cell (p := ⟨b', 0, none⟩) klt1).trans s0; have sz1_2 := (bwz1.cell (p := ⟨b', 1, none⟩) klt1).trans s1; have sz1_3 := (bwz1.cell (p := ⟨b', 4, none⟩) klt1).trans s4))
            go_wp2_with fail
            go_ret
            exact ⟨_, rfl, hi3, below_then b1 bwz3⟩
theorem union_any (a d : ST) (pa pb : Option Addr) (w : World) (ha : In w pa a) (hb : In w pb d) (hs : a.size + d.size ≤ 4611686018427387904) :
    Calls Try.prog 52 #[.pointer pa, .pointer pb] w fun e w' => ∃ q, e = .returned (.pointer q) ∧ In w' q (union a d) ∧ Below w.heap.size w w' :=
  union_n _ a d (Nat.le_refl _) hs pa pb w ha hb
end Go.Proofs.Ytdhknhhahdjeeaa.TRP
