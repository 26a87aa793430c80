/-
  Treap: a number is put. Conditions: sizes below 2^62.
-/
import Derived.Test.YtdhknhhahdjeeaaTreapSplit
namespace Go.Proofs.Ytdhknhhahdjeeaa.TRP
open Go.RowKit Go.Deep
open Go.Proofs.Ytdhknhhahdjeeaa Go.Proofs.Ytdhknhhahdjeeaa.ST
open Go.Proofs.Ytdhknhhahdjeeaa.TRP0 (mk split Tp Hp Plain)

set_option linter.unusedVariables false
set_option maxRecDepth 100000 in
set_option maxHeartbeats 1600000 in
theorem put_any (t : ST) (x : Int) : ∀ (p : Option Addr) (w : World), In w p t → t.size ≤ 2305843009213693952 →
    Calls Try.prog 47 #[.pointer p, .int .i64 x, .int .i64 (prioI x)] w fun e w' => ∃ q, e = .returned (.pointer q) ∧ In w' q (put t x) ∧ Below w.heap.size w w' := by
  induction t with
  | nil =>
    intro p w h hs
    obtain rfl : p = none := h
    rw [put_nil]
    have SS := fun w h => split_any .nil x none w h (by decide)
    have SH := Lib.hid SS
    clear SS
    go_enter Try.func47, Try.ntmps47
    go_wp2_with fail
    refine (SH.out _ rfl).mono ?_
    rintro e w1 ⟨ql, qr, rfl, h1, h2, b1⟩
    go_wp2_with fail
    refine (made_any .nil .nil x ql qr _ h1 h2 (by decide)).mono ?_
    rintro e w2 ⟨p2, rfl, hi2, b2⟩
    go_wp2_with fail
    go_ret
    exact ⟨_, rfl, hi2, below_then b1 b2⟩
  | node c y l r ihl ihr =>
    intro p w h hs
    have hs' := hs
    simp only [size] at hs'
    have AB := above_any c y x l r p w h
    by_cases hc : ab y x = false ∧ y ≠ x
    · rw [put_cut hc.1 hc.2]
      rw [hc.1] at AB
      have hz := split_size (.node c y l r) x
      have SPL := split_any (.node c y l r) x p w h (by omega)
      obtain ⟨sl, hsl⟩ : ∃ s, (split (.node c y l r) x).1 = s := ⟨_, rfl⟩
      obtain ⟨sb, hsb⟩ : ∃ s, (split (.node c y l r) x).2.1 = s := ⟨_, rfl⟩
      obtain ⟨sr, hsr⟩ : ∃ s, (split (.node c y l r) x).2.2 = s := ⟨_, rfl⟩
      rw [hsl, hsr] at hz
      rw [hsl, hsb, hsr] at SPL
      rw [hsl, hsr]
      clear hsl hsb hsr ihl ihr
      simp only [size] at hz
      have d1 : (y != x) = true := by simp [hc.2]
      have HC := Lib.hid hc
      have SH := Lib.hid SPL
      have AH := Lib.hid AB
      clear hc SPL AB
      obtain ⟨b, pl, pr, rfl, klt, k0, k1, k2, k3, k4, hl, hr⟩ := h.open
      go_enter Try.func47, Try.ntmps47
      go_wp2_with fail
      refine AH.out.mono ?_
      rintro e w' ⟨rfl, rfl⟩
      go_wp2_with fail
      refine SH.out.mono ?_
      rintro e w1 ⟨ql, qr, rfl, h1, h2, b1⟩
      go_wp2_with fail
      refine (made_any sl sr x ql qr _ h1 h2 (by omega)).mono ?_
      rintro e w2 ⟨p2, rfl, hi2, b2⟩
      go_wp2_with fail
      go_ret
      exact ⟨_, rfl, hi2, below_then b1 b2⟩
    · by_cases hx : x < y
      · skip
        have d1 : decide (x < y) = true := by simp [hx]
        rw [put_lt hc hx]
        obtain ⟨A, hA⟩ : ∃ A, ab y x = A := ⟨_, rfl⟩
        have hcc : A = true := by
          cases A with
          | true => rfl
          | false => exact absurd ⟨hA, by omega⟩ hc
        rw [hA, hcc] at AB
        have AH := Lib.hid AB
        have hz := put_size l x
        clear hc hA hcc AB
        obtain ⟨b, pl, pr, rfl, klt, k0, k1, k2, k3, k4, hl, hr⟩ := h.open
        go_enter Try.func47, Try.ntmps47
        go_wp2_with fail
        refine AH.out.mono ?_
        rintro e w' ⟨rfl, rfl⟩
        go_wp2_with fail
        go_region_held3 (fun w' => w'.cell? ⟨b, 3, none⟩ = some (.pointer pl) ∧ w'.cell? ⟨b, 0, none⟩ = some (.int .i64 y) ∧ w'.cell? ⟨b, 1, none⟩ = some (.int .i64 (prioI y)) ∧ w'.cell? ⟨b, 4, none⟩ = some (.pointer pr)) (go_keep) (first
          | (have _t := bw1; go_at_call 56; refine (made_any (put l x) r y p1 pr _ (by first | exact hi1 | exact hi1.drew) (by first | exact hr.below bw1 | exact (hr.below bw1).drew) (by omega)).mono ?_; rintro e w2 ⟨p2, rfl, hi2, hb2⟩; have bw2 := below_then bw1 hb2; have s2_0 := (bw2.cell (p := ⟨b, 3, none⟩) klt).trans k3; have s2_1 := (bw2.cell (p := ⟨b, 0, none⟩) klt).trans k0; have s2_2 := (bw2.cell (p := ⟨b, 1, none⟩) klt).trans k1; have s2_3 := (bw2.cell (p := ⟨b, 4, none⟩) klt).trans k4)
          | (go_at_call 47; refine (ihl pl _ (by first | exact hl | exact hl.drew | exact hl.drewN _ | exact (hl.drewN _).drew | exact (hl.drewN _).drewN _ | exact ((hl.drewN _).drewN _).drew) (by omega)).mono ?_; rintro e w1 ⟨p1, rfl, hi1, hb1⟩; have bw1 : Below w.heap.size w w1 := (by first | exact hb1 | exact below_of_drewN hb1 | exact below_of_drew hb1 | exact below_of_drewN (below_of_drew hb1) | exact below_of_drewN (below_of_drewN hb1) | exact below_of_drewN (below_of_drewN (below_of_drew hb1))); have s1_0 := (bw1.cell (p := ⟨b, 3, none⟩) klt).trans k3; have s1_1 := (bw1.cell (p := ⟨b, 0, none⟩) klt).trans k0; have s1_2 := (bw1.cell (p := ⟨b, 1, none⟩) klt).trans k1; have s1_3 := (bw1.cell (p := ⟨b, 4, none⟩) klt).trans k4))
        go_wp2_with fail
        go_ret
        exact ⟨_, rfl, hi2, bw2⟩
      · by_cases hy : y < x
        · have hx := hy
          have d1 : decide (x < y) = false := by simp; omega
          have d2 : decide (y < x) = true := by simp [hx]
          rw [put_gt hc hx]
          obtain ⟨A, hA⟩ : ∃ A, ab y x = A := ⟨_, rfl⟩
          have hcc : A = true := by
            cases A with
            | true => rfl
            | false => exact absurd ⟨hA, by omega⟩ hc
          rw [hA, hcc] at AB
          have AH := Lib.hid AB
          have hz := put_size r x
          clear hc hA hcc AB
          obtain ⟨b, pl, pr, rfl, klt, k0, k1, k2, k3, k4, hl, hr⟩ := h.open
          go_enter Try.func47, Try.ntmps47
          go_wp2_with fail
          refine AH.out.mono ?_
          rintro e w' ⟨rfl, rfl⟩
          go_wp2_with fail
          go_region_held3 (fun w' => w'.cell? ⟨b, 3, none⟩ = some (.pointer pl) ∧ w'.cell? ⟨b, 0, none⟩ = some (.int .i64 y) ∧ w'.cell? ⟨b, 1, none⟩ = some (.int .i64 (prioI y)) ∧ w'.cell? ⟨b, 4, none⟩ = some (.pointer pr)) (go_keep) (first
            | (have _t := bw1; go_at_call 56; refine (made_any l (put r x) y pl p1 _ (by first | exact hl.below bw1 | exact (hl.below bw1).drew) (by first | exact hi1 | exact hi1.drew) (by omega)).mono ?_; rintro e w2 ⟨p2, rfl, hi2, hb2⟩; have bw2 := below_then bw1 hb2; have s2_0 := (bw2.cell (p := ⟨b, 3, none⟩) klt).trans k3; have s2_1 := (bw2.cell (p := ⟨b, 0, none⟩) klt).trans k0; have s2_2 := (bw2.cell (p := ⟨b, 1, none⟩) klt).trans k1; have s2_3 := (bw2.cell (p := ⟨b, 4, none⟩) klt).trans k4)
            | (go_at_call 47; refine (ihr pr _ (by first | exact hr | exact hr.drew | exact hr.drewN _ | exact (hr.drewN _).drew | exact (hr.drewN _).drewN _ | exact ((hr.drewN _).drewN _).drew) (by omega)).mono ?_; rintro e w1 ⟨p1, rfl, hi1, hb1⟩; have bw1 : Below w.heap.size w w1 := (by first | exact hb1 | exact below_of_drewN hb1 | exact below_of_drew hb1 | exact below_of_drewN (below_of_drew hb1) | exact below_of_drewN (below_of_drewN hb1) | exact below_of_drewN (below_of_drewN (below_of_drew hb1))); have s1_0 := (bw1.cell (p := ⟨b, 3, none⟩) klt).trans k3; have s1_1 := (bw1.cell (p := ⟨b, 0, none⟩) klt).trans k0; have s1_2 := (bw1.cell (p := ⟨b, 1, none⟩) klt).trans k1; have s1_3 := (bw1.cell (p := ⟨b, 4, none⟩) klt).trans k4))
          go_wp2_with fail
          go_ret
          exact ⟨_, rfl, hi2, bw2⟩
        · obtain rfl : x = y := by omega
          rw [put_eq]
          clear hc hx hy ihl ihr
          have d1 : decide (x < x) = false := by simp
          have d3 : (x != x) = false := by simp
          obtain ⟨A, hA⟩ : ∃ A, ab x x = A := ⟨_, rfl⟩
          rw [hA] at AB
          have AH := Lib.hid AB
          clear hA AB
          have h' := h
          obtain ⟨b, pl, pr, rfl, klt, k0, k1, k2, k3, k4, hl, hr⟩ := h'.open
          cases A
          all_goals
            go_enter Try.func47, Try.ntmps47
            go_wp2_with fail
            refine AH.out.mono ?_
            rintro e w' ⟨rfl, rfl⟩
            go_wp2_with fail
            go_ret
            exact ⟨_, rfl, h, Below.refl _ _⟩
end Go.Proofs.Ytdhknhhahdjeeaa.TRP
