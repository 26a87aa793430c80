/-
  Treap: what a number parts. Conditions: sizes below 2^62.
  Treap: a number is put. Conditions: sizes below 2^62.
  Treap: two, of which all of the second one are greater, are joined. Conditions: sizes below 2^62.
  Treap: the set's functions. Conditions: sizes below 2^62.
-/
import Derived.Test.YthokmfonedfmfaaTreapWalks
namespace Go.Proofs.Ythokmfonedfmfaa.TRP
open Go.RowKit Go.Deep
open Go.Proofs.Ythokmfonedfmfaa Go.Proofs.Ythokmfonedfmfaa.ST
open Go.Proofs.Ythokmfonedfmfaa.TRP0 (mk split Tp Hp Plain)

set_option linter.unusedVariables false
set_option maxRecDepth 100000 in
set_option maxHeartbeats 1600000 in
theorem split_any (t : ST) (x : Int) : ∀ (p : Option Addr) (w : World), In w p t → t.size ≤ 4611686018427387904 →
    Calls Try.prog 63 #[.pointer p, .int .i64 x] w fun e w' => ∃ ql qr, e = .returned (.tuple #[.pointer ql, .bool (split t x).2.1, .pointer qr]) ∧ In w' ql (split t x).1 ∧ In w' qr (split t x).2.2 ∧ Below w.heap.size w w' := by
  induction t with
  | nil =>
    intro p w h hs
    obtain rfl : p = none := h
    go_enter Try.func63, Try.ntmps63
    go_wp2_with fail
    refine bodyPost_ret (v := .tuple #[.pointer none, .bool false, .pointer none]) (by simp [results, Try.results63, go_sem]) rfl ⟨none, none, rfl, rfl, rfl, Below.refl _ _⟩
  | node c y l r ihl ihr =>
    intro p w h hs
    have hs' := hs
    simp only [size] at hs'
    obtain ⟨b, pl, pr, rfl, klt, k0, k1, k2, k3, k4, hl, hr⟩ := h.open
    by_cases hx : x < y
    · rw [split_lt hx]
      have d1 : decide (x < y) = true := by simp [hx]
      have hz := split_size l x
      have IH := ihl pl w hl (by omega)
      obtain ⟨sl, hsl⟩ : ∃ s, (split l x).1 = s := ⟨_, rfl⟩
      obtain ⟨sb, hsb⟩ : ∃ s, (split l x).2.1 = s := ⟨_, rfl⟩
      obtain ⟨sr, hsr⟩ : ∃ s, (split l x).2.2 = s := ⟨_, rfl⟩
      rw [hsl, hsr] at hz
      rw [hsl, hsb, hsr] at IH ⊢
      simp only
      clear hsl hsb hsr ihl ihr
      have IHH := Lib.hid IH
      clear IH
      go_enter Try.func63, Try.ntmps63
      go_wp2_with fail
      refine IHH.out.mono ?_
      rintro e w1 ⟨ql, qr, rfl, h1, h2, b1⟩
      have s0 := (b1.cell (p := ⟨b, 0, none⟩) klt).trans k0
      have s1 := (b1.cell (p := ⟨b, 1, none⟩) klt).trans k1
      have s3 := (b1.cell (p := ⟨b, 3, none⟩) klt).trans k3
      have s4 := (b1.cell (p := ⟨b, 4, none⟩) klt).trans k4
      have klt1 := Nat.lt_of_lt_of_le klt b1.size
      have hr1 := hr.below b1
      go_wp2_with fail
      go_region_held3 (fun w' => w'.cell? ⟨b, 0, none⟩ = some (.int .i64 y) ∧ w'.cell? ⟨b, 1, none⟩ = some (.int .i64 (prioI y)) ∧ w'.cell? ⟨b, 4, none⟩ = some (.pointer pr)) (go_keep) (first
        | (go_at_call 102; refine (made_any sr r y qr pr _ (by first | exact h2 | exact h2.drew | exact h2.drewN _ | exact (h2.drewN _).drew | exact (h2.drewN _).drewN _ | exact ((h2.drewN _).drewN _).drew) (by first | exact hr1 | exact hr1.drew | exact hr1.drewN _ | exact (hr1.drewN _).drew | exact (hr1.drewN _).drewN _ | exact ((hr1.drewN _).drewN _).drew) (by omega)).mono ?_; rintro e wz1 ⟨q2, rfl, hi2, hbz1⟩; have bwz1 : Below w1.heap.size w1 wz1 := (by first | exact hbz1 | exact below_of_drewN hbz1 | exact below_of_drew hbz1 | exact below_of_drewN (below_of_drew hbz1) | exact below_of_drewN (below_of_drewN hbz1) | exact below_of_drewN (below_of_drewN (below_of_drew hbz1))); have sz1_0 := (bwz1.cell (p := ⟨b, 0, none⟩) klt1).trans s0; have sz1_1 := (bwz1.cell (p := ⟨b, 1, none⟩) klt1).trans s1; have sz1_2 := (bwz1.cell (p := ⟨b, 4, none⟩) klt1).trans s4))
      go_wp2_with fail
      refine bodyPost_ret (v := .tuple #[.pointer ql, .bool sb, .pointer q2]) (by simp [results, Try.results63, go_sem]) rfl ⟨ql, q2, rfl, h1.below bwz1, hi2, below_then b1 bwz1⟩
    by_cases hx : y < x
    · rw [split_gt hx]
      have d1 : decide (x < y) = false := by simp; omega
      have d2 : decide (y < x) = true := by simp [hx]
      have hz := split_size r x
      have IH := ihr pr w hr (by omega)
      obtain ⟨sl, hsl⟩ : ∃ s, (split r x).1 = s := ⟨_, rfl⟩
      obtain ⟨sb, hsb⟩ : ∃ s, (split r x).2.1 = s := ⟨_, rfl⟩
      obtain ⟨sr, hsr⟩ : ∃ s, (split r x).2.2 = s := ⟨_, rfl⟩
      rw [hsl, hsr] at hz
      rw [hsl, hsb, hsr] at IH ⊢
      simp only
      clear hsl hsb hsr ihl ihr
      have IHH := Lib.hid IH
      clear IH
      go_enter Try.func63, Try.ntmps63
      go_wp2_with fail
      refine IHH.out.mono ?_
      rintro e w1 ⟨ql, qr, rfl, h1, h2, b1⟩
      have s0 := (b1.cell (p := ⟨b, 0, none⟩) klt).trans k0
      have s1 := (b1.cell (p := ⟨b, 1, none⟩) klt).trans k1
      have s3 := (b1.cell (p := ⟨b, 3, none⟩) klt).trans k3
      have s4 := (b1.cell (p := ⟨b, 4, none⟩) klt).trans k4
      have klt1 := Nat.lt_of_lt_of_le klt b1.size
      have hl1 := hl.below b1
      go_wp2_with fail
      go_region_held3 (fun w' => w'.cell? ⟨b, 3, none⟩ = some (.pointer pl) ∧ w'.cell? ⟨b, 0, none⟩ = some (.int .i64 y) ∧ w'.cell? ⟨b, 1, none⟩ = some (.int .i64 (prioI y))) (go_keep) (first
        | (go_at_call 102; refine (made_any l sl y pl ql _ (by first | exact hl1 | exact hl1.drew | exact hl1.drewN _ | exact (hl1.drewN _).drew | exact (hl1.drewN _).drewN _ | exact ((hl1.drewN _).drewN _).drew) (by first | exact h1 | exact h1.drew | exact h1.drewN _ | exact (h1.drewN _).drew | exact (h1.drewN _).drewN _ | exact ((h1.drewN _).drewN _).drew) (by omega)).mono ?_; rintro e wz1 ⟨q2, rfl, hi2, hbz1⟩; have bwz1 : Below w1.heap.size w1 wz1 := (by first | exact hbz1 | exact below_of_drewN hbz1 | exact below_of_drew hbz1 | exact below_of_drewN (below_of_drew hbz1) | exact below_of_drewN (below_of_drewN hbz1) | exact below_of_drewN (below_of_drewN (below_of_drew hbz1))); have sz1_0 := (bwz1.cell (p := ⟨b, 3, none⟩) klt1).trans s3; have sz1_1 := (bwz1.cell (p := ⟨b, 0, none⟩) klt1).trans s0; have sz1_2 := (bwz1.cell (p := ⟨b, 1, none⟩) klt1).trans s1))
      go_wp2_with fail
      refine bodyPost_ret (v := .tuple #[.pointer q2, .bool sb, .pointer qr]) (by simp [results, Try.results63, go_sem]) rfl ⟨q2, qr, rfl, hi2, h2.below bwz1, below_then b1 bwz1⟩
    · obtain rfl : x = y := by omega
      rw [split_eq]
      have d1 : decide (x < x) = false := by simp
      simp only
      go_enter Try.func63, Try.ntmps63
      go_wp2_with fail
      go_quiet (fail)
      go_wp2_with fail
      refine bodyPost_ret (v := .tuple #[.pointer pl, .bool true, .pointer pr]) (by simp [results, Try.results63, go_sem]) rfl ⟨pl, pr, rfl, hl.drewN _, hr.drewN _, below_drewN (Below.refl _ _) _⟩
end Go.Proofs.Ythokmfonedfmfaa.TRP

namespace Go.Proofs.Ythokmfonedfmfaa.TRP
open Go.RowKit Go.Deep
open Go.Proofs.Ythokmfonedfmfaa Go.Proofs.Ythokmfonedfmfaa.ST
open Go.Proofs.Ythokmfonedfmfaa.TRP0 (mk split Tp Hp Plain)

set_option linter.unusedVariables false
set_option maxRecDepth 100000 in
set_option maxHeartbeats 1600000 in
theorem put_any (t : ST) (x : Int) : ∀ (p : Option Addr) (w : World), In w p t → t.size ≤ 2305843009213693952 →
    Calls Try.prog 70 #[.pointer p, .int .i64 x, .int .i64 (prioI x)] w fun e w' => ∃ q, e = .returned (.pointer q) ∧ In w' q (put t x) ∧ Below w.heap.size w w' := by
  induction t with
  | nil =>
    intro p w h hs
    obtain rfl : p = none := h
    rw [put_nil]
    have SS := fun w h => split_any .nil x none w h (by decide)
    have SH := Lib.hid SS
    clear SS
    go_enter Try.func70, Try.ntmps70
    go_wp2_with fail
    refine (SH.out _ rfl).mono ?_
    rintro e w1 ⟨ql, qr, rfl, h1, h2, b1⟩
    go_wp2_with fail
    refine (made_any .nil .nil x ql qr _ h1 h2 (by decide)).mono ?_
    rintro e w2 ⟨p2, rfl, hi2, b2⟩
    go_wp2_with fail
    go_ret
    exact ⟨_, rfl, hi2, below_then b1 b2⟩
  | node c y l r ihl ihr =>
    intro p w h hs
    have hs' := hs
    simp only [size] at hs'
    have AB := above_any c y x l r p w h
    by_cases hc : ab y x = false ∧ y ≠ x
    · rw [put_cut hc.1 hc.2]
      rw [hc.1] at AB
      have hz := split_size (.node c y l r) x
      have SPL := split_any (.node c y l r) x p w h (by omega)
      obtain ⟨sl, hsl⟩ : ∃ s, (split (.node c y l r) x).1 = s := ⟨_, rfl⟩
      obtain ⟨sb, hsb⟩ : ∃ s, (split (.node c y l r) x).2.1 = s := ⟨_, rfl⟩
      obtain ⟨sr, hsr⟩ : ∃ s, (split (.node c y l r) x).2.2 = s := ⟨_, rfl⟩
      rw [hsl, hsr] at hz
      rw [hsl, hsb, hsr] at SPL
      rw [hsl, hsr]
      clear hsl hsb hsr ihl ihr
      simp only [size] at hz
      have d1 : (y != x) = true := by simp [hc.2]
      have HC := Lib.hid hc
      have SH := Lib.hid SPL
      have AH := Lib.hid AB
      clear hc SPL AB
      obtain ⟨b, pl, pr, rfl, klt, k0, k1, k2, k3, k4, hl, hr⟩ := h.open
      go_enter Try.func70, Try.ntmps70
      go_wp2_with fail
      refine AH.out.mono ?_
      rintro e w' ⟨rfl, rfl⟩
      go_wp2_with fail
      refine SH.out.mono ?_
      rintro e w1 ⟨ql, qr, rfl, h1, h2, b1⟩
      go_wp2_with fail
      refine (made_any sl sr x ql qr _ h1 h2 (by omega)).mono ?_
      rintro e w2 ⟨p2, rfl, hi2, b2⟩
      go_wp2_with fail
      go_ret
      exact ⟨_, rfl, hi2, below_then b1 b2⟩
    · by_cases hx : x < y
      · skip
        have d1 : decide (x < y) = true := by simp [hx]
        rw [put_lt hc hx]
        obtain ⟨A, hA⟩ : ∃ A, ab y x = A := ⟨_, rfl⟩
        have hcc : A = true := by
          cases A with
          | true => rfl
          | false => exact absurd ⟨hA, by omega⟩ hc
        rw [hA, hcc] at AB
        have AH := Lib.hid AB
        have hz := put_size l x
        clear hc hA hcc AB
        obtain ⟨b, pl, pr, rfl, klt, k0, k1, k2, k3, k4, hl, hr⟩ := h.open
        go_enter Try.func70, Try.ntmps70
        go_wp2_with fail
        refine AH.out.mono ?_
        rintro e w' ⟨rfl, rfl⟩
        go_wp2_with fail
        go_region_held3 (fun w' => w'.cell? ⟨b, 3, none⟩ = some (.pointer pl) ∧ w'.cell? ⟨b, 0, none⟩ = some (.int .i64 y) ∧ w'.cell? ⟨b, 1, none⟩ = some (.int .i64 (prioI y)) ∧ w'.cell? ⟨b, 4, none⟩ = some (.pointer pr)) (go_keep) (first
          | (have _t := bw1; go_at_call 102; refine (made_any (put l x) r y p1 pr _ (by first | exact hi1 | exact hi1.drew) (by first | exact hr.below bw1 | exact (hr.below bw1).drew) (by omega)).mono ?_; rintro e w2 ⟨p2, rfl, hi2, hb2⟩; have bw2 := below_then bw1 hb2; have s2_0 := (bw2.cell (p := ⟨b, 3, none⟩) klt).trans k3; have s2_1 := (bw2.cell (p := ⟨b, 0, none⟩) klt).trans k0; have s2_2 := (bw2.cell (p := ⟨b, 1, none⟩) klt).trans k1; have s2_3 := (bw2.cell (p := ⟨b, 4, none⟩) klt).trans k4)
          | (go_at_call 70; refine (ihl pl _ (by first | exact hl | exact hl.drew | exact hl.drewN _ | exact (hl.drewN _).drew | exact (hl.drewN _).drewN _ | exact ((hl.drewN _).drewN _).drew) (by omega)).mono ?_; rintro e w1 ⟨p1, rfl, hi1, hb1⟩; have bw1 : Below w.heap.size w w1 := (by first | exact hb1 | exact below_of_drewN hb1 | exact below_of_drew hb1 | exact below_of_drewN (below_of_drew hb1) | exact below_of_drewN (below_of_drewN hb1) | exact below_of_drewN (below_of_drewN (below_of_drew hb1))); have s1_0 := (bw1.cell (p := ⟨b, 3, none⟩) klt).trans k3; have s1_1 := (bw1.cell (p := ⟨b, 0, none⟩) klt).trans k0; have s1_2 := (bw1.cell (p := ⟨b, 1, none⟩) klt).trans k1; have s1_3 := (bw1.cell (p := ⟨b, 4, none⟩) klt).trans k4))
        go_wp2_with fail
        go_ret
        exact ⟨_, rfl, hi2, bw2⟩
      · by_cases hy : y < x
        · have hx := hy
          have d1 : decide (x < y) = false := by simp; omega
          have d2 : decide (y < x) = true := by simp [hx]
          rw [put_gt hc hx]
          obtain ⟨A, hA⟩ : ∃ A, ab y x = A := ⟨_, rfl⟩
          have hcc : A = true := by
            cases A with
            | true => rfl
            | false => exact absurd ⟨hA, by omega⟩ hc
          rw [hA, hcc] at AB
          have AH := Lib.hid AB
          have hz := put_size r x
          clear hc hA hcc AB
          obtain ⟨b, pl, pr, rfl, klt, k0, k1, k2, k3, k4, hl, hr⟩ := h.open
          go_enter Try.func70, Try.ntmps70
          go_wp2_with fail
          refine AH.out.mono ?_
          rintro e w' ⟨rfl, rfl⟩
          go_wp2_with fail
          go_region_held3 (fun w' => w'.cell? ⟨b, 3, none⟩ = some (.pointer pl) ∧ w'.cell? ⟨b, 0, none⟩ = some (.int .i64 y) ∧ w'.cell? ⟨b, 1, none⟩ = some (.int .i64 (prioI y)) ∧ w'.cell? ⟨b, 4, none⟩ = some (.pointer pr)) (go_keep) (first
            | (have _t := bw1; go_at_call 102; refine (made_any l (put r x) y pl p1 _ (by first | exact hl.below bw1 | exact (hl.below bw1).drew) (by first | exact hi1 | exact hi1.drew) (by omega)).mono ?_; rintro e w2 ⟨p2, rfl, hi2, hb2⟩; have bw2 := below_then bw1 hb2; have s2_0 := (bw2.cell (p := ⟨b, 3, none⟩) klt).trans k3; have s2_1 := (bw2.cell (p := ⟨b, 0, none⟩) klt).trans k0; have s2_2 := (bw2.cell (p := ⟨b, 1, none⟩) klt).trans k1; have s2_3 := (bw2.cell (p := ⟨b, 4, none⟩) klt).trans k4)
            | (go_at_call 70; refine (ihr pr _ (by first | exact hr | exact hr.drew | exact hr.drewN _ | exact (hr.drewN _).drew | exact (hr.drewN _).drewN _ | exact ((hr.drewN _).drewN _).drew) (by omega)).mono ?_; rintro e w1 ⟨p1, rfl, hi1, hb1⟩; have bw1 : Below w.heap.size w w1 := (by first | exact hb1 | exact below_of_drewN hb1 | exact below_of_drew hb1 | exact below_of_drewN (below_of_drew hb1) | exact below_of_drewN (below_of_drewN hb1) | exact below_of_drewN (below_of_drewN (below_of_drew hb1))); have s1_0 := (bw1.cell (p := ⟨b, 3, none⟩) klt).trans k3; have s1_1 := (bw1.cell (p := ⟨b, 0, none⟩) klt).trans k0; have s1_2 := (bw1.cell (p := ⟨b, 1, none⟩) klt).trans k1; have s1_3 := (bw1.cell (p := ⟨b, 4, none⟩) klt).trans k4))
          go_wp2_with fail
          go_ret
          exact ⟨_, rfl, hi2, bw2⟩
        · obtain rfl : x = y := by omega
          rw [put_eq]
          clear hc hx hy ihl ihr
          have d1 : decide (x < x) = false := by simp
          have d3 : (x != x) = false := by simp
          obtain ⟨A, hA⟩ : ∃ A, ab x x = A := ⟨_, rfl⟩
          rw [hA] at AB
          have AH := Lib.hid AB
          clear hA AB
          have h' := h
          obtain ⟨b, pl, pr, rfl, klt, k0, k1, k2, k3, k4, hl, hr⟩ := h'.open
          cases A
          all_goals
            go_enter Try.func70, Try.ntmps70
            go_wp2_with fail
            refine AH.out.mono ?_
            rintro e w' ⟨rfl, rfl⟩
            go_wp2_with fail
            go_ret
            exact ⟨_, rfl, h, Below.refl _ _⟩
end Go.Proofs.Ythokmfonedfmfaa.TRP

namespace Go.Proofs.Ythokmfonedfmfaa.TRP
open Go.RowKit Go.Deep
open Go.Proofs.Ythokmfonedfmfaa Go.Proofs.Ythokmfonedfmfaa.ST
open Go.Proofs.Ythokmfonedfmfaa.TRP0 (mk split Tp Hp Plain)

set_option linter.unusedVariables false
set_option maxRecDepth 100000 in
set_option maxHeartbeats 1600000 in
theorem joined_n : ∀ (n : Nat) (a d : ST), a.size + d.size ≤ n → n ≤ 4611686018427387904 → ∀ (pa pb : Option Addr) (w : World), In w pa a → In w pb d →
    Calls Try.prog 64 #[.pointer pa, .pointer pb] w fun e w' => ∃ q, e = .returned (.pointer q) ∧ In w' q (joined a d) ∧ Below w.heap.size w w' := by
  intro n
  induction n with
  | zero =>
    intro a d hn hN pa pb w ha hb
    cases a with
    | node c x l r => simp only [size] at hn; omega
    | nil =>
      rw [joined_nil]
      obtain rfl : pa = none := ha
      go_enter Try.func64, Try.ntmps64
      go_wp2_with fail
      go_ret
      exact ⟨_, rfl, hb, Below.refl _ _⟩
  | succ n ih =>
    intro a d hn hN pa pb w ha hb
    cases a with
    | nil =>
      rw [joined_nil]
      obtain rfl : pa = none := ha
      go_enter Try.func64, Try.ntmps64
      go_wp2_with fail
      go_ret
      exact ⟨_, rfl, hb, Below.refl _ _⟩
    | node c x l r =>
      have ha' := ha
      obtain ⟨b, pl, pr, rfl, klt, k0, k1, k2, k3, k4, hl, hr⟩ := ha'.open
      cases d with
      | nil =>
        rw [joined_nil2]
        obtain rfl : pb = none := hb
        go_enter Try.func64, Try.ntmps64
        go_wp2_with fail
        go_ret
        exact ⟨_, rfl, ha, Below.refl _ _⟩
      | node c' y l' r' =>
        have hb' := hb
        obtain ⟨b', pl', pr', rfl, jlt, j0, j1, j2, j3, j4, hl', hr'⟩ := hb'.open
        simp only [size] at hn ih
        have AB := fun m => above_any c x y l r _ _ (ha.drewN m)
        obtain ⟨A, hA⟩ : ∃ A, ab x y = A := ⟨_, rfl⟩
        rw [hA] at AB
        have AH := Lib.hid AB
        have j1' := j1
        obtain ⟨Q, hQ⟩ : ∃ Q, prioI y = Q := ⟨_, rfl⟩
        rw [hQ] at AH
        clear AB
        cases A with
        | true =>
          rw [joined_a hA]
          rw [← hQ] at AH
          clear hA hQ
          go_enter Try.func64, Try.ntmps64
          go_wp2_with fail
          go_quiet ((first | (go_at_call 103; first | exact quiet_left (AH.out _) | exact quiet_add_left (AH.out _))))
          go_wp2_with fail
          go_region_held3 (fun w' => w'.cell? ⟨b, 3, none⟩ = some (.pointer pl) ∧ w'.cell? ⟨b, 0, none⟩ = some (.int .i64 x) ∧ w'.cell? ⟨b, 1, none⟩ = some (.int .i64 (prioI x)) ∧ w'.cell? ⟨b, 4, none⟩ = some (.pointer pr)) (go_keep) (first
            | (have _t := bw1; go_at_call 102; refine (made_any l (joined r (.node c' y l' r')) x pl p1 _ (by first | exact hl.below bw1 | exact (hl.below bw1).drew) (by first | exact hi1 | exact hi1.drew) (by rw [joined_size]; simp only [size]; omega)).mono ?_; rintro e w2 ⟨p2, rfl, hi2, hb2⟩; have bw2 := below_then bw1 hb2; have s2_0 := (bw2.cell (p := ⟨b, 3, none⟩) klt).trans k3; have s2_1 := (bw2.cell (p := ⟨b, 0, none⟩) klt).trans k0; have s2_2 := (bw2.cell (p := ⟨b, 1, none⟩) klt).trans k1; have s2_3 := (bw2.cell (p := ⟨b, 4, none⟩) klt).trans k4)
            | (go_at_call 64; refine (ih r (.node c' y l' r') (by simp only [size]; omega) (by omega) pr _ _ (by first | exact hr | exact hr.drew | exact hr.drewN _ | exact (hr.drewN _).drew | exact (hr.drewN _).drewN _ | exact ((hr.drewN _).drewN _).drew) (by first | exact hb | exact hb.drew | exact hb.drewN _ | exact (hb.drewN _).drew | exact (hb.drewN _).drewN _ | exact ((hb.drewN _).drewN _).drew)).mono ?_; rintro e w1 ⟨p1, rfl, hi1, hb1⟩; have bw1 : Below w.heap.size w w1 := (by first | exact hb1 | exact below_of_drewN hb1 | exact below_of_drew hb1 | exact below_of_drewN (below_of_drew hb1) | exact below_of_drewN (below_of_drewN hb1) | exact below_of_drewN (below_of_drewN (below_of_drew hb1))); have s1_0 := (bw1.cell (p := ⟨b, 3, none⟩) klt).trans k3; have s1_1 := (bw1.cell (p := ⟨b, 0, none⟩) klt).trans k0; have s1_2 := (bw1.cell (p := ⟨b, 1, none⟩) klt).trans k1; have s1_3 := (bw1.cell (p := ⟨b, 4, none⟩) klt).trans k4))
          go_wp2_with fail
          go_ret
          exact ⟨_, rfl, hi2, bw2⟩
        | false =>
          rw [joined_b hA]
          rw [← hQ] at AH
          clear hA hQ
          go_enter Try.func64, Try.ntmps64
          go_wp2_with fail
          go_quiet ((first | (go_at_call 103; first | exact quiet_left (AH.out _) | exact quiet_add_left (AH.out _))))
          go_wp2_with fail
          go_region_held3 (fun w' => w'.cell? ⟨b', 3, none⟩ = some (.pointer pl') ∧ w'.cell? ⟨b', 0, none⟩ = some (.int .i64 y) ∧ w'.cell? ⟨b', 1, none⟩ = some (.int .i64 (prioI y)) ∧ w'.cell? ⟨b', 4, none⟩ = some (.pointer pr')) (go_keep) (first
            | (have _t := bw1; go_at_call 102; refine (made_any (joined (.node c x l r) l') r' y p1 pr' _ (by first | exact hi1 | exact hi1.drew) (by first | exact hr'.below bw1 | exact (hr'.below bw1).drew) (by rw [joined_size]; simp only [size]; omega)).mono ?_; rintro e w2 ⟨p2, rfl, hi2, hb2⟩; have bw2 := below_then bw1 hb2; have s2_0 := (bw2.cell (p := ⟨b', 3, none⟩) jlt).trans j3; have s2_1 := (bw2.cell (p := ⟨b', 0, none⟩) jlt).trans j0; have s2_2 := (bw2.cell (p := ⟨b', 1, none⟩) jlt).trans j1; have s2_3 := (bw2.cell (p := ⟨b', 4, none⟩) jlt).trans j4)
            | (go_at_call 64; refine (ih (.node c x l r) l' (by simp only [size]; omega) (by omega) _ pl' _ (by first | exact ha | exact ha.drew | exact ha.drewN _ | exact (ha.drewN _).drew | exact (ha.drewN _).drewN _ | exact ((ha.drewN _).drewN _).drew) (by first | exact hl' | exact hl'.drew | exact hl'.drewN _ | exact (hl'.drewN _).drew | exact (hl'.drewN _).drewN _ | exact ((hl'.drewN _).drewN _).drew)).mono ?_; rintro e w1 ⟨p1, rfl, hi1, hb1⟩; have bw1 : Below w.heap.size w w1 := (by first | exact hb1 | exact below_of_drewN hb1 | exact below_of_drew hb1 | exact below_of_drewN (below_of_drew hb1) | exact below_of_drewN (below_of_drewN hb1) | exact below_of_drewN (below_of_drewN (below_of_drew hb1))); have s1_0 := (bw1.cell (p := ⟨b', 3, none⟩) jlt).trans j3; have s1_1 := (bw1.cell (p := ⟨b', 0, none⟩) jlt).trans j0; have s1_2 := (bw1.cell (p := ⟨b', 1, none⟩) jlt).trans j1; have s1_3 := (bw1.cell (p := ⟨b', 4, none⟩) jlt).trans j4))
          go_wp2_with fail
          go_ret
          exact ⟨_, rfl, hi2, bw2⟩
theorem joined_any (a d : ST) (pa pb : Option Addr) (w : World) (ha : In w pa a) (hb : In w pb d) (hs : a.size + d.size ≤ 4611686018427387904) :
    Calls Try.prog 64 #[.pointer pa, .pointer pb] w fun e w' => ∃ q, e = .returned (.pointer q) ∧ In w' q (joined a d) ∧ Below w.heap.size w w' :=
  joined_n _ a d (Nat.le_refl _) hs pa pb w ha hb
end Go.Proofs.Ythokmfonedfmfaa.TRP

namespace Go.Proofs.Ythokmfonedfmfaa.TRP
open Go.RowKit Go.Deep
open Go.Proofs.Ythokmfonedfmfaa Go.Proofs.Ythokmfonedfmfaa.ST
open Go.Proofs.Ythokmfonedfmfaa.TRP0 (mk split Tp Hp Plain)

theorem prio_b (x : Int) (w : World) : Calls Try.prog 71 #[.int .i64 x] w fun e w' => e = .returned (.int .i64 (prioI x)) ∧ Below w.heap.size w w' :=
  (prio_any x w).mono fun _ _ ⟨he, hw⟩ => ⟨he, hw ▸ Below.refl _ _⟩
set_option maxHeartbeats 800000 in
theorem put_set (t : ST) (x : Int) (p : Option Addr) (w : World) (h : In w p t) (hs : t.size ≤ 1152921504606846976) :
    Calls Try.prog 29 #[.agg #[.pointer p], .int .i64 x] w fun e w' => ∃ q, e = .returned (.agg #[.pointer q]) ∧ In w' q (put t x) ∧ Below w.heap.size w w' := by
  go_enter Try.func29, Try.ntmps29
  go_wp2_with fail
  obtain ⟨W, hW⟩ : ∃ W, (w.alloc (.cells #[.pointer p] 62)).alloc (.cells #[.pointer none] 62) = W := ⟨_, rfl⟩
  have bW : Below w.heap.size w W := by rw [← hW]; exact ((Below.refl _ _).alloc (Nat.le_refl _) _).alloc (by simp) _
  have x0 : W.heap[w.heap.size]? = some (.cells #[.pointer p] 62 (0, 0)) := by rw [← hW]; exact (Below.heap_alloc _ _ _ (by simp)).trans (heap_alloc_new _ _)
  have x1 : W.heap[w.heap.size + 1]? = some (.cells #[.pointer none] 62 (0, 0)) := by
    rw [← hW]
    have := heap_alloc_new (w.alloc (.cells #[.pointer p] 62)) (.cells #[.pointer none] 62)
    rwa [World.size_alloc] at this
  rw [hW]
  clear hW
  have h' := h.below bW
  have cX := (blk x0).1 0
  have Xl := (blk x0).2.2
  have hne : ¬ w.heap.size = w.heap.size + 1 := by omega
  have hne' : ¬ w.heap.size + 1 = w.heap.size := by omega
  go_region_held3 (fun w' => w'.cell? ⟨w.heap.size, 0, none⟩ = some (.pointer p)) (go_keep) (first
    | (have _t := bw1; go_at_call 70; refine (put_any t x p _ (by first | exact h'.below bw1 | exact (h'.below bw1).drew) (by omega)).mono ?_; rintro e w2 ⟨p2, rfl, hi2, hb2⟩; have bw2 := below_then bw1 hb2; have s2_0 := (bw2.cell (p := ⟨w.heap.size, 0, none⟩) Xl).trans cX; have y1 := blk_below x1 bw2; obtain ⟨c0, c1, c2⟩ := blk y1; have c0' := c0 0; have f0' := c1 0; clear c0 c1)
    | (go_at_call 71; refine (prio_b x _).mono ?_; rintro e w1 ⟨rfl, hb1⟩; have bw1 : Below W.heap.size W w1 := (by first | exact hb1 | exact below_of_drewN hb1 | exact below_of_drew hb1 | exact below_of_drewN (below_of_drew hb1) | exact below_of_drewN (below_of_drewN hb1) | exact below_of_drewN (below_of_drewN (below_of_drew hb1))); have s1_0 := (bw1.cell (p := ⟨w.heap.size, 0, none⟩) Xl).trans cX))
  go_wp2_with fail
  refine bodyPost_ret (v := .agg #[.pointer p2]) (by simp [results, Try.results29, go_sem, c0']) rfl ⟨_, rfl, hi2.keep (.setCell y1 (by decide)), (below_then bW bw2).setCell (p := ⟨w.heap.size + 1, 0, none⟩) (by simp) _⟩

set_option maxHeartbeats 800000 in
theorem drop_set (t : ST) (x : Int) (p : Option Addr) (w : World) (h : In w p t) (hs : t.size ≤ 1152921504606846976) :
    Calls Try.prog 24 #[.agg #[.pointer p], .int .i64 x] w fun e w' => ∃ q, e = .returned (.agg #[.pointer q]) ∧ In w' q (drop t x) ∧ Below w.heap.size w w' := by
  have hz := split_size t x
  have SPL := fun p W h => split_any t x p W h (by omega)
  have e : drop t x = joined (split t x).1 (split t x).2.2 := rfl
  rw [e]
  obtain ⟨sl, hsl⟩ : ∃ s, (split t x).1 = s := ⟨_, rfl⟩
  obtain ⟨sb, hsb⟩ : ∃ s, (split t x).2.1 = s := ⟨_, rfl⟩
  obtain ⟨sr, hsr⟩ : ∃ s, (split t x).2.2 = s := ⟨_, rfl⟩
  rw [hsl, hsr] at hz
  rw [hsl, hsb, hsr] at SPL
  rw [hsl, hsr]
  have SH := Lib.hid SPL
  clear hsl hsb hsr SPL e
  go_enter Try.func24, Try.ntmps24
  go_wp2_with fail
  refine (SH.out p _ ((h.alloc _).alloc _)).mono ?_
  rintro e w1 ⟨ql, qr, rfl, h1, h2, b1⟩
  obtain ⟨b1, x0, x1⟩ := hold2 b1 ⟨rfl, rfl, rfl, rfl⟩
  go_wp2_with fail
  refine (joined_any sl sr ql qr _ h1 h2 (by omega)).mono ?_
  rintro e w2 ⟨p2, rfl, hi2, b2⟩
  have y1 := blk_below x1 b2
  obtain ⟨c0, c1, c2⟩ := blk y1
  have c0' := c0 0
  have f0' := c1 0
  clear c0 c1
  go_wp2_with fail
  refine bodyPost_ret (v := .agg #[.pointer p2]) (by simp [results, Try.results24, go_sem, c0']) rfl ⟨_, rfl, hi2.keep (.setCell y1 (by decide)), (below_then b1 b2).setCell (p := ⟨w.heap.size + 1, 0, none⟩) (by simp) _⟩

set_option maxHeartbeats 800000 in
theorem has_set (t : ST) (x : Int) (p : Option Addr) (w : World) (h : In w p t) (hb : t.Bst) (hs : t.size ≤ 1152921504606846976) :
    Calls Try.prog 39 #[.agg #[.pointer p], .int .i64 x] w fun e w' => e = .returned (.bool (decide (x ∈ t.toL))) ∧ Below w.heap.size w w' := by
  rw [← has_split hb x]
  have SPL := fun p W h => split_any t x p W h (by omega)
  obtain ⟨sl, hsl⟩ : ∃ s, (split t x).1 = s := ⟨_, rfl⟩
  obtain ⟨sb, hsb⟩ : ∃ s, (split t x).2.1 = s := ⟨_, rfl⟩
  obtain ⟨sr, hsr⟩ : ∃ s, (split t x).2.2 = s := ⟨_, rfl⟩
  rw [hsl, hsb, hsr] at SPL
  rw [hsb]
  have SH := Lib.hid SPL
  clear hsl hsb hsr SPL
  go_enter Try.func39, Try.ntmps39
  go_wp2_with fail
  refine (SH.out p _ (h.alloc _)).mono ?_
  rintro e w1 ⟨ql, qr, rfl, h1, h2, b1⟩
  obtain ⟨b1, x0⟩ := hold1 b1 ⟨rfl, rfl, rfl, rfl⟩
  go_wp2_with fail
  go_ret
  exact ⟨rfl, b1⟩
end Go.Proofs.Ythokmfonedfmfaa.TRP
