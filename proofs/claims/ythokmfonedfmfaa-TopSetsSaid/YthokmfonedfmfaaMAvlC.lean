/-
  Trees of nearly even heights: the first number, and what is left. Conditions: sizes below 2^62.
  Trees of nearly even heights: what a number that is dropped makes in memory. Conditions: sizes below 2^62.
  Trees of nearly even heights: what a number that is put makes in memory. Conditions: sizes below 2^62.
  Avl: the set's functions, as plain trees. Conditions: sizes below 2^60.
-/
import Derived.Test.YthokmfonedfmfaaMAvlB
import Derived.Test.YthokmfonedfmfaaMAvlA
import Derived.Test.YthokmfonedfmfaaApp
import Derived.Test.YthokmfonedfmfaaSame
namespace Go.Proofs.Ythokmfonedfmfaa.AVL
open Go.RowKit Go.Deep
open Go.Proofs.Ythokmfonedfmfaa Go.Proofs.Ythokmfonedfmfaa.ST

set_option maxRecDepth 100000 in
set_option maxHeartbeats 800000 in
theorem first_any (t : ST) : t ≠ .nil → ∀ (p : Option Addr) (w : World), In w p t → t.size ≤ 2305843009213693952 →
    Calls Try.prog 96 #[.pointer p] w fun e w' => ∃ q, e = .returned (.tuple #[.int .i64 (first t).1, .pointer q]) ∧ In w' q (first t).2 ∧ Below w.heap.size w w' := by
  induction t with
  | nil => intro h; exact absurd rfl h
  | node c y l r ihl ihr =>
    intro _ p w h hs
    have hs' := hs
    simp only [size] at hs'
    obtain ⟨b, pl, pr, rfl, klt, k0, k1, k2, k3, k4, hl, hr⟩ := h.open
    cases l with
    | nil =>
      obtain rfl : pl = none := hl
      rw [show first (.node c y .nil r) = (y, r) from rfl]
      go_enter Try.func96, Try.ntmps96
      go_wp2_with fail
      go_quiet (fail)
      go_wp2_with fail
      go_ret2
      exact ⟨_, rfl, hr.drewN _, below_drewN (Below.refl _ _) _⟩
    | node c' z ll lr =>
      rw [show first (.node c y (.node c' z ll lr) r) = ((first (.node c' z ll lr)).1, even (first (.node c' z ll lr)).2 y r) from rfl]
      have hf := first_size (.node c' z ll lr) (by simp)
      have F := ihl (by simp) pl w hl (by simp only [size] at *; omega)
      obtain ⟨b', ql, qr, rfl, _⟩ := hl
      obtain ⟨x0, hx0⟩ : ∃ x0, x0 = (first (.node c' z ll lr)).1 := ⟨_, rfl⟩
      obtain ⟨t0, ht0⟩ : ∃ t0, t0 = (first (.node c' z ll lr)).2 := ⟨_, rfl⟩
      rw [← hx0, ← ht0] at F
      rw [← ht0] at hf
      show Calls Try.prog 96 #[.pointer (some ⟨b, 0, none⟩)] w fun e w' => ∃ q, e = .returned (.tuple #[.int .i64 (first (.node c' z ll lr)).1, .pointer q]) ∧ In w' q (even (first (.node c' z ll lr)).2 y r) ∧ Below w.heap.size w w'
      rw [← hx0, ← ht0]
      have hsz : t0.size + r.size ≤ 2305843009213693952 := by omega
      have FF := Lib.hid F
      clear hx0 ht0 hf F hs' hs ihl ihr
      go_enter Try.func96, Try.ntmps96
      go_wp2_with fail
      refine (FF.out).mono ?_
      rintro e w1 ⟨p1, rfl, hi1, bw1⟩
      have s0 := (bw1.cell (p := ⟨b, 0, none⟩) klt).trans k0
      have s4 := (bw1.cell (p := ⟨b, 4, none⟩) klt).trans k4
      have klt1 := Nat.lt_of_lt_of_le klt bw1.size
      have hr1 := hr.below bw1
      go_wp2_with fail
      go_region_held3 (fun w' => w'.cell? ⟨b, 0, none⟩ = some (.int .i64 y) ∧ w'.cell? ⟨b, 4, none⟩ = some (.pointer pr)) (go_keep) (first
        | (go_at_call 95; refine (even_any t0 r y p1 pr _ (by first | exact hi1 | exact hi1.drew | exact hi1.drewN _ | exact (hi1.drewN _).drew | exact (hi1.drewN _).drewN _ | exact ((hi1.drewN _).drewN _).drew) (by first | exact hr1 | exact hr1.drew | exact hr1.drewN _ | exact (hr1.drewN _).drew | exact (hr1.drewN _).drewN _ | exact ((hr1.drewN _).drewN _).drew) (by omega)).mono ?_; rintro e w2 ⟨p2, rfl, hi2, hb1⟩; have bv1 : Below w1.heap.size w1 w2 := (by first | exact hb1 | exact below_of_drewN hb1 | exact below_of_drew hb1 | exact below_of_drewN (below_of_drew hb1) | exact below_of_drewN (below_of_drewN hb1) | exact below_of_drewN (below_of_drewN (below_of_drew hb1))); have s1_0 := (bv1.cell (p := ⟨b, 0, none⟩) klt1).trans s0; have s1_1 := (bv1.cell (p := ⟨b, 4, none⟩) klt1).trans s4))
      go_wp2_with fail
      go_ret2
      exact ⟨_, rfl, hi2, below_then bw1 bv1⟩
end Go.Proofs.Ythokmfonedfmfaa.AVL

namespace Go.Proofs.Ythokmfonedfmfaa.AVL
open Go.RowKit Go.Deep
open Go.Proofs.Ythokmfonedfmfaa Go.Proofs.Ythokmfonedfmfaa.ST

set_option maxRecDepth 100000 in
set_option maxHeartbeats 800000 in
theorem drop_any (t : ST) (x : Int) : ∀ (p : Option Addr) (w : World), In w p t → t.size ≤ 2305843009213693952 →
    Calls Try.prog 56 #[.pointer p, .int .i64 x] w fun e w' => ∃ q, e = .returned (.pointer q) ∧ In w' q (drop t x) ∧ Below w.heap.size w w' := by
  induction t with
  | nil =>
    intro p w h hs
    obtain rfl : p = none := h
    go_enter Try.func56, Try.ntmps56
    go_wp2_with fail
    go_ret
    exact ⟨none, rfl, rfl, Below.refl _ _⟩
  | node c y l r ihl ihr =>
    intro p w h hs
    have hs' := hs
    simp only [size] at hs'
    obtain ⟨b, pl, pr, rfl, klt, k0, k1, k2, k3, k4, hl, hr⟩ := h.open
    by_cases hx : x < y
    · have e : drop (.node c y l r) x = even (drop l x) y r := by simp only [drop]; rw [if_pos hx]
      rw [e]
      clear e
      have d1 : decide (x < y) = true := by simp [hx]
      go_enter Try.func56, Try.ntmps56
      go_wp2_with fail
      go_region_held3 (fun w' => w'.cell? ⟨b, 3, none⟩ = some (.pointer pl) ∧ w'.cell? ⟨b, 0, none⟩ = some (.int .i64 y) ∧ w'.cell? ⟨b, 4, none⟩ = some (.pointer pr)) (go_keep) (first
        | (have _t := bw1; go_at_call 95; refine (even_any (drop l x) r y p1 pr _ (by first | exact hi1 | exact hi1.drew) (by first | exact hr.below bw1 | exact (hr.below bw1).drew) (by have := drop_size l x; omega)).mono ?_; rintro e w2 ⟨p2, rfl, hi2, hb2⟩; have bw2 := below_then bw1 hb2; have s2_0 := (bw2.cell (p := ⟨b, 3, none⟩) klt).trans k3; have s2_1 := (bw2.cell (p := ⟨b, 0, none⟩) klt).trans k0; have s2_2 := (bw2.cell (p := ⟨b, 4, none⟩) klt).trans k4)
        | (go_at_call 56; refine (ihl pl _ (by first | exact hl | exact hl.drew | exact hl.drewN _ | exact (hl.drewN _).drew | exact (hl.drewN _).drewN _ | exact ((hl.drewN _).drewN _).drew) (by omega)).mono ?_; rintro e w1 ⟨p1, rfl, hi1, hb1⟩; have bw1 : Below w.heap.size w w1 := (by first | exact hb1 | exact below_of_drewN hb1 | exact below_of_drew hb1 | exact below_of_drewN (below_of_drew hb1) | exact below_of_drewN (below_of_drewN hb1) | exact below_of_drewN (below_of_drewN (below_of_drew hb1))); have s1_0 := (bw1.cell (p := ⟨b, 3, none⟩) klt).trans k3; have s1_1 := (bw1.cell (p := ⟨b, 0, none⟩) klt).trans k0; have s1_2 := (bw1.cell (p := ⟨b, 4, none⟩) klt).trans k4))
      go_wp2_with fail
      go_ret
      exact ⟨_, rfl, hi2, bw2⟩
    by_cases hx : y < x
    · have e : drop (.node c y l r) x = even l y (drop r x) := by simp only [drop]; rw [if_neg (by omega), if_pos hx]
      rw [e]
      clear e
      have d1 : decide (x < y) = false := by simp; omega
      have d2 : decide (y < x) = true := by simp [hx]
      have d3 : ¬ x < y := by omega
      go_enter Try.func56, Try.ntmps56
      go_wp2_with fail
      go_region_held3 (fun w' => w'.cell? ⟨b, 3, none⟩ = some (.pointer pl) ∧ w'.cell? ⟨b, 0, none⟩ = some (.int .i64 y) ∧ w'.cell? ⟨b, 4, none⟩ = some (.pointer pr)) (go_keep) (first
        | (have _t := bw1; go_at_call 95; refine (even_any l (drop r x) y pl p1 _ (by first | exact hl.below bw1 | exact (hl.below bw1).drew) (by first | exact hi1 | exact hi1.drew) (by have := drop_size r x; omega)).mono ?_; rintro e w2 ⟨p2, rfl, hi2, hb2⟩; have bw2 := below_then bw1 hb2; have s2_0 := (bw2.cell (p := ⟨b, 3, none⟩) klt).trans k3; have s2_1 := (bw2.cell (p := ⟨b, 0, none⟩) klt).trans k0; have s2_2 := (bw2.cell (p := ⟨b, 4, none⟩) klt).trans k4)
        | (go_at_call 56; refine (ihr pr _ (by first | exact hr | exact hr.drew | exact hr.drewN _ | exact (hr.drewN _).drew | exact (hr.drewN _).drewN _ | exact ((hr.drewN _).drewN _).drew) (by omega)).mono ?_; rintro e w1 ⟨p1, rfl, hi1, hb1⟩; have bw1 : Below w.heap.size w w1 := (by first | exact hb1 | exact below_of_drewN hb1 | exact below_of_drew hb1 | exact below_of_drewN (below_of_drew hb1) | exact below_of_drewN (below_of_drewN hb1) | exact below_of_drewN (below_of_drewN (below_of_drew hb1))); have s1_0 := (bw1.cell (p := ⟨b, 3, none⟩) klt).trans k3; have s1_1 := (bw1.cell (p := ⟨b, 0, none⟩) klt).trans k0; have s1_2 := (bw1.cell (p := ⟨b, 4, none⟩) klt).trans k4))
      go_wp2_with fail
      go_ret
      exact ⟨_, rfl, hi2, bw2⟩
    · have hxy : y = x := by omega
      subst hxy
      have d1 : decide (y < y) = false := by simp
      have d3 : ¬ y < y := by omega
      cases r with
      | nil =>
        have e : drop (.node c y l .nil) y = l := by simp only [drop]; rw [if_neg (by omega), if_neg (by omega)]
        rw [e]
        clear e
        obtain rfl : pr = none := hr
        go_enter Try.func56, Try.ntmps56
        go_wp2_with fail
        go_ret
        exact ⟨_, rfl, hl, Below.refl _ _⟩
      | node c' z rl rr =>
        have e : drop (.node c y l (.node c' z rl rr)) y = even l (first (.node c' z rl rr)).1 (first (.node c' z rl rr)).2 := by simp only [drop]; rw [if_neg (by omega), if_neg (by omega)]
        rw [e]
        clear e
        have hf := first_size (.node c' z rl rr) (by simp)
        have F := first_any (.node c' z rl rr) (by simp) pr w hr (by omega)
        obtain ⟨b', ql, qr, rfl, _⟩ := hr
        have HF := Lib.hid hf
        have FF := Lib.hid F
        have HS := Lib.hid hs'
        clear hf F hs'
        go_enter Try.func56, Try.ntmps56
        go_wp2_with fail
        refine (FF.out).mono ?_
        rintro e w1 ⟨p1, rfl, hi1, bw1⟩
        have s3 := (bw1.cell (p := ⟨b, 3, none⟩) klt).trans k3
        go_wp2_with fail
        refine (even_any l _ _ pl p1 _ (hl.below bw1) hi1 (by have := HF.out; have := HS.out; omega)).mono ?_
        rintro e w2 ⟨p2, rfl, hi2, hb2⟩
        have bw2 := below_then bw1 hb2
        go_wp2_with fail
        go_ret
        exact ⟨_, rfl, hi2, bw2⟩
end Go.Proofs.Ythokmfonedfmfaa.AVL

namespace Go.Proofs.Ythokmfonedfmfaa.AVL
open Go.RowKit Go.Deep
open Go.Proofs.Ythokmfonedfmfaa Go.Proofs.Ythokmfonedfmfaa.ST

set_option maxRecDepth 100000 in
set_option maxHeartbeats 800000 in
theorem put_any (t : ST) (x : Int) : ∀ (p : Option Addr) (w : World), In w p t → t.size ≤ 2305843009213693952 →
    Calls Try.prog 67 #[.pointer p, .int .i64 x] w fun e w' => ∃ q, e = .returned (.pointer q) ∧ In w' q (put t x) ∧ Below w.heap.size w w' := by
  induction t with
  | nil =>
    intro p w h hs
    obtain rfl : p = none := h
    go_enter Try.func67, Try.ntmps67
    go_wp2_with fail
    refine (made_any .nil .nil x none none _ rfl rfl (by decide)).mono ?_
    rintro e w1 ⟨p1, rfl, hi1, bw1⟩
    go_wp2_with fail
    go_ret
    exact ⟨_, rfl, hi1, bw1⟩
  | node c y l r ihl ihr =>
    intro p w h hs
    have hs' := hs
    simp only [size] at hs'
    obtain ⟨b, pl, pr, rfl, klt, k0, k1, k2, k3, k4, hl, hr⟩ := h.open
    by_cases hx : x < y
    · have e : put (.node c y l r) x = even (put l x) y r := by simp only [put]; rw [if_pos hx]
      rw [e]
      clear e
      have d1 : decide (x < y) = true := by simp [hx]
      go_enter Try.func67, Try.ntmps67
      go_wp2_with fail
      go_region_held3 (fun w' => w'.cell? ⟨b, 3, none⟩ = some (.pointer pl) ∧ w'.cell? ⟨b, 0, none⟩ = some (.int .i64 y) ∧ w'.cell? ⟨b, 4, none⟩ = some (.pointer pr)) (go_keep) (first
        | (have _t := bw1; go_at_call 95; refine (even_any (put l x) r y p1 pr _ (by first | exact hi1 | exact hi1.drew) (by first | exact hr.below bw1 | exact (hr.below bw1).drew) (by have := put_size l x; omega)).mono ?_; rintro e w2 ⟨p2, rfl, hi2, hb2⟩; have bw2 := below_then bw1 hb2; have s2_0 := (bw2.cell (p := ⟨b, 3, none⟩) klt).trans k3; have s2_1 := (bw2.cell (p := ⟨b, 0, none⟩) klt).trans k0; have s2_2 := (bw2.cell (p := ⟨b, 4, none⟩) klt).trans k4)
        | (go_at_call 67; refine (ihl pl _ (by first | exact hl | exact hl.drew | exact hl.drewN _ | exact (hl.drewN _).drew | exact (hl.drewN _).drewN _ | exact ((hl.drewN _).drewN _).drew) (by omega)).mono ?_; rintro e w1 ⟨p1, rfl, hi1, hb1⟩; have bw1 : Below w.heap.size w w1 := (by first | exact hb1 | exact below_of_drewN hb1 | exact below_of_drew hb1 | exact below_of_drewN (below_of_drew hb1) | exact below_of_drewN (below_of_drewN hb1) | exact below_of_drewN (below_of_drewN (below_of_drew hb1))); have s1_0 := (bw1.cell (p := ⟨b, 3, none⟩) klt).trans k3; have s1_1 := (bw1.cell (p := ⟨b, 0, none⟩) klt).trans k0; have s1_2 := (bw1.cell (p := ⟨b, 4, none⟩) klt).trans k4))
      go_wp2_with fail
      go_ret
      exact ⟨_, rfl, hi2, bw2⟩
    by_cases hx : y < x
    · have e : put (.node c y l r) x = even l y (put r x) := by simp only [put]; rw [if_neg (by omega), if_pos hx]
      rw [e]
      clear e
      have d1 : decide (x < y) = false := by simp; omega
      have d2 : decide (y < x) = true := by simp [hx]
      have d3 : ¬ x < y := by omega
      go_enter Try.func67, Try.ntmps67
      go_wp2_with fail
      go_region_held3 (fun w' => w'.cell? ⟨b, 3, none⟩ = some (.pointer pl) ∧ w'.cell? ⟨b, 0, none⟩ = some (.int .i64 y) ∧ w'.cell? ⟨b, 4, none⟩ = some (.pointer pr)) (go_keep) (first
        | (have _t := bw1; go_at_call 95; refine (even_any l (put r x) y pl p1 _ (by first | exact hl.below bw1 | exact (hl.below bw1).drew) (by first | exact hi1 | exact hi1.drew) (by have := put_size r x; omega)).mono ?_; rintro e w2 ⟨p2, rfl, hi2, hb2⟩; have bw2 := below_then bw1 hb2; have s2_0 := (bw2.cell (p := ⟨b, 3, none⟩) klt).trans k3; have s2_1 := (bw2.cell (p := ⟨b, 0, none⟩) klt).trans k0; have s2_2 := (bw2.cell (p := ⟨b, 4, none⟩) klt).trans k4)
        | (go_at_call 67; refine (ihr pr _ (by first | exact hr | exact hr.drew | exact hr.drewN _ | exact (hr.drewN _).drew | exact (hr.drewN _).drewN _ | exact ((hr.drewN _).drewN _).drew) (by omega)).mono ?_; rintro e w1 ⟨p1, rfl, hi1, hb1⟩; have bw1 : Below w.heap.size w w1 := (by first | exact hb1 | exact below_of_drewN hb1 | exact below_of_drew hb1 | exact below_of_drewN (below_of_drew hb1) | exact below_of_drewN (below_of_drewN hb1) | exact below_of_drewN (below_of_drewN (below_of_drew hb1))); have s1_0 := (bw1.cell (p := ⟨b, 3, none⟩) klt).trans k3; have s1_1 := (bw1.cell (p := ⟨b, 0, none⟩) klt).trans k0; have s1_2 := (bw1.cell (p := ⟨b, 4, none⟩) klt).trans k4))
      go_wp2_with fail
      go_ret
      exact ⟨_, rfl, hi2, bw2⟩
    · have hxy : y = x := by omega
      subst hxy
      have d1 : decide (y < y) = false := by simp
      have d3 : ¬ y < y := by omega
      have e : put (.node c y l r) y = .node c y l r := by simp only [put]; rw [if_neg (by omega), if_neg (by omega)]
      rw [e]
      clear e
      go_enter Try.func67, Try.ntmps67
      go_wp2_with fail
      go_ret
      exact ⟨_, rfl, h, Below.refl _ _⟩
end Go.Proofs.Ythokmfonedfmfaa.AVL

namespace Go.Proofs.Ythokmfonedfmfaa.AVL
open Go.RowKit Go.Deep
open Go.Proofs.Ythokmfonedfmfaa Go.Proofs.Ythokmfonedfmfaa.ST

set_option maxHeartbeats 400000 in
theorem put_set (t : ST) (x : Int) (p : Option Addr) (w : World) (h : In w p t) (hs : t.size ≤ 1152921504606846976) :
    Calls Try.prog 26 #[.agg #[.pointer p], .int .i64 x] w fun e w' => ∃ q, e = .returned (.agg #[.pointer q]) ∧ In w' q (put t x) ∧ Below w.heap.size w w' := by
  go_enter Try.func26, Try.ntmps26
  go_wp2_with fail
  refine (put_any t x p _ ((h.alloc _).alloc _) (by omega)).mono ?_
  rintro e w1 ⟨p1, rfl, hi1, hb1⟩
  obtain ⟨hb1, x0, x1⟩ := hold2 hb1 ⟨rfl, rfl, rfl, rfl⟩
  obtain ⟨c0, c1, c2⟩ := blk x1
  go_wp2_with fail
  refine bodyPost_ret (v := .agg #[.pointer p1]) (by simp [results, Try.results26, go_sem, c0]) rfl ⟨p1, rfl, hi1.keep (.setCell x1 (by decide)), hb1.setCell (p := ⟨w.heap.size + 1, 0, none⟩) (by simp) _⟩

set_option maxHeartbeats 400000 in
theorem drop_set (t : ST) (x : Int) (p : Option Addr) (w : World) (h : In w p t) (hs : t.size ≤ 1152921504606846976) :
    Calls Try.prog 21 #[.agg #[.pointer p], .int .i64 x] w fun e w' => ∃ q, e = .returned (.agg #[.pointer q]) ∧ In w' q (drop t x) ∧ Below w.heap.size w w' := by
  go_enter Try.func21, Try.ntmps21
  go_wp2_with fail
  refine (drop_any t x p _ ((h.alloc _).alloc _) (by omega)).mono ?_
  rintro e w1 ⟨p1, rfl, hi1, hb1⟩
  obtain ⟨hb1, x0, x1⟩ := hold2 hb1 ⟨rfl, rfl, rfl, rfl⟩
  obtain ⟨c0, c1, c2⟩ := blk x1
  go_wp2_with fail
  refine bodyPost_ret (v := .agg #[.pointer p1]) (by simp [results, Try.results21, go_sem, c0]) rfl ⟨p1, rfl, hi1.keep (.setCell x1 (by decide)), hb1.setCell (p := ⟨w.heap.size + 1, 0, none⟩) (by simp) _⟩

set_option maxHeartbeats 1000000 in
theorem has_set (t : ST) (x : Int) (p : Option Addr) (w : World) (h : In w p t) (hb : t.Bst) :
    Calls Try.prog 36 #[.agg #[.pointer p], .int .i64 x] w fun e w' => e = .returned (.bool (decide (x ∈ t.toL))) ∧ Below w.heap.size w w' := by
  have B0 := Lib.hid hb
  clear hb
  go_enter Try.func36, Try.ntmps36
  go_wp2_with fail
  go_loopg [5] t.size (fun m v wr => ∃ (s : ST) (q : Option Addr), s.size ≤ m ∧ v = .pointer q ∧ In wr q s ∧ s.Bst ∧ (x ∈ t.toL ↔ x ∈ s.toL) ∧ wr = w.alloc (.cells #[.pointer p] 53))
  case atStart =>
    exact ⟨t, p, Nat.le_refl _, rfl, h.alloc _, B0.out, Iff.rfl, rfl⟩
  case round =>
    obtain ⟨s, q, hm, rfl, hi, hbst, hmem, rfl⟩ := hrel
    have HB := Lib.hid hbst
    have HM := Lib.hid hmem
    clear hbst hmem
    cases s with
    | nil =>
      obtain rfl : q = none := hi
      have hno : decide (x ∈ t.toL) = false := by rw [decide_eq_false_iff_not, HM.out]; simp [toL]
      have HN := Lib.hid hno
      clear hno
      go_wp2_with fail
      go_ret
      exact ⟨by rw [HN.out]; rfl, (Below.refl _ _).alloc (Nat.le_refl _) _⟩
    | node c y l r =>
      obtain ⟨b, pl, pr, rfl, klt, k0, k1, k2, k3, k4, hl, hr⟩ := hi.open
      simp only [size] at hm
      obtain ⟨b1, b2, b3, b4⟩ := bst_node.1 HB.out
      have Q1 := Lib.hid b1
      have Q2 := Lib.hid b2
      by_cases hxy : y = x
      · have hyes : decide (x ∈ t.toL) = true := by rw [decide_eq_true_iff, HM.out, mem_node]; exact .inr (.inl hxy.symm)
        have HN := Lib.hid hyes
        have hd : (y != x) = false := by simp [hxy]
        have HX := Lib.hid hxy
        clear hyes hxy b1 b2 b3 b4
        go_wp2_with fail
        go_ret
        exact ⟨by rw [HN.out]; rfl, (Below.refl _ _).alloc (Nat.le_refl _) _⟩
      · have hd : (y != x) = true := by simp [hxy]
        by_cases hlt : x < y
        · have hd2 : decide (x < y) = true := by simp [hlt]
          have e1 : x ∈ t.toL ↔ x ∈ l.toL := by
            rw [HM.out, mem_node]
            constructor
            · rintro (k | k | k)
              · exact k
              · exact absurd k.symm hxy
              · have := b4 x k; omega
            · exact .inl
          have E1 := Lib.hid e1
          clear e1 b1 b2 b3 b4 hxy
          go_wp2_with fail
          go_roundg l.size
          case measure => omega
          case rel => exact ⟨l, pl, Nat.le_refl _, rfl, hl, Q1.out, E1.out, rfl⟩
        · have hd2 : decide (x < y) = false := by simp [hlt]
          have e1 : x ∈ t.toL ↔ x ∈ r.toL := by
            rw [HM.out, mem_node]
            constructor
            · rintro (k | k | k)
              · have := b3 x k; omega
              · exact absurd k.symm hxy
              · exact k
            · exact fun k => .inr (.inr k)
          have E1 := Lib.hid e1
          clear e1 b1 b2 b3 b4 hxy
          go_wp2_with fail
          go_roundg r.size
          case measure => omega
          case rel => exact ⟨r, pr, Nat.le_refl _, rfl, hr, Q2.out, E1.out, rfl⟩

end Go.Proofs.Ythokmfonedfmfaa.AVL
