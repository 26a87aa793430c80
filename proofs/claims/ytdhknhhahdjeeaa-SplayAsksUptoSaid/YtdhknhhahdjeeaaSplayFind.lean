/-
  Splay: who is asked is on top. Conditions: sizes below 2^62.
-/
import Derived.Test.YtdhknhhahdjeeaaSplayPut
namespace Go.Proofs.Ytdhknhhahdjeeaa.SPL
open Go.RowKit Go.Deep
open Go.Proofs.Ytdhknhhahdjeeaa Go.Proofs.Ytdhknhhahdjeeaa.ST

set_option maxHeartbeats 800000 in
theorem find_set (t : ST) (x : Int) (p : Option Addr) (w : World) (h : In w p t) (hs : t.size ≤ 1152921504606846976) :
    Calls Try.prog 19 #[.agg #[.pointer p], .int .i64 x] w fun e w' => ∃ q, e = .returned (.tuple #[.agg #[.pointer q], .bool (isTop (up t x) x)]) ∧ In w' q (up t x) ∧ Below w.heap.size w w' := by
  have UP := up_any t x
  cases hu : up t x with
  | nil =>
    rw [hu] at UP
    clear hu
    rw [show isTop .nil x = false from rfl]
    go_enter Try.func19, Try.ntmps19
    go_wp2_with fail
    refine (UP p _ ((h.alloc _).alloc _) (by omega)).mono ?_
    rintro e w1 ⟨p1, rfl, hi1, hb1⟩
    obtain ⟨hb1, x0, x1⟩ := hold2 hb1 ⟨rfl, rfl, rfl, rfl⟩
    obtain rfl : p1 = none := hi1
    have y1 := x1
    obtain ⟨c0, c1, c2⟩ := blk y1
    have c0' := c0 0
    have f0' := c1 0
    clear c0 c1
    go_wp2_with fail
    go_region
    all_goals
      go_wp2_with fail
      refine bodyPost_ret (v := .tuple #[.agg #[.pointer none], .bool false]) (by simp [results, Try.results19, go_sem, c0']) rfl ⟨_, rfl, rfl, (by first | exact hb1.setCell (p := ⟨w.heap.size + 1, 0, none⟩) (by simp) _ | exact (below_then hb1 (Below.refl _ _).drew).setCell (p := ⟨w.heap.size + 1, 0, none⟩) (by simp) _)⟩
  | node c y l r =>
    rw [hu] at UP
    clear hu
    by_cases hx : y = x
    · subst hx
      rw [show isTop (.node c y l r) y = true by simp [isTop]]
      go_enter Try.func19, Try.ntmps19
      go_wp2_with fail
      refine (UP p _ ((h.alloc _).alloc _) (by omega)).mono ?_
      rintro e w1 ⟨p1, rfl, hi1, hb1⟩
      obtain ⟨hb1, x0, x1⟩ := hold2 hb1 ⟨rfl, rfl, rfl, rfl⟩
      have hi1o := hi1
      obtain ⟨b, pl, pr, rfl, klt, k0, k1, k2, k3, hl, hr⟩ := hi1o.open
      have hnb := hi1.ne x1 (by decide)
      have hnb' : ¬ w.heap.size + 1 = b := fun e => hnb e.symm
      have y1 := x1
      obtain ⟨c0, c1, c2⟩ := blk y1
      have c0' := c0 0
      have f0' := c1 0
      clear c0 c1
      have d1 : (y == y) = true := by simp
      go_wp2_with fail
      go_region
      all_goals
        go_wp2_with fail
        refine bodyPost_ret (v := .tuple #[.agg #[.pointer (some ⟨b, 0, none⟩)], .bool true]) (by simp [results, Try.results19, go_sem, c0']) rfl ⟨_, rfl, (by first | exact hi1.keep (.setCell y1 (by decide)) | exact (hi1.drew).keep (.setCell (w := w1.drew) y1 (by decide)) | exact (hi1.keep (.setCell y1 (by decide))).drew), (by first | exact hb1.setCell (p := ⟨w.heap.size + 1, 0, none⟩) (by simp) _ | exact (below_then hb1 (Below.refl _ _).drew).setCell (p := ⟨w.heap.size + 1, 0, none⟩) (by simp) _)⟩
    · rw [show isTop (.node c y l r) x = false by simp [isTop, hx]]
      have d1 : (y == x) = false := by simp [hx]
      go_enter Try.func19, Try.ntmps19
      go_wp2_with fail
      refine (UP p _ ((h.alloc _).alloc _) (by omega)).mono ?_
      rintro e w1 ⟨p1, rfl, hi1, hb1⟩
      obtain ⟨hb1, x0, x1⟩ := hold2 hb1 ⟨rfl, rfl, rfl, rfl⟩
      have hi1o := hi1
      obtain ⟨b, pl, pr, rfl, klt, k0, k1, k2, k3, hl, hr⟩ := hi1o.open
      have hnb := hi1.ne x1 (by decide)
      have hnb' : ¬ w.heap.size + 1 = b := fun e => hnb e.symm
      have y1 := x1
      obtain ⟨c0, c1, c2⟩ := blk y1
      have c0' := c0 0
      have f0' := c1 0
      clear c0 c1
      go_wp2_with fail
      go_region
      all_goals
        go_wp2_with fail
        refine bodyPost_ret (v := .tuple #[.agg #[.pointer (some ⟨b, 0, none⟩)], .bool false]) (by simp [results, Try.results19, go_sem, c0']) rfl ⟨_, rfl, (by first | exact hi1.keep (.setCell y1 (by decide)) | exact (hi1.drew).keep (.setCell (w := w1.drew) y1 (by decide)) | exact (hi1.keep (.setCell y1 (by decide))).drew), (by first | exact hb1.setCell (p := ⟨w.heap.size + 1, 0, none⟩) (by simp) _ | exact (below_then hb1 (Below.refl _ _).drew).setCell (p := ⟨w.heap.size + 1, 0, none⟩) (by simp) _)⟩

set_option maxHeartbeats 800000 in
theorem has_set (t : ST) (x : Int) (p : Option Addr) (w : World) (h : In w p t) (hb : t.Bst) (hs : t.size ≤ 1152921504606846976) :
    Calls Try.prog 16 #[.agg #[.pointer p], .int .i64 x] w fun e w' => e = .returned (.bool (decide (x ∈ t.toL))) ∧ Below w.heap.size w w' := by
  rw [← up_has hb x]
  have FS := find_set t x
  obtain ⟨bb, hbb⟩ : ∃ bb, isTop (up t x) x = bb := ⟨_, rfl⟩
  rw [hbb] at FS ⊢
  clear hbb
  go_enter Try.func16, Try.ntmps16
  go_wp2_with fail
  refine (FS p _ (h.alloc _) hs).mono ?_
  rintro e w1 ⟨p1, rfl, hi1, hb1⟩
  obtain ⟨hb1, x0⟩ := hold1 hb1 ⟨rfl, rfl, rfl, rfl⟩
  go_wp2_with fail
  go_ret
  exact ⟨rfl, hb1.alloc hb1.size _⟩
end Go.Proofs.Ytdhknhhahdjeeaa.SPL
