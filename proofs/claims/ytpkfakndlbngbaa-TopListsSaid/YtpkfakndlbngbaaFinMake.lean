/-
  Finger trees: a number as a thing; three things as one; the measure of a level; a level of one thing; a deep level. Conditions: at most 2^44 numbers.
-/
import Derived.Test.YtpkfakndlbngbaaFinMeas
namespace Go.Proofs.Ytpkfakndlbngbaa
open Go.RowKit Go.Deep
open Go.Proofs.Ytpkfakndlbngbaa.MN
set_option linter.unusedVariables false
namespace FG

theorem number_any (x : Int) (w : World) :
    Calls Try.prog 41 #[.int .i64 x] w fun e w' => ∃ p, e = .returned (.pointer p) ∧ InT w' p (.leaf x) ∧ Below w.heap.size w w' := by
  go_enter Try.func41, Try.ntmps41
  go_wp2_with fail
  refine (one_any x _).mono ?_
  rintro e w1 ⟨rfl, hb⟩
  go_wp2_with fail
  go_ret
  exact ⟨_, rfl, ⟨w1.heap.size, one x, rfl, rfl, heap_alloc_new _ _⟩, hb.alloc hb.size _⟩
theorem group_any (a : Option Addr) (c : Nat) (t u v : Th) (w : World) (h : Dg w a 3 c [t, u, v]) (hs : (Th.node t u v).size ≤ 17592186044416) :
    Calls Try.prog 56 #[.slice a 3 c] w fun e w' => ∃ p, e = .returned (.pointer p) ∧ InT w' p (.node t u v) ∧ Below w.heap.size w w' := by
  have hn : tsN [t, u, v] = (Th.node t u v).size := by simp [tsN, Th.size]
  have HD := Lib.hid h
  have HN := Lib.hid hn
  clear hn h
  go_enter Try.func56, Try.ntmps56
  go_wp2_with fail
  refine (measured_any a 3 c [t, u, v] _ HD.out (by rw [HN.out]; exact hs)).mono ?_
  rintro e w1 ⟨m, hm, rfl, hb⟩
  rw [HN.out] at hm
  have HM := Lib.hid hm
  clear hm
  go_wp2_with fail
  go_ret
  obtain ⟨ps, hp, hl⟩ := (HD.out.below hb).below ((Below.refl _ _).alloc (Nat.le_refl _) (.cells #[.int .i64 m.n, .int .i64 m.s, .int .i64 m.lo, .int .i64 m.hi, .int .i64 m.h, .int .i64 0, .slice a 3 c] 92))
  match ps, hl, hp with
  | [pt, pu, pv], hl, hp => exact ⟨_, rfl, ⟨w1.heap.size, m, pt, pu, pv, a, c, rfl, HM.out, heap_alloc_new _ _, hp, hl.1, hl.2.1, hl.2.2.1⟩, hb.alloc hb.size _⟩
theorem InV.cells {w : World} {v : Lv} {p : Option Addr} (h : InV w p v) (hv : v ≠ .nil) : ∃ (b : Nat) (m : Ms), p = some ⟨b, 0, none⟩ ∧ m.n = (v.size : Int) ∧ b < w.heap.size ∧
    w.cell? ⟨b, 0, none⟩ = some (.int .i64 m.n) ∧ w.cell? ⟨b, 1, none⟩ = some (.int .i64 m.s) ∧ w.cell? ⟨b, 2, none⟩ = some (.int .i64 m.lo) ∧ w.cell? ⟨b, 3, none⟩ = some (.int .i64 m.hi) ∧ w.cell? ⟨b, 4, none⟩ = some (.int .i64 m.h) := by
  cases v with
  | nil => exact absurd rfl hv
  | one t =>
    obtain ⟨b, m, q, a, c, e, hn, hb, _⟩ := h
    obtain ⟨c1, _, c3⟩ := blk hb
    exact ⟨b, m, e, hn, c3, c1 0, c1 1, c1 2, c1 3, c1 4⟩
  | deep l u r =>
    obtain ⟨b, m, a, a', q, n, c, n', c', e, hn, hb, _⟩ := h
    obtain ⟨c1, _, c3⟩ := blk hb
    exact ⟨b, m, e, hn, c3, c1 0, c1 1, c1 2, c1 3, c1 4⟩
theorem measure_any (p : Option Addr) (v : Lv) (w : World) (h : InV w p v) :
    Calls Try.prog 49 #[.pointer p] w fun e w' => ∃ m : Ms, m.n = (v.size : Int) ∧ e = .returned m.val ∧ Below w.heap.size w w' := by
  by_cases hv : v = .nil
  · subst hv
    obtain rfl : p = none := h
    go_enter Try.func49, Try.ntmps49
    go_wp2_with fail
    refine (none_any _).mono ?_
    rintro e w1 ⟨rfl, hb⟩
    obtain ⟨hb, y0⟩ := hold1 hb ⟨rfl, rfl, rfl, rfl⟩
    obtain ⟨c0, c1, c2⟩ := blk y0
    have p0 := c0 0
    have p1 := c0 1
    have p2 := c0 2
    have p3 := c0 3
    have p4 := c0 4
    have f0 := c1 0
    clear c0 y0
    go_wp2_with fail
    refine bodyPost_ret (v := zero.val) (by simp [results, Try.results49, go_sem, zero, p0, p1, p2, p3, p4]) rfl ⟨zero, rfl, rfl, ?_⟩
    exact (((((hb).setCell (p := ⟨w.heap.size, 0, none⟩) (Nat.le_refl _) _).setCell (p := ⟨w.heap.size, 1, none⟩) (Nat.le_refl _) _).setCell (p := ⟨w.heap.size, 2, none⟩) (Nat.le_refl _) _).setCell (p := ⟨w.heap.size, 3, none⟩) (Nat.le_refl _) _).setCell (p := ⟨w.heap.size, 4, none⟩) (Nat.le_refl _) _
  · obtain ⟨b, m, rfl, hn, hlt, r0, r1, r2, r3, r4⟩ := h.cells hv
    have HN := Lib.hid hn
    clear hn h hv
    go_enter Try.func49, Try.ntmps49
    go_wp2_with fail
    refine bodyPost_ret (v := m.val) (by simp [results, Try.results49, go_sem]) rfl ⟨m, HN.out, rfl, ?_⟩
    exact (Below.refl _ _).alloc (Nat.le_refl _) _
theorem alone_any (p : Option Addr) (t : Th) (w : World) (h : InT w p t) :
    Calls Try.prog 53 #[.pointer p] w fun e w' => ∃ q, e = .returned (.pointer q) ∧ InV w' q (.one t) ∧ Below w.heap.size w w' := by
  obtain ⟨b, m, rfl, hn, hlt, r0, r1, r2, r3, r4⟩ := h.cells
  have HN := Lib.hid hn
  have HH := Lib.hid h
  clear hn h
  go_enter Try.func53, Try.ntmps53
  go_wp2_with fail
  go_ret
  obtain ⟨ps, hp, hl⟩ := Dg.one HH.out
  have b1 : Below w.heap.size w (w.alloc (.cells #[.pointer (some ⟨b, 0, none⟩)] 84)) := (Below.refl _ _).alloc (Nat.le_refl _) _
  match ps, hl, hp with
  | [q], hl, hp => exact ⟨_, rfl, ⟨_, m, q, _, _, rfl, HN.out, (by have := heap_alloc_new (w.alloc (.cells #[.pointer (some ⟨b, 0, none⟩)] 84)) (.cells #[.int .i64 m.n, .int .i64 m.s, .int .i64 m.lo, .int .i64 m.hi, .int .i64 m.h, .slice (some ⟨w.heap.size, 0, none⟩) 1 1, .slice none 0 0, .pointer none] 95); rwa [World.size_alloc] at this), hp.below ((Below.refl _ _).alloc (Nat.le_refl _) _), hl.1.below ((Below.refl _ _).alloc (Nat.le_refl _) _)⟩, b1.alloc b1.size _⟩
set_option maxHeartbeats 2000000 in
theorem deep_any (a : Option Addr) (n c : Nat) (l : List Th) (q : Option Addr) (v : Lv) (a' : Option Addr) (n' c' : Nat) (r : List Th) (w : World) (h1 : Dg w a n c l) (h2 : InV w q v) (h3 : Dg w a' n' c' r) (hs : (Lv.deep l v r).size ≤ 17592186044416) :
    Calls Try.prog 54 #[.slice a n c, .pointer q, .slice a' n' c'] w fun e w' => ∃ p, e = .returned (.pointer p) ∧ InV w' p (.deep l v r) ∧ Below w.heap.size w w' := by
  simp only [Lv.size] at hs
  have H1 := Lib.hid h1
  have H2 := Lib.hid h2
  have H3 := Lib.hid h3
  have HS := Lib.hid hs
  clear h1 h2 h3 hs
  go_enter Try.func54, Try.ntmps54
  go_wp2_with fail
  refine (measured_any a n c l _ H1.out (by have := HS.out; omega)).mono ?_
  rintro e w1 ⟨m1, hm1, rfl, b1⟩
  have M1 := Lib.hid hm1
  clear hm1
  go_wp2_with fail
  refine (measure_any q v _ (H2.out.below b1)).mono ?_
  rintro e w2 ⟨m2, hm2, rfl, b2⟩
  have M2 := Lib.hid hm2
  have i2 := Lib.hid (i64_n hm2 (by have := HS.out; omega))
  clear hm2
  go_wp2_with fail
  refine (join_any m1 m2 _ i2.out).mono ?_
  rintro e w3 ⟨rfl, b3⟩
  have hm3 := join_n m1 m2 _ _ M1.out M2.out (by have := HS.out; omega)
  obtain ⟨m3, h3⟩ : ∃ m, join m1 m2 = m := ⟨_, rfl⟩
  rw [h3] at hm3 ⊢
  have M3 := Lib.hid hm3
  clear hm3 h3
  go_wp2_with fail
  refine (measured_any a' n' c' r _ (H3.out.below (below_then (below_then b1 b2) b3)) (by have := HS.out; omega)).mono ?_
  rintro e w4 ⟨m4, hm4, rfl, b4⟩
  have M4 := Lib.hid hm4
  have i4 := Lib.hid (i64_n hm4 (by have := HS.out; omega))
  clear hm4
  go_wp2_with fail
  refine (join_any m3 m4 _ i4.out).mono ?_
  rintro e w5 ⟨rfl, b5⟩
  have hm5 := join_n m3 m4 _ _ M3.out M4.out (by have := HS.out; omega)
  obtain ⟨m5, h5⟩ : ∃ m, join m3 m4 = m := ⟨_, rfl⟩
  rw [h5] at hm5 ⊢
  have M5 := Lib.hid hm5
  clear hm5 h5
  have B := below_then (below_then (below_then (below_then b1 b2) b3) b4) b5
  go_wp2_with fail
  go_ret
  have bx := B.alloc B.size (.cells #[.int .i64 m5.n, .int .i64 m5.s, .int .i64 m5.lo, .int .i64 m5.hi, .int .i64 m5.h, .slice a n c, .slice a' n' c', .pointer q] 95)
  exact ⟨_, rfl, ⟨w5.heap.size, m5, a, a', q, n, c, n', c', rfl, by rw [M5.out]; simp only [Lv.size]; omega, heap_alloc_new _ _, H1.out.below bx, H3.out.below bx, H2.out.below bx⟩, bx⟩
end FG
end Go.Proofs.Ytpkfakndlbngbaa
