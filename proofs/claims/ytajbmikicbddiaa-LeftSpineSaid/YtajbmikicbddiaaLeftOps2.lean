/-
  Leftist heaps: join, how many, the least one, and what is left without it. Conditions: sizes below 2^62.
-/
import Derived.Test.YtajbmikicbddiaaLeftOps
namespace Go.Proofs.Ytajbmikicbddiaa
open Go.RowKit Go.Deep
namespace LT

theorem In.alloc {w : World} {t : LT} {p : Option Addr} (h : In w p t) (o : Obj) : In (w.alloc o) p t := h.below ((Below.refl _ _).alloc (Nat.le_refl _) _)

set_option maxHeartbeats 400000 in
theorem join_any (t s : LT) (p q : Option Addr) (w : World) (h : In w p t) (k : In w q s) (hs : t.size + s.size ≤ 4611686018427387904) :
    Calls Try.prog 14 #[.agg #[.pointer p], .agg #[.pointer q]] w fun e w' => ∃ r, e = .returned (.agg #[.pointer r]) ∧ In w' r (merged t s) ∧ Below w.heap.size w w' := by
  go_enter Try.func14, Try.ntmps14
  go_wp2_with fail
  refine (merged_any _ t s p q _ (Nat.le_refl _) (((h.alloc _).alloc _).alloc _) (((k.alloc _).alloc _).alloc _) hs).mono ?_
  rintro e w1 ⟨p1, rfl, hi1, hb1⟩
  obtain ⟨hb1, x0, x1, x2⟩ := hold3 hb1 ⟨rfl, rfl, rfl, rfl⟩
  obtain ⟨c0, c1, c2⟩ := blk x2
  go_wp2_with fail
  refine bodyPost_ret (v := .agg #[.pointer p1]) (by simp [results, Try.results14, go_sem, c0]) rfl ⟨p1, rfl, hi1.keep (.setCell x2 (by decide)), hb1.setCell (p := ⟨w.heap.size + 1 + 1, 0, none⟩) (by simp; omega) _⟩

theorem len_any (t : LT) (p : Option Addr) (w : World) (h : In w p t) :
    Calls Try.prog 16 #[.agg #[.pointer p]] w fun e w' => e = .returned (.int .i64 (t.size : Int)) ∧ Below w.heap.size w w' := by
  go_enter Try.func16, Try.ntmps16
  go_wp2_with fail
  refine (size_any t p _ (h.alloc _)).mono ?_
  rintro e w1 ⟨rfl, rfl⟩
  go_wp2_with fail
  go_ret
  exact ⟨rfl, (Below.refl _ _).alloc (Nat.le_refl _) _⟩

theorem spine_any (t : LT) (p : Option Addr) (w : World) (h : In w p t) :
    Calls Try.prog 17 #[.agg #[.pointer p]] w fun e w' => e = .returned (.int .i64 (t.spine : Int)) ∧ Below w.heap.size w w' := by
  go_enter Try.func17, Try.ntmps17
  go_wp2_with fail
  refine (far_any t p _ (h.alloc _)).mono ?_
  rintro e w1 ⟨rfl, rfl⟩
  go_wp2_with fail
  go_ret
  exact ⟨rfl, (Below.refl _ _).alloc (Nat.le_refl _) _⟩

theorem min_any (t : LT) (p : Option Addr) (w : World) (h : In w p t) :
    Calls Try.prog 23 #[.agg #[.pointer p]] w fun e w' => e = .returned (.tuple #[.int .i64 t.least.1, .bool t.least.2]) ∧ Below w.heap.size w w' := by
  cases t with
  | nil =>
    obtain rfl : p = none := h
    go_enter Try.func23, Try.ntmps23
    go_wp2_with fail
    go_ret2
    exact ⟨rfl, (Below.refl _ _).alloc (Nat.le_refl _) _⟩
  | node x l r =>
    obtain ⟨b, pl, pr, rfl, h2, h3, h4, h5, h6, h7, h8, h9⟩ := h.open
    go_enter Try.func23, Try.ntmps23
    go_wp2_with fail
    go_ret2
    exact ⟨rfl, (Below.refl _ _).alloc (Nat.le_refl _) _⟩

set_option maxHeartbeats 800000 in
theorem pop_any (t : LT) (p : Option Addr) (w : World) (h : In w p t) (hs : t.size ≤ 4611686018427387904) :
    Calls Try.prog 15 #[.agg #[.pointer p]] w fun e w' => ∃ q, e = .returned (.tuple #[.int .i64 t.least.1, .agg #[.pointer q], .bool t.least.2]) ∧ In w' q (pop t) ∧ Below w.heap.size w w' := by
  cases t with
  | nil =>
    obtain rfl : p = none := h
    go_enter Try.func15, Try.ntmps15
    go_wp2_with fail
    refine bodyPost_ret (v := .tuple #[.int .i64 0, .agg #[.pointer none], .bool false]) (by simp [results, Try.results15, go_sem]) rfl ⟨none, rfl, rfl, ((Below.refl _ _).alloc (Nat.le_refl _) _).alloc (by simp) _⟩
  | node x l r =>
    obtain ⟨b, pl, pr, rfl, h2, h3, h4, h5, h6, h7, h8, h9⟩ := h.open
    have q2 : b < w.heap.size + 1 := by omega
    have ne1 : ¬ b = w.heap.size + 1 := by omega
    have ne2 : ¬ w.heap.size + 1 = b := by omega
    go_enter Try.func15, Try.ntmps15
    go_wp2_with fail
    go_region_held3 (fun w' => w'.cell? ⟨w.heap.size, 0, none⟩ = some (.pointer (some ⟨b, 0, none⟩)) ∧ w'.cell? ⟨b, 0, none⟩ = some (.int .i64 x) ∧ w'.cell? ⟨b, 3, none⟩ = some (.pointer pl) ∧ w'.cell? ⟨b, 4, none⟩ = some (.pointer pr)) (go_keep) (first
      | (go_at_call 41; refine (merged_any _ l r pl pr _ (Nat.le_refl _) (((h8.alloc _).alloc _).below (Below.refl _ _).drew) (((h9.alloc _).alloc _).below (Below.refl _ _).drew) (by simp only [size] at hs; omega)).mono ?_; rintro e w1 ⟨p1, rfl, hi1, hb1⟩; obtain ⟨hb1, x0, x1⟩ := hold2 hb1 ⟨rfl, rfl, rfl, rfl⟩; obtain ⟨c0, c1, c2⟩ := blk x0; obtain ⟨d0, d1, d2⟩ := blk x1; have e0 := (hb1.cell (p := ⟨b, 0, none⟩) h2).trans h3; have e3 := (hb1.cell (p := ⟨b, 3, none⟩) h2).trans h6; have e4 := (hb1.cell (p := ⟨b, 4, none⟩) h2).trans h7))
    go_wp2_with fail
    refine bodyPost_ret (v := .tuple #[.int .i64 x, .agg #[.pointer p1], .bool true]) (by simp [results, Try.results15, go_sem, d0]) rfl ⟨p1, rfl, hi1.keep (.setCell x1 (by decide)), hb1.setCell (p := ⟨w.heap.size + 1, 0, none⟩) (by simp) _⟩
end LT
end Go.Proofs.Ytajbmikicbddiaa
