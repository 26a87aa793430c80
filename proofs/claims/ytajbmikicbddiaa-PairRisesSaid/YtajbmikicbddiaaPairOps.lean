/-
  Pairing heaps: the package's exported functions, as plain forests. Conditions: sizes below 2^44.
-/
import Derived.Test.YtajbmikicbddiaaPairPairs
import Derived.Test.YtajbmikicbddiaaSame
namespace Go.Proofs.Ytajbmikicbddiaa
open Go.RowKit Go.Deep
namespace PF
theorem In.single {X : World} {x : Int} {b : Nat} (hb : b = X.heap.size) : In (X.alloc (.cells #[.int .i64 x, .pointer none, .pointer none] 65)) (some ⟨b, 0, none⟩) (.cons x .nil .nil) := by
  subst hb
  exact In.new (pk := none) (pn := none) (k := .nil) (n := .nil) rfl rfl

set_option maxHeartbeats 800000 in
theorem push_any (x : Int) (t : PF) (p : Option Addr) (w : World) (h : In w p t) (ht : t.Top) (hs : t.size + 1 ≤ 4611686018427387904) :
    Calls Try.prog 28 #[.agg #[.pointer p, .int .i64 (t.size : Int)], .int .i64 x] w fun e w' => ∃ q, e = .returned (.agg #[.pointer q, .int .i64 ((push t x).size : Int)]) ∧ In w' q (push t x) ∧ Below w.heap.size w w' := by
  have hps := push_size x ht
  have HPS := Lib.hid hps
  have hw1 : IntKind.i64.wrap ((t.size : Int) + 1) = (t.size : Int) + 1 := IntWalk.i64_in _ (by omega)
  clear hps
  go_enter Try.func28, Try.ntmps28
  go_wp2_with fail
  go_region_held3 (fun w' => w'.cell? ⟨w.heap.size, 0, none⟩ = some (.pointer p) ∧ w'.cell? ⟨w.heap.size, 1, none⟩ = some (.int .i64 (t.size : Int))) (go_keep) (first
    | (go_at_call 48; refine (met_any t (.cons x .nil .nil) p _ _ (by exact (((h.alloc _).alloc _).alloc _).drew) (by exact (In.single (by simp)).drew)).mono ?_; rintro e w1 ⟨p1, rfl, hi1, hb1⟩; obtain ⟨hb1, x0, x1, x2⟩ := hold3 hb1 ⟨rfl, rfl, rfl, rfl⟩; obtain ⟨a0, a1, a2⟩ := blk x0; obtain ⟨b0, b1, b2⟩ := blk x1))
  go_wp2_with fail
  have y1 := blk_set (i := 1) (v := .int .i64 ((t.size : Int) + 1)) (blk_set (i := 0) (v := .pointer p1) x1)
  obtain ⟨d0, d1, d2⟩ := blk y1
  refine bodyPost_ret (v := .agg #[.pointer p1, .int .i64 ((t.size : Int) + 1)]) (by simp [results, Try.results28, go_sem, d0]) rfl ⟨p1, by rw [HPS.out]; simp, (hi1.keep (.setCell x1 (by decide))).keep (.setCell (blk_set (i := 0) (v := .pointer p1) x1) (by decide)), (hb1.setCell (p := ⟨w.heap.size + 1, 0, none⟩) (by simp) _).setCell (p := ⟨w.heap.size + 1, 1, none⟩) (by simp) _⟩

set_option maxHeartbeats 800000 in
theorem join_any (t s : PF) (p q : Option Addr) (w : World) (h : In w p t) (k : In w q s) (ht : t.Top) (hs : s.Top) (hz : t.size + s.size ≤ 4611686018427387904) :
    Calls Try.prog 30 #[.agg #[.pointer p, .int .i64 (t.size : Int)], .agg #[.pointer q, .int .i64 (s.size : Int)]] w fun e w' => ∃ r, e = .returned (.agg #[.pointer r, .int .i64 ((met t s).size : Int)]) ∧ In w' r (met t s) ∧ Below w.heap.size w w' := by
  have hps := met_size ht hs
  have HPS := Lib.hid hps
  have ne1 : ¬ w.heap.size + 1 + 1 = w.heap.size := by omega
  have ne2 : ¬ w.heap.size = w.heap.size + 1 + 1 := by omega
  have hw1 : IntKind.i64.wrap ((t.size : Int) + (s.size : Int)) = (t.size : Int) + (s.size : Int) := IntWalk.i64_in _ (by omega)
  clear hps
  go_enter Try.func30, Try.ntmps30
  go_wp2_with fail
  go_region_held3 (fun w' => w'.cell? ⟨w.heap.size, 0, none⟩ = some (.pointer p) ∧ w'.cell? ⟨w.heap.size, 1, none⟩ = some (.int .i64 (t.size : Int)) ∧ w'.cell? ⟨w.heap.size + 1, 0, none⟩ = some (.pointer q) ∧ w'.cell? ⟨w.heap.size + 1, 1, none⟩ = some (.int .i64 (s.size : Int))) (go_keep) (first
    | (go_at_call 48; refine (met_any t s p q _ (by exact (((h.alloc _).alloc _).alloc _).drew) (by exact (((k.alloc _).alloc _).alloc _).drew)).mono ?_; rintro e w1 ⟨p1, rfl, hi1, hb1⟩; obtain ⟨hb1, x0, x1, x2⟩ := hold3 hb1 ⟨rfl, rfl, rfl, rfl⟩; obtain ⟨a0, a1, a2⟩ := blk x0; obtain ⟨b0, b1, b2⟩ := blk x1; obtain ⟨c0, c1, c2⟩ := blk x2))
  go_wp2_with fail
  have y1 := blk_set (i := 1) (v := .int .i64 ((t.size : Int) + (s.size : Int))) (blk_set (i := 0) (v := .pointer p1) x2)
  obtain ⟨d0, d1, d2⟩ := blk y1
  refine bodyPost_ret (v := .agg #[.pointer p1, .int .i64 ((t.size : Int) + (s.size : Int))]) (by simp [results, Try.results30, go_sem, d0]) rfl ⟨p1, by rw [HPS.out]; simp, (hi1.keep (.setCell x2 (by decide))).keep (.setCell (blk_set (i := 0) (v := .pointer p1) x2) (by decide)), (hb1.setCell (p := ⟨w.heap.size + 1 + 1, 0, none⟩) (by simp; omega) _).setCell (p := ⟨w.heap.size + 1 + 1, 1, none⟩) (by simp; omega) _⟩

theorem len_any (n : Int) (p : Option Addr) (w : World) :
    Calls Try.prog 27 #[.agg #[.pointer p, .int .i64 n]] w fun e w' => e = .returned (.int .i64 n) ∧ Below w.heap.size w w' := by
  go_enter Try.func27, Try.ntmps27
  go_wp2_with fail
  go_ret
  exact ⟨rfl, (Below.refl _ _).alloc (Nat.le_refl _) _⟩

theorem min_any (t : PF) (p : Option Addr) (n : Int) (w : World) (h : In w p t) :
    Calls Try.prog 29 #[.agg #[.pointer p, .int .i64 n]] w fun e w' => e = .returned (.tuple #[.int .i64 t.least.1, .bool t.least.2]) ∧ Below w.heap.size w w' := by
  cases t with
  | nil =>
    obtain rfl : p = none := h
    go_enter Try.func29, Try.ntmps29
    go_wp2_with fail
    go_ret2
    exact ⟨rfl, (Below.refl _ _).alloc (Nat.le_refl _) _⟩
  | cons x k m =>
    obtain ⟨b, pl, pr, rfl, h2, h3, h4, h5, h6, h7⟩ := h.open
    go_enter Try.func29, Try.ntmps29
    go_wp2_with fail
    go_ret2
    exact ⟨rfl, (Below.refl _ _).alloc (Nat.le_refl _) _⟩

set_option maxHeartbeats 800000 in
theorem pop_any (t : PF) (p : Option Addr) (w : World) (h : In w p t) (ht : t.Top) (hs : t.size ≤ 17592186044416) :
    Calls Try.prog 26 #[.agg #[.pointer p, .int .i64 (t.size : Int)]] w fun e w' => ∃ q, e = .returned (.tuple #[.int .i64 t.least.1, .agg #[.pointer q, .int .i64 ((pop t).size : Int)], .bool t.least.2]) ∧ In w' q (pop t) ∧ Below w.heap.size w w' := by
  cases t with
  | nil =>
    obtain rfl : p = none := h
    go_enter Try.func26, Try.ntmps26
    go_wp2_with fail
    refine bodyPost_ret (v := .tuple #[.int .i64 0, .agg #[.pointer none, .int .i64 0], .bool false]) (by simp [results, Try.results26, go_sem]) rfl ⟨none, rfl, rfl, ((Below.refl _ _).alloc (Nat.le_refl _) _).alloc (by simp) _⟩
  | cons x k m =>
    obtain ⟨b, pk, pm, rfl, h2, h3, h4, h5, h6, h7⟩ := h.open
    have q2 : b < w.heap.size + 1 := by omega
    have ne1 : ¬ b = w.heap.size + 1 := by omega
    have ne2 : ¬ w.heap.size + 1 = b := by omega
    have hps := pop_size ht
    have hp1 : 1 ≤ (cons x k m).size := by simp only [size]; omega
    have hz : ((pop (cons x k m)).size : Int) = ((cons x k m).size : Int) - 1 := by omega
    have HPS := Lib.hid hz
    have hw1 : IntKind.i64.wrap (((cons x k m).size : Int) - 1) = ((cons x k m).size : Int) - 1 := IntWalk.i64_in _ (by omega)
    have hks : k.size ≤ 17592186044416 := by simp only [size] at hs; omega
    clear hps hz
    go_enter Try.func26, Try.ntmps26
    go_wp2_with fail
    go_region_held3 (fun w' => w'.cell? ⟨w.heap.size, 0, none⟩ = some (.pointer (some ⟨b, 0, none⟩)) ∧ w'.cell? ⟨w.heap.size, 1, none⟩ = some (.int .i64 ((cons x k m).size : Int)) ∧ w'.cell? ⟨b, 0, none⟩ = some (.int .i64 x) ∧ w'.cell? ⟨b, 1, none⟩ = some (.pointer pk)) (go_keep) (first
      | (go_at_call 47; refine (paired_any k pk _ (by exact ((h6.alloc _).alloc _).drew) hks).mono ?_; rintro e w1 ⟨p1, rfl, hi1, hb1⟩; obtain ⟨hb1, x0, x1⟩ := hold2 hb1 ⟨rfl, rfl, rfl, rfl⟩; obtain ⟨c0, c1, c2⟩ := blk x0; obtain ⟨d0, d1, d2⟩ := blk x1; have e0 := (hb1.cell (p := ⟨b, 0, none⟩) h2).trans h3; have e1 := (hb1.cell (p := ⟨b, 1, none⟩) h2).trans h4))
    go_wp2_with fail
    have y1 := blk_set (i := 1) (v := .int .i64 (((cons x k m).size : Int) - 1)) (blk_set (i := 0) (v := .pointer p1) x1)
    obtain ⟨f0, f1, f2⟩ := blk y1
    refine bodyPost_ret (v := .tuple #[.int .i64 x, .agg #[.pointer p1, .int .i64 (((cons x k m).size : Int) - 1)], .bool true]) (by simp [results, Try.results26, go_sem, f0]) rfl ⟨p1, by rw [HPS.out]; rfl, (hi1.keep (.setCell x1 (by decide))).keep (.setCell (blk_set (i := 0) (v := .pointer p1) x1) (by decide)), (hb1.setCell (p := ⟨w.heap.size + 1, 0, none⟩) (by simp) _).setCell (p := ⟨w.heap.size + 1, 1, none⟩) (by simp) _⟩
end PF
end Go.Proofs.Ytajbmikicbddiaa
