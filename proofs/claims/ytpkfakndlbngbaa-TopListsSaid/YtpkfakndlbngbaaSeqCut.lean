/-
  Sequences: of numbers, how many, cut at a place, the one at a place, one put ahead of all, all. Conditions: at most 2^44 numbers.
-/
import Derived.Test.YtpkfakndlbngbaaFinSplit
import Derived.Test.YtpkfakndlbngbaaFinInts
import Derived.Test.YtpkfakndlbngbaaFinOf
namespace Go.Proofs.Ytpkfakndlbngbaa
open Go.RowKit Go.Deep
open Go.Proofs.Ytpkfakndlbngbaa.MN
set_option linter.unusedVariables false
namespace FG

open Lv
theorem head_val {b : Lv} (h : b.Ok 0) (hb : b ≠ .nil) : b.toL = (popL b).1.val :: (popL b).2.toL := by
  obtain ⟨h1, h2, h3⟩ := popL_ok b 0 h hb
  obtain ⟨x, hx⟩ := h1.zero
  rw [h3, hx]
  rfl
set_option maxHeartbeats 1000000 in
set_option maxRecDepth 100000 in
theorem of_seq (a : Option Addr) (n c : Nat) (xs : List Int) (w : World) (h : Sl w a n c xs) (hs : n ≤ 17592186044416) :
    Calls Try.prog 6 #[.slice a n c] w fun e w' => ∃ q, e = .returned (.agg #[.pointer q]) ∧ InV w' q (ofL xs) ∧ Below w.heap.size w w' := by
  go_enter Try.func6, Try.ntmps6
  go_wp2_with fail
  refine (of_tree a n c xs _ (h.below ((Below.refl _ _).alloc (Nat.le_refl _) _)) hs).mono ?_
  rintro e w1 ⟨q, rfl, V1, hb1⟩
  obtain ⟨hb1, y0⟩ := hold1 hb1 ⟨rfl, rfl, rfl, rfl⟩
  obtain ⟨g0, g1, g2⟩ := blk y0
  have d0 := g0 0
  have Y0 := Lib.hid y0
  have V1 := Lib.hid V1
  clear g0 y0
  go_wp2_with fail
  refine bodyPost_ret (v := .agg #[.pointer q]) (by simp [results, Try.results6, go_sem, d0]) rfl ⟨q, rfl, V1.out.keep (.set Y0.out (by decide)), hb1.setCell (p := ⟨w.heap.size, 0, none⟩) (Nat.le_refl _) _⟩
set_option maxHeartbeats 1000000 in
set_option maxRecDepth 100000 in
theorem len_seq (v : Lv) (p : Option Addr) (w : World) (h : InV w p v) :
    Calls Try.prog 19 #[.agg #[.pointer p]] w fun e w' => e = .returned (.int .i64 (v.size : Int)) ∧ Below w.heap.size w w' := by
  have HV := Lib.hid h
  clear h
  go_enter Try.func19, Try.ntmps19
  go_wp2_with fail
  refine (measure_tree v p _ (HV.out.below ((Below.refl _ _).alloc (Nat.le_refl _) _))).mono ?_
  rintro e w1 ⟨m, hm, rfl, hb1⟩
  obtain ⟨hb1, _⟩ := hold1 hb1 ⟨rfl, rfl, rfl, rfl⟩
  have HM := Lib.hid hm
  clear hm
  have hf : ∀ W : World, (Instr.field 77 m.val 0).run Try.prog W = .ok (.int .i64 m.n) W := fun W => by first | kernel_rfl | rfl | simp [go_sem]
  go_wp2_with fail
  go_ret
  exact ⟨by rw [← HM.out]; rfl, hb1⟩
set_option maxHeartbeats 1000000 in
set_option maxRecDepth 100000 in
theorem ints_seq (v : Lv) (p : Option Addr) (w : World) (h : InV w p v) (ok : v.Ok 0) (hs : v.size ≤ 17592186044416) :
    Calls Try.prog 14 #[.agg #[.pointer p]] w fun e w' => ∃ a n c, e = .returned (.slice a n c) ∧ Sl w' a n c v.toL ∧ Below w.heap.size w w' := by
  have HV := Lib.hid h
  clear h
  go_enter Try.func14, Try.ntmps14
  go_wp2_with fail
  refine (ints_tree v 0 p _ (HV.out.below ((Below.refl _ _).alloc (Nat.le_refl _) _)) ok hs).mono ?_
  rintro e w1 ⟨u, rfl, ho, hb1⟩
  obtain ⟨hb1, _⟩ := hold1 hb1 ⟨rfl, rfl, rfl, rfl⟩
  obtain ⟨a, c, rfl, hsl⟩ := Sl.of_own ho
  have HS := Lib.hid hsl
  clear ho hsl
  go_wp2_with fail
  go_ret
  exact ⟨a, _, c, rfl, HS.out, hb1⟩
set_option maxHeartbeats 2000000 in
set_option maxRecDepth 100000 in
theorem cut_seq (i : Nat) (v : Lv) (p : Option Addr) (w : World) (h : InV w p v) (ok : v.Ok 0) (hs : v.size ≤ 17592186044416) :
    Calls Try.prog 23 #[.agg #[.pointer p], .int .i64 (i : Int)] w fun e w' => ∃ (pa pb : Option Addr) (a b : Lv), e = .returned (.tuple #[.agg #[.pointer pa], .agg #[.pointer pb]]) ∧ InV w' pa a ∧ InV w' pb b ∧ Halves i v a b ∧ Below w.heap.size w w' := by
  have HV := Lib.hid h
  clear h
  go_enter Try.func23, Try.ntmps23
  go_upto_region 1 with fail
  obtain ⟨w0, hw0⟩ : ∃ w0, ((((w.alloc (.cells #[.pointer p] 35)).alloc (.cells #[.int .i64 (i : Int)] 3)).alloc (.cells #[.pointer none] 33)).alloc (.cells #[.pointer none] 33)) = w0 := ⟨_, rfl⟩
  have x0 : w0.heap[w.heap.size]? = some (.cells #[.pointer p] 35 (0, 0)) := by
    rw [← hw0]
    have := heap_alloc_new w (.cells #[.pointer p] 35)
    exact (Below.heap_alloc _ _ _ (by simp; try omega)).trans ((Below.heap_alloc _ _ _ (by simp; try omega)).trans ((Below.heap_alloc _ _ _ (by simp; try omega)).trans (this)))
  have x1 : w0.heap[w.heap.size + 1]? = some (.cells #[.int .i64 (i : Int)] 3 (0, 0)) := by
    rw [← hw0]
    have := heap_alloc_new (w.alloc (.cells #[.pointer p] 35)) (.cells #[.int .i64 (i : Int)] 3)
    rw [World.size_alloc] at this
    exact (Below.heap_alloc _ _ _ (by simp; try omega)).trans ((Below.heap_alloc _ _ _ (by simp; try omega)).trans (this))
  have x2 : w0.heap[w.heap.size + 1 + 1]? = some (.cells #[.pointer none] 33 (0, 0)) := by
    rw [← hw0]
    have := heap_alloc_new ((w.alloc (.cells #[.pointer p] 35)).alloc (.cells #[.int .i64 (i : Int)] 3)) (.cells #[.pointer none] 33)
    rw [World.size_alloc, World.size_alloc] at this
    exact (Below.heap_alloc _ _ _ (by simp; try omega)).trans (this)
  have x3 : w0.heap[w.heap.size + 1 + 1 + 1]? = some (.cells #[.pointer none] 33 (0, 0)) := by
    rw [← hw0]
    have := heap_alloc_new (((w.alloc (.cells #[.pointer p] 35)).alloc (.cells #[.int .i64 (i : Int)] 3)).alloc (.cells #[.pointer none] 33)) (.cells #[.pointer none] 33)
    rw [World.size_alloc, World.size_alloc, World.size_alloc] at this
    exact this
  have b0 : Below w.heap.size w w0 := by rw [← hw0]; exact ((((Below.refl _ _).alloc (by simp; try omega) _).alloc (by simp; try omega) _).alloc (by simp; try omega) _).alloc (by simp; try omega) _
  rw [hw0]
  have hz : w0.heap.size = w.heap.size + 4 := by rw [← hw0]; simp
  clear hw0
  have d0 := (blk x0).1 0
  have d1 := (blk x1).1 0
  have X2 := Lib.hid x2
  have X3 := Lib.hid x3
  replace HV := Lib.hid (HV.out.below b0)
  clear x0 x1 x2 x3
  go_wp2_with fail
  refine (split_tree i (w.heap.size + 1) v p _ HV.out ok hs d1).mono ?_
  rintro e w1 ⟨pa, pb, a, b, rfl, VA, VB, HH, hb1⟩
  have y2 := blk_below X2.out hb1
  have y3 := blk_below X3.out hb1
  have hb := below_then b0 hb1
  obtain ⟨g0, g1, g2⟩ := blk y2
  have d2 := g0 0
  obtain ⟨u0, u1, u2⟩ := blk y3
  have d3 := u0 0
  have Y2 := Lib.hid y2
  have Y3 := Lib.hid y3
  have VA := Lib.hid VA
  have VB := Lib.hid VB
  have HH := Lib.hid HH
  clear g0 u0 y2 y3 d0 d1
  go_wp2_with fail
  refine bodyPost_ret (v := .tuple #[.agg #[.pointer pa], .agg #[.pointer pb]]) (by simp [results, Try.results23, go_sem, d2, d3]) rfl ⟨pa, pb, a, b, rfl, ?_, ?_, HH.out, ?_⟩
  · exact (VA.out.keep (.set Y2.out (by decide))).keep (.set (blk_far Y3.out (by simp)) (by decide))
  · exact (VB.out.keep (.set Y2.out (by decide))).keep (.set (blk_far Y3.out (by simp)) (by decide))
  · exact (hb.setCell (p := ⟨w.heap.size + 1 + 1, 0, none⟩) (by simp; try omega) _).setCell (p := ⟨w.heap.size + 1 + 1 + 1, 0, none⟩) (by simp; try omega) _
end FG
end Go.Proofs.Ytpkfakndlbngbaa
