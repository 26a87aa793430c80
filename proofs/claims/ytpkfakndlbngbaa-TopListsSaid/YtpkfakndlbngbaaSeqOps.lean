/-
  Sequences: the one at a place, one put ahead of all. Conditions: at most 2^44 numbers.
-/
import Derived.Test.YtpkfakndlbngbaaSeqCut
namespace Go.Proofs.Ytpkfakndlbngbaa
open Go.RowKit Go.Deep
open Go.Proofs.Ytpkfakndlbngbaa.MN
set_option linter.unusedVariables false
namespace FG

open Lv
theorem halves_head {i : Nat} {v a b : Lv} (h : Halves i v a b) (hi : i < v.size) : b ≠ .nil ∧ v.toL[i]? = some (popL b).1.val := by
  obtain ⟨h1, h2, h3, h4⟩ := h
  have hl := congrArg List.length h3
  simp only [List.length_append, Lv.len] at hl
  have hb : b ≠ .nil := by rintro rfl; simp only [Lv.size] at hl; omega
  refine ⟨hb, ?_⟩
  rw [h3, List.getElem?_append_right (by rw [Lv.len]; omega), Lv.len, head_val h2 hb, show i - a.size = 0 from by omega]
  rfl
set_option maxHeartbeats 2000000 in
set_option maxRecDepth 100000 in
theorem at_in (i : Nat) (y : Int) (v : Lv) (p : Option Addr) (w : World) (h : InV w p v) (ok : v.Ok 0) (hs : v.size ≤ 17592186044416) (hy : v.toL[i]? = some y) :
    Calls Try.prog 18 #[.agg #[.pointer p], .int .i64 (i : Int)] w fun e w' => e = .returned (.tuple #[.int .i64 y, .bool true]) ∧ Below w.heap.size w w' := by
  have hi : i < v.size := by rw [← Lv.len]; exact (List.getElem?_eq_some_iff.1 hy).1
  have HV := Lib.hid (h.below ((Below.refl _ w).alloc (Nat.le_refl _) (.cells #[.pointer p] 35)))
  have HY := Lib.hid hy
  have OK := Lib.hid ok
  have HS := Lib.hid hs
  have HI := Lib.hid hi
  have hi0 : (0 : Int) ≤ (i : Int) := by omega
  have LC := Lib.hid (len_seq v p _ HV.out)
  obtain ⟨N, hN⟩ : ∃ N : Int, (v.size : Int) = N := ⟨_, rfl⟩
  rw [hN] at LC
  have hiN : (i : Int) < N := by omega
  clear h ok hs hy hi hN
  go_enter Try.func18, Try.ntmps18
  go_wp2_with fail
  refine LC.out.mono ?_
  rintro e w1 ⟨rfl, hb1⟩
  obtain ⟨b01, y0⟩ := hold1 hb1 ⟨rfl, rfl, rfl, rfl⟩
  have HV := Lib.hid (HV.out.below hb1)
  obtain ⟨g0, g1, g2⟩ := blk y0
  have d0 := g0 0
  clear g0 LC
  go_wp2_with fail
  refine (cut_seq i v p _ HV.out OK.out HS.out).mono ?_
  rintro e w2 ⟨pa, pb, a, b, rfl, VA, VB, HH, hb2⟩
  have b02 := below_then b01 hb2
  obtain ⟨hbn, hhd⟩ := halves_head HH HI.out
  rw [HY.out] at hhd
  have hyy : (popL b).1.val = y := by simpa using hhd.symm
  have PT : Hid (∀ W, InV W pb b → Calls Try.prog 33 #[.agg #[.pointer pb]] W fun e w' => ∃ q, e = .returned (.tuple #[.int .i64 y, .agg #[.pointer q], .bool true]) ∧ Below W.heap.size W w') := Lib.hid (fun W g => by
    refine (pop_tree b pb W g hbn HH.2.1 (by
      have hl := congrArg List.length HH.2.2.1
      simp only [List.length_append, Lv.len] at hl
      have := HS.out
      omega)).mono ?_
    rintro e w' ⟨q, rfl, _, hb⟩
    exact ⟨q, by rw [hyy], hb⟩)
  have VB := Lib.hid VB
  clear VA HH hbn hhd hyy d0 g1 y0
  go_wp2_with fail
  refine (PT.out _ ((VB.out.below ((Below.refl _ _).alloc (Nat.le_refl _) _)).below ((Below.refl _ _).alloc (Nat.le_refl _) _))).mono ?_
  rintro e w3 ⟨q, rfl, hb3⟩
  have b23 : Below w2.heap.size w2 w3 := (((Below.refl _ w2).alloc (Nat.le_refl _) _).alloc (by simp) _).trans (hb3.mono (by simp; try omega))
  have b03 := below_then b02 b23
  clear PT VB
  go_wp2_with fail
  go_ret2
  exact ⟨rfl, b03.alloc b03.size _⟩
set_option maxHeartbeats 2000000 in
set_option maxRecDepth 100000 in
theorem at_out (i : Int) (v : Lv) (p : Option Addr) (w : World) (h : InV w p v) (hn : ¬ (0 ≤ i ∧ i < (v.size : Int))) :
    Calls Try.prog 18 #[.agg #[.pointer p], .int .i64 i] w fun e w' => e = .returned (.tuple #[.int .i64 0, .bool false]) ∧ Below w.heap.size w w' := by
  have LC := Lib.hid (len_seq v p _ (h.below ((Below.refl _ w).alloc (Nat.le_refl _) (.cells #[.pointer p] 35))))
  obtain ⟨N, hN⟩ : ∃ N : Int, (v.size : Int) = N := ⟨_, rfl⟩
  rw [hN] at LC hn
  clear h hN
  by_cases h0 : i < 0
  · clear hn LC
    go_enter Try.func18, Try.ntmps18
    go_wp2_with fail
    go_ret2
    exact ⟨rfl, (Below.refl _ _).alloc (Nat.le_refl _) _⟩
  · have h0' : (0 : Int) ≤ i := by omega
    have h1 : N ≤ i := by omega
    clear hn h0
    go_enter Try.func18, Try.ntmps18
    go_wp2_with fail
    refine LC.out.mono ?_
    rintro e w1 ⟨rfl, hb1⟩
    obtain ⟨b01, _⟩ := hold1 hb1 ⟨rfl, rfl, rfl, rfl⟩
    go_wp2_with fail
    go_ret2
    exact ⟨rfl, b01⟩
set_option maxHeartbeats 2000000 in
set_option maxRecDepth 100000 in
theorem put_first (x : Int) (v : Lv) (p : Option Addr) (w : World) (h : InV w p v) (ok : v.Ok 0) (hs : v.size + 1 ≤ 17592186044416) :
    Calls Try.prog 8 #[.agg #[.pointer p], .int .i64 0, .int .i64 x] w fun e w' => ∃ q u, e = .returned (.tuple #[.agg #[.pointer q], .bool true]) ∧ InV w' q u ∧ u.Ok 0 ∧ u.toL = x :: v.toL ∧ Below w.heap.size w w' := by
  have HV0 := Lib.hid h
  have OK := Lib.hid ok
  have HS := Lib.hid hs
  clear h ok hs
  go_enter Try.func8, Try.ntmps8
  go_upto_region 1 with fail
  obtain ⟨w0, hw0⟩ : ∃ w0, ((w.alloc (.cells #[.pointer p] 35)).alloc (.cells #[.pointer none] 35)) = w0 := ⟨_, rfl⟩
  have x0 : w0.heap[w.heap.size]? = some (.cells #[.pointer p] 35 (0, 0)) := by
    rw [← hw0]
    have := heap_alloc_new w (.cells #[.pointer p] 35)
    exact (Below.heap_alloc _ _ _ (by simp; try omega)).trans (this)
  have x1 : w0.heap[w.heap.size + 1]? = some (.cells #[.pointer none] 35 (0, 0)) := by
    rw [← hw0]
    have := heap_alloc_new (w.alloc (.cells #[.pointer p] 35)) (.cells #[.pointer none] 35)
    rw [World.size_alloc] at this
    exact this
  have b0 : Below w.heap.size w w0 := by rw [← hw0]; exact ((Below.refl _ _).alloc (by simp; try omega) _).alloc (by simp; try omega) _
  rw [hw0]
  have hz : w0.heap.size = w.heap.size + 2 := by rw [← hw0]; simp
  clear hw0
  replace HV0 := Lib.hid (HV0.out.below b0)
  have LC := Lib.hid (len_seq v p _ HV0.out)
  obtain ⟨N, hN⟩ : ∃ N : Int, (v.size : Int) = N := ⟨_, rfl⟩
  rw [hN] at LC
  have hN0 : (0 : Int) ≤ N := by omega
  have X1 := Lib.hid x1
  have X0 := Lib.hid x0
  have d0 := (blk x0).1 0
  clear hN x0 x1
  go_wp2_with fail
  refine LC.out.mono ?_
  rintro e w1 ⟨rfl, hb1⟩
  have y0 := blk_below X0.out hb1
  have y1 := blk_below X1.out hb1
  have b01 := below_then b0 hb1
  replace HV0 := Lib.hid (HV0.out.below hb1)
  have Y1 := Lib.hid y1
  clear d0 X0 X1 LC
  have d0 := (blk y0).1 0
  clear y0 y1
  go_wp2_with fail
  have CC := Lib.hid (cut_seq 0 v p w1 HV0.out OK.out (by have := HS.out; omega))
  refine CC.out.mono ?_
  rintro e w2 ⟨pa, pb, a, b, rfl, VA, VB, HH, hb2⟩
  have b02 := below_then b01 hb2
  have hl := congrArg List.length HH.2.2.1
  simp only [List.length_append, Lv.len] at hl
  have ha0 : a.size = 0 := by have := HH.2.2.2; omega
  have hanil := size_nil HH.1 ha0
  subst hanil
  obtain rfl : pa = none := VA
  have HB : Hid (b.Ok 0 ∧ v.toL = b.toL ∧ 1 + b.size ≤ 17592186044416) := Lib.hid ⟨HH.2.1, by have := HH.2.2.1; simpa [toL] using this, by have := HS.out; have : (Lv.nil).size = 0 := rfl; omega⟩
  have y1 := blk_below Y1.out hb2
  have VB := Lib.hid VB
  have Y1 := Lib.hid y1
  clear d0 CC HH hl ha0 y1 HV0
  go_upto_region 4 with fail
  obtain ⟨w3, hw3⟩ : ∃ w3, ((w2.alloc (.cells #[.pointer none] 33)).alloc (.cells #[.pointer pb] 33)) = w3 := ⟨_, rfl⟩
  have b23 : Below w2.heap.size w2 w3 := by rw [← hw3]; exact ((Below.refl _ _).alloc (Nat.le_refl _) _).alloc (by simp) _
  have z0 : w3.heap[w2.heap.size]? = some (.cells #[.pointer none] 33 (0, 0)) := by
    rw [← hw3]
    have := heap_alloc_new w2 (.cells #[.pointer none] 33)
    exact (Below.heap_alloc _ _ _ (by simp; try omega)).trans this
  have z1 : w3.heap[w2.heap.size + 1]? = some (.cells #[.pointer pb] 33 (0, 0)) := by
    rw [← hw3]
    have := heap_alloc_new (w2.alloc (.cells #[.pointer none] 33)) (.cells #[.pointer pb] 33)
    rwa [World.size_alloc] at this
  rw [hw3]
  clear hw3
  obtain ⟨e0, e1, e2⟩ := blk z0
  have d0 := e0 0
  obtain ⟨g0, g1, g2⟩ := blk z1
  have d1 := g0 0
  have hl1 := (blk Y1.out).2.2
  have y1 := blk_below Y1.out b23
  obtain ⟨u0, u1, u2⟩ := blk y1
  have d2 := u0 0
  replace VB := Lib.hid (VB.out.below b23)
  have Y1 := Lib.hid y1
  have b03 := below_then b02 b23
  have m1 : ¬ w.heap.size + 1 = w2.heap.size := by omega
  have m2 : ¬ w2.heap.size = w.heap.size + 1 := by omega
  have m3 : ¬ w.heap.size = w2.heap.size := by omega
  have m4 : ¬ w2.heap.size = w.heap.size := by omega
  clear e0 g0 u0 z0 z1 y1 e1 g1
  have : ¬ w3.heap.size = w2.heap.size := by omega
  have : ¬ w2.heap.size = w3.heap.size := by omega
  have : ¬ w3.heap.size = (w2.heap.size + 1) := by omega
  have : ¬ (w2.heap.size + 1) = w3.heap.size := by omega
  go_region_held3 (fun w' => w'.cell? ⟨w2.heap.size, 0, none⟩ = some (.pointer none) ∧ w'.cell? ⟨(w2.heap.size + 1), 0, none⟩ = some (.pointer pb)) (go_keep) (first
    | (have _t := bw4; go_at_call 25; refine (join_tree (.leaf x) b q4 pb 0 _ (by first | exact V4.out | exact V4.out.below (Below.refl _ _).drew | exact V4.out.below (below_drewN (Below.refl _ _) _) | exact V4.out.below ((Below.refl _ _).alloc (Nat.le_refl _) _) | exact (V4.out.below ((Below.refl _ _).alloc (Nat.le_refl _) _)).below (Below.refl _ _).drew | exact (V4.out.below ((Below.refl _ _).alloc (Nat.le_refl _) _)).below (below_drewN (Below.refl _ _) _)) (by first | exact (VB.out.below bw4) | exact (VB.out.below bw4).below (Below.refl _ _).drew | exact (VB.out.below bw4).below (below_drewN (Below.refl _ _) _) | exact (VB.out.below bw4).below ((Below.refl _ _).alloc (Nat.le_refl _) _) | exact ((VB.out.below bw4).below ((Below.refl _ _).alloc (Nat.le_refl _) _)).below (Below.refl _ _).drew | exact ((VB.out.below bw4).below ((Below.refl _ _).alloc (Nat.le_refl _) _)).below (below_drewN (Below.refl _ _) _)) HB.out.1 HB.out.2.2).mono ?_; rintro e w5 ⟨q5, rfl, V5, hx5⟩; have bw5 : Below w4.heap.size w4 w5 := (by first | exact hx5 | exact below_of_drew hx5 | exact below_of_drewN hx5 | exact below_of_alloc hx5 | exact below_of_alloc (below_of_drew hx5) | exact below_of_alloc (below_of_drewN hx5)); have bw35 := below_then bw4 bw5; have y5 := blk_below (by exact Y1.out) bw35; obtain ⟨r0, r1, r2⟩ := blk y5; have d5 := r0 0; clear r0; have Y5 := Lib.hid y5; clear y5; have V5 := Lib.hid V5; have : ¬ w5.heap.size = w2.heap.size := (by have := bw35.size; omega); have : ¬ w2.heap.size = w5.heap.size := (by have := bw35.size; omega); have : ¬ w5.heap.size = (w2.heap.size + 1) := (by have := bw35.size; omega); have : ¬ (w2.heap.size + 1) = w5.heap.size := (by have := bw35.size; omega); have c1_0 := (bw35.cell (p := ⟨w2.heap.size, 0, none⟩) e2).trans d0; have c1_1 := (bw35.cell (p := ⟨(w2.heap.size + 1), 0, none⟩) g2).trans d1)
    | (go_at_call 24; refine (push_tree .nil x none _ rfl trivial (by decide)).mono ?_; rintro e w4 ⟨q4, rfl, V4, hx4⟩; have bw4 : Below w3.heap.size w3 w4 := (by first | exact hx4 | exact below_of_drew hx4 | exact below_of_drewN hx4 | exact below_of_alloc hx4 | exact below_of_alloc (below_of_drew hx4) | exact below_of_alloc (below_of_drewN hx4)); have V4 : InV w4 q4 (.one (.leaf x)) := V4; have d24 := (bw4.cell (p := ⟨w.heap.size + 1, 0, none⟩) u2).trans d2; have V4 := Lib.hid V4; have : ¬ w4.heap.size = w2.heap.size := (by have := bw4.size; omega); have : ¬ w2.heap.size = w4.heap.size := (by have := bw4.size; omega); have : ¬ w4.heap.size = (w2.heap.size + 1) := (by have := bw4.size; omega); have : ¬ (w2.heap.size + 1) = w4.heap.size := (by have := bw4.size; omega); have c0_0 := (bw4.cell (p := ⟨w2.heap.size, 0, none⟩) e2).trans d0; have c0_1 := (bw4.cell (p := ⟨(w2.heap.size + 1), 0, none⟩) g2).trans d1))
  all_goals
    go_wp2_with fail
    refine bodyPost_ret (v := .tuple #[.agg #[.pointer q5], .bool true]) (by simp [results, Try.results8, go_sem, d5]) rfl ⟨q5, pushL (.leaf x) b, rfl, V5.out.keep (.set Y5.out (by decide)), (pushL_ok b (.leaf x) 0 HB.out.1 rfl).1, ?_, (below_then b03 bw35).setCell (p := ⟨w.heap.size + 1, 0, none⟩) (by simp) _⟩
    rw [(pushL_ok b (.leaf x) 0 HB.out.1 rfl).2, HB.out.2.1]
    rfl
end FG
end Go.Proofs.Ytpkfakndlbngbaa
