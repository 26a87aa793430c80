/-
  Finger trees: a level cut at a thing of its right digit. Conditions: at most 2^44 numbers.
-/
import Derived.Test.YtpkfakndlbngbaaFinParts
import Derived.Deep.RegionLaw
import Derived.Deep.DeepCutAuto
namespace Go.Proofs.Ytpkfakndlbngbaa
open Go.RowKit Go.Deep
open Go.Proofs.Ytpkfakndlbngbaa.MN
set_option linter.unusedVariables false
namespace FG

open Lv
set_option maxHeartbeats 8000000 in
set_option maxRecDepth 100000 in
theorem cut_deepR (i A so : Nat) (l : List Th) (m : Lv) (r : List Th) (ms : Ms) (q : Option Addr) (d : Nat) (w : World) (hv : InV w q (deep l m r)) (ok : (deep l m r).Ok d) (hm : ms.n = (so : Int)) (h0 : so ≤ i) (h1 : i < so + (deep l m r).size) (hA : w.cell? ⟨A, 0, none⟩ = some (.int .i64 (i : Int))) (hs : so + (deep l m r).size ≤ 17592186044416) (hi : so + tsN l + m.size ≤ i) :
    Calls Try.prog 51 #[.func (.func 39) #[] #[.pointer (some ⟨A, 0, none⟩)], ms.val, .pointer q] w fun e w' => ∃ p t u, e = .returned (.tuple #[.pointer p, .pointer t, .pointer u]) ∧ InV w' p (cut i so (deep l m r)).1 ∧ InT w' t (cut i so (deep l m r)).2.1 ∧ InV w' u (cut i so (deep l m r)).2.2 ∧ Below w.heap.size w w' := by
  obtain ⟨⟨o1, o2, o3⟩, o4, ⟨o5, o6, o7⟩⟩ := ok
  obtain ⟨b, mm, a, a', x, n, c, n', c', rfl, hn, hh, hl, hr, hmid⟩ := hv
  have ln := hl.len
  have rn := hr.len
  obtain ⟨c1, _, c3⟩ := blk hh
  have hAl : A < w.heap.size := World.block_lt_of_cell? w ⟨A, 0, none⟩ hA
  obtain ⟨b6, off6, rfl⟩ := hr.addr (by omega)
  obtain ⟨b5, off5, rfl⟩ := hl.addr (by omega)
  have hq : ∀ W : World, (binOp .eql 90 (.slice (some ⟨b6, off6, none⟩) n' c') (.slice none 0 0)).run Try.prog W = .ok (.bool false) W := fun W => eql_things_nil (some ⟨b6, off6, none⟩) n' c' W
  have k5 : w.cell? ⟨b, 5, none⟩ = some (.slice (some ⟨b5, off5, none⟩) n c) := c1 5
  have k6 : w.cell? ⟨b, 6, none⟩ = some (.slice (some ⟨b6, off6, none⟩) n' c') := c1 6
  have k7 : w.cell? ⟨b, 7, none⟩ = some (.pointer x) := c1 7
  have ne1 : ¬ w.heap.size = b := by omega
  have HL := Lib.hid hl
  have HR := Lib.hid hr
  have HMID := Lib.hid hmid
  have HM := Lib.hid hm
  have HA := Lib.hid hA
  have HI := Lib.hid hi
  have HD : Hid (Dig d l ∧ m.Ok (d + 1) ∧ Dig d r) := Lib.hid ⟨⟨o1, o2, o3⟩, o4, ⟨o5, o6, o7⟩⟩
  have HS : Hid (so + (tsN l + (m.size + tsN r)) ≤ 17592186044416 ∧ so ≤ i ∧ i < so + (tsN l + (m.size + tsN r)) ∧ l.length = n ∧ r.length = n' ∧ 1 ≤ n ∧ 1 ≤ n') := Lib.hid ⟨hs, h0, h1, ln, rn, by omega, by omega⟩
  have LO := Lib.hid (i64_n hm (by omega))
  clear o1 o2 o3 o4 o5 o6 o7 ln rn hl hr hmid hh c1 hn hs hm h0 h1 hA hi
  go_enter Try.func51, Try.ntmps51
  go_wp2_with fail
  go_upto_region 3 with fail
  obtain ⟨w0, hw0⟩ : ∃ w0, w.alloc (.cells #[.int .i64 ms.n, .int .i64 ms.s, .int .i64 ms.lo, .int .i64 ms.hi, .int .i64 ms.h] 77) = w0 := ⟨_, rfl⟩
  have x0 : At w0 w.heap.size ms := by rw [← hw0]; exact heap_alloc_new _ _
  have b0 : Below w.heap.size w w0 := by rw [← hw0]; exact (Below.refl _ _).alloc (Nat.le_refl _) _
  rw [hw0]
  clear hw0
  replace k5 := (b0.cell (p := ⟨b, 5, none⟩) c3).trans k5
  replace k6 := (b0.cell (p := ⟨b, 6, none⟩) c3).trans k6
  replace k7 := (b0.cell (p := ⟨b, 7, none⟩) c3).trans k7
  have hbl : b < w0.heap.size := Nat.lt_of_lt_of_le c3 b0.size
  replace HL := Lib.hid (HL.out.below b0)
  replace HR := Lib.hid (HR.out.below b0)
  replace HMID := Lib.hid (HMID.out.below b0)
  have hca : CA w A i := ⟨HA.out, hAl⟩
  have CA0 := Lib.hid (hca.below b0)
  clear HA hca hAl
  have ne2 : ¬ w0.heap.size = b := by omega
  obtain ⟨⟨o0, o1, o2, o3, o4⟩, o5, o6⟩ := x0.cells; have X0 := Lib.hid x0; clear x0
  go_cut [9] (fun t9 wx => ∃ (C : Nat) (ml : Ms), t9 = .pointer (some ⟨C, 0, none⟩) ∧ Hid (ml.n = ((so + tsN l : Nat) : Int)) ∧ w0.heap.size ≤ C ∧ At wx C ml ∧ At wx w.heap.size ms ∧ Below w0.heap.size w0 wx)
  case first => as_aux_lemma =>
    have : ¬ w0.heap.size = w.heap.size := by omega
    have : ¬ w.heap.size = w0.heap.size := by omega
    have : ¬ w0.heap.size = b := by omega
    have : ¬ b = w0.heap.size := by omega
    go_region_held3 (fun w' => w'.cell? ⟨w.heap.size, 0, none⟩ = some (.int .i64 ms.n) ∧ w'.cell? ⟨w.heap.size, 1, none⟩ = some (.int .i64 ms.s) ∧ w'.cell? ⟨w.heap.size, 2, none⟩ = some (.int .i64 ms.lo) ∧ w'.cell? ⟨w.heap.size, 3, none⟩ = some (.int .i64 ms.hi) ∧ w'.cell? ⟨w.heap.size, 4, none⟩ = some (.int .i64 ms.h) ∧ w'.cell? ⟨b, 5, none⟩ = some (.slice (some ⟨b5, off5, none⟩) n c)) (go_keep) (first
      | (have _t := bw13; go_at_call 62; refine (JC3.out _).mono ?_; rintro e w23 ⟨rfl, hb23⟩; have bw23 : Below w13.heap.size w13 w23 := (by first | exact hb23 | exact below_of_drew hb23 | exact below_of_drewN hb23 | exact below_of_alloc hb23 | exact below_of_alloc (below_of_drew hb23) | exact below_of_alloc (below_of_drewN hb23)); have bw023 := below_then bw13 bw23; have x2 : At w23 w.heap.size ms := blk_below (by exact X13.out) bw23; obtain ⟨⟨p30, p31, p32, p33, p34⟩, p35, p36⟩ := x2.cells; have X23 := Lib.hid x2; clear x2; (first | (have z3 : At w23 _ ⟨0, 0, 0, 0, 0⟩ := blk_below (by exact Z33.out) (by first | exact hb23 | exact below_of_drew hb23 | exact below_of_drewN hb23 | exact below_of_alloc hb23 | exact below_of_alloc (below_of_drew hb23) | exact below_of_alloc (below_of_drewN hb23)); obtain ⟨⟨r30, r31, r32, r33, r34⟩, r35, r36⟩ := z3.cells; have Z33 := Lib.hid z3; clear z3) | (have z3 : At w23 w13.heap.size ⟨0, 0, 0, 0, 0⟩ := blk_below (heap_alloc_new _ _) hb23; obtain ⟨⟨r30, r31, r32, r33, r34⟩, r35, r36⟩ := z3.cells; have Z33 := Lib.hid z3; clear z3) | (have z3 : At w23 w13.heap.size ⟨0, 0, 0, 0, 0⟩ := blk_below (heap_alloc_new _ _) (below_of_drew hb23); obtain ⟨⟨r30, r31, r32, r33, r34⟩, r35, r36⟩ := z3.cells; have Z33 := Lib.hid z3; clear z3) | (have z3 : At w23 w13.heap.size ⟨0, 0, 0, 0, 0⟩ := blk_below (heap_alloc_new _ _) (below_of_drewN hb23); obtain ⟨⟨r30, r31, r32, r33, r34⟩, r35, r36⟩ := z3.cells; have Z33 := Lib.hid z3; clear z3) | skip); have : ¬ w23.heap.size = w.heap.size := (by have := bw023.size; omega); have : ¬ w.heap.size = w23.heap.size := (by have := bw023.size; omega); have : ¬ w23.heap.size = b := (by have := bw023.size; omega); have : ¬ b = w23.heap.size := (by have := bw023.size; omega); have c23_0 := (bw023.cell (p := ⟨w.heap.size, 0, none⟩) (by omega)).trans o0; have c23_1 := (bw023.cell (p := ⟨w.heap.size, 1, none⟩) (by omega)).trans o1; have c23_2 := (bw023.cell (p := ⟨w.heap.size, 2, none⟩) (by omega)).trans o2; have c23_3 := (bw023.cell (p := ⟨w.heap.size, 3, none⟩) (by omega)).trans o3; have c23_4 := (bw023.cell (p := ⟨w.heap.size, 4, none⟩) (by omega)).trans o4; have c23_5 := (bw023.cell (p := ⟨b, 5, none⟩) hbl).trans k5)
      | (go_at_call 63; refine (measured_any _ n c l _ (by first | exact HL.out | exact HL.out.below (Below.refl _ _).drew | exact HL.out.below (below_drewN (Below.refl _ _) _) | exact HL.out.below ((Below.refl _ _).alloc (Nat.le_refl _) _) | exact (HL.out.below ((Below.refl _ _).alloc (Nat.le_refl _) _)).below (Below.refl _ _).drew | exact (HL.out.below ((Below.refl _ _).alloc (Nat.le_refl _) _)).below (below_drewN (Below.refl _ _) _)) (by have := HS.out; omega)).mono ?_; rintro e w13 ⟨mlS, HMLi, rfl, hb13⟩; have bw13 : Below w0.heap.size w0 w13 := (by first | exact hb13 | exact below_of_drew hb13 | exact below_of_drewN hb13 | exact below_of_alloc hb13 | exact below_of_alloc (below_of_drew hb13) | exact below_of_alloc (below_of_drewN hb13)); have x1 : At w13 w.heap.size ms := blk_below (by exact X0.out) bw13; obtain ⟨⟨q30, q31, q32, q33, q34⟩, q35, q36⟩ := x1.cells; have X13 := Lib.hid x1; clear x1; (first | (have z3 : At w13 w0.heap.size ⟨0, 0, 0, 0, 0⟩ := blk_below (heap_alloc_new _ _) hb13; obtain ⟨⟨s30, s31, s32, s33, s34⟩, s35, s36⟩ := z3.cells; have Z33 := Lib.hid z3; clear z3) | (have z3 : At w13 w0.heap.size ⟨0, 0, 0, 0, 0⟩ := blk_below (heap_alloc_new _ _) (below_of_drew hb13); obtain ⟨⟨s30, s31, s32, s33, s34⟩, s35, s36⟩ := z3.cells; have Z33 := Lib.hid z3; clear z3) | (have z3 : At w13 w0.heap.size ⟨0, 0, 0, 0, 0⟩ := blk_below (heap_alloc_new _ _) (below_of_drewN hb13); obtain ⟨⟨s30, s31, s32, s33, s34⟩, s35, s36⟩ := z3.cells; have Z33 := Lib.hid z3; clear z3) | skip); have HJ3 := Lib.hid (join_n ms mlS _ _ HM.out HMLi (by have := HS.out; omega)); have JI := Lib.hid (i64_n HMLi (by have := HS.out; omega)); clear HMLi; obtain ⟨mj3, hmj⟩ : ∃ mj, join ms mlS = mj := ⟨_, rfl⟩; rw [hmj] at HJ3; have JC3 : Hid (∀ W, Calls Try.prog 62 #[ms.val, mlS.val] W fun e w' => e = .returned mj3.val ∧ Below W.heap.size W w') := Lib.hid (fun W => by rw [← hmj]; exact join_any ms mlS W JI.out); clear hmj; have : ¬ w13.heap.size = w.heap.size := (by have := bw13.size; omega); have : ¬ w.heap.size = w13.heap.size := (by have := bw13.size; omega); have : ¬ w13.heap.size = b := (by have := bw13.size; omega); have : ¬ b = w13.heap.size := (by have := bw13.size; omega); have c13_0 := (bw13.cell (p := ⟨w.heap.size, 0, none⟩) (by omega)).trans o0; have c13_1 := (bw13.cell (p := ⟨w.heap.size, 1, none⟩) (by omega)).trans o1; have c13_2 := (bw13.cell (p := ⟨w.heap.size, 2, none⟩) (by omega)).trans o2; have c13_3 := (bw13.cell (p := ⟨w.heap.size, 3, none⟩) (by omega)).trans o3; have c13_4 := (bw13.cell (p := ⟨w.heap.size, 4, none⟩) (by omega)).trans o4; have c13_5 := (bw13.cell (p := ⟨b, 5, none⟩) hbl).trans k5))
    all_goals (go_wp2_with fail; go_meet)
    all_goals
      have hn0 : ¬ w.heap.size = w0.heap.size := by omega
      have hn1 : ¬ w.heap.size = w13.heap.size := by omega
      have hn2 := bw13.size
      have hn3 := bw023.size
    all_goals first
      | (refine ⟨w0.heap.size, mj3, rfl, HJ3, Nat.le_refl _, ?_, ?_, ?_⟩; (exact (blk_set (blk_set (blk_set (blk_set (blk_set Z33.out)))))); (exact (blk_far (blk_far (blk_far (blk_far (blk_far X23.out hn0) hn0) hn0) hn0) hn0)); (exact (((((bw023.setCell (p := ⟨w0.heap.size, 0, none⟩) (Nat.le_refl _) _).setCell (p := ⟨w0.heap.size, 1, none⟩) (Nat.le_refl _) _).setCell (p := ⟨w0.heap.size, 2, none⟩) (Nat.le_refl _) _).setCell (p := ⟨w0.heap.size, 3, none⟩) (Nat.le_refl _) _).setCell (p := ⟨w0.heap.size, 4, none⟩) (Nat.le_refl _) _)))
      | (refine ⟨w13.heap.size, mj3, rfl, HJ3, hn2, ?_, ?_, ?_⟩; (exact (blk_set (blk_set (blk_set (blk_set (blk_set Z33.out)))))); (exact (blk_far (blk_far (blk_far (blk_far (blk_far X23.out hn1) hn1) hn1) hn1) hn1)); (exact (((((bw023.setCell (p := ⟨w13.heap.size, 0, none⟩) hn2 _).setCell (p := ⟨w13.heap.size, 1, none⟩) hn2 _).setCell (p := ⟨w13.heap.size, 2, none⟩) hn2 _).setCell (p := ⟨w13.heap.size, 3, none⟩) hn2 _).setCell (p := ⟨w13.heap.size, 4, none⟩) hn2 _)))
      | (refine ⟨w23.heap.size, mj3, rfl, HJ3, hn3, ?_, ?_, ?_⟩; (exact heap_alloc_new _ _); (exact (Below.heap_alloc _ _ _ (X23.out.cells).2.2).trans X23.out); (exact bw023.alloc hn3 _))
  obtain ⟨C, ml, rfl, HML, hC, y0, y1, yb⟩ := hcut
  have AC := Lib.hid (ask_any ml (i : Int) A wc (CA0.out.below yb).1)
  obtain ⟨⟨a0, a1, a2, a3, a4⟩, a5, a6⟩ := y0.cells; have Y0 := Lib.hid y0; clear y0
  clear o0 o1 o2 o3 o4 o5 o6
  go_wp2_with fail
  refine AC.out.mono ?_
  rintro e w4 ⟨rfl, b4⟩
  have zb := below_then yb b4
  have Y1 := Lib.hid y1
  have z0 : At w4 C ml := blk_below (by exact Y0.out) b4
  have z1 : At w4 w.heap.size ms := blk_below (by exact Y1.out) b4
  clear AC a0 a1 a2 a3 a4 a5 a6 y1 Y0 Y1
  replace k5 := (zb.cell (p := ⟨b, 5, none⟩) hbl).trans k5
  replace k6 := (zb.cell (p := ⟨b, 6, none⟩) hbl).trans k6
  replace k7 := (zb.cell (p := ⟨b, 7, none⟩) hbl).trans k7
  have hbl4 : b < w4.heap.size := Nat.lt_of_lt_of_le hbl zb.size
  have ne4 : ¬ w4.heap.size = b := by omega
  replace HL := Lib.hid (HL.out.below zb)
  replace HR := Lib.hid (HR.out.below zb)
  replace HMID := Lib.hid (HMID.out.below zb)
  have CA4 := Lib.hid (CA0.out.below zb)
  have ow4 : Below w.heap.size w w4 := below_then b0 zb
  clear CA0 hbl ne2
  have hd : decide ((i : Int) < ml.n) = false := by rw [HML.out]; have := HI.out; simp; omega
  rw [hd]
  obtain ⟨⟨a0, a1, a2, a3, a4⟩, a5, a6⟩ := z0.cells; have Y0 := Lib.hid z0; clear z0
  clear hd z1
  go_upto_region 7 with fail
  go_cut [12] (fun t12 wx => ∃ (C2 : Nat) (mm : Ms), t12 = .pointer (some ⟨C2, 0, none⟩) ∧ Hid (mm.n = ((so + tsN l + m.size : Nat) : Int)) ∧ w4.heap.size ≤ C2 ∧ At wx C2 mm ∧ At wx C ml ∧ Below w4.heap.size w4 wx)
  case first => as_aux_lemma =>
    have : ¬ w4.heap.size = C := by omega
    have : ¬ C = w4.heap.size := by omega
    have : ¬ w4.heap.size = b := by omega
    have : ¬ b = w4.heap.size := by omega
    go_region_held3 (fun w' => w'.cell? ⟨C, 0, none⟩ = some (.int .i64 ml.n) ∧ w'.cell? ⟨C, 1, none⟩ = some (.int .i64 ml.s) ∧ w'.cell? ⟨C, 2, none⟩ = some (.int .i64 ml.lo) ∧ w'.cell? ⟨C, 3, none⟩ = some (.int .i64 ml.hi) ∧ w'.cell? ⟨C, 4, none⟩ = some (.int .i64 ml.h) ∧ w'.cell? ⟨b, 7, none⟩ = some (.pointer x)) (go_keep) (first
      | (have _t := bw17; go_at_call 62; refine (JC7.out _).mono ?_; rintro e w27 ⟨rfl, hb27⟩; have bw27 : Below w17.heap.size w17 w27 := (by first | exact hb27 | exact below_of_drew hb27 | exact below_of_drewN hb27 | exact below_of_alloc hb27 | exact below_of_alloc (below_of_drew hb27) | exact below_of_alloc (below_of_drewN hb27)); have bw027 := below_then bw17 bw27; have x2 : At w27 C ml := blk_below (by exact X17.out) bw27; obtain ⟨⟨p70, p71, p72, p73, p74⟩, p75, p76⟩ := x2.cells; have X27 := Lib.hid x2; clear x2; (first | (have z3 : At w27 _ ⟨0, 0, 0, 0, 0⟩ := blk_below (by exact Z37.out) (by first | exact hb27 | exact below_of_drew hb27 | exact below_of_drewN hb27 | exact below_of_alloc hb27 | exact below_of_alloc (below_of_drew hb27) | exact below_of_alloc (below_of_drewN hb27)); obtain ⟨⟨r70, r71, r72, r73, r74⟩, r75, r76⟩ := z3.cells; have Z37 := Lib.hid z3; clear z3) | (have z3 : At w27 w17.heap.size ⟨0, 0, 0, 0, 0⟩ := blk_below (heap_alloc_new _ _) hb27; obtain ⟨⟨r70, r71, r72, r73, r74⟩, r75, r76⟩ := z3.cells; have Z37 := Lib.hid z3; clear z3) | (have z3 : At w27 w17.heap.size ⟨0, 0, 0, 0, 0⟩ := blk_below (heap_alloc_new _ _) (below_of_drew hb27); obtain ⟨⟨r70, r71, r72, r73, r74⟩, r75, r76⟩ := z3.cells; have Z37 := Lib.hid z3; clear z3) | (have z3 : At w27 w17.heap.size ⟨0, 0, 0, 0, 0⟩ := blk_below (heap_alloc_new _ _) (below_of_drewN hb27); obtain ⟨⟨r70, r71, r72, r73, r74⟩, r75, r76⟩ := z3.cells; have Z37 := Lib.hid z3; clear z3) | skip); have : ¬ w27.heap.size = C := (by have := bw027.size; omega); have : ¬ C = w27.heap.size := (by have := bw027.size; omega); have : ¬ w27.heap.size = b := (by have := bw027.size; omega); have : ¬ b = w27.heap.size := (by have := bw027.size; omega); have c27_0 := (bw027.cell (p := ⟨C, 0, none⟩) a6).trans a0; have c27_1 := (bw027.cell (p := ⟨C, 1, none⟩) a6).trans a1; have c27_2 := (bw027.cell (p := ⟨C, 2, none⟩) a6).trans a2; have c27_3 := (bw027.cell (p := ⟨C, 3, none⟩) a6).trans a3; have c27_4 := (bw027.cell (p := ⟨C, 4, none⟩) a6).trans a4; have c27_5 := (bw027.cell (p := ⟨b, 7, none⟩) hbl4).trans k7)
      | (go_at_call 49; refine (measure_any x m _ (by first | exact HMID.out | exact HMID.out.below (Below.refl _ _).drew | exact HMID.out.below (below_drewN (Below.refl _ _) _) | exact HMID.out.below ((Below.refl _ _).alloc (Nat.le_refl _) _) | exact (HMID.out.below ((Below.refl _ _).alloc (Nat.le_refl _) _)).below (Below.refl _ _).drew | exact (HMID.out.below ((Below.refl _ _).alloc (Nat.le_refl _) _)).below (below_drewN (Below.refl _ _) _))).mono ?_; rintro e w17 ⟨mlS, HMLi, rfl, hb17⟩; have bw17 : Below w4.heap.size w4 w17 := (by first | exact hb17 | exact below_of_drew hb17 | exact below_of_drewN hb17 | exact below_of_alloc hb17 | exact below_of_alloc (below_of_drew hb17) | exact below_of_alloc (below_of_drewN hb17)); have x1 : At w17 C ml := blk_below (by exact Y0.out) bw17; obtain ⟨⟨q70, q71, q72, q73, q74⟩, q75, q76⟩ := x1.cells; have X17 := Lib.hid x1; clear x1; (first | (have z3 : At w17 w4.heap.size ⟨0, 0, 0, 0, 0⟩ := blk_below (heap_alloc_new _ _) hb17; obtain ⟨⟨s70, s71, s72, s73, s74⟩, s75, s76⟩ := z3.cells; have Z37 := Lib.hid z3; clear z3) | (have z3 : At w17 w4.heap.size ⟨0, 0, 0, 0, 0⟩ := blk_below (heap_alloc_new _ _) (below_of_drew hb17); obtain ⟨⟨s70, s71, s72, s73, s74⟩, s75, s76⟩ := z3.cells; have Z37 := Lib.hid z3; clear z3) | (have z3 : At w17 w4.heap.size ⟨0, 0, 0, 0, 0⟩ := blk_below (heap_alloc_new _ _) (below_of_drewN hb17); obtain ⟨⟨s70, s71, s72, s73, s74⟩, s75, s76⟩ := z3.cells; have Z37 := Lib.hid z3; clear z3) | skip); have HJ7 := Lib.hid (join_n ml mlS _ _ HML.out HMLi (by have := HS.out; omega)); have JI := Lib.hid (i64_n HMLi (by have := HS.out; omega)); clear HMLi; obtain ⟨mj7, hmj⟩ : ∃ mj, join ml mlS = mj := ⟨_, rfl⟩; rw [hmj] at HJ7; have JC7 : Hid (∀ W, Calls Try.prog 62 #[ml.val, mlS.val] W fun e w' => e = .returned mj7.val ∧ Below W.heap.size W w') := Lib.hid (fun W => by rw [← hmj]; exact join_any ml mlS W JI.out); clear hmj; have : ¬ w17.heap.size = C := (by have := bw17.size; omega); have : ¬ C = w17.heap.size := (by have := bw17.size; omega); have : ¬ w17.heap.size = b := (by have := bw17.size; omega); have : ¬ b = w17.heap.size := (by have := bw17.size; omega); have c17_0 := (bw17.cell (p := ⟨C, 0, none⟩) a6).trans a0; have c17_1 := (bw17.cell (p := ⟨C, 1, none⟩) a6).trans a1; have c17_2 := (bw17.cell (p := ⟨C, 2, none⟩) a6).trans a2; have c17_3 := (bw17.cell (p := ⟨C, 3, none⟩) a6).trans a3; have c17_4 := (bw17.cell (p := ⟨C, 4, none⟩) a6).trans a4; have c17_5 := (bw17.cell (p := ⟨b, 7, none⟩) hbl4).trans k7))
    all_goals (go_wp2_with fail; go_meet)
    all_goals
      have hn0 : ¬ C = w4.heap.size := by omega
      have hn1 : ¬ C = w17.heap.size := by omega
      have hn2 := bw17.size
      have hn3 := bw027.size
    all_goals first
      | (refine ⟨w4.heap.size, mj7, rfl, HJ7, Nat.le_refl _, ?_, ?_, ?_⟩; (exact (blk_set (blk_set (blk_set (blk_set (blk_set Z37.out)))))); (exact (blk_far (blk_far (blk_far (blk_far (blk_far X27.out hn0) hn0) hn0) hn0) hn0)); (exact (((((bw027.setCell (p := ⟨w4.heap.size, 0, none⟩) (Nat.le_refl _) _).setCell (p := ⟨w4.heap.size, 1, none⟩) (Nat.le_refl _) _).setCell (p := ⟨w4.heap.size, 2, none⟩) (Nat.le_refl _) _).setCell (p := ⟨w4.heap.size, 3, none⟩) (Nat.le_refl _) _).setCell (p := ⟨w4.heap.size, 4, none⟩) (Nat.le_refl _) _)))
      | (refine ⟨w17.heap.size, mj7, rfl, HJ7, hn2, ?_, ?_, ?_⟩; (exact (blk_set (blk_set (blk_set (blk_set (blk_set Z37.out)))))); (exact (blk_far (blk_far (blk_far (blk_far (blk_far X27.out hn1) hn1) hn1) hn1) hn1)); (exact (((((bw027.setCell (p := ⟨w17.heap.size, 0, none⟩) hn2 _).setCell (p := ⟨w17.heap.size, 1, none⟩) hn2 _).setCell (p := ⟨w17.heap.size, 2, none⟩) hn2 _).setCell (p := ⟨w17.heap.size, 3, none⟩) hn2 _).setCell (p := ⟨w17.heap.size, 4, none⟩) hn2 _)))
      | (refine ⟨w27.heap.size, mj7, rfl, HJ7, hn3, ?_, ?_, ?_⟩; (exact heap_alloc_new _ _); (exact (Below.heap_alloc _ _ _ (X27.out.cells).2.2).trans X27.out); (exact bw027.alloc hn3 _))
  obtain ⟨C2, mm, rfl, HMM, hC2, y2, y1, yb7⟩ := hcut
  have b47 := yb7
  clear a0 a1 a2 a3 a4 a5 a6 Y0
  obtain ⟨⟨a0, a1, a2, a3, a4⟩, a5, a6⟩ := y1.cells; have Y1 := Lib.hid y1; clear y1
  obtain ⟨⟨e0, e1, e2, e3, e4⟩, e5, e6⟩ := y2.cells; have Y2 := Lib.hid y2; clear y2
  replace k5 := (b47.cell (p := ⟨b, 5, none⟩) hbl4).trans k5
  replace k6 := (b47.cell (p := ⟨b, 6, none⟩) hbl4).trans k6
  replace k7 := (b47.cell (p := ⟨b, 7, none⟩) hbl4).trans k7
  replace HL := Lib.hid (HL.out.below b47)
  replace HR := Lib.hid (HR.out.below b47)
  replace HMID := Lib.hid (HMID.out.below b47)
  have hbl7 : b < wc.heap.size := Nat.lt_of_lt_of_le hbl4 b47.size
  have CA7 := Lib.hid (CA4.out.below b47)
  have ow7 := below_then ow4 b47
  have AC2 := Lib.hid (ask_any mm (i : Int) A wc CA7.out.1)
  clear CA4 yb7 zb yb b4 b0 b47 ow4 hbl4 ne4
  obtain ⟨w7, rfl⟩ : ∃ w7, w7 = wc := ⟨_, rfl⟩
  go_upto_region 8 with fail
  go_cut [97] (fun s wx => s = .bool (decide (i < so + tsN l + m.size)) ∧ Below w7.heap.size w7 wx)
  case first => as_aux_lemma =>
    by_cases hm0 : m = .nil
    · have hx0 := HMID.out
      rw [hm0] at hx0
      obtain rfl : x = none := hx0
      go_wp2_with fail
      go_meet
      exact ⟨by have := HI.out; have hz : m.size = 0 := (by rw [hm0]; rfl); first | (rw [decide_eq_false (by omega)]) | omega, Below.refl _ _⟩
    · obtain ⟨bm, _, rfl, _⟩ := HMID.out.cells hm0
      go_wp2_with fail
      refine AC2.out.mono ?_
      rintro e w8 ⟨rfl, b8⟩
      go_wp2_with fail
      go_meet
      exact ⟨by rw [HMM.out]; simp only [Int.ofNat_lt], b8⟩
  obtain ⟨rfl, b78⟩ := hcut
  have hd : decide (i < so + tsN l + m.size) = false := decide_eq_false (by have := HI.out; omega)
  rw [hd]
  have Y1' := Y1.out
  have y1 : At wc C ml := blk_below (by exact Y1') b78
  have y2 : At wc C2 mm := blk_below (by exact Y2.out) b78
  clear hd a0 a1 a2 a3 a4 a5 a6 e0 e1 e2 e3 e4 e5 e6 Y1 Y2 Y1'
  replace k5 := (b78.cell (p := ⟨b, 5, none⟩) hbl7).trans k5
  replace k6 := (b78.cell (p := ⟨b, 6, none⟩) hbl7).trans k6
  replace k7 := (b78.cell (p := ⟨b, 7, none⟩) hbl7).trans k7
  replace HL := Lib.hid (HL.out.below b78)
  replace HR := Lib.hid (HR.out.below b78)
  replace HMID := Lib.hid (HMID.out.below b78)
  have hbl8 : b < wc.heap.size := Nat.lt_of_lt_of_le hbl7 b78.size
  have CA8 := Lib.hid (CA7.out.below b78)
  have ow8 := below_then ow7 b78
  obtain ⟨w8, rfl⟩ : ∃ w8, w8 = wc := ⟨_, rfl⟩
  clear CA7 ow7 b78 hbl7
  obtain ⟨⟨e0, e1, e2, e3, e4⟩, e5, e6⟩ := y2.cells; have Y2 := Lib.hid y2; clear y2
  obtain ⟨K, hK⟩ : ∃ K, place i (so + tsN l + m.size) r = K := ⟨_, rfl⟩
  have hpk := place_ok i r (so + tsN l + m.size) (by intro e; have := HD.out.2.2.1; rw [e] at this; simp at this) HI.out (by have := HS.out; omega)
  rw [hK] at hpk
  have hKn : K < n' := by have := HS.out.2.2.2.2.1; omega
  have PCF : Hid (∀ W, Dg W (some ⟨b6, off6, none⟩) n' c' r → CA W A i → Calls Try.prog 64 #[.func (.func 39) #[] #[.pointer (some ⟨A, 0, none⟩)], mm.val, .slice (some ⟨b6, off6, none⟩) n' c'] W fun e w' => ∃ m' : Ms, e = .returned (.tuple #[.int .i64 (K : Int), m'.val]) ∧ Below W.heap.size W w') := Lib.hid (fun W g1 g2 => by rw [← hK]; exact place_any i A _ mm _ n' c' r W HMM.out g1 (by omega) g2.1 (by have := HS.out; omega))
  have CUT : Hid (cut i so (deep l m r) = (deepR l m (r.take K), r[K]?.getD (.leaf 0), someL (r.drop (K + 1)))) := Lib.hid (by rw [← hK]; simp only [cut]; rw [if_neg (by have := HI.out; omega), if_neg (by have := HI.out; omega)])
  clear hK hpk y1
  go_upto_region 12 with fail
  go_cut [18] (fun s wx => s = .int .i64 (K : Int) ∧ Below w8.heap.size w8 wx)
  case first => as_aux_lemma =>
    have : ¬ w8.heap.size = C2 := by omega
    have : ¬ C2 = w8.heap.size := by omega
    have : ¬ w8.heap.size = b := by omega
    have : ¬ b = w8.heap.size := by omega
    go_region_held3 (fun w' => w'.cell? ⟨C2, 0, none⟩ = some (.int .i64 mm.n) ∧ w'.cell? ⟨C2, 1, none⟩ = some (.int .i64 mm.s) ∧ w'.cell? ⟨C2, 2, none⟩ = some (.int .i64 mm.lo) ∧ w'.cell? ⟨C2, 3, none⟩ = some (.int .i64 mm.hi) ∧ w'.cell? ⟨C2, 4, none⟩ = some (.int .i64 mm.h) ∧ w'.cell? ⟨b, 6, none⟩ = some (.slice (some ⟨b6, off6, none⟩) n' c')) (go_keep) (first
      | (go_at_call 64; refine (PCF.out _ (by first | exact HR.out | exact HR.out.below (Below.refl _ _).drew | exact HR.out.below (below_drewN (Below.refl _ _) _) | exact HR.out.below ((Below.refl _ _).alloc (Nat.le_refl _) _) | exact (HR.out.below ((Below.refl _ _).alloc (Nat.le_refl _) _)).below (Below.refl _ _).drew | exact (HR.out.below ((Below.refl _ _).alloc (Nat.le_refl _) _)).below (below_drewN (Below.refl _ _) _)) (by first | exact CA8.out | exact CA8.out.below (Below.refl _ _).drew | exact CA8.out.below (below_drewN (Below.refl _ _) _) | exact CA8.out.below ((Below.refl _ _).alloc (Nat.le_refl _) _) | exact (CA8.out.below ((Below.refl _ _).alloc (Nat.le_refl _) _)).below (Below.refl _ _).drew | exact (CA8.out.below ((Below.refl _ _).alloc (Nat.le_refl _) _)).below (below_drewN (Below.refl _ _) _))).mono ?_; rintro e wP ⟨m', rfl, hbP⟩; have bwP : Below w8.heap.size w8 wP := (by first | exact hbP | exact below_of_drew hbP | exact below_of_drewN hbP | exact below_of_alloc hbP | exact below_of_alloc (below_of_drew hbP) | exact below_of_alloc (below_of_drewN hbP)); (first | (have z3 : At wP w8.heap.size ⟨0, 0, 0, 0, 0⟩ := blk_below (heap_alloc_new _ _) hbP; obtain ⟨⟨s0, s1, s2, s3, s4⟩, s5, s6⟩ := z3.cells; have Z3 := Lib.hid z3; clear z3) | (have z3 : At wP w8.heap.size ⟨0, 0, 0, 0, 0⟩ := blk_below (heap_alloc_new _ _) (below_of_drew hbP); obtain ⟨⟨s0, s1, s2, s3, s4⟩, s5, s6⟩ := z3.cells; have Z3 := Lib.hid z3; clear z3) | (have z3 : At wP w8.heap.size ⟨0, 0, 0, 0, 0⟩ := blk_below (heap_alloc_new _ _) (below_of_drewN hbP); obtain ⟨⟨s0, s1, s2, s3, s4⟩, s5, s6⟩ := z3.cells; have Z3 := Lib.hid z3; clear z3) | skip); have : ¬ wP.heap.size = C2 := (by have := bwP.size; omega); have : ¬ C2 = wP.heap.size := (by have := bwP.size; omega); have : ¬ wP.heap.size = b := (by have := bwP.size; omega); have : ¬ b = wP.heap.size := (by have := bwP.size; omega); have c0_0 := (bwP.cell (p := ⟨C2, 0, none⟩) e6).trans e0; have c0_1 := (bwP.cell (p := ⟨C2, 1, none⟩) e6).trans e1; have c0_2 := (bwP.cell (p := ⟨C2, 2, none⟩) e6).trans e2; have c0_3 := (bwP.cell (p := ⟨C2, 3, none⟩) e6).trans e3; have c0_4 := (bwP.cell (p := ⟨C2, 4, none⟩) e6).trans e4; have c0_5 := (bwP.cell (p := ⟨b, 6, none⟩) hbl8).trans k6))
    all_goals (go_wp2_with fail; go_meet)
    all_goals first
      | (refine ⟨rfl, ?_⟩; with_reducible exact (((((bwP.setCell (p := ⟨w8.heap.size, 0, none⟩) (Nat.le_refl _) _).setCell (p := ⟨w8.heap.size, 1, none⟩) (Nat.le_refl _) _).setCell (p := ⟨w8.heap.size, 2, none⟩) (Nat.le_refl _) _).setCell (p := ⟨w8.heap.size, 3, none⟩) (Nat.le_refl _) _).setCell (p := ⟨w8.heap.size, 4, none⟩) (Nat.le_refl _) _))
      | (refine ⟨rfl, ?_⟩; with_reducible exact (((((bwP.setCell (p := ⟨wP.heap.size, 0, none⟩) bwP.size _).setCell (p := ⟨wP.heap.size, 1, none⟩) bwP.size _).setCell (p := ⟨wP.heap.size, 2, none⟩) bwP.size _).setCell (p := ⟨wP.heap.size, 3, none⟩) bwP.size _).setCell (p := ⟨wP.heap.size, 4, none⟩) bwP.size _))
      | (refine ⟨rfl, ?_⟩; with_reducible exact bwP.alloc bwP.size _)
  obtain ⟨rfl, b5c⟩ := hcut
  clear PCF e0 e1 e2 e3 e4 e5 e6 Y2
  replace k5 := (b5c.cell (p := ⟨b, 5, none⟩) hbl8).trans k5
  replace k6 := (b5c.cell (p := ⟨b, 6, none⟩) hbl8).trans k6
  replace k7 := (b5c.cell (p := ⟨b, 7, none⟩) hbl8).trans k7
  replace HL := Lib.hid (HL.out.below b5c)
  replace HR := Lib.hid (HR.out.below b5c)
  replace HMID := Lib.hid (HMID.out.below b5c)
  have hbl9 : b < wc.heap.size := Nat.lt_of_lt_of_le hbl8 b5c.size
  have ow9 := below_then ow8 b5c
  obtain ⟨q1, hb66, ka, hq1⟩ := HR.out.at' hKn
  obtain ⟨a2, n2, c2, J, HJ, hw, hsl1, hsl2, HP1, HP2⟩ := HR.out.parts hKn
  have HQ1 := Lib.hid hq1
  have SOF : Hid (∀ W, Dg W (some ⟨b6, off6, none⟩) n' c' r → Calls Try.prog 65 #[.slice a2 n2 c2] W fun e w' => ∃ p, e = .returned (.pointer p) ∧ InV w' p (someL (r.drop (K + 1))) ∧ Below W.heap.size W w') := Lib.hid (fun W g => some_any a2 n2 c2 _ d W (HP2.out W g) (HD.out.2.2.2.2.drop _) (by have := tsN_drop_le r (K + 1); have := HS.out; omega))
  have DRF : Hid (∀ W, Dg W (some ⟨b6, off6, none⟩) n' c' r → InV W x m → Dg W (some ⟨b5, off5, none⟩) n c l → Calls Try.prog 66 #[.slice (some ⟨b5, off5, none⟩) n c, .pointer x, .slice (some ⟨b6, off6, none⟩) K c'] W fun e w' => ∃ p, e = .returned (.pointer p) ∧ InV w' p (deepR l m (r.take K)) ∧ Below W.heap.size W w') := Lib.hid (fun W g1 g2 g3 => deepR_any m (popR m) (popR_any m) _ n c l x _ K c' _ d W g3 g2 (HP1.out W g1) (HD.out.2.2.2.2.take K) HD.out.2.1 HD.out.1 (popR_ok m _ HD.out.2.1) (by have := tsN_take_le r K; have := HS.out; simp only [Lv.size]; omega))
  have hKi : (K : Int) < (n' : Int) := by omega
  have hK0 : (0 : Int) ≤ (K : Int) := by omega
  clear hq1 HJ
  go_wp2_with fail
  go_region_held3 (fun w' => w'.cell? ⟨b, 5, none⟩ = some (.slice (some ⟨b5, off5, none⟩) n c) ∧ w'.cell? ⟨b, 6, none⟩ = some (.slice (some ⟨b6, off6, none⟩) n' c') ∧ w'.cell? ⟨b, 7, none⟩ = some (.pointer x) ∧ w'.cell? ⟨b6, off6 + K, none⟩ = some (.pointer q1)) (go_keep) (first
    | (have _t := bF1; go_at_call 65; refine (SOF.out _ (by first | exact (HR.out.below bF1) | exact (HR.out.below bF1).below (Below.refl _ _).drew | exact (HR.out.below bF1).below (below_drewN (Below.refl _ _) _) | exact (HR.out.below bF1).below ((Below.refl _ _).alloc (Nat.le_refl _) _) | exact ((HR.out.below bF1).below ((Below.refl _ _).alloc (Nat.le_refl _) _)).below (Below.refl _ _).drew | exact ((HR.out.below bF1).below ((Below.refl _ _).alloc (Nat.le_refl _) _)).below (below_drewN (Below.refl _ _) _))).mono ?_; rintro e wE ⟨p2, rfl, V2, hbF⟩; have bFE : Below wF1.heap.size wF1 wE := (by first | exact hbF | exact below_of_drew hbF | exact below_of_drewN hbF | exact below_of_alloc hbF | exact below_of_alloc (below_of_drew hbF) | exact below_of_alloc (below_of_drewN hbF)); have bwE : Below wc.heap.size wc wE := below_then bF1 bFE; replace V1 := V1.below bFE; have wE_0 := (bwE.cell (p := ⟨b, 5, none⟩) hbl9).trans k5; have wE_1 := (bwE.cell (p := ⟨b, 6, none⟩) hbl9).trans k6; have wE_2 := (bwE.cell (p := ⟨b, 7, none⟩) hbl9).trans k7; have wE_3 := (bwE.cell (p := ⟨b6, off6 + K, none⟩) hb66).trans ka; clear hbF)
    | (have _t := bF2; go_at_call 66; refine (DRF.out _ (by first | exact (HR.out.below bF2) | exact (HR.out.below bF2).below (Below.refl _ _).drew | exact (HR.out.below bF2).below (below_drewN (Below.refl _ _) _) | exact (HR.out.below bF2).below ((Below.refl _ _).alloc (Nat.le_refl _) _) | exact ((HR.out.below bF2).below ((Below.refl _ _).alloc (Nat.le_refl _) _)).below (Below.refl _ _).drew | exact ((HR.out.below bF2).below ((Below.refl _ _).alloc (Nat.le_refl _) _)).below (below_drewN (Below.refl _ _) _)) (by first | exact (HMID.out.below bF2) | exact (HMID.out.below bF2).below (Below.refl _ _).drew | exact (HMID.out.below bF2).below (below_drewN (Below.refl _ _) _) | exact (HMID.out.below bF2).below ((Below.refl _ _).alloc (Nat.le_refl _) _) | exact ((HMID.out.below bF2).below ((Below.refl _ _).alloc (Nat.le_refl _) _)).below (Below.refl _ _).drew | exact ((HMID.out.below bF2).below ((Below.refl _ _).alloc (Nat.le_refl _) _)).below (below_drewN (Below.refl _ _) _)) (by first | exact (HL.out.below bF2) | exact (HL.out.below bF2).below (Below.refl _ _).drew | exact (HL.out.below bF2).below (below_drewN (Below.refl _ _) _) | exact (HL.out.below bF2).below ((Below.refl _ _).alloc (Nat.le_refl _) _) | exact ((HL.out.below bF2).below ((Below.refl _ _).alloc (Nat.le_refl _) _)).below (Below.refl _ _).drew | exact ((HL.out.below bF2).below ((Below.refl _ _).alloc (Nat.le_refl _) _)).below (below_drewN (Below.refl _ _) _))).mono ?_; rintro e wE ⟨p1, rfl, V1, hbF⟩; have bFE : Below wF2.heap.size wF2 wE := (by first | exact hbF | exact below_of_drew hbF | exact below_of_drewN hbF | exact below_of_alloc hbF | exact below_of_alloc (below_of_drew hbF) | exact below_of_alloc (below_of_drewN hbF)); have bwE : Below wc.heap.size wc wE := below_then bF2 bFE; replace V2 := V2.below bFE; have wE_0 := (bwE.cell (p := ⟨b, 5, none⟩) hbl9).trans k5; have wE_1 := (bwE.cell (p := ⟨b, 6, none⟩) hbl9).trans k6; have wE_2 := (bwE.cell (p := ⟨b, 7, none⟩) hbl9).trans k7; have wE_3 := (bwE.cell (p := ⟨b6, off6 + K, none⟩) hb66).trans ka; clear hbF)
    | (go_at_call 66; refine (DRF.out _ (by first | exact HR.out | exact HR.out.below (Below.refl _ _).drew | exact HR.out.below (below_drewN (Below.refl _ _) _) | exact HR.out.below ((Below.refl _ _).alloc (Nat.le_refl _) _) | exact (HR.out.below ((Below.refl _ _).alloc (Nat.le_refl _) _)).below (Below.refl _ _).drew | exact (HR.out.below ((Below.refl _ _).alloc (Nat.le_refl _) _)).below (below_drewN (Below.refl _ _) _)) (by first | exact HMID.out | exact HMID.out.below (Below.refl _ _).drew | exact HMID.out.below (below_drewN (Below.refl _ _) _) | exact HMID.out.below ((Below.refl _ _).alloc (Nat.le_refl _) _) | exact (HMID.out.below ((Below.refl _ _).alloc (Nat.le_refl _) _)).below (Below.refl _ _).drew | exact (HMID.out.below ((Below.refl _ _).alloc (Nat.le_refl _) _)).below (below_drewN (Below.refl _ _) _)) (by first | exact HL.out | exact HL.out.below (Below.refl _ _).drew | exact HL.out.below (below_drewN (Below.refl _ _) _) | exact HL.out.below ((Below.refl _ _).alloc (Nat.le_refl _) _) | exact (HL.out.below ((Below.refl _ _).alloc (Nat.le_refl _) _)).below (Below.refl _ _).drew | exact (HL.out.below ((Below.refl _ _).alloc (Nat.le_refl _) _)).below (below_drewN (Below.refl _ _) _))).mono ?_; rintro e wF1 ⟨p1, rfl, V1, hbF⟩; have bF1 : Below wc.heap.size wc wF1 := (by first | exact hbF | exact below_of_drew hbF | exact below_of_drewN hbF | exact below_of_alloc hbF | exact below_of_alloc (below_of_drew hbF) | exact below_of_alloc (below_of_drewN hbF)); have wF1_0 := (bF1.cell (p := ⟨b, 5, none⟩) hbl9).trans k5; have wF1_1 := (bF1.cell (p := ⟨b, 6, none⟩) hbl9).trans k6; have wF1_2 := (bF1.cell (p := ⟨b, 7, none⟩) hbl9).trans k7; have wF1_3 := (bF1.cell (p := ⟨b6, off6 + K, none⟩) hb66).trans ka; clear hbF)
    | (go_at_call 65; refine (SOF.out _ (by first | exact HR.out | exact HR.out.below (Below.refl _ _).drew | exact HR.out.below (below_drewN (Below.refl _ _) _) | exact HR.out.below ((Below.refl _ _).alloc (Nat.le_refl _) _) | exact (HR.out.below ((Below.refl _ _).alloc (Nat.le_refl _) _)).below (Below.refl _ _).drew | exact (HR.out.below ((Below.refl _ _).alloc (Nat.le_refl _) _)).below (below_drewN (Below.refl _ _) _))).mono ?_; rintro e wF2 ⟨p2, rfl, V2, hbF⟩; have bF2 : Below wc.heap.size wc wF2 := (by first | exact hbF | exact below_of_drew hbF | exact below_of_drewN hbF | exact below_of_alloc hbF | exact below_of_alloc (below_of_drew hbF) | exact below_of_alloc (below_of_drewN hbF)); have wF2_0 := (bF2.cell (p := ⟨b, 5, none⟩) hbl9).trans k5; have wF2_1 := (bF2.cell (p := ⟨b, 6, none⟩) hbl9).trans k6; have wF2_2 := (bF2.cell (p := ⟨b, 7, none⟩) hbl9).trans k7; have wF2_3 := (bF2.cell (p := ⟨b6, off6 + K, none⟩) hb66).trans ka; clear hbF))
  all_goals
    go_wp2_with fail
    refine bodyPost_ret (v := .tuple #[.pointer p1, .pointer q1, .pointer p2]) (by simp [results, Try.results51, go_sem]) rfl ⟨p1, q1, p2, rfl, ?_⟩
    rw [CUT.out]
    exact ⟨V1, HQ1.out.below bwE, V2, below_then ow9 bwE⟩
end FG
end Go.Proofs.Ytpkfakndlbngbaa
