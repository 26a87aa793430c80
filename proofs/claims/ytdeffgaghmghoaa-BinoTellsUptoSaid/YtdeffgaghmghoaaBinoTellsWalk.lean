/-
  The walk of the law BinoTells. Conditions: no more than 1048576 numbers in both lists.
-/
import Derived.Test.YtdeffgaghmghoaaBinoed
namespace Go.Proofs.Ytdeffgaghmghoaa
open Go.RowKit Go.Deep
open Go.Proofs.Ytdeffgaghmghoaa.BH

set_option linter.unusedVariables false
set_option maxHeartbeats 4000000 in
set_option maxRecDepth 100000 in
theorem BinoTells_walk (a0 : Option Addr) (n0 c0 : Nat) (x0 : List Int) (a1 : Option Addr) (n1 c1 : Nat) (x1 : List Int) (x2 : Int) (w : World)
    (s0 : Sl w a0 n0 c0 x0) (i0 : ∀ n ∈ x0, I64 n) (s1 : Sl w a1 n1 c1 x1) (i1 : ∀ n ∈ x1, I64 n) (i2 : I64 x2) (hN : n0 + n1 ≤ 1048576) :
    Calls Try.prog 4 #[.slice a0 n0 c0, .slice a1 n1 c1, .int .i64 x2] w fun e w' => e = .returned (.bool true) ∧ Below w.heap.size w w' := by
  obtain ⟨t0, hi0, hz0, hz1, hz2⟩ := info_parts Try.infoInt
  have L0 := Lib.hid s0.hlen
  have L1 := Lib.hid s1.hlen
  have z0 : (ofL x0).size ≤ n0 := by rw [ofL_size, L0.out]; exact Nat.le_refl _
  have z1 : (ofL x1).size ≤ n1 := by rw [ofL_size, L1.out]; exact Nat.le_refl _
  go_enter Try.func4, Try.ntmps4
  go_wp2_with fail
  refine (binoed_any _).mono ?_
  rintro e w1 ⟨rfl, b1⟩
  go_wp2_with fail
  refine (of_any a0 n0 c0 x0 _ (s0.below b1) (by omega)).mono ?_
  rintro e w2 ⟨qa, nqa, cqa, rfl, ha, b2⟩
  replace b2 := below_then b1 b2
  go_wp2_with fail
  refine (push_any x2 (ofL x0) qa nqa cqa _ (ha.alloc _) (by omega)).mono ?_
  rintro e w3 ⟨qb, nqb, cqb, rfl, hb, b3⟩
  obtain ⟨b3, A3⟩ := hold1 b3 ⟨rfl, rfl, rfl, rfl⟩
  replace ha := ha.below b3
  replace b3 := below_then b2 b3
  obtain ⟨u0, u1, u2⟩ := blk A3
  go_wp2_with fail
  go_cut [10] (fun v wx => ∃ (C : Nat) (qc : Option Addr) (nqc cqc : Nat), v = .pointer (some ⟨C, 0, none⟩) ∧ wx.heap[C]? = some (.cells #[.slice qc nqc cqc] 26) ∧ wx.heap[w2.heap.size]? = some (.cells #[.slice qa nqa cqa] 26) ∧ wx.heap[w3.heap.size]? = some (.cells #[.slice qb nqb cqb] 26) ∧
    In wx qa nqa cqa (ofL x0) ∧ In wx qb nqb cqb (push (ofL x0) x2) ∧ In wx qc nqc cqc (met (ofL x0) (ofL x1)) ∧ Below w.heap.size w wx)
  case first =>
    go_region_held3 (fun w' => w'.cell? ⟨w2.heap.size, 0, none⟩ = some (.slice qa nqa cqa)) (go_keep) (first
      | (go_at_call 7; refine (of_any a1 n1 c1 x1 _ (by first | exact (((s1.below b3).alloc _).drew).alloc _ | exact ((s1.below b3).alloc _).drew) (by omega)).mono ?_; rintro e w4 ⟨q4, nq4, cq4, rfl, h4, b4⟩; first
        | (obtain ⟨b4, B4, C4⟩ := hold2 b4 ⟨rfl, rfl, rfl, rfl⟩; have A4 := blk_below A3 b4; obtain ⟨v0, v1, v2⟩ := blk A4; obtain ⟨t0', t1', t2'⟩ := blk C4)
        | (obtain ⟨b4, B4⟩ := hold1 b4 ⟨rfl, rfl, rfl, rfl⟩; have A4 := blk_below A3 b4; obtain ⟨v0, v1, v2⟩ := blk A4))
      | (go_at_call 8; first
        | (refine (join_any (ofL x0) (ofL x1) qa nqa cqa q4 nq4 cq4 _ ((ha.below b4).alloc _) (h4.alloc _) (by omega)).mono ?_; rintro e w5 ⟨qc, nqc, cqc, rfl, hc, b5⟩; obtain ⟨b5, C5⟩ := hold1 b5 ⟨rfl, rfl, rfl, rfl⟩; have A5 := blk_below A4 b5; have B5 := blk_below B4 b5; obtain ⟨x0', x1', x2'⟩ := blk A5; obtain ⟨y0', y1', y2'⟩ := blk C5; have hne : ¬ w2.heap.size = w4.heap.size := (by omega); have hne2 : ¬ w4.heap.size = w2.heap.size := (by omega); have hne3 : ¬ w3.heap.size = w4.heap.size := (by have := (blk B4).2.2; omega))
        | (refine (join_any (ofL x0) (ofL x1) qa nqa cqa q4 nq4 cq4 _ (ha.below b4) h4 (by omega)).mono ?_; rintro e w5 ⟨qc, nqc, cqc, rfl, hc, b5⟩; have A5 := blk_below A4 b5; have B5 := blk_below B4 b5; have C5 := blk_below C4 b5; obtain ⟨x0', x1', x2'⟩ := blk A5; obtain ⟨y0', y1', y2'⟩ := blk C5; have hne : ¬ w2.heap.size = w3.heap.size + 1 := (by omega); have hne2 : ¬ w3.heap.size + 1 = w2.heap.size := (by omega); have hne3 : ¬ w3.heap.size = w3.heap.size + 1 := (by omega))
        | (refine (join_any (ofL x0) (ofL x1) qa nqa cqa q4 nq4 cq4 _ (ha.below b4) h4 (by omega)).mono ?_; rintro e w5 ⟨qc, nqc, cqc, rfl, hc, b5⟩; have A5 := blk_below A4 b5; have B5 := blk_below B4 b5; obtain ⟨x0', x1', x2'⟩ := blk A5)))
    all_goals (go_wp2_with fail; go_meet)
    all_goals first
      | exact ⟨w4.heap.size, qc, nqc, cqc, rfl, (blk_set (i := 0) (v := .slice qc nqc cqc) C5), (blk_far A5 hne), (blk_far B5 hne3), (((ha.below b4).below b5).keep (.setCell C5 (by decide)) (.setCell C5 (by decide))), (((hb.below b4).below b5).keep (.setCell C5 (by decide)) (.setCell C5 (by decide))), (hc.keep (.setCell C5 (by decide)) (.setCell C5 (by decide))), ((below_then (below_then b3 b4) b5).setCell (p := ⟨w4.heap.size, 0, none⟩) (below_then b3 b4).size _)⟩
      | exact ⟨w3.heap.size + 1, qc, nqc, cqc, rfl, (blk_set (i := 0) (v := .slice qc nqc cqc) C5), (blk_far A5 hne), (blk_far B5 hne3), (((ha.below b4).below b5).keep (.setCell C5 (by decide)) (.setCell C5 (by decide))), (((hb.below b4).below b5).keep (.setCell C5 (by decide)) (.setCell C5 (by decide))), (hc.keep (.setCell C5 (by decide)) (.setCell C5 (by decide))), ((below_then (below_then b3 b4) b5).setCell (p := ⟨w3.heap.size + 1, 0, none⟩) (by have := b3.size; simp; omega) _)⟩
      | exact ⟨_, qc, nqc, cqc, rfl, heap_alloc_new _ _, (Below.heap_alloc _ _ _ x2').trans A5, (Below.heap_alloc _ _ _ (blk B5).2.2).trans B5, ((ha.below b4).below b5).alloc _, ((hb.below b4).below b5).alloc _, hc.alloc _, (below_then (below_then b3 b4) b5).alloc (below_then (below_then b3 b4) b5).size _⟩
  case rest =>
  obtain ⟨C, qc, nqc, cqc, rfl, C5, A5, B5, ha', hb', hc, B⟩ := hcut
  clear ha hb A3 u0 u1 u2 b1 b2 b3
  obtain ⟨u0, uu0, uuu0⟩ := blk A5
  go_wp2_with fail
  refine (ints_any (ofL x0) qa nqa cqa _ ha' (by omega)).mono ?_
  rintro e w6 ⟨vp, rfl, op, bx⟩
  clear u0 uu0 uuu0
  replace A5 := blk_below A5 bx
  replace B5 := blk_below B5 bx
  replace C5 := blk_below C5 bx
  replace ha' := ha'.below bx
  replace hb' := hb'.below bx
  replace hc := hc.below bx
  replace B := below_then B bx
  clear bx
  obtain ⟨ap, cp, rfl, sp⟩ := Sl.of_own op
  clear op
  go_wp2_with fail
  refine (sorted_any a0 n0 c0 x0 _ (s0.below B) (by omega)).mono ?_
  rintro e w7 ⟨aq, cq, rfl, sq, bx⟩
  replace A5 := blk_below A5 bx
  replace B5 := blk_below B5 bx
  replace C5 := blk_below C5 bx
  replace ha' := ha'.below bx
  replace hb' := hb'.below bx
  replace hc := hc.below bx
  replace sp := sp.below bx
  replace B := below_then B bx
  clear bx
  go_wp2_with fail
  refine (same_yes _ _ _ _ _ _ _ _ _ sp sq (ofL_sort x0)).mono ?_
  rintro e w8 ⟨rfl, bx⟩
  replace A5 := blk_below A5 bx
  replace B5 := blk_below B5 bx
  replace C5 := blk_below C5 bx
  replace ha' := ha'.below bx
  replace hb' := hb'.below bx
  replace hc := hc.below bx
  replace sp := sp.below bx
  replace sq := sq.below bx
  replace B := below_then B bx
  clear bx
  clear sp sq
  obtain ⟨u0, uu0, uuu0⟩ := blk B5
  go_wp2_with fail
  refine (ints_any _ qb nqb cqb _ hb' (by rw [push_size]; omega)).mono ?_
  rintro e w9 ⟨vp, rfl, op, bx⟩
  clear u0 uu0 uuu0
  replace A5 := blk_below A5 bx
  replace B5 := blk_below B5 bx
  replace C5 := blk_below C5 bx
  replace ha' := ha'.below bx
  replace hb' := hb'.below bx
  replace hc := hc.below bx
  replace B := below_then B bx
  clear bx
  obtain ⟨ap, cp, rfl, sp⟩ := Sl.of_own op
  clear op
  go_wp2_with fail
  refine (cat_any a0 none n0 0 c0 0 x0 [] _ (s0.below B) (Sl.nil _) (by omega)).mono ?_
  rintro e wk ⟨vr, rfl, or, bx⟩
  have hszk := bx.size
  go_wp2_with (at_builtin; refine wpList_append_own _ rfl _ _ 22 rfl w9.heap.size 3 t0 (.int .i64 0) 1 8 Try.underlying22 hi0 hz0 hz1 hz2 rfl (by decide) _ _ _ rfl (or.alloc _) ⟨wk.heap.size, 0, none⟩ 1 1 [.int .i64 x2] rfl rfl (cell_one_new _ _ _) (by simp [Value.oneCell']) (by unfold maxLen; omega) (by omega) (by simp; omega) ?_; intro vs ws ors hgs _)
  replace bx := below_grown (bx.alloc hszk _) (or.alloc _) hgs (Nat.le_refl _) (by simp; omega)
  obtain ⟨ar, cr, rfl, sr⟩ := Sl.of_own (xs := x0 ++ [x2]) (by simpa using ors)
  clear or ors hgs hszk
  replace A5 := blk_below A5 bx
  replace B5 := blk_below B5 bx
  replace C5 := blk_below C5 bx
  replace ha' := ha'.below bx
  replace hb' := hb'.below bx
  replace hc := hc.below bx
  replace sp := sp.below bx
  replace B := below_then B bx
  clear bx
  go_wp2_with fail
  refine (sorted_any _ _ _ _ _ sr (by omega)).mono ?_
  rintro e w10 ⟨aq, cq, rfl, sq, bx⟩
  replace A5 := blk_below A5 bx
  replace B5 := blk_below B5 bx
  replace C5 := blk_below C5 bx
  replace ha' := ha'.below bx
  replace hb' := hb'.below bx
  replace hc := hc.below bx
  replace sp := sp.below bx
  replace sr := sr.below bx
  replace B := below_then B bx
  clear bx
  clear sr
  go_wp2_with fail
  refine (same_yes _ _ _ _ _ _ _ _ _ sp sq (ofL_push x0 x2)).mono ?_
  rintro e w11 ⟨rfl, bx⟩
  replace A5 := blk_below A5 bx
  replace B5 := blk_below B5 bx
  replace C5 := blk_below C5 bx
  replace ha' := ha'.below bx
  replace hb' := hb'.below bx
  replace hc := hc.below bx
  replace sp := sp.below bx
  replace sq := sq.below bx
  replace B := below_then B bx
  clear bx
  clear sp sq
  obtain ⟨u0, uu0, uuu0⟩ := blk C5
  go_wp2_with fail
  refine (ints_any _ qc nqc cqc _ hc (by rw [met_size]; omega)).mono ?_
  rintro e w12 ⟨vp, rfl, op, bx⟩
  clear u0 uu0 uuu0
  replace A5 := blk_below A5 bx
  replace B5 := blk_below B5 bx
  replace C5 := blk_below C5 bx
  replace ha' := ha'.below bx
  replace hb' := hb'.below bx
  replace hc := hc.below bx
  replace B := below_then B bx
  clear bx
  obtain ⟨ap, cp, rfl, sp⟩ := Sl.of_own op
  clear op
  go_wp2_with fail
  refine (cat_any a0 a1 n0 n1 c0 c1 x0 x1 _ (s0.below B) (s1.below B) (by omega)).mono ?_
  rintro e w13 ⟨vr, rfl, or, bx⟩
  replace A5 := blk_below A5 bx
  replace B5 := blk_below B5 bx
  replace C5 := blk_below C5 bx
  replace ha' := ha'.below bx
  replace hb' := hb'.below bx
  replace hc := hc.below bx
  replace sp := sp.below bx
  replace B := below_then B bx
  clear bx
  obtain ⟨ar, cr, rfl, sr⟩ := Sl.of_own or
  clear or
  go_wp2_with fail
  refine (sorted_any _ _ _ _ _ sr (by omega)).mono ?_
  rintro e w14 ⟨aq, cq, rfl, sq, bx⟩
  replace A5 := blk_below A5 bx
  replace B5 := blk_below B5 bx
  replace C5 := blk_below C5 bx
  replace ha' := ha'.below bx
  replace hb' := hb'.below bx
  replace hc := hc.below bx
  replace sp := sp.below bx
  replace sr := sr.below bx
  replace B := below_then B bx
  clear bx
  clear sr
  go_wp2_with fail
  refine (same_yes _ _ _ _ _ _ _ _ _ sp sq (ofL_join x0 x1)).mono ?_
  rintro e w15 ⟨rfl, bx⟩
  replace A5 := blk_below A5 bx
  replace B5 := blk_below B5 bx
  replace C5 := blk_below C5 bx
  replace ha' := ha'.below bx
  replace hb' := hb'.below bx
  replace hc := hc.below bx
  replace sp := sp.below bx
  replace sq := sq.below bx
  replace B := below_then B bx
  clear bx
  clear sp sq
  have f1 : (((ofL x0).size : Int) != (n0 : Int)) = false := by rw [ofL_size, L0.out]; simp
  have f2 : ((((met (ofL x0) (ofL x1))).size : Int) != (n0 : Int) + (n1 : Int)) = false := by rw [met_size, ofL_size, ofL_size, L0.out, L1.out]; simp
  obtain ⟨u0, uu0, uuu0⟩ := blk A5
  go_wp2_with fail
  refine (len_any (ofL x0) qa nqa cqa _ ha').mono ?_
  rintro e w16 ⟨rfl, bx⟩
  clear u0 uu0 uuu0
  replace A5 := blk_below A5 bx
  replace B5 := blk_below B5 bx
  replace C5 := blk_below C5 bx
  replace ha' := ha'.below bx
  replace hb' := hb'.below bx
  replace hc := hc.below bx
  replace B := below_then B bx
  clear bx
  obtain ⟨u0, uu0, uuu0⟩ := blk C5
  go_wp2_with fail
  refine (len_any (met (ofL x0) (ofL x1)) qc nqc cqc _ hc).mono ?_
  rintro e w17 ⟨rfl, bx⟩
  clear u0 uu0 uuu0
  replace A5 := blk_below A5 bx
  replace B5 := blk_below B5 bx
  replace C5 := blk_below C5 bx
  replace ha' := ha'.below bx
  replace hb' := hb'.below bx
  replace hc := hc.below bx
  replace B := below_then B bx
  clear bx
  rcases Nat.eq_zero_or_pos n0 with h0 | h0
  · subst h0
    have e0 : ofL x0 = nil := ofL_none L0.out
    rw [e0] at ha'
    have E0 := Lib.hid e0
    clear e0
    have f4 : ((((met (ofL x0) (ofL x1))).size : Int) != (n1 : Int)) = false := by rw [met_size, ofL_size, ofL_size, L0.out, L1.out]; simp
    obtain ⟨u0, uu0, uuu0⟩ := blk A5
    go_wp2_with fail
    refine (min_any nil qa nqa cqa _ ha').mono ?_
    rintro e w18 ⟨rfl, bx⟩
    clear u0 uu0 uuu0
    replace A5 := blk_below A5 bx
    replace B5 := blk_below B5 bx
    replace C5 := blk_below C5 bx
    replace ha' := ha'.below bx
    replace hb' := hb'.below bx
    replace hc := hc.below bx
    replace B := below_then B bx
    clear bx
    obtain ⟨u0, uu0, uuu0⟩ := blk A5
    go_wp2_with fail
    refine (pop_any nil qa nqa cqa _ ha').mono ?_
    rintro e w19 ⟨qd, nqd, cqd, rfl, hd, bx⟩
    clear u0 uu0 uuu0
    replace A5 := blk_below A5 bx
    replace B5 := blk_below B5 bx
    replace C5 := blk_below C5 bx
    replace ha' := ha'.below bx
    replace hb' := hb'.below bx
    replace hc := hc.below bx
    replace B := below_then B bx
    clear bx
    go_wp2_with fail
    refine (len_any (pop nil) qd nqd cqd _ (hd.alloc _)).mono ?_
    rintro e w20 ⟨rfl, bx⟩
    obtain ⟨bx, D⟩ := hold1 bx ⟨rfl, rfl, rfl, rfl⟩
    replace A5 := blk_below A5 bx
    replace B5 := blk_below B5 bx
    replace C5 := blk_below C5 bx
    replace ha' := ha'.below bx
    replace hb' := hb'.below bx
    replace hc := hc.below bx
    replace B := below_then B bx
    clear bx
    go_wp2_with fail
    go_ret
    exact ⟨rfl, B⟩
  · obtain ⟨e1, e2⟩ := ofL_first (l := x0) (by rw [L0.out]; exact h0)
    have f3 : ((n0 : Int) == 0) = false := by simp; omega
    have E1 := Lib.hid e1
    have E2 := Lib.hid e2
    clear e1 e2
    obtain ⟨u0, uu0, uuu0⟩ := blk A5
    go_wp2_with fail
    refine (min_any (ofL x0) qa nqa cqa _ ha').mono ?_
    rintro e w18 ⟨rfl, bx⟩
    clear u0 uu0 uuu0
    replace A5 := blk_below A5 bx
    replace B5 := blk_below B5 bx
    replace C5 := blk_below C5 bx
    replace ha' := ha'.below bx
    replace hb' := hb'.below bx
    replace hc := hc.below bx
    replace B := below_then B bx
    clear bx
    rw [E1.out]
    obtain ⟨u0, uu0, uuu0⟩ := blk A5
    go_wp2_with fail
    refine (pop_any (ofL x0) qa nqa cqa _ ha').mono ?_
    rintro e w19 ⟨qd, nqd, cqd, rfl, hd, bx⟩
    clear u0 uu0 uuu0
    replace A5 := blk_below A5 bx
    replace B5 := blk_below B5 bx
    replace C5 := blk_below C5 bx
    replace ha' := ha'.below bx
    replace hb' := hb'.below bx
    replace hc := hc.below bx
    replace B := below_then B bx
    clear bx
    rw [E1.out]
    go_wp2_with fail
    refine (ints_any _ qd nqd cqd _ (hd.alloc _) (by rw [pop_size]; omega)).mono ?_
    rintro e w20 ⟨vp, rfl, op, bx⟩
    obtain ⟨bx, D⟩ := hold1 bx ⟨rfl, rfl, rfl, rfl⟩
    replace A5 := blk_below A5 bx
    replace B5 := blk_below B5 bx
    replace C5 := blk_below C5 bx
    replace ha' := ha'.below bx
    replace hb' := hb'.below bx
    replace hc := hc.below bx
    replace hd := hd.below bx
    replace B := below_then B bx
    clear bx
    obtain ⟨ap, cp, rfl, sp⟩ := Sl.of_own op
    clear op
    go_wp2_with fail
    refine (sorted_any a0 n0 c0 x0 _ (s0.below B) (by omega)).mono ?_
    rintro e w21 ⟨aq, cq, rfl, sq, bx⟩
    replace A5 := blk_below A5 bx
    replace B5 := blk_below B5 bx
    replace C5 := blk_below C5 bx
    replace ha' := ha'.below bx
    replace hb' := hb'.below bx
    replace hc := hc.below bx
    replace hd := hd.below bx
    replace D := blk_below D bx
    replace sp := sp.below bx
    replace B := below_then B bx
    clear bx
    have hs1 : ∀ W : World, (Instr.slice 22 (.slice aq n0 cq) (some (.int .i64 1)) none none).run Try.prog W = .ok (.slice (cutAt aq cq 1) (n0 - 1) (cq - 1)) W := by simpa using Try.slice_from aq n0 cq 1 h0
    replace sq := sq.rest (k := 1) h0
    go_wp2_with fail
    refine (same_yes _ _ _ _ _ _ _ _ _ sp sq E2.out).mono ?_
    rintro e w22 ⟨rfl, bx⟩
    replace A5 := blk_below A5 bx
    replace B5 := blk_below B5 bx
    replace C5 := blk_below C5 bx
    replace ha' := ha'.below bx
    replace hb' := hb'.below bx
    replace hc := hc.below bx
    replace hd := hd.below bx
    replace D := blk_below D bx
    replace sp := sp.below bx
    replace sq := sq.below bx
    replace B := below_then B bx
    clear bx
    clear sp sq
    clear hs1
    go_wp2_with fail
    refine (sorted_any a0 n0 c0 x0 _ (s0.below B) (by omega)).mono ?_
    rintro e w23 ⟨aq, cq, rfl, sq, bx⟩
    replace A5 := blk_below A5 bx
    replace B5 := blk_below B5 bx
    replace C5 := blk_below C5 bx
    replace ha' := ha'.below bx
    replace hb' := hb'.below bx
    replace hc := hc.below bx
    replace hd := hd.below bx
    replace D := blk_below D bx
    replace B := below_then B bx
    clear bx
    obtain ⟨bq, oq, rfl, hbq, hcq⟩ := sq.hat h0
    have g0 := hcq 0 h0
    rw [Nat.add_zero] at g0
    clear hcq
    go_wp2_with fail
    go_ret
    exact ⟨rfl, B⟩
end Go.Proofs.Ytdeffgaghmghoaa
