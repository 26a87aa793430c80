/-
  The walk of the law BinoJoins. Conditions: no more than 1048576 numbers in all lists.
-/
import Derived.Test.YtdeffgaghmghoaaBinoed
namespace Go.Proofs.Ytdeffgaghmghoaa
open Go.RowKit Go.Deep
open Go.Proofs.Ytdeffgaghmghoaa.BH

set_option linter.unusedVariables false
set_option maxHeartbeats 4000000 in
set_option maxRecDepth 100000 in
theorem BinoJoins_walk (a0 : Option Addr) (n0 c0 : Nat) (x0 : List Int) (a1 : Option Addr) (n1 c1 : Nat) (x1 : List Int) (a2 : Option Addr) (n2 c2 : Nat) (x2 : List Int) (w : World)
    (s0 : Sl w a0 n0 c0 x0) (i0 : ∀ n ∈ x0, I64 n) (s1 : Sl w a1 n1 c1 x1) (i1 : ∀ n ∈ x1, I64 n) (s2 : Sl w a2 n2 c2 x2) (i2 : ∀ n ∈ x2, I64 n) (hN : n0 + n1 + n2 ≤ 1048576) :
    Calls Try.prog 5 #[.slice a0 n0 c0, .slice a1 n1 c1, .slice a2 n2 c2] w fun e w' => e = .returned (.bool true) ∧ Below w.heap.size w w' := by
  have L0 := Lib.hid s0.hlen
  have L1 := Lib.hid s1.hlen
  have L2 := Lib.hid s2.hlen
  go_enter Try.func5, Try.ntmps5
  go_wp2_with fail
  refine (binoed_any _).mono ?_
  rintro e w1 ⟨rfl, bx⟩
  have B := bx
  clear bx
  go_wp2_with fail
  refine (of_any a0 n0 c0 x0 _ (s0.below B) (by omega)).mono ?_
  rintro e w2 ⟨q0, nq0, cq0, rfl, h0, bx⟩
  replace B := below_then B bx
  clear bx
  go_wp2_with fail
  refine (of_any a1 n1 c1 x1 _ ((s1.below B).alloc _) (by omega)).mono ?_
  rintro e w3 ⟨q1, nq1, cq1, rfl, h1, bx⟩
  obtain ⟨bx, A⟩ := hold1 bx ⟨rfl, rfl, rfl, rfl⟩
  replace h0 := h0.below bx
  replace B := below_then B bx
  clear bx
  go_wp2_with fail
  refine (of_any a2 n2 c2 x2 _ ((s2.below B).alloc _) (by omega)).mono ?_
  rintro e w4 ⟨q2, nq2, cq2, rfl, h2, bx⟩
  obtain ⟨bx, Bb⟩ := hold1 bx ⟨rfl, rfl, rfl, rfl⟩
  replace h0 := h0.below bx
  replace A := blk_below A bx
  replace h1 := h1.below bx
  replace B := below_then B bx
  clear bx
  obtain ⟨ua, uua, uuua⟩ := blk A
  obtain ⟨ub, uub, uuub⟩ := blk Bb
  go_wp2_with fail
  go_region_held3 (fun w' => w'.cell? ⟨w2.heap.size, 0, none⟩ = some (.slice q0 nq0 cq0) ∧ w'.cell? ⟨w3.heap.size, 0, none⟩ = some (.slice q1 nq1 cq1) ∧ w'.cell? ⟨w4.heap.size, 0, none⟩ = some (.slice q2 nq2 cq2)) (go_keep) (first
      | (go_at_call_of 8 (Value.slice p1 np1 cp1); refine (join_any (met (ofL x0) (ofL x1)) (ofL x2) p1 np1 cp1 q2 nq2 cq2 _ k1 (h2.below b1) (by rw [met_size, ofL_size, ofL_size, ofL_size, L0.out, L1.out, L2.out]; omega)).mono ?_; rintro e v2 ⟨p2, np2, cp2, rfl, k2, b2⟩; have A2 := blk_below A1 b2; have B2 := blk_below B1 b2; have C2 := blk_below C1 b2; replace b2 := below_then b1 b2; obtain ⟨ea2, fa2, ga2⟩ := blk A2; obtain ⟨eb2, fb2, gb2⟩ := blk B2; obtain ⟨ec2, fc2, gc2⟩ := blk C2)
      | (go_at_call_of 8 (Value.slice p4 np4 cp4); refine (join_any (met (ofL x2) (ofL x0)) (ofL x1) p4 np4 cp4 q1 nq1 cq1 _ k4 (h1.below b4) (by rw [met_size, ofL_size, ofL_size, ofL_size, L2.out, L0.out, L1.out]; omega)).mono ?_; rintro e v5 ⟨p5, np5, cp5, rfl, k5, b5⟩; have t5 := t4.below b5; have A5 := blk_below A4 b5; have B5 := blk_below B4 b5; have C5 := blk_below C4 b5; replace b5 := below_then b4 b5; obtain ⟨ea5, fa5, ga5⟩ := blk A5; obtain ⟨eb5, fb5, gb5⟩ := blk B5; obtain ⟨ec5, fc5, gc5⟩ := blk C5)
      | (go_at_call_of 8 (Value.slice q2 nq2 cq2); refine (join_any (ofL x2) (ofL x0) q2 nq2 cq2 q0 nq0 cq0 _ (h2.below b3) (h0.below b3) (by rw [ofL_size, ofL_size, L2.out, L0.out]; omega)).mono ?_; rintro e v4 ⟨p4, np4, cp4, rfl, k4, b4⟩; have t4 := s3.below b4; have A4 := blk_below A3 b4; have B4 := blk_below B3 b4; have C4 := blk_below C3 b4; replace b4 := below_then b3 b4; obtain ⟨ea4, fa4, ga4⟩ := blk A4; obtain ⟨eb4, fb4, gb4⟩ := blk B4; obtain ⟨ec4, fc4, gc4⟩ := blk C4)
      | (go_at_call_of 8 (Value.slice q0 nq0 cq0); refine (join_any (ofL x0) (ofL x1) q0 nq0 cq0 q1 nq1 cq1 _ (by first | exact (h0.alloc _).drew | exact (h0.alloc _).drewN _) (by first | exact (h1.alloc _).drew | exact (h1.alloc _).drewN _) (by rw [ofL_size, ofL_size, L0.out, L1.out]; omega)).mono ?_; rintro e v1 ⟨p1, np1, cp1, rfl, k1, b1⟩; obtain ⟨b1, C1⟩ := hold1 b1 ⟨rfl, rfl, rfl, rfl⟩; have A1 := blk_below A b1; have B1 := blk_below Bb b1; obtain ⟨ea1, fa1, ga1⟩ := blk A1; obtain ⟨eb1, fb1, gb1⟩ := blk B1; obtain ⟨ec1, fc1, gc1⟩ := blk C1)
      | (go_at_call_of 13 (Value.slice p5 np5 cp5); refine (ints_any (met (met (ofL x2) (ofL x0)) (ofL x1)) p5 np5 cp5 _ k5 (by rw [met_size, met_size, ofL_size, ofL_size, ofL_size, L2.out, L0.out, L1.out]; omega)).mono ?_; rintro e v6 ⟨y6, rfl, o6, b6⟩; obtain ⟨a6, c6, rfl, s6⟩ := Sl.of_own o6; have t6 := t5.below b6; have A6 := blk_below A5 b6; have B6 := blk_below B5 b6; have C6 := blk_below C5 b6; replace b6 := below_then b5 b6; obtain ⟨ea6, fa6, ga6⟩ := blk A6; obtain ⟨eb6, fb6, gb6⟩ := blk B6; obtain ⟨ec6, fc6, gc6⟩ := blk C6)
      | (go_at_call_of 13 (Value.slice p2 np2 cp2); refine (ints_any (met (met (ofL x0) (ofL x1)) (ofL x2)) p2 np2 cp2 _ k2 (by rw [met_size, met_size, ofL_size, ofL_size, ofL_size, L0.out, L1.out, L2.out]; omega)).mono ?_; rintro e v3 ⟨y3, rfl, o3, b3⟩; obtain ⟨a3, c3, rfl, s3⟩ := Sl.of_own o3; have A3 := blk_below A2 b3; have B3 := blk_below B2 b3; have C3 := blk_below C2 b3; replace b3 := below_then b2 b3; obtain ⟨ea3, fa3, ga3⟩ := blk A3; obtain ⟨eb3, fb3, gb3⟩ := blk B3; obtain ⟨ec3, fc3, gc3⟩ := blk C3)
      | (go_at_call 10; refine (same_yes _ _ _ _ _ _ _ _ _ t6 s6 (ofL_join3 x0 x1 x2)).mono ?_; rintro e v7 ⟨rfl, b7⟩; have A7 := blk_below A6 b7; have B7 := blk_below B6 b7; have C7 := blk_below C6 b7; replace b7 := below_then b6 b7; obtain ⟨ea7, fa7, ga7⟩ := blk A7; obtain ⟨eb7, fb7, gb7⟩ := blk B7; obtain ⟨ec7, fc7, gc7⟩ := blk C7))
  replace h0 := h0.below b7
  replace h1 := h1.below b7
  replace h2 := h2.below b7
  replace B := below_then B b7
  clear A Bb b1 b2 b3 b4 b5 b6 b7 A1 A2 A3 A4 A5 A6 B1 B2 B3 B4 B5 B6 C1 C2 C3 C4 C5 C6 ua ub ea1 ea2 ea3 ea4 ea5 ea6 ea7 eb1 eb2 eb3 eb4 eb5 eb6 eb7 ec1 ec2 ec3 ec4 ec5 ec6 ec7 k1 k2 k4 k5 o3 o6 s3 s6 t4 t5 t6
  have g1 := least_comm x0 x1
  have G1 := Lib.hid g1
  clear g1
  obtain ⟨u0, uu0, uuu0⟩ := blk A7
  obtain ⟨u1, uu1, uuu1⟩ := blk B7
  go_wp2_with fail
  refine (join_any (ofL x0) (ofL x1) q0 nq0 cq0 q1 nq1 cq1 _ h0 h1 (by rw [ofL_size, ofL_size, L0.out, L1.out]; omega)).mono ?_
  rintro e w5 ⟨p, np, cp, rfl, k, bx⟩
  clear u0 uu0 uuu0
  clear u1 uu1 uuu1
  replace A7 := blk_below A7 bx
  replace B7 := blk_below B7 bx
  replace C7 := blk_below C7 bx
  replace h0 := h0.below bx
  replace h1 := h1.below bx
  replace h2 := h2.below bx
  replace B := below_then B bx
  clear bx
  go_wp2_with fail
  refine (min_any _ p np cp _ k).mono ?_
  rintro e w6 ⟨rfl, bx⟩
  replace A7 := blk_below A7 bx
  replace B7 := blk_below B7 bx
  replace C7 := blk_below C7 bx
  replace h0 := h0.below bx
  replace h1 := h1.below bx
  replace h2 := h2.below bx
  replace B := below_then B bx
  clear bx
  clear k
  obtain ⟨u0, uu0, uuu0⟩ := blk A7
  obtain ⟨u1, uu1, uuu1⟩ := blk B7
  go_wp2_with fail
  refine (join_any (ofL x1) (ofL x0) q1 nq1 cq1 q0 nq0 cq0 _ h1 h0 (by rw [ofL_size, ofL_size, L1.out, L0.out]; omega)).mono ?_
  rintro e w7 ⟨p, np, cp, rfl, k, bx⟩
  clear u0 uu0 uuu0
  clear u1 uu1 uuu1
  replace A7 := blk_below A7 bx
  replace B7 := blk_below B7 bx
  replace C7 := blk_below C7 bx
  replace h0 := h0.below bx
  replace h1 := h1.below bx
  replace h2 := h2.below bx
  replace B := below_then B bx
  clear bx
  go_wp2_with fail
  refine (min_any _ p np cp _ k).mono ?_
  rintro e w8 ⟨rfl, bx⟩
  replace A7 := blk_below A7 bx
  replace B7 := blk_below B7 bx
  replace C7 := blk_below C7 bx
  replace h0 := h0.below bx
  replace h1 := h1.below bx
  replace h2 := h2.below bx
  replace B := below_then B bx
  clear bx
  clear k
  obtain ⟨u0, uu0, uuu0⟩ := blk A7
  go_wp2_with fail
  refine (ints_any (ofL x0) q0 nq0 cq0 _ h0 (by rw [ofL_size, L0.out]; omega)).mono ?_
  rintro e w9 ⟨vp, rfl, op, bx⟩
  clear u0 uu0 uuu0
  replace A7 := blk_below A7 bx
  replace B7 := blk_below B7 bx
  replace C7 := blk_below C7 bx
  replace h0 := h0.below bx
  replace h1 := h1.below bx
  replace h2 := h2.below bx
  replace B := below_then B bx
  clear bx
  obtain ⟨ap, cp, rfl, sp⟩ := Sl.of_own op
  clear op
  go_wp2_with fail
  refine (sorted_any a0 n0 c0 x0 _ (s0.below B) (by omega)).mono ?_
  rintro e w10 ⟨aq, cq, rfl, sq, bx⟩
  replace A7 := blk_below A7 bx
  replace B7 := blk_below B7 bx
  replace C7 := blk_below C7 bx
  replace h0 := h0.below bx
  replace h1 := h1.below bx
  replace h2 := h2.below bx
  replace sp := sp.below bx
  replace B := below_then B bx
  clear bx
  go_wp2_with fail
  refine (same_yes _ _ _ _ _ _ _ _ _ sp sq (ofL_sort x0)).mono ?_
  rintro e w11 ⟨rfl, bx⟩
  replace A7 := blk_below A7 bx
  replace B7 := blk_below B7 bx
  replace C7 := blk_below C7 bx
  replace h0 := h0.below bx
  replace h1 := h1.below bx
  replace h2 := h2.below bx
  replace sp := sp.below bx
  replace sq := sq.below bx
  replace B := below_then B bx
  clear bx
  have G3 : (met (ofL x0) (ofL x1)).least.2 = decide ((0 : Int) < (n0 : Int) + (n1 : Int)) := by
    rw [least_has, L0.out, L1.out, Bool.eq_iff_iff]
    simp
    omega
  rw [← G1.out, G3]
  clear G3
  go_wp2_with fail
  go_ret
  exact ⟨rfl, B⟩
end Go.Proofs.Ytdeffgaghmghoaa
