/-
  The walk of the law TopLists. Conditions: the list has at most 2^44 - 512 numbers (the row's own reach).
-/
import Derived.Test.YtpkfakndlbngbaaTopAt
import Derived.Test.YtpkfakndlbngbaaMQo
import Derived.Test.YtpkfakndlbngbaaRalOf
import Derived.Test.YtpkfakndlbngbaaRalInts
import Derived.Test.YtpkfakndlbngbaaSame
namespace Go.Proofs.Ytpkfakndlbngbaa
open Go.RowKit Go.Deep Go.BigFrame
set_option linter.unusedVariables false
set_option maxHeartbeats 4000000 in
set_option maxRecDepth 100000 in
theorem TopLists_walk (a0 : Option Addr) (n0 c0 : Nat) (x0 : List Int) (x1 x2 : Int) (w : World)
    (s0 : Sl w a0 n0 c0 x0) (i0 : ∀ n ∈ x0, I64 n) (e0 : n0 ≤ 17592186043904) (i1 : I64 x1) (i2 : I64 x2) :
    Calls Try.prog 3 #[.slice a0 n0 c0, .int .i64 x1, .int .i64 x2] w fun e w' => e = .returned (.bool true) ∧ Below w.heap.size w w' := by
  have L0 := Lib.hid s0.hlen
  obtain ⟨y, bb, at1, at2, at3⟩ := at_three x0 x2 (by rw [L0.out]; omega)
  have AT1 := Lib.hid at1
  have AT2 := Lib.hid at2
  have AT3 := Lib.hid at3
  have S0 := Lib.hid s0
  have OL := Lib.hid (FG.ofL_ok x0)
  obtain ⟨v0, hv0⟩ : ∃ v0, FG.ofL x0 = v0 := ⟨_, rfl⟩
  rw [hv0] at OL
  have HV0 := Lib.hid hv0
  clear s0 i0 i1 i2 at1 at2 at3 hv0
  go_enter Try.func3, Try.ntmps3
  go_wp2_with fail
  refine (LI.of_ls a0 n0 c0 x0 _ S0.out (by omega)).mono ?_
  rintro e w1 ⟨q0, m0, rfl, h0, B⟩
  have HL := Lib.hid h0
  replace B := Lib.hid B
  clear h0
  go_wp2_with fail
  obtain ⟨w2, hn⟩ : ∃ W, w1.alloc (.cells #[.pointer q0, .int .i64 m0] 25) = W := ⟨_, rfl⟩
  obtain ⟨A, hk⟩ : ∃ k, w1.heap.size = k := ⟨_, rfl⟩
  have xa : w2.heap[A]? = some (.cells #[.pointer q0, .int .i64 m0] 25 (0, 0)) := by rw [← hn, ← hk]; exact heap_alloc_new _ _
  have b2 : Below w1.heap.size w1 w2 := by rw [← hn]; exact (Below.refl _ _).alloc (Nat.le_refl _) _
  rw [hn, hk]
  clear hn hk
  have XA := Lib.hid xa
  replace HL := Lib.hid (HL.out.below b2)
  replace B := Lib.hid (below_then B.out b2)
  clear xa b2
  refine (RA.of_any a0 n0 c0 x0 _ (S0.out.below B.out) (by omega)).mono ?_
  rintro e w3 ⟨q1, m1, rfl, h1, b3⟩
  have HR := Lib.hid h1
  replace XA := Lib.hid (blk_below XA.out b3)
  replace HL := Lib.hid (HL.out.below b3)
  replace B := Lib.hid (below_then B.out b3)
  clear h1 b3
  go_wp2_with fail
  obtain ⟨w4, hn⟩ : ∃ W, w3.alloc (.cells #[.pointer q1, .int .i64 m1] 29) = W := ⟨_, rfl⟩
  obtain ⟨Bk, hk⟩ : ∃ k, w3.heap.size = k := ⟨_, rfl⟩
  have xb : w4.heap[Bk]? = some (.cells #[.pointer q1, .int .i64 m1] 29 (0, 0)) := by rw [← hn, ← hk]; exact heap_alloc_new _ _
  have b4 : Below w3.heap.size w3 w4 := by rw [← hn]; exact (Below.refl _ _).alloc (Nat.le_refl _) _
  rw [hn, hk]
  clear hn hk
  have XB := Lib.hid xb
  replace XA := Lib.hid (blk_below XA.out b4)
  replace HL := Lib.hid (HL.out.below b4)
  replace HR := Lib.hid (HR.out.below b4)
  replace B := Lib.hid (below_then B.out b4)
  clear xb b4
  refine (FG.of_seq a0 n0 c0 x0 _ (S0.out.below B.out) (by omega)).mono ?_
  rintro e w5 ⟨q2, rfl, h2, b5⟩
  rw [HV0.out] at h2
  have HS := Lib.hid h2
  replace XA := Lib.hid (blk_below XA.out b5)
  replace XB := Lib.hid (blk_below XB.out b5)
  replace HL := Lib.hid (HL.out.below b5)
  replace HR := Lib.hid (HR.out.below b5)
  replace B := Lib.hid (below_then B.out b5)
  clear h2 b5
  go_wp2_with fail
  obtain ⟨w6, hn6⟩ : ∃ W, w5.alloc (.cells #[.pointer q2] 35) = W := ⟨_, rfl⟩
  have hq6 : w5.heap.size + 1 = w6.heap.size := by rw [← hn6]; simp
  have xc0 : w6.heap[w5.heap.size]? = some (.cells #[.pointer q2] 35 (0, 0)) := by rw [← hn6]; exact heap_alloc_new _ _
  have b6 : Below w5.heap.size w5 w6 := by rw [← hn6]; exact (Below.refl _ _).alloc (Nat.le_refl _) _
  rw [hn6, hq6]
  obtain ⟨w7, hn7⟩ : ∃ W, w6.alloc (.cells #[.pointer none, .int .i64 0, .pointer none, .int .i64 0] 38) = W := ⟨_, rfl⟩
  have xq : QU.Box w7 w6.heap.size none 0 none 0 := by rw [← hn7]; exact QU.Box.new _ _ _ _ _
  have b7 : Below w6.heap.size w6 w7 := by rw [← hn7]; exact (Below.refl _ _).alloc (Nat.le_refl _) _
  rw [hn7]
  obtain ⟨Qb, hQb⟩ : ∃ k, w6.heap.size = k := ⟨_, rfl⟩
  obtain ⟨C, hC⟩ : ∃ k, w5.heap.size = k := ⟨_, rfl⟩
  rw [hQb] at xq b7 ⊢
  rw [hC] at xc0 ⊢
  have XC := Lib.hid xc0
  replace XA := Lib.hid (blk_below XA.out b6)
  replace XB := Lib.hid (blk_below XB.out b6)
  replace HL := Lib.hid (HL.out.below b6)
  replace HR := Lib.hid (HR.out.below b6)
  replace HS := Lib.hid (HS.out.below b6)
  replace B := Lib.hid (below_then B.out b6)
  have HQ := Lib.hid hQb
  have hwQ : w.heap.size ≤ Qb := by have := B.out.size; omega
  have XQ := Lib.hid xq
  have B7 := Lib.hid b7
  have sc0 := S0.out.hcap
  have sm0 := S0.out.hmax
  unfold maxLen at sm0
  clear hn6 hq6 xc0 b6 hn7 hQb hC xq b7
  go_loopw [11] (fun i wr => ∃ (k : Nat) (p : Option Addr) (m : Int) (q : Option Addr) (j : Int), k ≤ n0 ∧ i = .int .i64 k ∧ QU.In wr p m q j (x0.take k) ∧ QU.Box wr Qb p m q j ∧ Below Qb w6 wr) (fun i _ => n0 - (intOf i).toNat)
  case atStart => exact ⟨0, none, 0, none, 0, Nat.zero_le _, rfl, QU.In.nil _, XQ.out, B7.out⟩
  case round =>
    obtain ⟨k, p, m, q, j, hk, rfl, hi, hX, hb⟩ := hrel
    by_cases hlt : k < n0
    · obtain ⟨b, off, rfl, hbl, hc⟩ := S0.out.hat (by omega)
      have hbl6 : b < w6.heap.size := Nat.lt_of_lt_of_le hbl B.out.size
      have g := (hb.cell (p := ⟨b, off + k, none⟩) (by rw [← HQ.out]; exact hbl6)).trans ((B.out.cell (p := ⟨b, off + k, none⟩) hbl).trans (hc k hlt))
      clear hc
      have hlti : (k : Int) < (n0 : Int) := by omega
      obtain ⟨z, hz⟩ : ∃ z, x0[k]?.getD 0 = z := ⟨_, rfl⟩
      rw [hz] at g
      have ht : x0.take (k + 1) = x0.take k ++ [z] := by rw [take_snoc' x0 k (by have := L0.out; omega), hz]
      have HT := Lib.hid ht
      have hln : (x0.take k).length ≤ k := List.length_take_le _ _
      clear hz ht
      obtain ⟨uc, vc, lc⟩ := blk hX
      have c0 : wr.cell? ⟨Qb, 0, none⟩ = some (.pointer p) := uc 0
      have cf0 := vc 0
      have c1 : wr.cell? ⟨Qb, 1, none⟩ = some (.int .i64 m) := uc 1
      have cf1 := vc 1
      have c2 : wr.cell? ⟨Qb, 2, none⟩ = some (.pointer q) := uc 2
      have cf2 := vc 2
      have c3 : wr.cell? ⟨Qb, 3, none⟩ = some (.int .i64 j) := uc 3
      have cf3 := vc 3
      clear uc vc
      have HX := Lib.hid hX
      clear hX
      go_wp2_with fail
      go_region_law (first | (go_simp; go_at_call 7; refine (QU.push_any z p m q j _ _ (by first | exact hi.drew | exact hi.drewN _) (by omega)).mono ?_; rintro e w8 ⟨p2, m2, q3, j2, rfl, hi2, hb2⟩; replace hb2 := below_of_drew hb2; have y0 := HX.out.below hb2; obtain ⟨uy, vy, ly⟩ := blk y0; have e0 := uy 0; have ef0 := vy 0; have e1 := uy 1; have ef1 := vy 1; have e2 := uy 2; have ef2 := vy 2; have e3 := uy 3; have ef3 := vy 3; clear uy vy))
      all_goals
        go_wp2_with fail
        go_roundw
        case rel => exact ⟨k + 1, p2, m2, q3, j2, by omega, by go_num, by rw [HT.out]; exact hi2.keep (QU.box_keep y0 _ (by decide)), QU.box_set y0, QU.below_set4 (hb.trans (hb2.mono (by omega))) (Nat.le_refl _) _ _ _ _⟩
        case measure => simp [intOf]; omega
    · have hx0 : x0.take k = x0 := List.take_of_length_le (by have := L0.out; omega)
      rw [hx0] at hi
      have HQI := Lib.hid hi
      have XD := Lib.hid hX
      have hb6 : Below w6.heap.size w6 wr := by rw [HQ.out]; exact hb
      replace XA := Lib.hid (blk_below XA.out hb6)
      replace XB := Lib.hid (blk_below XB.out hb6)
      replace XC := Lib.hid (blk_below XC.out hb6)
      replace HL := Lib.hid (HL.out.below hb6)
      replace HR := Lib.hid (HR.out.below hb6)
      replace HS := Lib.hid (HS.out.below hb6)
      replace B := Lib.hid (below_then B.out hb6)
      have CI := Lib.hid (FG.put_first x1 v0 q2 wr HS.out OL.out.1 (by rw [← FG.Lv.len, OL.out.2, L0.out]; omega))
      have k0 := (blk XC.out).1 0
      clear hx0 hi hX hb hb6 XQ B7 hwQ
      go_wp2_with fail
      refine CI.out.mono ?_
      rintro e w9 ⟨q9, u9, rfl, V9, U9a, U9b, b9⟩
      have HD := Lib.hid V9
      have UD : Hid (u9.Ok 0 ∧ u9.toL = x1 :: x0 ∧ u9.size = n0 + 1) := Lib.hid ⟨U9a, by rw [U9b, OL.out.2], by rw [← FG.Lv.len, U9b, OL.out.2, List.length_cons, L0.out]⟩
      replace XA := Lib.hid (blk_below XA.out b9)
      replace XB := Lib.hid (blk_below XB.out b9)
      replace XC := Lib.hid (blk_below XC.out b9)
      replace XD := Lib.hid (blk_below XD.out b9)
      replace HL := Lib.hid (HL.out.below b9)
      replace HR := Lib.hid (HR.out.below b9)
      replace HS := Lib.hid (HS.out.below b9)
      replace HQI := Lib.hid (HQI.out.below b9)
      replace B := Lib.hid (below_then B.out b9)
      clear V9 U9a U9b b9 CI k0
      go_upto_region 10 with fail
      obtain ⟨w10, hn⟩ : ∃ W, w9.alloc (.cells #[.pointer q9] 35) = W := ⟨_, rfl⟩
      obtain ⟨D, hk⟩ : ∃ k, w9.heap.size = k := ⟨_, rfl⟩
      have xd : w10.heap[D]? = some (.cells #[.pointer q9] 35 (0, 0)) := by rw [← hn, ← hk]; exact heap_alloc_new _ _
      have b10 : Below w9.heap.size w9 w10 := by rw [← hn]; exact (Below.refl _ _).alloc (Nat.le_refl _) _
      rw [hn, hk]
      clear hn hk
      have XE := Lib.hid xd
      replace XA := Lib.hid (blk_below XA.out b10)
      replace XB := Lib.hid (blk_below XB.out b10)
      replace XC := Lib.hid (blk_below XC.out b10)
      replace XD := Lib.hid (blk_below XD.out b10)
      replace HL := Lib.hid (HL.out.below b10)
      replace HR := Lib.hid (HR.out.below b10)
      replace HS := Lib.hid (HS.out.below b10)
      replace HQI := Lib.hid (HQI.out.below b10)
      replace HD := Lib.hid (HD.out.below b10)
      replace B := Lib.hid (below_then B.out b10)
      clear xd b10
      have ca0 := (blk XA.out).1 0
      have ca1 := (blk XA.out).1 1
      have la := (blk XA.out).2.2
      have cb0 := (blk XB.out).1 0
      have cb1 := (blk XB.out).1 1
      have lb := (blk XB.out).2.2
      go_region_held3 (fun w' => w'.cell? ⟨A, 0, none⟩ = some (.pointer q0) ∧ w'.cell? ⟨A, 1, none⟩ = some (.int .i64 m0) ∧ w'.cell? ⟨Bk, 0, none⟩ = some (.pointer q1) ∧ w'.cell? ⟨Bk, 1, none⟩ = some (.int .i64 m1)) (go_keep) (first
        | (have _t := bwx4; go_at_call 9; refine (same_yes _ _ _ _ _ _ _ _ _ (by first | exact ((g2.below hbx3).below hbx4) | exact ((g2.below hbx3).below hbx4).drew) (by first | exact g4 | exact g4.drew) rfl).mono ?_; rintro e wx5 ⟨rfl, hbx5⟩; have bwx5 := below_then bwx4 hbx5; have sx5_0 := (bwx5.cell (p := ⟨A, 0, none⟩) la).trans ca0; have sx5_1 := (bwx5.cell (p := ⟨A, 1, none⟩) la).trans ca1; have sx5_2 := (bwx5.cell (p := ⟨Bk, 0, none⟩) lb).trans cb0; have sx5_3 := (bwx5.cell (p := ⟨Bk, 1, none⟩) lb).trans cb1)
        | (have _t := bwx3; go_at_call 13; refine (RA.ints_any p3 n3 (x1 :: x0) _ (by first | exact g3 | exact g3.drew) (by have := L0.out; simp only [List.length_cons]; omega)).mono ?_; rintro e wx4 ⟨a4, k4, c4, rfl, g4, hbx4⟩; have bwx4 := below_then bwx3 hbx4; have sx4_0 := (bwx4.cell (p := ⟨A, 0, none⟩) la).trans ca0; have sx4_1 := (bwx4.cell (p := ⟨A, 1, none⟩) la).trans ca1; have sx4_2 := (bwx4.cell (p := ⟨Bk, 0, none⟩) lb).trans cb0; have sx4_3 := (bwx4.cell (p := ⟨Bk, 1, none⟩) lb).trans cb1)
        | (have _t := bwx2; go_at_call 12; refine (RA.push_any x1 q1 m1 x0 _ (by first | exact HR.out.below bwx2 | exact (HR.out.below bwx2).drew) (by have := L0.out; omega)).mono ?_; rintro e wx3 ⟨p3, n3, rfl, g3, hbx3⟩; have bwx3 := below_then bwx2 hbx3; have sx3_0 := (bwx3.cell (p := ⟨A, 0, none⟩) la).trans ca0; have sx3_1 := (bwx3.cell (p := ⟨A, 1, none⟩) la).trans ca1; have sx3_2 := (bwx3.cell (p := ⟨Bk, 0, none⟩) lb).trans cb0; have sx3_3 := (bwx3.cell (p := ⟨Bk, 1, none⟩) lb).trans cb1)
        | (have _t := bwx1; go_at_call 11; refine (LI.ints_ls p1 n1 (x1 :: x0) _ (by first | exact g1 | exact g1.drew) (by have := L0.out; simp only [List.length_cons]; omega)).mono ?_; rintro e wx2 ⟨a2, k2, c2, rfl, g2, hbx2⟩; have bwx2 := below_then bwx1 hbx2; have sx2_0 := (bwx2.cell (p := ⟨A, 0, none⟩) la).trans ca0; have sx2_1 := (bwx2.cell (p := ⟨A, 1, none⟩) la).trans ca1; have sx2_2 := (bwx2.cell (p := ⟨Bk, 0, none⟩) lb).trans cb0; have sx2_3 := (bwx2.cell (p := ⟨Bk, 1, none⟩) lb).trans cb1)
        | (go_at_call 10; refine (LI.push_ls x1 q0 m0 x0 _ (by first | exact HL.out | exact HL.out.drew | exact HL.out.drewN _ | exact (HL.out.drewN _).drew | exact (HL.out.drewN _).drewN _ | exact ((HL.out.drewN _).drewN _).drew) (by have := L0.out; omega)).mono ?_; rintro e wx1 ⟨p1, n1, rfl, g1, hbx1⟩; have bwx1 : Below w10.heap.size w10 wx1 := (by first | exact hbx1 | exact below_of_drewN hbx1 | exact below_of_drew hbx1 | exact below_of_drewN (below_of_drew hbx1) | exact below_of_drewN (below_of_drewN hbx1) | exact below_of_drewN (below_of_drewN (below_of_drew hbx1))); have sx1_0 := (bwx1.cell (p := ⟨A, 0, none⟩) la).trans ca0; have sx1_1 := (bwx1.cell (p := ⟨A, 1, none⟩) la).trans ca1; have sx1_2 := (bwx1.cell (p := ⟨Bk, 0, none⟩) lb).trans cb0; have sx1_3 := (bwx1.cell (p := ⟨Bk, 1, none⟩) lb).trans cb1))
      replace XA := Lib.hid (blk_below XA.out bwx5)
      replace XB := Lib.hid (blk_below XB.out bwx5)
      replace XC := Lib.hid (blk_below XC.out bwx5)
      replace XD := Lib.hid (blk_below XD.out bwx5)
      replace XE := Lib.hid (blk_below XE.out bwx5)
      replace HL := Lib.hid (HL.out.below bwx5)
      replace HR := Lib.hid (HR.out.below bwx5)
      replace HS := Lib.hid (HS.out.below bwx5)
      replace HQI := Lib.hid (HQI.out.below bwx5)
      replace HD := Lib.hid (HD.out.below bwx5)
      replace B := Lib.hid (below_then B.out bwx5)
      clear ca0 ca1 la cb0 cb1 lb g1 g2 g3 g4 hbx1 hbx2 hbx3 hbx4 hbx5 bwx1 bwx2 bwx3 bwx4 bwx5 sx1_0 sx1_1 sx1_2 sx1_3 sx2_0 sx2_1 sx2_2 sx2_3 sx3_0 sx3_1 sx3_2 sx3_3 sx4_0 sx4_1 sx4_2 sx4_3 sx5_0 sx5_1 sx5_2 sx5_3
      obtain ⟨w11, rfl⟩ : ∃ W, W = wx5 := ⟨_, rfl⟩
      go_upto_region 11 with fail
      have cb0 := (blk XB.out).1 0
      have cb1 := (blk XB.out).1 1
      have lb := (blk XB.out).2.2
      have cd0 := (blk XE.out).1 0
      have ld := (blk XE.out).2.2
      go_region_held3 (fun w' => w'.cell? ⟨Bk, 0, none⟩ = some (.pointer q1) ∧ w'.cell? ⟨Bk, 1, none⟩ = some (.int .i64 m1) ∧ w'.cell? ⟨D, 0, none⟩ = some (.pointer q9)) (go_keep) (first
        | (have _t := bwy3; go_at_call 9; refine (same_yes _ _ _ _ _ _ _ _ _ (by first | exact (g6.below hby3) | exact (g6.below hby3).drew) (by first | exact g7 | exact g7.drew) UD.out.2.1.symm).mono ?_; rintro e wy4 ⟨rfl, hby4⟩; have bwy4 := below_then bwy3 hby4; have sy4_0 := (bwy4.cell (p := ⟨Bk, 0, none⟩) lb).trans cb0; have sy4_1 := (bwy4.cell (p := ⟨Bk, 1, none⟩) lb).trans cb1; have sy4_2 := (bwy4.cell (p := ⟨D, 0, none⟩) ld).trans cd0)
        | (have _t := bwy2; go_at_call 14; refine (FG.ints_seq u9 q9 _ (by first | exact HD.out.below bwy2 | exact (HD.out.below bwy2).drew) UD.out.1 (by rw [UD.out.2.2]; omega)).mono ?_; rintro e wy3 ⟨a7, k7, c7, rfl, g7, hby3⟩; have bwy3 := below_then bwy2 hby3; have sy3_0 := (bwy3.cell (p := ⟨Bk, 0, none⟩) lb).trans cb0; have sy3_1 := (bwy3.cell (p := ⟨Bk, 1, none⟩) lb).trans cb1; have sy3_2 := (bwy3.cell (p := ⟨D, 0, none⟩) ld).trans cd0)
        | (have _t := bwy1; go_at_call 13; refine (RA.ints_any p5 n5 (x1 :: x0) _ (by first | exact g5 | exact g5.drew) (by have := L0.out; simp only [List.length_cons]; omega)).mono ?_; rintro e wy2 ⟨a6, k6, c6, rfl, g6, hby2⟩; have bwy2 := below_then bwy1 hby2; have sy2_0 := (bwy2.cell (p := ⟨Bk, 0, none⟩) lb).trans cb0; have sy2_1 := (bwy2.cell (p := ⟨Bk, 1, none⟩) lb).trans cb1; have sy2_2 := (bwy2.cell (p := ⟨D, 0, none⟩) ld).trans cd0)
        | (go_at_call 12; refine (RA.push_any x1 q1 m1 x0 _ (by first | exact HR.out | exact HR.out.drew | exact HR.out.drewN _ | exact (HR.out.drewN _).drew | exact (HR.out.drewN _).drewN _ | exact ((HR.out.drewN _).drewN _).drew) (by have := L0.out; omega)).mono ?_; rintro e wy1 ⟨p5, n5, rfl, g5, hby1⟩; have bwy1 : Below w11.heap.size w11 wy1 := (by first | exact hby1 | exact below_of_drewN hby1 | exact below_of_drew hby1 | exact below_of_drewN (below_of_drew hby1) | exact below_of_drewN (below_of_drewN hby1) | exact below_of_drewN (below_of_drewN (below_of_drew hby1))); have sy1_0 := (bwy1.cell (p := ⟨Bk, 0, none⟩) lb).trans cb0; have sy1_1 := (bwy1.cell (p := ⟨Bk, 1, none⟩) lb).trans cb1; have sy1_2 := (bwy1.cell (p := ⟨D, 0, none⟩) ld).trans cd0))
      replace XA := Lib.hid (blk_below XA.out bwy4)
      replace XB := Lib.hid (blk_below XB.out bwy4)
      replace XC := Lib.hid (blk_below XC.out bwy4)
      replace XD := Lib.hid (blk_below XD.out bwy4)
      replace XE := Lib.hid (blk_below XE.out bwy4)
      replace HL := Lib.hid (HL.out.below bwy4)
      replace HR := Lib.hid (HR.out.below bwy4)
      replace HS := Lib.hid (HS.out.below bwy4)
      replace HQI := Lib.hid (HQI.out.below bwy4)
      replace HD := Lib.hid (HD.out.below bwy4)
      replace B := Lib.hid (below_then B.out bwy4)
      clear cb0 cb1 lb cd0 ld g5 g6 g7 hby1 hby2 hby3 hby4 bwy1 bwy2 bwy3 bwy4 sy1_0 sy1_1 sy1_2 sy2_0 sy2_1 sy2_2 sy3_0 sy3_1 sy3_2 sy4_0 sy4_1 sy4_2
      obtain ⟨w12, rfl⟩ : ∃ W, W = wy4 := ⟨_, rfl⟩
      have cq0 := (blk XD.out).1 0
      have cq1 := (blk XD.out).1 1
      have cq2 := (blk XD.out).1 2
      have cq3 := (blk XD.out).1 3
      go_wp2_with fail
      refine (QU.ints_any p m q j x0 _ HQI.out (by have := L0.out; omega)).mono ?_
      rintro e w13 ⟨a8, k8, c8, rfl, g8, b13⟩
      replace XA := Lib.hid (blk_below XA.out b13)
      replace XB := Lib.hid (blk_below XB.out b13)
      replace XC := Lib.hid (blk_below XC.out b13)
      replace XE := Lib.hid (blk_below XE.out b13)
      replace HL := Lib.hid (HL.out.below b13)
      replace HR := Lib.hid (HR.out.below b13)
      replace HS := Lib.hid (HS.out.below b13)
      replace HD := Lib.hid (HD.out.below b13)
      replace B := Lib.hid (below_then B.out b13)
      clear cq0 cq1 cq2 cq3 b13 XD HQI
      go_wp2_with fail
      refine (same_yes _ _ _ _ _ _ _ _ _ g8 (S0.out.below B.out) rfl).mono ?_
      rintro e w14 ⟨rfl, b14⟩
      replace XA := Lib.hid (blk_below XA.out b14)
      replace XB := Lib.hid (blk_below XB.out b14)
      replace XC := Lib.hid (blk_below XC.out b14)
      replace XE := Lib.hid (blk_below XE.out b14)
      replace HL := Lib.hid (HL.out.below b14)
      replace HR := Lib.hid (HR.out.below b14)
      replace HS := Lib.hid (HS.out.below b14)
      replace HD := Lib.hid (HD.out.below b14)
      replace B := Lib.hid (below_then B.out b14)
      clear g8 b14
      have ca0 := (blk XA.out).1 0
      have ca1 := (blk XA.out).1 1
      go_wp2_with fail
      refine (AT1.out q0 m0 _ HL.out).mono ?_
      rintro e w15 ⟨rfl, b15⟩
      replace XB := Lib.hid (blk_below XB.out b15)
      replace XC := Lib.hid (blk_below XC.out b15)
      replace XE := Lib.hid (blk_below XE.out b15)
      replace HR := Lib.hid (HR.out.below b15)
      replace HS := Lib.hid (HS.out.below b15)
      replace HD := Lib.hid (HD.out.below b15)
      replace B := Lib.hid (below_then B.out b15)
      clear ca0 ca1 b15 XA HL
      have cb0 := (blk XB.out).1 0
      have cb1 := (blk XB.out).1 1
      go_wp2_with fail
      refine (AT2.out q1 m1 _ HR.out).mono ?_
      rintro e w16 ⟨rfl, b16⟩
      replace XC := Lib.hid (blk_below XC.out b16)
      replace XE := Lib.hid (blk_below XE.out b16)
      replace HS := Lib.hid (HS.out.below b16)
      replace HD := Lib.hid (HD.out.below b16)
      replace B := Lib.hid (below_then B.out b16)
      clear cb0 cb1 b16 XB HR
      have cc0 := (blk XC.out).1 0
      go_wp2_with fail
      refine (AT3.out q2 v0 _ HS.out OL.out.1 OL.out.2).mono ?_
      rintro e w17 ⟨rfl, b17⟩
      replace XE := Lib.hid (blk_below XE.out b17)
      replace HD := Lib.hid (HD.out.below b17)
      replace B := Lib.hid (below_then B.out b17)
      clear cc0 b17 XC HS
      have cd0 := (blk XE.out).1 0
      have LE := Lib.hid (FG.len_seq u9 q9 _ HD.out)
      rw [UD.out.2.2] at LE
      obtain ⟨N1, hN1⟩ : ∃ N : Int, ((n0 + 1 : Nat) : Int) = N := ⟨_, rfl⟩
      rw [hN1] at LE
      have hw : (N1 == (n0 : Int) + 1) = true := by rw [beq_iff_eq, ← hN1]; omega
      clear hN1
      go_wp2_with fail
      refine LE.out.mono ?_
      rintro e w18 ⟨rfl, b18⟩
      replace B := Lib.hid (below_then B.out b18)
      clear b18 LE HD XE cd0
      go_wp2_with fail
      go_ret
      exact ⟨rfl, B.out⟩
end Go.Proofs.Ytpkfakndlbngbaa
