/-
  The walk of the law ListKeeps. Conditions: none.
-/
import Derived.Laws.EntriesVeiled
import Derived.Test.YtooejhijdjcmkaaListKeepsFun
namespace Go.Proofs.Ytooejhijdjcmkaa
open Go.RowKit Go.Deep
open Go.Proofs.Ytooejhijdjcmkaa.LI
set_option linter.unusedVariables false
theorem len_to (p : Option Addr) (m : Int) (xs : List Int) (S : Int) (w : World) (h : Ls w p m xs) (e : (xs.length : Int) = S) : Calls Try.prog 21 #[.agg #[.pointer p, .int .i64 m]] w fun e w' => e = .returned (.int .i64 S) ∧ Below w.heap.size w w' := by
  rw [← e]
  exact len_ls p m xs w h
theorem below_is (a : Option Addr) (n c : Nat) (xs : List Int) (x : Int) (L : Nat) (w : World) (h : Sl w a n c xs) (e : belowN xs x = L) : Calls Try.prog 22 #[.slice a n c, .int .i64 x] w fun e w' => e = .returned (.int .i64 (L : Int)) ∧ Below w.heap.size w w' := by
  rw [← e]
  exact (below_any a n c xs x w h).mono fun e w' ⟨h1, h2⟩ => ⟨h1, h2 ▸ Below.refl _ _⟩
set_option maxHeartbeats 4000000 in
set_option maxRecDepth 100000 in
theorem ListKeeps_walk (a0 : Option Addr) (n0 c0 : Nat) (x0 : List Int) (x1 x2 : Int) (w : World) (s0 : Sl w a0 n0 c0 x0) (i0 : ∀ n ∈ x0, I64 n) (e0 : n0 ≤ 17592186043904) (i1 : I64 x1) (i2 : I64 x2) :
    Calls Try.prog 4 #[.slice a0 n0 c0, .int .i64 x1, .int .i64 x2] w fun e w' => e = .returned (.bool true) ∧ Below w.heap.size w w' := by
  have l0 : x0.length ≤ n0 := by rw [s0.hlen]; exact Nat.le_refl _
  go_enter Try.func4, Try.ntmps4
  go_wp2_with fail
  refine (listed_any _).mono ?_
  rintro e w1 ⟨rfl, bx⟩
  obtain ⟨bx, AA, AB⟩ := hold2 bx ⟨rfl, rfl, rfl, rfl⟩
  have B := bx
  clear bx
  go_wp2_with fail
  refine (of_ls a0 n0 c0 x0 _ (((s0.below B).alloc _).alloc _) (by omega)).mono ?_
  rintro e w2 ⟨q11, m11, rfl, h11, bx⟩
  obtain ⟨bx, AP, AQ⟩ := hold2 bx ⟨rfl, rfl, rfl, rfl⟩
  replace AA := blk_below AA bx
  replace AB := blk_below AB bx
  replace B := below_then B bx
  clear bx
  go_wp2_with fail
  obtain ⟨w3, hw⟩ : ∃ W, (w2.alloc (.cells #[.pointer q11, .int .i64 m11] 28)) = W := ⟨_, rfl⟩
  have bx : Below w2.heap.size w2 w3 := by rw [← hw]; exact ((Below.refl _ _).alloc (by simp; try omega) _)
  have A11 : w3.heap[w2.heap.size]? = some (.cells #[.pointer q11, .int .i64 m11] 28 (0, 0)) := by
    rw [← hw]
    have := heap_alloc_new w2 (.cells #[.pointer q11, .int .i64 m11] 28)
    exact this
  rw [hw]
  clear hw
  replace AA := blk_below AA bx
  replace AB := blk_below AB bx
  replace AP := blk_below AP bx
  replace AQ := blk_below AQ bx
  replace h11 := h11.below bx
  replace B := below_then B bx
  clear bx
  obtain ⟨z0, zz0, zzz0⟩ := blk A11
  obtain ⟨z1, zz1, zzz1⟩ := blk AP
  obtain ⟨z2, zz2, zzz2⟩ := blk AQ
  go_wp2_with fail
  go_region_held3 (fun w' => w'.cell? ⟨w2.heap.size, 0, none⟩ = some (.pointer q11) ∧ w'.cell? ⟨w2.heap.size, 1, none⟩ = some (.int .i64 m11) ∧ w'.cell? ⟨w1.heap.size, 0, none⟩ = some (.func (.func 15) #[] #[.pointer (some ⟨w.heap.size, 0, none⟩)]) ∧ w'.cell? ⟨w1.heap.size + 1, 0, none⟩ = some (.func (.func 16) #[] #[.pointer (some ⟨w.heap.size + 1, 0, none⟩)])) (go_keep) (first
    | (have _t := HM9; go_at_call 14; refine (same_yes _ _ _ _ _ _ _ _ _ (by first | exact s14 | exact s14.below (below_drewN (Below.refl _ _) _)) (by first | exact s17 | exact s17.below (below_drewN (Below.refl _ _) _)) (filter_swap _ _ _)).mono ?_; rintro e w10 ⟨rfl, bx⟩; replace bx : Below w9.heap.size w9 w10 := (by first | exact bx | exact below_then (below_drewN (Below.refl _ _) _) bx); replace AA := blk_below AA bx; replace AB := blk_below AB bx; replace AP := blk_below AP bx; replace AQ := blk_below AQ bx; replace h11 := h11.below bx; replace A11 := blk_below A11 bx; replace h12 := h12.below bx; replace h13 := h13.below bx; replace s14 := s14.below bx; replace h15 := h15.below bx; replace h16 := h16.below bx; replace s17 := s17.below bx; replace B := below_then B bx; have HM10 := Lib.hid bx; clear bx; obtain ⟨z0, zz0, zzz0⟩ := blk A11; obtain ⟨z1, zz1, zzz1⟩ := blk AP; obtain ⟨z2, zz2, zzz2⟩ := blk AQ)
    | (have _t := HM8; go_at_call 18; refine (ints_ls q16 m16 _ _ (by first | exact h16 | exact h16.below (below_drewN (Below.refl _ _) _)) (by repeat (first | omega | refine Nat.le_trans (List.length_filter_le _ _) ?_))).mono ?_; rintro e w9 ⟨a17, k17, c17, rfl, s17, bx⟩; replace bx : Below w8.heap.size w8 w9 := (by first | exact bx | exact below_then (below_drewN (Below.refl _ _) _) bx); replace AA := blk_below AA bx; replace AB := blk_below AB bx; replace AP := blk_below AP bx; replace AQ := blk_below AQ bx; replace h11 := h11.below bx; replace A11 := blk_below A11 bx; replace h12 := h12.below bx; replace h13 := h13.below bx; replace s14 := s14.below bx; replace h15 := h15.below bx; replace h16 := h16.below bx; replace B := below_then B bx; have HM9 := Lib.hid bx; clear bx; obtain ⟨z0, zz0, zzz0⟩ := blk A11; obtain ⟨z1, zz1, zzz1⟩ := blk AP; obtain ⟨z2, zz2, zzz2⟩ := blk AQ)
    | (have _t := HM7; go_at_call 17; refine (kp_ls q15 m15 _ x1 _ _ (by first | exact h15 | exact h15.below (below_drewN (Below.refl _ _) _)) (by first | exact AA | exact blk_below AA (below_drewN (Below.refl _ _) _)) (by repeat (first | omega | refine Nat.le_trans (List.length_filter_le _ _) ?_))).mono ?_; rintro e w8 ⟨q16, m16, rfl, h16, bx⟩; replace bx : Below w7.heap.size w7 w8 := (by first | exact bx | exact below_then (below_drewN (Below.refl _ _) _) bx); replace AA := blk_below AA bx; replace AB := blk_below AB bx; replace AP := blk_below AP bx; replace AQ := blk_below AQ bx; replace h11 := h11.below bx; replace A11 := blk_below A11 bx; replace h12 := h12.below bx; replace h13 := h13.below bx; replace s14 := s14.below bx; replace h15 := h15.below bx; replace B := below_then B bx; have HM8 := Lib.hid bx; clear bx; obtain ⟨z0, zz0, zzz0⟩ := blk A11; obtain ⟨z1, zz1, zzz1⟩ := blk AP; obtain ⟨z2, zz2, zzz2⟩ := blk AQ)
    | (have _t := HM6; go_at_call 17; refine (kq_ls q11 m11 _ x2 _ _ (by first | exact h11 | exact h11.below (below_drewN (Below.refl _ _) _)) (by first | exact AB | exact blk_below AB (below_drewN (Below.refl _ _) _)) (by repeat (first | omega | refine Nat.le_trans (List.length_filter_le _ _) ?_))).mono ?_; rintro e w7 ⟨q15, m15, rfl, h15, bx⟩; replace bx : Below w6.heap.size w6 w7 := (by first | exact bx | exact below_then (below_drewN (Below.refl _ _) _) bx); replace AA := blk_below AA bx; replace AB := blk_below AB bx; replace AP := blk_below AP bx; replace AQ := blk_below AQ bx; replace h11 := h11.below bx; replace A11 := blk_below A11 bx; replace h12 := h12.below bx; replace h13 := h13.below bx; replace s14 := s14.below bx; replace B := below_then B bx; have HM7 := Lib.hid bx; clear bx; obtain ⟨z0, zz0, zzz0⟩ := blk A11; obtain ⟨z1, zz1, zzz1⟩ := blk AP; obtain ⟨z2, zz2, zzz2⟩ := blk AQ)
    | (have _t := HM5; go_at_call 18; refine (ints_ls q13 m13 _ _ (by first | exact h13 | exact h13.below (below_drewN (Below.refl _ _) _)) (by repeat (first | omega | refine Nat.le_trans (List.length_filter_le _ _) ?_))).mono ?_; rintro e w6 ⟨a14, k14, c14, rfl, s14, bx⟩; replace bx : Below w5.heap.size w5 w6 := (by first | exact bx | exact below_then (below_drewN (Below.refl _ _) _) bx); replace AA := blk_below AA bx; replace AB := blk_below AB bx; replace AP := blk_below AP bx; replace AQ := blk_below AQ bx; replace h11 := h11.below bx; replace A11 := blk_below A11 bx; replace h12 := h12.below bx; replace h13 := h13.below bx; replace B := below_then B bx; have HM6 := Lib.hid bx; clear bx; obtain ⟨z0, zz0, zzz0⟩ := blk A11; obtain ⟨z1, zz1, zzz1⟩ := blk AP; obtain ⟨z2, zz2, zzz2⟩ := blk AQ)
    | (have _t := HM4; go_at_call 17; refine (kq_ls q12 m12 _ x2 _ _ (by first | exact h12 | exact h12.below (below_drewN (Below.refl _ _) _)) (by first | exact AB | exact blk_below AB (below_drewN (Below.refl _ _) _)) (by repeat (first | omega | refine Nat.le_trans (List.length_filter_le _ _) ?_))).mono ?_; rintro e w5 ⟨q13, m13, rfl, h13, bx⟩; replace bx : Below w4.heap.size w4 w5 := (by first | exact bx | exact below_then (below_drewN (Below.refl _ _) _) bx); replace AA := blk_below AA bx; replace AB := blk_below AB bx; replace AP := blk_below AP bx; replace AQ := blk_below AQ bx; replace h11 := h11.below bx; replace A11 := blk_below A11 bx; replace h12 := h12.below bx; replace B := below_then B bx; have HM5 := Lib.hid bx; clear bx; obtain ⟨z0, zz0, zzz0⟩ := blk A11; obtain ⟨z1, zz1, zzz1⟩ := blk AP; obtain ⟨z2, zz2, zzz2⟩ := blk AQ)
    | (go_at_call 17; refine (kp_ls q11 m11 _ x1 _ _ (by first | exact h11 | exact h11.below (below_drewN (Below.refl _ _) _)) (by first | exact AA | exact blk_below AA (below_drewN (Below.refl _ _) _)) (by repeat (first | omega | refine Nat.le_trans (List.length_filter_le _ _) ?_))).mono ?_; rintro e w4 ⟨q12, m12, rfl, h12, bx⟩; replace bx : Below w3.heap.size w3 w4 := (by first | exact bx | exact below_then (below_drewN (Below.refl _ _) _) bx); replace AA := blk_below AA bx; replace AB := blk_below AB bx; replace AP := blk_below AP bx; replace AQ := blk_below AQ bx; replace h11 := h11.below bx; replace A11 := blk_below A11 bx; replace B := below_then B bx; have HM4 := Lib.hid bx; clear bx; obtain ⟨z0, zz0, zzz0⟩ := blk A11; obtain ⟨z1, zz1, zzz1⟩ := blk AP; obtain ⟨z2, zz2, zzz2⟩ := blk AQ))
  clear z0 zz0 zzz0
  clear z1 zz1 zzz1
  clear z2 zz2 zzz2
  obtain ⟨u0, uu0, uuu0⟩ := blk A11
  go_wp2_with fail
  refine (kpq_ls q11 m11 _ x1 x2 _ _ _ _ _ h11 AP AQ AA AB (by repeat (first | omega | refine Nat.le_trans (List.length_filter_le _ _) ?_))).mono ?_
  rintro e w11 ⟨q18, m18, rfl, h18, bx⟩
  clear u0 uu0 uuu0
  replace AA := blk_below AA bx
  replace AB := blk_below AB bx
  replace AP := blk_below AP bx
  replace AQ := blk_below AQ bx
  replace h11 := h11.below bx
  replace A11 := blk_below A11 bx
  replace h12 := h12.below bx
  replace h13 := h13.below bx
  replace s14 := s14.below bx
  replace h15 := h15.below bx
  replace h16 := h16.below bx
  replace s17 := s17.below bx
  replace B := below_then B bx
  clear bx
  go_wp2_with fail
  obtain ⟨w12, hw⟩ : ∃ W, (w11.alloc (.cells #[.pointer q18, .int .i64 m18] 28)) = W := ⟨_, rfl⟩
  have bx : Below w11.heap.size w11 w12 := by rw [← hw]; exact ((Below.refl _ _).alloc (by simp; try omega) _)
  have A18 : w12.heap[w11.heap.size]? = some (.cells #[.pointer q18, .int .i64 m18] 28 (0, 0)) := by
    rw [← hw]
    have := heap_alloc_new w11 (.cells #[.pointer q18, .int .i64 m18] 28)
    exact this
  rw [hw]
  clear hw
  replace AA := blk_below AA bx
  replace AB := blk_below AB bx
  replace AP := blk_below AP bx
  replace AQ := blk_below AQ bx
  replace h11 := h11.below bx
  replace A11 := blk_below A11 bx
  replace h12 := h12.below bx
  replace h13 := h13.below bx
  replace s14 := s14.below bx
  replace h15 := h15.below bx
  replace h16 := h16.below bx
  replace s17 := s17.below bx
  replace h18 := h18.below bx
  replace B := below_then B bx
  clear bx
  obtain ⟨z0, zz0, zzz0⟩ := blk A11
  obtain ⟨z1, zz1, zzz1⟩ := blk A18
  obtain ⟨z2, zz2, zzz2⟩ := blk AP
  obtain ⟨z3, zz3, zzz3⟩ := blk AQ
  go_wp2_with fail
  go_region_held3 (fun w' => w'.cell? ⟨w2.heap.size, 0, none⟩ = some (.pointer q11) ∧ w'.cell? ⟨w2.heap.size, 1, none⟩ = some (.int .i64 m11) ∧ w'.cell? ⟨w11.heap.size, 0, none⟩ = some (.pointer q18) ∧ w'.cell? ⟨w11.heap.size, 1, none⟩ = some (.int .i64 m18) ∧ w'.cell? ⟨w1.heap.size, 0, none⟩ = some (.func (.func 15) #[] #[.pointer (some ⟨w.heap.size, 0, none⟩)]) ∧ w'.cell? ⟨w1.heap.size + 1, 0, none⟩ = some (.func (.func 16) #[] #[.pointer (some ⟨w.heap.size + 1, 0, none⟩)])) (go_keep) (first
    | (have _t := HM16; go_at_call 14; refine (same_yes _ _ _ _ _ _ _ _ _ (by first | exact s21 | exact s21.below (below_drewN (Below.refl _ _) _)) (by first | exact s22 | exact s22.below (below_drewN (Below.refl _ _) _)) (filter_both _ _ _)).mono ?_; rintro e w17 ⟨rfl, bx⟩; replace bx : Below w16.heap.size w16 w17 := (by first | exact bx | exact below_then (below_drewN (Below.refl _ _) _) bx); replace AA := blk_below AA bx; replace AB := blk_below AB bx; replace AP := blk_below AP bx; replace AQ := blk_below AQ bx; replace h11 := h11.below bx; replace A11 := blk_below A11 bx; replace h12 := h12.below bx; replace h13 := h13.below bx; replace s14 := s14.below bx; replace h15 := h15.below bx; replace h16 := h16.below bx; replace s17 := s17.below bx; replace h18 := h18.below bx; replace A18 := blk_below A18 bx; replace h19 := h19.below bx; replace h20 := h20.below bx; replace s21 := s21.below bx; replace s22 := s22.below bx; replace B := below_then B bx; have HM17 := Lib.hid bx; clear bx; obtain ⟨z0, zz0, zzz0⟩ := blk A11; obtain ⟨z1, zz1, zzz1⟩ := blk A18; obtain ⟨z2, zz2, zzz2⟩ := blk AP; obtain ⟨z3, zz3, zzz3⟩ := blk AQ)
    | (have _t := HM15; go_at_call 18; refine (ints_ls q18 m18 _ _ (by first | exact h18 | exact h18.below (below_drewN (Below.refl _ _) _)) (by repeat (first | omega | refine Nat.le_trans (List.length_filter_le _ _) ?_))).mono ?_; rintro e w16 ⟨a22, k22, c22, rfl, s22, bx⟩; replace bx : Below w15.heap.size w15 w16 := (by first | exact bx | exact below_then (below_drewN (Below.refl _ _) _) bx); replace AA := blk_below AA bx; replace AB := blk_below AB bx; replace AP := blk_below AP bx; replace AQ := blk_below AQ bx; replace h11 := h11.below bx; replace A11 := blk_below A11 bx; replace h12 := h12.below bx; replace h13 := h13.below bx; replace s14 := s14.below bx; replace h15 := h15.below bx; replace h16 := h16.below bx; replace s17 := s17.below bx; replace h18 := h18.below bx; replace A18 := blk_below A18 bx; replace h19 := h19.below bx; replace h20 := h20.below bx; replace s21 := s21.below bx; replace B := below_then B bx; have HM16 := Lib.hid bx; clear bx; obtain ⟨z0, zz0, zzz0⟩ := blk A11; obtain ⟨z1, zz1, zzz1⟩ := blk A18; obtain ⟨z2, zz2, zzz2⟩ := blk AP; obtain ⟨z3, zz3, zzz3⟩ := blk AQ)
    | (have _t := HM14; go_at_call 18; refine (ints_ls q20 m20 _ _ (by first | exact h20 | exact h20.below (below_drewN (Below.refl _ _) _)) (by repeat (first | omega | refine Nat.le_trans (List.length_filter_le _ _) ?_))).mono ?_; rintro e w15 ⟨a21, k21, c21, rfl, s21, bx⟩; replace bx : Below w14.heap.size w14 w15 := (by first | exact bx | exact below_then (below_drewN (Below.refl _ _) _) bx); replace AA := blk_below AA bx; replace AB := blk_below AB bx; replace AP := blk_below AP bx; replace AQ := blk_below AQ bx; replace h11 := h11.below bx; replace A11 := blk_below A11 bx; replace h12 := h12.below bx; replace h13 := h13.below bx; replace s14 := s14.below bx; replace h15 := h15.below bx; replace h16 := h16.below bx; replace s17 := s17.below bx; replace h18 := h18.below bx; replace A18 := blk_below A18 bx; replace h19 := h19.below bx; replace h20 := h20.below bx; replace B := below_then B bx; have HM15 := Lib.hid bx; clear bx; obtain ⟨z0, zz0, zzz0⟩ := blk A11; obtain ⟨z1, zz1, zzz1⟩ := blk A18; obtain ⟨z2, zz2, zzz2⟩ := blk AP; obtain ⟨z3, zz3, zzz3⟩ := blk AQ)
    | (have _t := HM13; go_at_call 17; refine (kq_ls q19 m19 _ x2 _ _ (by first | exact h19 | exact h19.below (below_drewN (Below.refl _ _) _)) (by first | exact AB | exact blk_below AB (below_drewN (Below.refl _ _) _)) (by repeat (first | omega | refine Nat.le_trans (List.length_filter_le _ _) ?_))).mono ?_; rintro e w14 ⟨q20, m20, rfl, h20, bx⟩; replace bx : Below w13.heap.size w13 w14 := (by first | exact bx | exact below_then (below_drewN (Below.refl _ _) _) bx); replace AA := blk_below AA bx; replace AB := blk_below AB bx; replace AP := blk_below AP bx; replace AQ := blk_below AQ bx; replace h11 := h11.below bx; replace A11 := blk_below A11 bx; replace h12 := h12.below bx; replace h13 := h13.below bx; replace s14 := s14.below bx; replace h15 := h15.below bx; replace h16 := h16.below bx; replace s17 := s17.below bx; replace h18 := h18.below bx; replace A18 := blk_below A18 bx; replace h19 := h19.below bx; replace B := below_then B bx; have HM14 := Lib.hid bx; clear bx; obtain ⟨z0, zz0, zzz0⟩ := blk A11; obtain ⟨z1, zz1, zzz1⟩ := blk A18; obtain ⟨z2, zz2, zzz2⟩ := blk AP; obtain ⟨z3, zz3, zzz3⟩ := blk AQ)
    | (go_at_call 17; refine (kp_ls q11 m11 _ x1 _ _ (by first | exact h11 | exact h11.below (below_drewN (Below.refl _ _) _)) (by first | exact AA | exact blk_below AA (below_drewN (Below.refl _ _) _)) (by repeat (first | omega | refine Nat.le_trans (List.length_filter_le _ _) ?_))).mono ?_; rintro e w13 ⟨q19, m19, rfl, h19, bx⟩; replace bx : Below w12.heap.size w12 w13 := (by first | exact bx | exact below_then (below_drewN (Below.refl _ _) _) bx); replace AA := blk_below AA bx; replace AB := blk_below AB bx; replace AP := blk_below AP bx; replace AQ := blk_below AQ bx; replace h11 := h11.below bx; replace A11 := blk_below A11 bx; replace h12 := h12.below bx; replace h13 := h13.below bx; replace s14 := s14.below bx; replace h15 := h15.below bx; replace h16 := h16.below bx; replace s17 := s17.below bx; replace h18 := h18.below bx; replace A18 := blk_below A18 bx; replace B := below_then B bx; have HM13 := Lib.hid bx; clear bx; obtain ⟨z0, zz0, zzz0⟩ := blk A11; obtain ⟨z1, zz1, zzz1⟩ := blk A18; obtain ⟨z2, zz2, zzz2⟩ := blk AP; obtain ⟨z3, zz3, zzz3⟩ := blk AQ))
  clear z0 zz0 zzz0
  clear z1 zz1 zzz1
  clear z2 zz2 zzz2
  clear z3 zz3 zzz3
  obtain ⟨u0, uu0, uuu0⟩ := blk A11
  go_wp2_with fail
  refine (knp_ls q11 m11 _ x1 _ _ _ h11 AP AA (by repeat (first | omega | refine Nat.le_trans (List.length_filter_le _ _) ?_))).mono ?_
  rintro e w18 ⟨q23, m23, rfl, h23, bx⟩
  clear u0 uu0 uuu0
  replace AA := blk_below AA bx
  replace AB := blk_below AB bx
  replace AP := blk_below AP bx
  replace AQ := blk_below AQ bx
  replace h11 := h11.below bx
  replace A11 := blk_below A11 bx
  replace h12 := h12.below bx
  replace h13 := h13.below bx
  replace s14 := s14.below bx
  replace h15 := h15.below bx
  replace h16 := h16.below bx
  replace s17 := s17.below bx
  replace h18 := h18.below bx
  replace A18 := blk_below A18 bx
  replace h19 := h19.below bx
  replace h20 := h20.below bx
  replace s21 := s21.below bx
  replace s22 := s22.below bx
  replace B := below_then B bx
  clear bx
  go_wp2_with fail
  obtain ⟨w19, hw⟩ : ∃ W, (w18.alloc (.cells #[.pointer q23, .int .i64 m23] 28)) = W := ⟨_, rfl⟩
  have bx : Below w18.heap.size w18 w19 := by rw [← hw]; exact ((Below.refl _ _).alloc (by simp; try omega) _)
  have A23 : w19.heap[w18.heap.size]? = some (.cells #[.pointer q23, .int .i64 m23] 28 (0, 0)) := by
    rw [← hw]
    have := heap_alloc_new w18 (.cells #[.pointer q23, .int .i64 m23] 28)
    exact this
  rw [hw]
  clear hw
  replace AA := blk_below AA bx
  replace AB := blk_below AB bx
  replace AP := blk_below AP bx
  replace AQ := blk_below AQ bx
  replace h11 := h11.below bx
  replace A11 := blk_below A11 bx
  replace h12 := h12.below bx
  replace h13 := h13.below bx
  replace s14 := s14.below bx
  replace h15 := h15.below bx
  replace h16 := h16.below bx
  replace s17 := s17.below bx
  replace h18 := h18.below bx
  replace A18 := blk_below A18 bx
  replace h19 := h19.below bx
  replace h20 := h20.below bx
  replace s21 := s21.below bx
  replace s22 := s22.below bx
  replace h23 := h23.below bx
  replace B := below_then B bx
  clear bx
  obtain ⟨L, hL⟩ : ∃ L : Nat, (x0.filter (pP x1)).length = L := ⟨_, rfl⟩
  obtain ⟨M, hM⟩ : ∃ M : Nat, (x0.filter (fun x => !pP x1 x)).length = M := ⟨_, rfl⟩
  have hLM : L + M = n0 := by rw [← hL, ← hM, filter_sum, s0.hlen]
  have hLb : belowN x0 x1 = L := by rw [← hL, filter_below]
  have hsum : (((L : Int) + (M : Int)) == (n0 : Int)) = true := by simp; omega
  have hwr : IntKind.i64.wrap ((L : Int) + (M : Int)) = (n0 : Int) := by rw [IntWalk.i64_in _ (by omega)]; omega
  have HLL := Lib.hid (congrArg (Nat.cast (R := Int)) hL)
  have HMM := Lib.hid (congrArg (Nat.cast (R := Int)) hM)
  have HB := Lib.hid hLb
  have hlt1 : L ≤ n0 := by omega
  have hlt2 : M ≤ n0 := by omega
  clear hL hM hLM hLb
  obtain ⟨z0, zz0, zzz0⟩ := blk A11
  obtain ⟨z1, zz1, zzz1⟩ := blk A23
  obtain ⟨z2, zz2, zzz2⟩ := blk AP
  obtain ⟨z3, zz3, zzz3⟩ := blk AA
  go_wp2_with fail
  go_region_held3 (fun w' => w'.cell? ⟨w2.heap.size, 0, none⟩ = some (.pointer q11) ∧ w'.cell? ⟨w2.heap.size, 1, none⟩ = some (.int .i64 m11) ∧ w'.cell? ⟨w18.heap.size, 0, none⟩ = some (.pointer q23) ∧ w'.cell? ⟨w18.heap.size, 1, none⟩ = some (.int .i64 m23) ∧ w'.cell? ⟨w1.heap.size, 0, none⟩ = some (.func (.func 15) #[] #[.pointer (some ⟨w.heap.size, 0, none⟩)]) ∧ w'.cell? ⟨w.heap.size, 0, none⟩ = some (.int .i64 x1)) (go_keep) (first
    | (have _t := HM24; go_at_call 22; refine (below_is a0 n0 c0 x0 x1 L _ (by first | exact (s0.below B) | exact (s0.below B).below (below_drewN (Below.refl _ _) _)) HB.out).mono ?_; rintro e w25 ⟨rfl, bx⟩; replace bx : Below w24.heap.size w24 w25 := (by first | exact bx | exact below_then (below_drewN (Below.refl _ _) _) bx); replace AA := blk_below AA bx; replace AB := blk_below AB bx; replace AP := blk_below AP bx; replace AQ := blk_below AQ bx; replace h11 := h11.below bx; replace A11 := blk_below A11 bx; replace h12 := h12.below bx; replace h13 := h13.below bx; replace s14 := s14.below bx; replace h15 := h15.below bx; replace h16 := h16.below bx; replace s17 := s17.below bx; replace h18 := h18.below bx; replace A18 := blk_below A18 bx; replace h19 := h19.below bx; replace h20 := h20.below bx; replace s21 := s21.below bx; replace s22 := s22.below bx; replace h23 := h23.below bx; replace A23 := blk_below A23 bx; replace h24 := h24.below bx; replace h25 := h25.below bx; replace B := below_then B bx; have HM25 := Lib.hid bx; clear bx; obtain ⟨z0, zz0, zzz0⟩ := blk A11; obtain ⟨z1, zz1, zzz1⟩ := blk A23; obtain ⟨z2, zz2, zzz2⟩ := blk AP; obtain ⟨z3, zz3, zzz3⟩ := blk AA)
    | (have _t := HM23; go_at_call 21; refine (len_to q25 m25 _ (L : Int) _ (by first | exact h25 | exact h25.below (below_drewN (Below.refl _ _) _)) HLL.out).mono ?_; rintro e w24 ⟨rfl, bx⟩; replace bx : Below w23.heap.size w23 w24 := (by first | exact bx | exact below_then (below_drewN (Below.refl _ _) _) bx); replace AA := blk_below AA bx; replace AB := blk_below AB bx; replace AP := blk_below AP bx; replace AQ := blk_below AQ bx; replace h11 := h11.below bx; replace A11 := blk_below A11 bx; replace h12 := h12.below bx; replace h13 := h13.below bx; replace s14 := s14.below bx; replace h15 := h15.below bx; replace h16 := h16.below bx; replace s17 := s17.below bx; replace h18 := h18.below bx; replace A18 := blk_below A18 bx; replace h19 := h19.below bx; replace h20 := h20.below bx; replace s21 := s21.below bx; replace s22 := s22.below bx; replace h23 := h23.below bx; replace A23 := blk_below A23 bx; replace h24 := h24.below bx; replace h25 := h25.below bx; replace B := below_then B bx; have HM24 := Lib.hid bx; clear bx; obtain ⟨z0, zz0, zzz0⟩ := blk A11; obtain ⟨z1, zz1, zzz1⟩ := blk A23; obtain ⟨z2, zz2, zzz2⟩ := blk AP; obtain ⟨z3, zz3, zzz3⟩ := blk AA)
    | (have _t := HM22; go_at_call 17; refine (kp_ls q11 m11 _ x1 _ _ (by first | exact h11 | exact h11.below (below_drewN (Below.refl _ _) _)) (by first | exact AA | exact blk_below AA (below_drewN (Below.refl _ _) _)) (by repeat (first | omega | refine Nat.le_trans (List.length_filter_le _ _) ?_))).mono ?_; rintro e w23 ⟨q25, m25, rfl, h25, bx⟩; replace bx : Below w22.heap.size w22 w23 := (by first | exact bx | exact below_then (below_drewN (Below.refl _ _) _) bx); replace AA := blk_below AA bx; replace AB := blk_below AB bx; replace AP := blk_below AP bx; replace AQ := blk_below AQ bx; replace h11 := h11.below bx; replace A11 := blk_below A11 bx; replace h12 := h12.below bx; replace h13 := h13.below bx; replace s14 := s14.below bx; replace h15 := h15.below bx; replace h16 := h16.below bx; replace s17 := s17.below bx; replace h18 := h18.below bx; replace A18 := blk_below A18 bx; replace h19 := h19.below bx; replace h20 := h20.below bx; replace s21 := s21.below bx; replace s22 := s22.below bx; replace h23 := h23.below bx; replace A23 := blk_below A23 bx; replace h24 := h24.below bx; replace B := below_then B bx; have HM23 := Lib.hid bx; clear bx; obtain ⟨z0, zz0, zzz0⟩ := blk A11; obtain ⟨z1, zz1, zzz1⟩ := blk A23; obtain ⟨z2, zz2, zzz2⟩ := blk AP; obtain ⟨z3, zz3, zzz3⟩ := blk AA)
    | (have _t := HM21; go_at_call 21; refine (len_to q23 m23 _ (M : Int) _ (by first | exact h23 | exact h23.below (below_drewN (Below.refl _ _) _)) HMM.out).mono ?_; rintro e w22 ⟨rfl, bx⟩; replace bx : Below w21.heap.size w21 w22 := (by first | exact bx | exact below_then (below_drewN (Below.refl _ _) _) bx); replace AA := blk_below AA bx; replace AB := blk_below AB bx; replace AP := blk_below AP bx; replace AQ := blk_below AQ bx; replace h11 := h11.below bx; replace A11 := blk_below A11 bx; replace h12 := h12.below bx; replace h13 := h13.below bx; replace s14 := s14.below bx; replace h15 := h15.below bx; replace h16 := h16.below bx; replace s17 := s17.below bx; replace h18 := h18.below bx; replace A18 := blk_below A18 bx; replace h19 := h19.below bx; replace h20 := h20.below bx; replace s21 := s21.below bx; replace s22 := s22.below bx; replace h23 := h23.below bx; replace A23 := blk_below A23 bx; replace h24 := h24.below bx; replace B := below_then B bx; have HM22 := Lib.hid bx; clear bx; obtain ⟨z0, zz0, zzz0⟩ := blk A11; obtain ⟨z1, zz1, zzz1⟩ := blk A23; obtain ⟨z2, zz2, zzz2⟩ := blk AP; obtain ⟨z3, zz3, zzz3⟩ := blk AA)
    | (have _t := HM20; go_at_call 21; refine (len_to q24 m24 _ (L : Int) _ (by first | exact h24 | exact h24.below (below_drewN (Below.refl _ _) _)) HLL.out).mono ?_; rintro e w21 ⟨rfl, bx⟩; replace bx : Below w20.heap.size w20 w21 := (by first | exact bx | exact below_then (below_drewN (Below.refl _ _) _) bx); replace AA := blk_below AA bx; replace AB := blk_below AB bx; replace AP := blk_below AP bx; replace AQ := blk_below AQ bx; replace h11 := h11.below bx; replace A11 := blk_below A11 bx; replace h12 := h12.below bx; replace h13 := h13.below bx; replace s14 := s14.below bx; replace h15 := h15.below bx; replace h16 := h16.below bx; replace s17 := s17.below bx; replace h18 := h18.below bx; replace A18 := blk_below A18 bx; replace h19 := h19.below bx; replace h20 := h20.below bx; replace s21 := s21.below bx; replace s22 := s22.below bx; replace h23 := h23.below bx; replace A23 := blk_below A23 bx; replace h24 := h24.below bx; replace B := below_then B bx; have HM21 := Lib.hid bx; clear bx; obtain ⟨z0, zz0, zzz0⟩ := blk A11; obtain ⟨z1, zz1, zzz1⟩ := blk A23; obtain ⟨z2, zz2, zzz2⟩ := blk AP; obtain ⟨z3, zz3, zzz3⟩ := blk AA)
    | (go_at_call 17; refine (kp_ls q11 m11 _ x1 _ _ (by first | exact h11 | exact h11.below (below_drewN (Below.refl _ _) _)) (by first | exact AA | exact blk_below AA (below_drewN (Below.refl _ _) _)) (by repeat (first | omega | refine Nat.le_trans (List.length_filter_le _ _) ?_))).mono ?_; rintro e w20 ⟨q24, m24, rfl, h24, bx⟩; replace bx : Below w19.heap.size w19 w20 := (by first | exact bx | exact below_then (below_drewN (Below.refl _ _) _) bx); replace AA := blk_below AA bx; replace AB := blk_below AB bx; replace AP := blk_below AP bx; replace AQ := blk_below AQ bx; replace h11 := h11.below bx; replace A11 := blk_below A11 bx; replace h12 := h12.below bx; replace h13 := h13.below bx; replace s14 := s14.below bx; replace h15 := h15.below bx; replace h16 := h16.below bx; replace s17 := s17.below bx; replace h18 := h18.below bx; replace A18 := blk_below A18 bx; replace h19 := h19.below bx; replace h20 := h20.below bx; replace s21 := s21.below bx; replace s22 := s22.below bx; replace h23 := h23.below bx; replace A23 := blk_below A23 bx; replace B := below_then B bx; have HM20 := Lib.hid bx; clear bx; obtain ⟨z0, zz0, zzz0⟩ := blk A11; obtain ⟨z1, zz1, zzz1⟩ := blk A23; obtain ⟨z2, zz2, zzz2⟩ := blk AP; obtain ⟨z3, zz3, zzz3⟩ := blk AA))
  clear z0 zz0 zzz0
  clear z1 zz1 zzz1
  clear z2 zz2 zzz2
  clear z3 zz3 zzz3
  go_wp2_with fail
  go_ret
  exact ⟨rfl, B⟩
end Go.Proofs.Ytooejhijdjcmkaa
