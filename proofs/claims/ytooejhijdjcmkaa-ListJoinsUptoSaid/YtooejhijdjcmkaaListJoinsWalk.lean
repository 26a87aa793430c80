/-
  The walk of the law ListJoins. Conditions: no more than 1048576 numbers in all.
-/
import Derived.Test.YtooejhijdjcmkaaListLs
import Derived.Test.YtooejhijdjcmkaaCat
namespace Go.Proofs.Ytooejhijdjcmkaa
open Go.RowKit Go.Deep
open Go.Proofs.Ytooejhijdjcmkaa.LI
set_option linter.unusedVariables false
theorem len_to (p : Option Addr) (m : Int) (xs : List Int) (S : Int) (w : World) (h : Ls w p m xs) (e : (xs.length : Int) = S) : Calls Try.prog 21 #[.agg #[.pointer p, .int .i64 m]] w fun e w' => e = .returned (.int .i64 S) ∧ Below w.heap.size w w' := by
  rw [← e]
  exact len_ls p m xs w h
set_option maxHeartbeats 4000000 in
set_option maxRecDepth 100000 in
theorem ListJoins_walk (a0 : Option Addr) (n0 c0 : Nat) (x0 : List Int) (a1 : Option Addr) (n1 c1 : Nat) (x1 : List Int) (a2 : Option Addr) (n2 c2 : Nat) (x2 : List Int) (w : World)
    (s0 : Sl w a0 n0 c0 x0) (i0 : ∀ n ∈ x0, I64 n) (s1 : Sl w a1 n1 c1 x1) (i1 : ∀ n ∈ x1, I64 n) (s2 : Sl w a2 n2 c2 x2) (i2 : ∀ n ∈ x2, I64 n) (hN : n0 + n1 + n2 ≤ 1048576) :
    Calls Try.prog 8 #[.slice a0 n0 c0, .slice a1 n1 c1, .slice a2 n2 c2] w fun e w' => e = .returned (.bool true) ∧ Below w.heap.size w w' := by
  have e0 : n0 ≤ 1048576 := by omega
  have e1 : n1 ≤ 1048576 := by omega
  have e2 : n2 ≤ 1048576 := by omega
  have l0 : x0.length ≤ n0 := by rw [s0.hlen]; exact Nat.le_refl _
  have l1 : x1.length ≤ n1 := by rw [s1.hlen]; exact Nat.le_refl _
  have l2 : x2.length ≤ n2 := by rw [s2.hlen]; exact Nat.le_refl _
  obtain ⟨t0, hi0, hz0, hz1, hz2⟩ := info_parts Try.infoInt
  go_enter Try.func8, Try.ntmps8
  go_wp2_with fail
  refine (listed_any _).mono ?_
  rintro e w1 ⟨rfl, bx⟩
  have B := bx
  clear bx
  go_wp2_with fail
  refine (of_ls a0 n0 c0 x0 _ (s0.below B) (by omega)).mono ?_
  rintro e w2 ⟨q26, m26, rfl, h26, bx⟩
  replace B := below_then B bx
  clear bx
  go_wp2_with fail
  refine (of_ls a1 n1 c1 x1 _ ((s1.below B).alloc _) (by omega)).mono ?_
  rintro e w3 ⟨q27, m27, rfl, h27, bx⟩
  obtain ⟨bx, A26⟩ := hold1 bx ⟨rfl, rfl, rfl, rfl⟩
  replace h26 := h26.below bx
  replace B := below_then B bx
  clear bx
  go_wp2_with fail
  refine (of_ls a2 n2 c2 x2 _ ((s2.below B).alloc _) (by omega)).mono ?_
  rintro e w4 ⟨q28, m28, rfl, h28, bx⟩
  obtain ⟨bx, A27⟩ := hold1 bx ⟨rfl, rfl, rfl, rfl⟩
  replace h26 := h26.below bx
  replace A26 := blk_below A26 bx
  replace h27 := h27.below bx
  replace B := below_then B bx
  clear bx
  go_wp2_with fail
  obtain ⟨w5, hw⟩ : ∃ W, ((w4.alloc (.cells #[.pointer q28, .int .i64 m28] 28)).alloc (.cells #[.pointer none, .int .i64 0] 28)) = W := ⟨_, rfl⟩
  have bx : Below w4.heap.size w4 w5 := by rw [← hw]; exact (((Below.refl _ _).alloc (by simp; try omega) _).alloc (by simp; try omega) _)
  have A28 : w5.heap[w4.heap.size]? = some (.cells #[.pointer q28, .int .i64 m28] 28 (0, 0)) := by
    rw [← hw]
    refine (Below.heap_alloc _ _ _ (by simp; try omega)).trans (?_)
    have := heap_alloc_new w4 (.cells #[.pointer q28, .int .i64 m28] 28)
    exact this
  have AN : w5.heap[w4.heap.size + 1]? = some (.cells #[.pointer none, .int .i64 0] 28 (0, 0)) := by
    rw [← hw]
    have := heap_alloc_new (w4.alloc (.cells #[.pointer q28, .int .i64 m28] 28)) (.cells #[.pointer none, .int .i64 0] 28)
    rwa [World.size_alloc] at this
  rw [hw]
  clear hw
  replace h26 := h26.below bx
  replace A26 := blk_below A26 bx
  replace h27 := h27.below bx
  replace A27 := blk_below A27 bx
  replace h28 := h28.below bx
  replace B := below_then B bx
  clear bx
  have hN := Ls.nil w5
  obtain ⟨z0, zz0, zzz0⟩ := blk A26
  obtain ⟨z1, zz1, zzz1⟩ := blk A27
  obtain ⟨z2, zz2, zzz2⟩ := blk A28
  go_wp2_with fail
  go_region_held3 (fun w' => w'.cell? ⟨w2.heap.size, 0, none⟩ = some (.pointer q26) ∧ w'.cell? ⟨w2.heap.size, 1, none⟩ = some (.int .i64 m26) ∧ w'.cell? ⟨w3.heap.size, 0, none⟩ = some (.pointer q27) ∧ w'.cell? ⟨w3.heap.size, 1, none⟩ = some (.int .i64 m27) ∧ w'.cell? ⟨w4.heap.size, 0, none⟩ = some (.pointer q28) ∧ w'.cell? ⟨w4.heap.size, 1, none⟩ = some (.int .i64 m28)) (go_keep) (first
    | (have _t := HM11; go_at_call 14; refine (same_yes _ _ _ _ _ _ _ _ _ (by first | exact s31 | exact s31.below (below_drewN (Below.refl _ _) _)) (by first | exact s34 | exact s34.below (below_drewN (Below.refl _ _) _)) (by simp)).mono ?_; rintro e w12 ⟨rfl, bx⟩; replace bx : Below w11.heap.size w11 w12 := (by first | exact bx | exact below_then (below_drewN (Below.refl _ _) _) bx); replace h26 := h26.below bx; replace A26 := blk_below A26 bx; replace h27 := h27.below bx; replace A27 := blk_below A27 bx; replace h28 := h28.below bx; replace A28 := blk_below A28 bx; replace AN := blk_below AN bx; replace hN := hN.below bx; replace h29 := h29.below bx; replace h30 := h30.below bx; replace s31 := s31.below bx; replace h32 := h32.below bx; replace h33 := h33.below bx; replace s34 := s34.below bx; replace B := below_then B bx; have HM12 := Lib.hid bx; clear bx; obtain ⟨z0, zz0, zzz0⟩ := blk A26; obtain ⟨z1, zz1, zzz1⟩ := blk A27; obtain ⟨z2, zz2, zzz2⟩ := blk A28)
    | (have _t := HM10; go_at_call 18; refine (ints_ls q33 m33 _ _ (by first | exact h33 | exact h33.below (below_drewN (Below.refl _ _) _)) (by (repeat (first | rw [List.length_reverse] | rw [List.length_append] | rw [List.length_cons] | rw [List.length_nil])); omega)).mono ?_; rintro e w11 ⟨a34, k34, c34, rfl, s34, bx⟩; replace bx : Below w10.heap.size w10 w11 := (by first | exact bx | exact below_then (below_drewN (Below.refl _ _) _) bx); replace h26 := h26.below bx; replace A26 := blk_below A26 bx; replace h27 := h27.below bx; replace A27 := blk_below A27 bx; replace h28 := h28.below bx; replace A28 := blk_below A28 bx; replace AN := blk_below AN bx; replace hN := hN.below bx; replace h29 := h29.below bx; replace h30 := h30.below bx; replace s31 := s31.below bx; replace h32 := h32.below bx; replace h33 := h33.below bx; replace B := below_then B bx; have HM11 := Lib.hid bx; clear bx; obtain ⟨z0, zz0, zzz0⟩ := blk A26; obtain ⟨z1, zz1, zzz1⟩ := blk A27; obtain ⟨z2, zz2, zzz2⟩ := blk A28)
    | (have _t := HM9; go_at_call 25; refine (join_ls q26 m26 _ q32 m32 _ _ (by first | exact h26 | exact h26.below (below_drewN (Below.refl _ _) _)) (by first | exact h32 | exact h32.below (below_drewN (Below.refl _ _) _)) (by (repeat (first | rw [List.length_reverse] | rw [List.length_append] | rw [List.length_cons] | rw [List.length_nil])); omega)).mono ?_; rintro e w10 ⟨q33, m33, rfl, h33, bx⟩; replace bx : Below w9.heap.size w9 w10 := (by first | exact bx | exact below_then (below_drewN (Below.refl _ _) _) bx); replace h26 := h26.below bx; replace A26 := blk_below A26 bx; replace h27 := h27.below bx; replace A27 := blk_below A27 bx; replace h28 := h28.below bx; replace A28 := blk_below A28 bx; replace AN := blk_below AN bx; replace hN := hN.below bx; replace h29 := h29.below bx; replace h30 := h30.below bx; replace s31 := s31.below bx; replace h32 := h32.below bx; replace B := below_then B bx; have HM10 := Lib.hid bx; clear bx; obtain ⟨z0, zz0, zzz0⟩ := blk A26; obtain ⟨z1, zz1, zzz1⟩ := blk A27; obtain ⟨z2, zz2, zzz2⟩ := blk A28)
    | (have _t := HM8; go_at_call 25; refine (join_ls q27 m27 _ q28 m28 _ _ (by first | exact h27 | exact h27.below (below_drewN (Below.refl _ _) _)) (by first | exact h28 | exact h28.below (below_drewN (Below.refl _ _) _)) (by (repeat (first | rw [List.length_reverse] | rw [List.length_append] | rw [List.length_cons] | rw [List.length_nil])); omega)).mono ?_; rintro e w9 ⟨q32, m32, rfl, h32, bx⟩; replace bx : Below w8.heap.size w8 w9 := (by first | exact bx | exact below_then (below_drewN (Below.refl _ _) _) bx); replace h26 := h26.below bx; replace A26 := blk_below A26 bx; replace h27 := h27.below bx; replace A27 := blk_below A27 bx; replace h28 := h28.below bx; replace A28 := blk_below A28 bx; replace AN := blk_below AN bx; replace hN := hN.below bx; replace h29 := h29.below bx; replace h30 := h30.below bx; replace s31 := s31.below bx; replace B := below_then B bx; have HM9 := Lib.hid bx; clear bx; obtain ⟨z0, zz0, zzz0⟩ := blk A26; obtain ⟨z1, zz1, zzz1⟩ := blk A27; obtain ⟨z2, zz2, zzz2⟩ := blk A28)
    | (have _t := HM7; go_at_call 18; refine (ints_ls q30 m30 _ _ (by first | exact h30 | exact h30.below (below_drewN (Below.refl _ _) _)) (by (repeat (first | rw [List.length_reverse] | rw [List.length_append] | rw [List.length_cons] | rw [List.length_nil])); omega)).mono ?_; rintro e w8 ⟨a31, k31, c31, rfl, s31, bx⟩; replace bx : Below w7.heap.size w7 w8 := (by first | exact bx | exact below_then (below_drewN (Below.refl _ _) _) bx); replace h26 := h26.below bx; replace A26 := blk_below A26 bx; replace h27 := h27.below bx; replace A27 := blk_below A27 bx; replace h28 := h28.below bx; replace A28 := blk_below A28 bx; replace AN := blk_below AN bx; replace hN := hN.below bx; replace h29 := h29.below bx; replace h30 := h30.below bx; replace B := below_then B bx; have HM8 := Lib.hid bx; clear bx; obtain ⟨z0, zz0, zzz0⟩ := blk A26; obtain ⟨z1, zz1, zzz1⟩ := blk A27; obtain ⟨z2, zz2, zzz2⟩ := blk A28)
    | (have _t := HM6; go_at_call 25; refine (join_ls q29 m29 _ q28 m28 _ _ (by first | exact h29 | exact h29.below (below_drewN (Below.refl _ _) _)) (by first | exact h28 | exact h28.below (below_drewN (Below.refl _ _) _)) (by (repeat (first | rw [List.length_reverse] | rw [List.length_append] | rw [List.length_cons] | rw [List.length_nil])); omega)).mono ?_; rintro e w7 ⟨q30, m30, rfl, h30, bx⟩; replace bx : Below w6.heap.size w6 w7 := (by first | exact bx | exact below_then (below_drewN (Below.refl _ _) _) bx); replace h26 := h26.below bx; replace A26 := blk_below A26 bx; replace h27 := h27.below bx; replace A27 := blk_below A27 bx; replace h28 := h28.below bx; replace A28 := blk_below A28 bx; replace AN := blk_below AN bx; replace hN := hN.below bx; replace h29 := h29.below bx; replace B := below_then B bx; have HM7 := Lib.hid bx; clear bx; obtain ⟨z0, zz0, zzz0⟩ := blk A26; obtain ⟨z1, zz1, zzz1⟩ := blk A27; obtain ⟨z2, zz2, zzz2⟩ := blk A28)
    | (go_at_call 25; refine (join_ls q26 m26 _ q27 m27 _ _ (by first | exact h26 | exact h26.below (below_drewN (Below.refl _ _) _)) (by first | exact h27 | exact h27.below (below_drewN (Below.refl _ _) _)) (by (repeat (first | rw [List.length_reverse] | rw [List.length_append] | rw [List.length_cons] | rw [List.length_nil])); omega)).mono ?_; rintro e w6 ⟨q29, m29, rfl, h29, bx⟩; replace bx : Below w5.heap.size w5 w6 := (by first | exact bx | exact below_then (below_drewN (Below.refl _ _) _) bx); replace h26 := h26.below bx; replace A26 := blk_below A26 bx; replace h27 := h27.below bx; replace A27 := blk_below A27 bx; replace h28 := h28.below bx; replace A28 := blk_below A28 bx; replace AN := blk_below AN bx; replace hN := hN.below bx; replace B := below_then B bx; have HM6 := Lib.hid bx; clear bx; obtain ⟨z0, zz0, zzz0⟩ := blk A26; obtain ⟨z1, zz1, zzz1⟩ := blk A27; obtain ⟨z2, zz2, zzz2⟩ := blk A28))
  clear z0 zz0 zzz0
  clear z1 zz1 zzz1
  clear z2 zz2 zzz2
  obtain ⟨u0, uu0, uuu0⟩ := blk A26
  obtain ⟨u1, uu1, uuu1⟩ := blk AN
  go_wp2_with fail
  refine (join_ls q26 m26 _ none 0 _ _ h26 hN (by (repeat (first | rw [List.length_reverse] | rw [List.length_append] | rw [List.length_cons] | rw [List.length_nil])); omega)).mono ?_
  rintro e w13 ⟨q35, m35, rfl, h35, bx⟩
  clear u0 uu0 uuu0
  clear u1 uu1 uuu1
  replace h26 := h26.below bx
  replace A26 := blk_below A26 bx
  replace h27 := h27.below bx
  replace A27 := blk_below A27 bx
  replace h28 := h28.below bx
  replace A28 := blk_below A28 bx
  replace AN := blk_below AN bx
  replace hN := hN.below bx
  replace h29 := h29.below bx
  replace h30 := h30.below bx
  replace s31 := s31.below bx
  replace h32 := h32.below bx
  replace h33 := h33.below bx
  replace s34 := s34.below bx
  replace B := below_then B bx
  clear bx
  go_wp2_with fail
  refine (ints_ls q35 m35 _ _ h35 (by (repeat (first | rw [List.length_reverse] | rw [List.length_append] | rw [List.length_cons] | rw [List.length_nil])); omega)).mono ?_
  rintro e w14 ⟨a36, k36, c36, rfl, s36, bx⟩
  replace h26 := h26.below bx
  replace A26 := blk_below A26 bx
  replace h27 := h27.below bx
  replace A27 := blk_below A27 bx
  replace h28 := h28.below bx
  replace A28 := blk_below A28 bx
  replace AN := blk_below AN bx
  replace hN := hN.below bx
  replace h29 := h29.below bx
  replace h30 := h30.below bx
  replace s31 := s31.below bx
  replace h32 := h32.below bx
  replace h33 := h33.below bx
  replace s34 := s34.below bx
  replace h35 := h35.below bx
  replace B := below_then B bx
  clear bx
  go_wp2_with fail
  refine (same_yes _ _ _ _ _ _ _ _ _ s36 (s0.below B) (by simp)).mono ?_
  rintro e w15 ⟨rfl, bx⟩
  replace h26 := h26.below bx
  replace A26 := blk_below A26 bx
  replace h27 := h27.below bx
  replace A27 := blk_below A27 bx
  replace h28 := h28.below bx
  replace A28 := blk_below A28 bx
  replace AN := blk_below AN bx
  replace hN := hN.below bx
  replace h29 := h29.below bx
  replace h30 := h30.below bx
  replace s31 := s31.below bx
  replace h32 := h32.below bx
  replace h33 := h33.below bx
  replace s34 := s34.below bx
  replace h35 := h35.below bx
  replace s36 := s36.below bx
  replace B := below_then B bx
  clear bx
  obtain ⟨u0, uu0, uuu0⟩ := blk AN
  obtain ⟨u1, uu1, uuu1⟩ := blk A26
  go_wp2_with fail
  refine (join_ls none 0 _ q26 m26 _ _ hN h26 (by (repeat (first | rw [List.length_reverse] | rw [List.length_append] | rw [List.length_cons] | rw [List.length_nil])); omega)).mono ?_
  rintro e w16 ⟨q37, m37, rfl, h37, bx⟩
  clear u0 uu0 uuu0
  clear u1 uu1 uuu1
  replace h26 := h26.below bx
  replace A26 := blk_below A26 bx
  replace h27 := h27.below bx
  replace A27 := blk_below A27 bx
  replace h28 := h28.below bx
  replace A28 := blk_below A28 bx
  replace AN := blk_below AN bx
  replace hN := hN.below bx
  replace h29 := h29.below bx
  replace h30 := h30.below bx
  replace s31 := s31.below bx
  replace h32 := h32.below bx
  replace h33 := h33.below bx
  replace s34 := s34.below bx
  replace h35 := h35.below bx
  replace s36 := s36.below bx
  replace B := below_then B bx
  clear bx
  go_wp2_with fail
  refine (ints_ls q37 m37 _ _ h37 (by (repeat (first | rw [List.length_reverse] | rw [List.length_append] | rw [List.length_cons] | rw [List.length_nil])); omega)).mono ?_
  rintro e w17 ⟨a38, k38, c38, rfl, s38, bx⟩
  replace h26 := h26.below bx
  replace A26 := blk_below A26 bx
  replace h27 := h27.below bx
  replace A27 := blk_below A27 bx
  replace h28 := h28.below bx
  replace A28 := blk_below A28 bx
  replace AN := blk_below AN bx
  replace hN := hN.below bx
  replace h29 := h29.below bx
  replace h30 := h30.below bx
  replace s31 := s31.below bx
  replace h32 := h32.below bx
  replace h33 := h33.below bx
  replace s34 := s34.below bx
  replace h35 := h35.below bx
  replace s36 := s36.below bx
  replace h37 := h37.below bx
  replace B := below_then B bx
  clear bx
  go_wp2_with fail
  refine (same_yes _ _ _ _ _ _ _ _ _ s38 (s0.below B) (by simp)).mono ?_
  rintro e w18 ⟨rfl, bx⟩
  replace h26 := h26.below bx
  replace A26 := blk_below A26 bx
  replace h27 := h27.below bx
  replace A27 := blk_below A27 bx
  replace h28 := h28.below bx
  replace A28 := blk_below A28 bx
  replace AN := blk_below AN bx
  replace hN := hN.below bx
  replace h29 := h29.below bx
  replace h30 := h30.below bx
  replace s31 := s31.below bx
  replace h32 := h32.below bx
  replace h33 := h33.below bx
  replace s34 := s34.below bx
  replace h35 := h35.below bx
  replace s36 := s36.below bx
  replace h37 := h37.below bx
  replace s38 := s38.below bx
  replace B := below_then B bx
  clear bx
  obtain ⟨u0, uu0, uuu0⟩ := blk A26
  obtain ⟨u1, uu1, uuu1⟩ := blk A27
  go_wp2_with fail
  refine (join_ls q26 m26 _ q27 m27 _ _ h26 h27 (by (repeat (first | rw [List.length_reverse] | rw [List.length_append] | rw [List.length_cons] | rw [List.length_nil])); omega)).mono ?_
  rintro e w19 ⟨q39, m39, rfl, h39, bx⟩
  clear u0 uu0 uuu0
  clear u1 uu1 uuu1
  replace h26 := h26.below bx
  replace A26 := blk_below A26 bx
  replace h27 := h27.below bx
  replace A27 := blk_below A27 bx
  replace h28 := h28.below bx
  replace A28 := blk_below A28 bx
  replace AN := blk_below AN bx
  replace hN := hN.below bx
  replace h29 := h29.below bx
  replace h30 := h30.below bx
  replace s31 := s31.below bx
  replace h32 := h32.below bx
  replace h33 := h33.below bx
  replace s34 := s34.below bx
  replace h35 := h35.below bx
  replace s36 := s36.below bx
  replace h37 := h37.below bx
  replace s38 := s38.below bx
  replace B := below_then B bx
  clear bx
  go_wp2_with fail
  refine (ints_ls q39 m39 _ _ h39 (by (repeat (first | rw [List.length_reverse] | rw [List.length_append] | rw [List.length_cons] | rw [List.length_nil])); omega)).mono ?_
  rintro e w20 ⟨a40, k40, c40, rfl, s40, bx⟩
  replace h26 := h26.below bx
  replace A26 := blk_below A26 bx
  replace h27 := h27.below bx
  replace A27 := blk_below A27 bx
  replace h28 := h28.below bx
  replace A28 := blk_below A28 bx
  replace AN := blk_below AN bx
  replace hN := hN.below bx
  replace h29 := h29.below bx
  replace h30 := h30.below bx
  replace s31 := s31.below bx
  replace h32 := h32.below bx
  replace h33 := h33.below bx
  replace s34 := s34.below bx
  replace h35 := h35.below bx
  replace s36 := s36.below bx
  replace h37 := h37.below bx
  replace s38 := s38.below bx
  replace h39 := h39.below bx
  replace B := below_then B bx
  clear bx
  go_wp2_with fail
  refine (cat_any a0 a1 n0 n1 c0 c1 x0 x1 _ (s0.below B) (s1.below B) (by omega)).mono ?_
  rintro e w21 ⟨v41, rfl, o41, bx⟩
  replace h26 := h26.below bx
  replace A26 := blk_below A26 bx
  replace h27 := h27.below bx
  replace A27 := blk_below A27 bx
  replace h28 := h28.below bx
  replace A28 := blk_below A28 bx
  replace AN := blk_below AN bx
  replace hN := hN.below bx
  replace h29 := h29.below bx
  replace h30 := h30.below bx
  replace s31 := s31.below bx
  replace h32 := h32.below bx
  replace h33 := h33.below bx
  replace s34 := s34.below bx
  replace h35 := h35.below bx
  replace s36 := s36.below bx
  replace h37 := h37.below bx
  replace s38 := s38.below bx
  replace h39 := h39.below bx
  replace s40 := s40.below bx
  replace B := below_then B bx
  clear bx
  obtain ⟨a41, c41, rfl, s41⟩ := Sl.of_own o41
  go_wp2_with fail
  refine (same_yes _ _ _ _ _ _ _ _ _ s40 s41 rfl).mono ?_
  rintro e w22 ⟨rfl, bx⟩
  replace h26 := h26.below bx
  replace A26 := blk_below A26 bx
  replace h27 := h27.below bx
  replace A27 := blk_below A27 bx
  replace h28 := h28.below bx
  replace A28 := blk_below A28 bx
  replace AN := blk_below AN bx
  replace hN := hN.below bx
  replace h29 := h29.below bx
  replace h30 := h30.below bx
  replace s31 := s31.below bx
  replace h32 := h32.below bx
  replace h33 := h33.below bx
  replace s34 := s34.below bx
  replace h35 := h35.below bx
  replace s36 := s36.below bx
  replace h37 := h37.below bx
  replace s38 := s38.below bx
  replace h39 := h39.below bx
  replace s40 := s40.below bx
  replace s41 := s41.below bx
  replace B := below_then B bx
  clear bx
  obtain ⟨v0, vv0, vvv0⟩ := blk A26
  have va0 := v0 0
  have va1 := v0 1
  obtain ⟨v1, vv1, vvv1⟩ := blk A27
  have vb0 := v1 0
  have vb1 := v1 1
  clear v0 v1 vv0 vv1 vvv0 vvv1
  simp at va0 va1 vb0 vb1
  go_wp2_with fail
  refine (join_ls q26 m26 _ q27 m27 _ _ h26 h27 (by (repeat (first | rw [List.length_reverse] | rw [List.length_append] | rw [List.length_cons] | rw [List.length_nil])); omega)).mono ?_
  rintro e w23 ⟨q42, m42, rfl, h42, bx⟩
  replace h26 := h26.below bx
  replace A26 := blk_below A26 bx
  replace h27 := h27.below bx
  replace A27 := blk_below A27 bx
  replace h28 := h28.below bx
  replace A28 := blk_below A28 bx
  replace AN := blk_below AN bx
  replace hN := hN.below bx
  replace h29 := h29.below bx
  replace h30 := h30.below bx
  replace s31 := s31.below bx
  replace h32 := h32.below bx
  replace h33 := h33.below bx
  replace s34 := s34.below bx
  replace h35 := h35.below bx
  replace s36 := s36.below bx
  replace h37 := h37.below bx
  replace s38 := s38.below bx
  replace h39 := h39.below bx
  replace s40 := s40.below bx
  replace s41 := s41.below bx
  replace B := below_then B bx
  clear bx
  clear va0 va1 vb0 vb1
  go_wp2_with fail
  refine (len_to q42 m42 _ ((n0 : Int) + (n1 : Int)) _ h42 (by rw [List.length_append, s0.hlen, s1.hlen]; omega)).mono ?_
  rintro e w24 ⟨rfl, bx⟩
  replace h26 := h26.below bx
  replace A26 := blk_below A26 bx
  replace h27 := h27.below bx
  replace A27 := blk_below A27 bx
  replace h28 := h28.below bx
  replace A28 := blk_below A28 bx
  replace AN := blk_below AN bx
  replace hN := hN.below bx
  replace h29 := h29.below bx
  replace h30 := h30.below bx
  replace s31 := s31.below bx
  replace h32 := h32.below bx
  replace h33 := h33.below bx
  replace s34 := s34.below bx
  replace h35 := h35.below bx
  replace s36 := s36.below bx
  replace h37 := h37.below bx
  replace s38 := s38.below bx
  replace h39 := h39.below bx
  replace s40 := s40.below bx
  replace s41 := s41.below bx
  replace h42 := h42.below bx
  replace B := below_then B bx
  clear bx
  go_wp2_with fail
  go_ret
  exact ⟨rfl, B⟩
end Go.Proofs.Ytooejhijdjcmkaa
