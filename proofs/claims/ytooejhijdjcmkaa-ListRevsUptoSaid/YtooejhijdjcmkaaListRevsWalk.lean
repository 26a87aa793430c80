/-
  The walk of the law ListRevs. Conditions: no more than 1048576 numbers in all.
-/
import Derived.Test.YtooejhijdjcmkaaListLs
import Derived.Test.YtooejhijdjcmkaaRefRev
namespace Go.Proofs.Ytooejhijdjcmkaa
open Go.RowKit Go.Deep
open Go.Proofs.Ytooejhijdjcmkaa.LI
set_option linter.unusedVariables false
set_option maxHeartbeats 4000000 in
set_option maxRecDepth 100000 in
theorem ListRevs_walk (a0 : Option Addr) (n0 c0 : Nat) (x0 : List Int) (a1 : Option Addr) (n1 c1 : Nat) (x1 : List Int) (w : World)
    (s0 : Sl w a0 n0 c0 x0) (i0 : ∀ n ∈ x0, I64 n) (s1 : Sl w a1 n1 c1 x1) (i1 : ∀ n ∈ x1, I64 n) (hN : n0 + n1 ≤ 1048576) :
    Calls Try.prog 7 #[.slice a0 n0 c0, .slice a1 n1 c1] w fun e w' => e = .returned (.bool true) ∧ Below w.heap.size w w' := by
  have e0 : n0 ≤ 1048576 := by omega
  have e1 : n1 ≤ 1048576 := by omega
  have l0 : x0.length ≤ n0 := by rw [s0.hlen]; exact Nat.le_refl _
  have l1 : x1.length ≤ n1 := by rw [s1.hlen]; exact Nat.le_refl _
  obtain ⟨t0, hi0, hz0, hz1, hz2⟩ := info_parts Try.infoInt
  go_enter Try.func7, Try.ntmps7
  go_wp2_with fail
  refine (listed_any _).mono ?_
  rintro e w1 ⟨rfl, bx⟩
  have B := bx
  clear bx
  go_wp2_with fail
  refine (of_ls a0 n0 c0 x0 _ (s0.below B) (by omega)).mono ?_
  rintro e w2 ⟨q11, m11, rfl, h11, bx⟩
  replace B := below_then B bx
  clear bx
  go_wp2_with fail
  refine (of_ls a1 n1 c1 x1 _ ((s1.below B).alloc _) (by omega)).mono ?_
  rintro e w3 ⟨q12, m12, rfl, h12, bx⟩
  obtain ⟨bx, A11⟩ := hold1 bx ⟨rfl, rfl, rfl, rfl⟩
  replace h11 := h11.below bx
  replace B := below_then B bx
  clear bx
  obtain ⟨u0, uu0, uuu0⟩ := blk A11
  go_wp2_with fail
  refine (rev_ls q11 m11 _ _ (h11.alloc _) (by (repeat (first | rw [List.length_reverse] | rw [List.length_append] | rw [List.length_cons])); omega)).mono ?_
  rintro e w4 ⟨q13, m13, rfl, h13, bx⟩
  obtain ⟨bx, A12⟩ := hold1 bx ⟨rfl, rfl, rfl, rfl⟩
  clear u0 uu0 uuu0
  replace h11 := h11.below bx
  replace A11 := blk_below A11 bx
  replace h12 := h12.below bx
  replace B := below_then B bx
  clear bx
  go_wp2_with fail
  refine (rev_ls q13 m13 _ _ h13 (by (repeat (first | rw [List.length_reverse] | rw [List.length_append] | rw [List.length_cons])); omega)).mono ?_
  rintro e w5 ⟨q14, m14, rfl, h14, bx⟩
  replace h11 := h11.below bx
  replace A11 := blk_below A11 bx
  replace h12 := h12.below bx
  replace A12 := blk_below A12 bx
  replace h13 := h13.below bx
  replace B := below_then B bx
  clear bx
  go_wp2_with fail
  refine (ints_ls q14 m14 _ _ h14 (by (repeat (first | rw [List.length_reverse] | rw [List.length_append] | rw [List.length_cons])); omega)).mono ?_
  rintro e w6 ⟨a15, k15, c15, rfl, s15, bx⟩
  replace h11 := h11.below bx
  replace A11 := blk_below A11 bx
  replace h12 := h12.below bx
  replace A12 := blk_below A12 bx
  replace h13 := h13.below bx
  replace h14 := h14.below bx
  replace B := below_then B bx
  clear bx
  go_wp2_with fail
  refine (same_yes _ _ _ _ _ _ _ _ _ s15 (s0.below B) (by simp)).mono ?_
  rintro e w7 ⟨rfl, bx⟩
  replace h11 := h11.below bx
  replace A11 := blk_below A11 bx
  replace h12 := h12.below bx
  replace A12 := blk_below A12 bx
  replace h13 := h13.below bx
  replace h14 := h14.below bx
  replace s15 := s15.below bx
  replace B := below_then B bx
  clear bx
  obtain ⟨z0, zz0, zzz0⟩ := blk A11
  obtain ⟨z1, zz1, zzz1⟩ := blk A12
  go_wp2_with fail
  go_region_held3 (fun w' => w'.cell? ⟨w2.heap.size, 0, none⟩ = some (.pointer q11) ∧ w'.cell? ⟨w2.heap.size, 1, none⟩ = some (.int .i64 m11) ∧ w'.cell? ⟨w3.heap.size, 0, none⟩ = some (.pointer q12) ∧ w'.cell? ⟨w3.heap.size, 1, none⟩ = some (.int .i64 m12)) (go_keep) (first
    | (have _t := HM14; go_at_call 14; refine (same_yes _ _ _ _ _ _ _ _ _ (by first | exact s18 | exact s18.below (below_drewN (Below.refl _ _) _)) (by first | exact s22 | exact s22.below (below_drewN (Below.refl _ _) _)) (by simp)).mono ?_; rintro e w15 ⟨rfl, bx⟩; replace bx : Below w14.heap.size w14 w15 := (by first | exact bx | exact below_then (below_drewN (Below.refl _ _) _) bx); replace h11 := h11.below bx; replace A11 := blk_below A11 bx; replace h12 := h12.below bx; replace A12 := blk_below A12 bx; replace h13 := h13.below bx; replace h14 := h14.below bx; replace s15 := s15.below bx; replace h16 := h16.below bx; replace h17 := h17.below bx; replace s18 := s18.below bx; replace h19 := h19.below bx; replace h20 := h20.below bx; replace h21 := h21.below bx; replace s22 := s22.below bx; replace B := below_then B bx; have HM15 := Lib.hid bx; clear bx; obtain ⟨z0, zz0, zzz0⟩ := blk A11; obtain ⟨z1, zz1, zzz1⟩ := blk A12)
    | (have _t := HM13; go_at_call 18; refine (ints_ls q21 m21 _ _ (by first | exact h21 | exact h21.below (below_drewN (Below.refl _ _) _)) (by (repeat (first | rw [List.length_reverse] | rw [List.length_append] | rw [List.length_cons])); omega)).mono ?_; rintro e w14 ⟨a22, k22, c22, rfl, s22, bx⟩; replace bx : Below w13.heap.size w13 w14 := (by first | exact bx | exact below_then (below_drewN (Below.refl _ _) _) bx); replace h11 := h11.below bx; replace A11 := blk_below A11 bx; replace h12 := h12.below bx; replace A12 := blk_below A12 bx; replace h13 := h13.below bx; replace h14 := h14.below bx; replace s15 := s15.below bx; replace h16 := h16.below bx; replace h17 := h17.below bx; replace s18 := s18.below bx; replace h19 := h19.below bx; replace h20 := h20.below bx; replace h21 := h21.below bx; replace B := below_then B bx; have HM14 := Lib.hid bx; clear bx; obtain ⟨z0, zz0, zzz0⟩ := blk A11; obtain ⟨z1, zz1, zzz1⟩ := blk A12)
    | (have _t := HM12; go_at_call 25; refine (join_ls q19 m19 _ q20 m20 _ _ (by first | exact h19 | exact h19.below (below_drewN (Below.refl _ _) _)) (by first | exact h20 | exact h20.below (below_drewN (Below.refl _ _) _)) (by (repeat (first | rw [List.length_reverse] | rw [List.length_append] | rw [List.length_cons])); omega)).mono ?_; rintro e w13 ⟨q21, m21, rfl, h21, bx⟩; replace bx : Below w12.heap.size w12 w13 := (by first | exact bx | exact below_then (below_drewN (Below.refl _ _) _) bx); replace h11 := h11.below bx; replace A11 := blk_below A11 bx; replace h12 := h12.below bx; replace A12 := blk_below A12 bx; replace h13 := h13.below bx; replace h14 := h14.below bx; replace s15 := s15.below bx; replace h16 := h16.below bx; replace h17 := h17.below bx; replace s18 := s18.below bx; replace h19 := h19.below bx; replace h20 := h20.below bx; replace B := below_then B bx; have HM13 := Lib.hid bx; clear bx; obtain ⟨z0, zz0, zzz0⟩ := blk A11; obtain ⟨z1, zz1, zzz1⟩ := blk A12)
    | (have _t := HM11; go_at_call 29; refine (rev_ls q11 m11 _ _ (by first | exact h11 | exact h11.below (below_drewN (Below.refl _ _) _)) (by (repeat (first | rw [List.length_reverse] | rw [List.length_append] | rw [List.length_cons])); omega)).mono ?_; rintro e w12 ⟨q20, m20, rfl, h20, bx⟩; replace bx : Below w11.heap.size w11 w12 := (by first | exact bx | exact below_then (below_drewN (Below.refl _ _) _) bx); replace h11 := h11.below bx; replace A11 := blk_below A11 bx; replace h12 := h12.below bx; replace A12 := blk_below A12 bx; replace h13 := h13.below bx; replace h14 := h14.below bx; replace s15 := s15.below bx; replace h16 := h16.below bx; replace h17 := h17.below bx; replace s18 := s18.below bx; replace h19 := h19.below bx; replace B := below_then B bx; have HM12 := Lib.hid bx; clear bx; obtain ⟨z0, zz0, zzz0⟩ := blk A11; obtain ⟨z1, zz1, zzz1⟩ := blk A12)
    | (have _t := HM10; go_at_call 29; refine (rev_ls q12 m12 _ _ (by first | exact h12 | exact h12.below (below_drewN (Below.refl _ _) _)) (by (repeat (first | rw [List.length_reverse] | rw [List.length_append] | rw [List.length_cons])); omega)).mono ?_; rintro e w11 ⟨q19, m19, rfl, h19, bx⟩; replace bx : Below w10.heap.size w10 w11 := (by first | exact bx | exact below_then (below_drewN (Below.refl _ _) _) bx); replace h11 := h11.below bx; replace A11 := blk_below A11 bx; replace h12 := h12.below bx; replace A12 := blk_below A12 bx; replace h13 := h13.below bx; replace h14 := h14.below bx; replace s15 := s15.below bx; replace h16 := h16.below bx; replace h17 := h17.below bx; replace s18 := s18.below bx; replace B := below_then B bx; have HM11 := Lib.hid bx; clear bx; obtain ⟨z0, zz0, zzz0⟩ := blk A11; obtain ⟨z1, zz1, zzz1⟩ := blk A12)
    | (have _t := HM9; go_at_call 18; refine (ints_ls q17 m17 _ _ (by first | exact h17 | exact h17.below (below_drewN (Below.refl _ _) _)) (by (repeat (first | rw [List.length_reverse] | rw [List.length_append] | rw [List.length_cons])); omega)).mono ?_; rintro e w10 ⟨a18, k18, c18, rfl, s18, bx⟩; replace bx : Below w9.heap.size w9 w10 := (by first | exact bx | exact below_then (below_drewN (Below.refl _ _) _) bx); replace h11 := h11.below bx; replace A11 := blk_below A11 bx; replace h12 := h12.below bx; replace A12 := blk_below A12 bx; replace h13 := h13.below bx; replace h14 := h14.below bx; replace s15 := s15.below bx; replace h16 := h16.below bx; replace h17 := h17.below bx; replace B := below_then B bx; have HM10 := Lib.hid bx; clear bx; obtain ⟨z0, zz0, zzz0⟩ := blk A11; obtain ⟨z1, zz1, zzz1⟩ := blk A12)
    | (have _t := HM8; go_at_call 29; refine (rev_ls q16 m16 _ _ (by first | exact h16 | exact h16.below (below_drewN (Below.refl _ _) _)) (by (repeat (first | rw [List.length_reverse] | rw [List.length_append] | rw [List.length_cons])); omega)).mono ?_; rintro e w9 ⟨q17, m17, rfl, h17, bx⟩; replace bx : Below w8.heap.size w8 w9 := (by first | exact bx | exact below_then (below_drewN (Below.refl _ _) _) bx); replace h11 := h11.below bx; replace A11 := blk_below A11 bx; replace h12 := h12.below bx; replace A12 := blk_below A12 bx; replace h13 := h13.below bx; replace h14 := h14.below bx; replace s15 := s15.below bx; replace h16 := h16.below bx; replace B := below_then B bx; have HM9 := Lib.hid bx; clear bx; obtain ⟨z0, zz0, zzz0⟩ := blk A11; obtain ⟨z1, zz1, zzz1⟩ := blk A12)
    | (go_at_call 25; refine (join_ls q11 m11 _ q12 m12 _ _ (by first | exact h11 | exact h11.below (below_drewN (Below.refl _ _) _)) (by first | exact h12 | exact h12.below (below_drewN (Below.refl _ _) _)) (by (repeat (first | rw [List.length_reverse] | rw [List.length_append] | rw [List.length_cons])); omega)).mono ?_; rintro e w8 ⟨q16, m16, rfl, h16, bx⟩; replace bx : Below w7.heap.size w7 w8 := (by first | exact bx | exact below_then (below_drewN (Below.refl _ _) _) bx); replace h11 := h11.below bx; replace A11 := blk_below A11 bx; replace h12 := h12.below bx; replace A12 := blk_below A12 bx; replace h13 := h13.below bx; replace h14 := h14.below bx; replace s15 := s15.below bx; replace B := below_then B bx; have HM8 := Lib.hid bx; clear bx; obtain ⟨z0, zz0, zzz0⟩ := blk A11; obtain ⟨z1, zz1, zzz1⟩ := blk A12))
  clear z0 zz0 zzz0
  clear z1 zz1 zzz1
  obtain ⟨u0, uu0, uuu0⟩ := blk A11
  go_wp2_with fail
  refine (rev_ls q11 m11 _ _ h11 (by (repeat (first | rw [List.length_reverse] | rw [List.length_append] | rw [List.length_cons])); omega)).mono ?_
  rintro e w16 ⟨q23, m23, rfl, h23, bx⟩
  clear u0 uu0 uuu0
  replace h11 := h11.below bx
  replace A11 := blk_below A11 bx
  replace h12 := h12.below bx
  replace A12 := blk_below A12 bx
  replace h13 := h13.below bx
  replace h14 := h14.below bx
  replace s15 := s15.below bx
  replace h16 := h16.below bx
  replace h17 := h17.below bx
  replace s18 := s18.below bx
  replace h19 := h19.below bx
  replace h20 := h20.below bx
  replace h21 := h21.below bx
  replace s22 := s22.below bx
  replace B := below_then B bx
  clear bx
  go_wp2_with fail
  refine (ints_ls q23 m23 _ _ h23 (by (repeat (first | rw [List.length_reverse] | rw [List.length_append] | rw [List.length_cons])); omega)).mono ?_
  rintro e w17 ⟨a24, k24, c24, rfl, s24, bx⟩
  replace h11 := h11.below bx
  replace A11 := blk_below A11 bx
  replace h12 := h12.below bx
  replace A12 := blk_below A12 bx
  replace h13 := h13.below bx
  replace h14 := h14.below bx
  replace s15 := s15.below bx
  replace h16 := h16.below bx
  replace h17 := h17.below bx
  replace s18 := s18.below bx
  replace h19 := h19.below bx
  replace h20 := h20.below bx
  replace h21 := h21.below bx
  replace s22 := s22.below bx
  replace h23 := h23.below bx
  replace B := below_then B bx
  clear bx
  go_wp2_with fail
  refine (refrev_any a0 n0 c0 x0 _ (s0.below B) (by omega)).mono ?_
  rintro e w18 ⟨v25, rfl, o25, bx⟩
  replace h11 := h11.below bx
  replace A11 := blk_below A11 bx
  replace h12 := h12.below bx
  replace A12 := blk_below A12 bx
  replace h13 := h13.below bx
  replace h14 := h14.below bx
  replace s15 := s15.below bx
  replace h16 := h16.below bx
  replace h17 := h17.below bx
  replace s18 := s18.below bx
  replace h19 := h19.below bx
  replace h20 := h20.below bx
  replace h21 := h21.below bx
  replace s22 := s22.below bx
  replace h23 := h23.below bx
  replace s24 := s24.below bx
  replace B := below_then B bx
  clear bx
  obtain ⟨a25, c25, rfl, s25⟩ := Sl.of_own o25
  go_wp2_with fail
  refine (same_yes _ _ _ _ _ _ _ _ _ s24 s25 rfl).mono ?_
  rintro e w19 ⟨rfl, bx⟩
  replace h11 := h11.below bx
  replace A11 := blk_below A11 bx
  replace h12 := h12.below bx
  replace A12 := blk_below A12 bx
  replace h13 := h13.below bx
  replace h14 := h14.below bx
  replace s15 := s15.below bx
  replace h16 := h16.below bx
  replace h17 := h17.below bx
  replace s18 := s18.below bx
  replace h19 := h19.below bx
  replace h20 := h20.below bx
  replace h21 := h21.below bx
  replace s22 := s22.below bx
  replace h23 := h23.below bx
  replace s24 := s24.below bx
  replace s25 := s25.below bx
  replace B := below_then B bx
  clear bx
  go_wp2_with fail
  go_ret
  exact ⟨rfl, B⟩
end Go.Proofs.Ytooejhijdjcmkaa
