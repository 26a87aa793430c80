/-
  The walk of the law ListEach. Conditions: no more than 1048576 numbers in both lists.
-/
import Derived.Laws.EntriesVeiled
import Derived.Test.YtooejhijdjcmkaaListEachFun
namespace Go.Proofs.Ytooejhijdjcmkaa
open Go.RowKit Go.Deep
open Go.Proofs.Ytooejhijdjcmkaa.LI
set_option linter.unusedVariables false
set_option maxHeartbeats 4000000 in
set_option maxRecDepth 100000 in
theorem ListEach_walk (a0 : Option Addr) (n0 c0 : Nat) (x0 : List Int) (a1 : Option Addr) (n1 c1 : Nat) (x1 : List Int) (x2 x3 x4 x5 : Int) (w : World) (s0 : Sl w a0 n0 c0 x0) (i0 : ∀ n ∈ x0, I64 n) (s1 : Sl w a1 n1 c1 x1) (i1 : ∀ n ∈ x1, I64 n) (i2 : I64 x2) (i3 : I64 x3) (i4 : I64 x4) (i5 : I64 x5) (hN : n0 + n1 ≤ 1048576) :
    Calls Try.prog 10 #[.slice a0 n0 c0, .slice a1 n1 c1, .int .i64 x2, .int .i64 x3, .int .i64 x4, .int .i64 x5] w fun e w' => e = .returned (.bool true) ∧ Below w.heap.size w w' := by
  have e0 : n0 ≤ 1048576 := by omega
  have l0 : x0.length ≤ n0 := by rw [s0.hlen]; exact Nat.le_refl _
  have e1 : n1 ≤ 1048576 := by omega
  have l1 : x1.length ≤ n1 := by rw [s1.hlen]; exact Nat.le_refl _
  obtain ⟨t0, hi0, hz0, hz1, hz2⟩ := info_parts Try.infoInt
  go_enter Try.func10, Try.ntmps10
  go_wp2_with fail
  refine (listed_any _).mono ?_
  rintro e w1 ⟨rfl, bx⟩
  obtain ⟨bx, AA, AB, AC, AD⟩ := hold4 bx ⟨rfl, rfl, rfl, rfl⟩
  have B := bx
  clear bx
  go_wp2_with fail
  refine (of_ls a0 n0 c0 x0 _ (((s0.below B).alloc _).alloc _) (by omega)).mono ?_
  rintro e w2 ⟨q11, m11, rfl, h11, bx⟩
  obtain ⟨bx, AP, AQ⟩ := hold2 bx ⟨rfl, rfl, rfl, rfl⟩
  replace AA := blk_below AA bx
  replace AB := blk_below AB bx
  replace AC := blk_below AC bx
  replace AD := blk_below AD bx
  replace B := below_then B bx
  clear bx
  go_wp2_with fail
  refine (of_ls a1 n1 c1 x1 _ ((s1.below B).alloc _) (by omega)).mono ?_
  rintro e w3 ⟨q12, m12, rfl, h12, bx⟩
  obtain ⟨bx, A11⟩ := hold1 bx ⟨rfl, rfl, rfl, rfl⟩
  replace AA := blk_below AA bx
  replace AB := blk_below AB bx
  replace AC := blk_below AC bx
  replace AD := blk_below AD bx
  replace AP := blk_below AP bx
  replace AQ := blk_below AQ bx
  replace h11 := h11.below bx
  replace B := below_then B bx
  clear bx
  go_wp2_with fail
  obtain ⟨w4, hw⟩ : ∃ W, (w3.alloc (.cells #[.pointer q12, .int .i64 m12] 28)) = W := ⟨_, rfl⟩
  have bx : Below w3.heap.size w3 w4 := by rw [← hw]; exact ((Below.refl _ _).alloc (by simp; try omega) _)
  have A12 : w4.heap[w3.heap.size]? = some (.cells #[.pointer q12, .int .i64 m12] 28 (0, 0)) := by
    rw [← hw]
    have := heap_alloc_new w3 (.cells #[.pointer q12, .int .i64 m12] 28)
    exact this
  rw [hw]
  clear hw
  replace AA := blk_below AA bx
  replace AB := blk_below AB bx
  replace AC := blk_below AC bx
  replace AD := blk_below AD bx
  replace AP := blk_below AP bx
  replace AQ := blk_below AQ bx
  replace h11 := h11.below bx
  replace A11 := blk_below A11 bx
  replace h12 := h12.below bx
  replace B := below_then B bx
  clear bx
  go_cut [18] (fun v wx => v = .bool true ∧ wx.heap[w.heap.size]? = some (.cells #[.int .i64 x2] 3 (0, 0)) ∧ wx.heap[w.heap.size + 1]? = some (.cells #[.int .i64 x3] 3 (0, 0)) ∧ wx.heap[w.heap.size + 1 + 1]? = some (.cells #[.int .i64 x4] 3 (0, 0)) ∧ wx.heap[w.heap.size + 1 + 1 + 1]? = some (.cells #[.int .i64 x5] 3 (0, 0)) ∧ wx.heap[w1.heap.size]? = some (.cells #[(.func (.func 32) #[] #[.pointer (some ⟨w.heap.size, 0, none⟩), .pointer (some ⟨w.heap.size + 1, 0, none⟩)])] 53 (0, 0)) ∧ wx.heap[w1.heap.size + 1]? = some (.cells #[(.func (.func 33) #[] #[.pointer (some ⟨w.heap.size + 1 + 1, 0, none⟩), .pointer (some ⟨w.heap.size + 1 + 1 + 1, 0, none⟩)])] 53 (0, 0)) ∧ wx.heap[w2.heap.size]? = some (.cells #[.pointer q11, .int .i64 m11] 28 (0, 0)) ∧ wx.heap[w3.heap.size]? = some (.cells #[.pointer q12, .int .i64 m12] 28 (0, 0)) ∧ Ls wx q11 m11 x0 ∧ Ls wx q12 m12 x1 ∧ Below w.heap.size w wx)
  case first =>
    obtain ⟨z0, zz0, zzz0⟩ := blk A11
    obtain ⟨z1, zz1, zzz1⟩ := blk AP
    obtain ⟨z2, zz2, zzz2⟩ := blk AQ
    go_wp2_with fail
    go_region_held3 (fun w' => w'.cell? ⟨w2.heap.size, 0, none⟩ = some (.pointer q11) ∧ w'.cell? ⟨w2.heap.size, 1, none⟩ = some (.int .i64 m11) ∧ w'.cell? ⟨w1.heap.size, 0, none⟩ = some (.func (.func 32) #[] #[.pointer (some ⟨w.heap.size, 0, none⟩), .pointer (some ⟨w.heap.size + 1, 0, none⟩)]) ∧ w'.cell? ⟨w1.heap.size + 1, 0, none⟩ = some (.func (.func 33) #[] #[.pointer (some ⟨w.heap.size + 1 + 1, 0, none⟩), .pointer (some ⟨w.heap.size + 1 + 1 + 1, 0, none⟩)])) (go_keep) (first
      | (have _t := HM9; go_at_call 14; refine (same_yes _ _ _ _ _ _ _ _ _ (by first | exact s15 | exact s15.below (below_drewN (Below.refl _ _) _)) (by first | exact s17 | exact s17.below (below_drewN (Below.refl _ _) _)) (by rw [List.map_map]; rfl)).mono ?_; rintro e w10 ⟨rfl, bx⟩; replace bx : Below w9.heap.size w9 w10 := (by first | exact bx | exact below_then (below_drewN (Below.refl _ _) _) bx); replace AA := blk_below AA bx; replace AB := blk_below AB bx; replace AC := blk_below AC bx; replace AD := blk_below AD bx; replace AP := blk_below AP bx; replace AQ := blk_below AQ bx; replace h11 := h11.below bx; replace A11 := blk_below A11 bx; replace h12 := h12.below bx; replace A12 := blk_below A12 bx; replace h13 := h13.below bx; replace h14 := h14.below bx; replace s15 := s15.below bx; replace h16 := h16.below bx; replace s17 := s17.below bx; replace B := below_then B bx; have HM10 := Lib.hid bx; clear bx; obtain ⟨z0, zz0, zzz0⟩ := blk A11; obtain ⟨z1, zz1, zzz1⟩ := blk AP; obtain ⟨z2, zz2, zzz2⟩ := blk AQ)
      | (have _t := HM8; go_at_call 18; refine (ints_ls q16 m16 _ _ (by first | exact h16 | exact h16.below (below_drewN (Below.refl _ _) _)) (by (repeat (first | rw [List.length_map] | rw [List.length_append])); omega)).mono ?_; rintro e w9 ⟨a17, k17, c17, rfl, s17, bx⟩; replace bx : Below w8.heap.size w8 w9 := (by first | exact bx | exact below_then (below_drewN (Below.refl _ _) _) bx); replace AA := blk_below AA bx; replace AB := blk_below AB bx; replace AC := blk_below AC bx; replace AD := blk_below AD bx; replace AP := blk_below AP bx; replace AQ := blk_below AQ bx; replace h11 := h11.below bx; replace A11 := blk_below A11 bx; replace h12 := h12.below bx; replace A12 := blk_below A12 bx; replace h13 := h13.below bx; replace h14 := h14.below bx; replace s15 := s15.below bx; replace h16 := h16.below bx; replace B := below_then B bx; have HM9 := Lib.hid bx; clear bx; obtain ⟨z0, zz0, zzz0⟩ := blk A11; obtain ⟨z1, zz1, zzz1⟩ := blk AP; obtain ⟨z2, zz2, zzz2⟩ := blk AQ)
      | (have _t := HM7; go_at_call 34; refine (egf_ls q11 m11 _ x2 x3 x4 x5 _ _ _ _ _ _ _ (by first | exact h11 | exact h11.below (below_drewN (Below.refl _ _) _)) (by first | exact AP | exact blk_below AP (below_drewN (Below.refl _ _) _)) (by first | exact AQ | exact blk_below AQ (below_drewN (Below.refl _ _) _)) (by first | exact AA | exact blk_below AA (below_drewN (Below.refl _ _) _)) (by first | exact AB | exact blk_below AB (below_drewN (Below.refl _ _) _)) (by first | exact AC | exact blk_below AC (below_drewN (Below.refl _ _) _)) (by first | exact AD | exact blk_below AD (below_drewN (Below.refl _ _) _)) (by (repeat (first | rw [List.length_map] | rw [List.length_append])); omega)).mono ?_; rintro e w8 ⟨q16, m16, rfl, h16, bx⟩; replace bx : Below w7.heap.size w7 w8 := (by first | exact bx | exact below_then (below_drewN (Below.refl _ _) _) bx); replace AA := blk_below AA bx; replace AB := blk_below AB bx; replace AC := blk_below AC bx; replace AD := blk_below AD bx; replace AP := blk_below AP bx; replace AQ := blk_below AQ bx; replace h11 := h11.below bx; replace A11 := blk_below A11 bx; replace h12 := h12.below bx; replace A12 := blk_below A12 bx; replace h13 := h13.below bx; replace h14 := h14.below bx; replace s15 := s15.below bx; replace B := below_then B bx; have HM8 := Lib.hid bx; clear bx; obtain ⟨z0, zz0, zzz0⟩ := blk A11; obtain ⟨z1, zz1, zzz1⟩ := blk AP; obtain ⟨z2, zz2, zzz2⟩ := blk AQ)
      | (have _t := HM6; go_at_call 18; refine (ints_ls q14 m14 _ _ (by first | exact h14 | exact h14.below (below_drewN (Below.refl _ _) _)) (by (repeat (first | rw [List.length_map] | rw [List.length_append])); omega)).mono ?_; rintro e w7 ⟨a15, k15, c15, rfl, s15, bx⟩; replace bx : Below w6.heap.size w6 w7 := (by first | exact bx | exact below_then (below_drewN (Below.refl _ _) _) bx); replace AA := blk_below AA bx; replace AB := blk_below AB bx; replace AC := blk_below AC bx; replace AD := blk_below AD bx; replace AP := blk_below AP bx; replace AQ := blk_below AQ bx; replace h11 := h11.below bx; replace A11 := blk_below A11 bx; replace h12 := h12.below bx; replace A12 := blk_below A12 bx; replace h13 := h13.below bx; replace h14 := h14.below bx; replace B := below_then B bx; have HM7 := Lib.hid bx; clear bx; obtain ⟨z0, zz0, zzz0⟩ := blk A11; obtain ⟨z1, zz1, zzz1⟩ := blk AP; obtain ⟨z2, zz2, zzz2⟩ := blk AQ)
      | (have _t := HM5; go_at_call 34; refine (eg_ls q13 m13 _ x4 x5 _ _ _ (by first | exact h13 | exact h13.below (below_drewN (Below.refl _ _) _)) (by first | exact AC | exact blk_below AC (below_drewN (Below.refl _ _) _)) (by first | exact AD | exact blk_below AD (below_drewN (Below.refl _ _) _)) (by (repeat (first | rw [List.length_map] | rw [List.length_append])); omega)).mono ?_; rintro e w6 ⟨q14, m14, rfl, h14, bx⟩; replace bx : Below w5.heap.size w5 w6 := (by first | exact bx | exact below_then (below_drewN (Below.refl _ _) _) bx); replace AA := blk_below AA bx; replace AB := blk_below AB bx; replace AC := blk_below AC bx; replace AD := blk_below AD bx; replace AP := blk_below AP bx; replace AQ := blk_below AQ bx; replace h11 := h11.below bx; replace A11 := blk_below A11 bx; replace h12 := h12.below bx; replace A12 := blk_below A12 bx; replace h13 := h13.below bx; replace B := below_then B bx; have HM6 := Lib.hid bx; clear bx; obtain ⟨z0, zz0, zzz0⟩ := blk A11; obtain ⟨z1, zz1, zzz1⟩ := blk AP; obtain ⟨z2, zz2, zzz2⟩ := blk AQ)
      | (go_at_call 34; refine (ef_ls q11 m11 _ x2 x3 _ _ _ (by first | exact h11 | exact h11.below (below_drewN (Below.refl _ _) _)) (by first | exact AA | exact blk_below AA (below_drewN (Below.refl _ _) _)) (by first | exact AB | exact blk_below AB (below_drewN (Below.refl _ _) _)) (by (repeat (first | rw [List.length_map] | rw [List.length_append])); omega)).mono ?_; rintro e w5 ⟨q13, m13, rfl, h13, bx⟩; replace bx : Below w4.heap.size w4 w5 := (by first | exact bx | exact below_then (below_drewN (Below.refl _ _) _) bx); replace AA := blk_below AA bx; replace AB := blk_below AB bx; replace AC := blk_below AC bx; replace AD := blk_below AD bx; replace AP := blk_below AP bx; replace AQ := blk_below AQ bx; replace h11 := h11.below bx; replace A11 := blk_below A11 bx; replace h12 := h12.below bx; replace A12 := blk_below A12 bx; replace B := below_then B bx; have HM5 := Lib.hid bx; clear bx; obtain ⟨z0, zz0, zzz0⟩ := blk A11; obtain ⟨z1, zz1, zzz1⟩ := blk AP; obtain ⟨z2, zz2, zzz2⟩ := blk AQ))
    clear z0 zz0 zzz0
    clear z1 zz1 zzz1
    clear z2 zz2 zzz2
    all_goals (go_wp2_with fail; go_meet)
    all_goals exact ⟨rfl, AA, AB, AC, AD, AP, AQ, A11, A12, h11, h12, B⟩
  case rest =>
  rename World => w10
  clear AA AB AC AD AP AQ A11 A12 h11 h12 B
  obtain ⟨rfl, AA, AB, AC, AD, AP, AQ, A11, A12, h11, h12, B⟩ := hcut
  obtain ⟨z0, zz0, zzz0⟩ := blk A11
  obtain ⟨z1, zz1, zzz1⟩ := blk A12
  obtain ⟨z2, zz2, zzz2⟩ := blk AP
  go_wp2_with fail
  go_region_held3 (fun w' => w'.cell? ⟨w2.heap.size, 0, none⟩ = some (.pointer q11) ∧ w'.cell? ⟨w2.heap.size, 1, none⟩ = some (.int .i64 m11) ∧ w'.cell? ⟨w3.heap.size, 0, none⟩ = some (.pointer q12) ∧ w'.cell? ⟨w3.heap.size, 1, none⟩ = some (.int .i64 m12) ∧ w'.cell? ⟨w1.heap.size, 0, none⟩ = some (.func (.func 32) #[] #[.pointer (some ⟨w.heap.size, 0, none⟩), .pointer (some ⟨w.heap.size + 1, 0, none⟩)])) (go_keep) (first
    | (have _t := HM17; go_at_call 14; refine (same_yes _ _ _ _ _ _ _ _ _ (by first | exact s20 | exact s20.below (below_drewN (Below.refl _ _) _)) (by first | exact s24 | exact s24.below (below_drewN (Below.refl _ _) _)) (by rw [List.map_append])).mono ?_; rintro e w18 ⟨rfl, bx⟩; replace bx : Below w17.heap.size w17 w18 := (by first | exact bx | exact below_then (below_drewN (Below.refl _ _) _) bx); replace AA := blk_below AA bx; replace AB := blk_below AB bx; replace AC := blk_below AC bx; replace AD := blk_below AD bx; replace AP := blk_below AP bx; replace AQ := blk_below AQ bx; replace h11 := h11.below bx; replace A11 := blk_below A11 bx; replace h12 := h12.below bx; replace A12 := blk_below A12 bx; replace h18 := h18.below bx; replace h19 := h19.below bx; replace s20 := s20.below bx; replace h21 := h21.below bx; replace h22 := h22.below bx; replace h23 := h23.below bx; replace s24 := s24.below bx; replace B := below_then B bx; have HM18 := Lib.hid bx; clear bx; obtain ⟨z0, zz0, zzz0⟩ := blk A11; obtain ⟨z1, zz1, zzz1⟩ := blk A12; obtain ⟨z2, zz2, zzz2⟩ := blk AP)
    | (have _t := HM16; go_at_call 18; refine (ints_ls q23 m23 _ _ (by first | exact h23 | exact h23.below (below_drewN (Below.refl _ _) _)) (by (repeat (first | rw [List.length_map] | rw [List.length_append])); omega)).mono ?_; rintro e w17 ⟨a24, k24, c24, rfl, s24, bx⟩; replace bx : Below w16.heap.size w16 w17 := (by first | exact bx | exact below_then (below_drewN (Below.refl _ _) _) bx); replace AA := blk_below AA bx; replace AB := blk_below AB bx; replace AC := blk_below AC bx; replace AD := blk_below AD bx; replace AP := blk_below AP bx; replace AQ := blk_below AQ bx; replace h11 := h11.below bx; replace A11 := blk_below A11 bx; replace h12 := h12.below bx; replace A12 := blk_below A12 bx; replace h18 := h18.below bx; replace h19 := h19.below bx; replace s20 := s20.below bx; replace h21 := h21.below bx; replace h22 := h22.below bx; replace h23 := h23.below bx; replace B := below_then B bx; have HM17 := Lib.hid bx; clear bx; obtain ⟨z0, zz0, zzz0⟩ := blk A11; obtain ⟨z1, zz1, zzz1⟩ := blk A12; obtain ⟨z2, zz2, zzz2⟩ := blk AP)
    | (have _t := HM15; go_at_call 25; refine (join_ls q21 m21 _ q22 m22 _ _ (by first | exact h21 | exact h21.below (below_drewN (Below.refl _ _) _)) (by first | exact h22 | exact h22.below (below_drewN (Below.refl _ _) _)) (by (repeat (first | rw [List.length_map] | rw [List.length_append])); omega)).mono ?_; rintro e w16 ⟨q23, m23, rfl, h23, bx⟩; replace bx : Below w15.heap.size w15 w16 := (by first | exact bx | exact below_then (below_drewN (Below.refl _ _) _) bx); replace AA := blk_below AA bx; replace AB := blk_below AB bx; replace AC := blk_below AC bx; replace AD := blk_below AD bx; replace AP := blk_below AP bx; replace AQ := blk_below AQ bx; replace h11 := h11.below bx; replace A11 := blk_below A11 bx; replace h12 := h12.below bx; replace A12 := blk_below A12 bx; replace h18 := h18.below bx; replace h19 := h19.below bx; replace s20 := s20.below bx; replace h21 := h21.below bx; replace h22 := h22.below bx; replace B := below_then B bx; have HM16 := Lib.hid bx; clear bx; obtain ⟨z0, zz0, zzz0⟩ := blk A11; obtain ⟨z1, zz1, zzz1⟩ := blk A12; obtain ⟨z2, zz2, zzz2⟩ := blk AP)
    | (have _t := HM14; go_at_call 34; refine (ef_ls q12 m12 _ x2 x3 _ _ _ (by first | exact h12 | exact h12.below (below_drewN (Below.refl _ _) _)) (by first | exact AA | exact blk_below AA (below_drewN (Below.refl _ _) _)) (by first | exact AB | exact blk_below AB (below_drewN (Below.refl _ _) _)) (by (repeat (first | rw [List.length_map] | rw [List.length_append])); omega)).mono ?_; rintro e w15 ⟨q22, m22, rfl, h22, bx⟩; replace bx : Below w14.heap.size w14 w15 := (by first | exact bx | exact below_then (below_drewN (Below.refl _ _) _) bx); replace AA := blk_below AA bx; replace AB := blk_below AB bx; replace AC := blk_below AC bx; replace AD := blk_below AD bx; replace AP := blk_below AP bx; replace AQ := blk_below AQ bx; replace h11 := h11.below bx; replace A11 := blk_below A11 bx; replace h12 := h12.below bx; replace A12 := blk_below A12 bx; replace h18 := h18.below bx; replace h19 := h19.below bx; replace s20 := s20.below bx; replace h21 := h21.below bx; replace B := below_then B bx; have HM15 := Lib.hid bx; clear bx; obtain ⟨z0, zz0, zzz0⟩ := blk A11; obtain ⟨z1, zz1, zzz1⟩ := blk A12; obtain ⟨z2, zz2, zzz2⟩ := blk AP)
    | (have _t := HM13; go_at_call 34; refine (ef_ls q11 m11 _ x2 x3 _ _ _ (by first | exact h11 | exact h11.below (below_drewN (Below.refl _ _) _)) (by first | exact AA | exact blk_below AA (below_drewN (Below.refl _ _) _)) (by first | exact AB | exact blk_below AB (below_drewN (Below.refl _ _) _)) (by (repeat (first | rw [List.length_map] | rw [List.length_append])); omega)).mono ?_; rintro e w14 ⟨q21, m21, rfl, h21, bx⟩; replace bx : Below w13.heap.size w13 w14 := (by first | exact bx | exact below_then (below_drewN (Below.refl _ _) _) bx); replace AA := blk_below AA bx; replace AB := blk_below AB bx; replace AC := blk_below AC bx; replace AD := blk_below AD bx; replace AP := blk_below AP bx; replace AQ := blk_below AQ bx; replace h11 := h11.below bx; replace A11 := blk_below A11 bx; replace h12 := h12.below bx; replace A12 := blk_below A12 bx; replace h18 := h18.below bx; replace h19 := h19.below bx; replace s20 := s20.below bx; replace B := below_then B bx; have HM14 := Lib.hid bx; clear bx; obtain ⟨z0, zz0, zzz0⟩ := blk A11; obtain ⟨z1, zz1, zzz1⟩ := blk A12; obtain ⟨z2, zz2, zzz2⟩ := blk AP)
    | (have _t := HM12; go_at_call 18; refine (ints_ls q19 m19 _ _ (by first | exact h19 | exact h19.below (below_drewN (Below.refl _ _) _)) (by (repeat (first | rw [List.length_map] | rw [List.length_append])); omega)).mono ?_; rintro e w13 ⟨a20, k20, c20, rfl, s20, bx⟩; replace bx : Below w12.heap.size w12 w13 := (by first | exact bx | exact below_then (below_drewN (Below.refl _ _) _) bx); replace AA := blk_below AA bx; replace AB := blk_below AB bx; replace AC := blk_below AC bx; replace AD := blk_below AD bx; replace AP := blk_below AP bx; replace AQ := blk_below AQ bx; replace h11 := h11.below bx; replace A11 := blk_below A11 bx; replace h12 := h12.below bx; replace A12 := blk_below A12 bx; replace h18 := h18.below bx; replace h19 := h19.below bx; replace B := below_then B bx; have HM13 := Lib.hid bx; clear bx; obtain ⟨z0, zz0, zzz0⟩ := blk A11; obtain ⟨z1, zz1, zzz1⟩ := blk A12; obtain ⟨z2, zz2, zzz2⟩ := blk AP)
    | (have _t := HM11; go_at_call 34; refine (ef_ls q18 m18 _ x2 x3 _ _ _ (by first | exact h18 | exact h18.below (below_drewN (Below.refl _ _) _)) (by first | exact AA | exact blk_below AA (below_drewN (Below.refl _ _) _)) (by first | exact AB | exact blk_below AB (below_drewN (Below.refl _ _) _)) (by (repeat (first | rw [List.length_map] | rw [List.length_append])); omega)).mono ?_; rintro e w12 ⟨q19, m19, rfl, h19, bx⟩; replace bx : Below w11.heap.size w11 w12 := (by first | exact bx | exact below_then (below_drewN (Below.refl _ _) _) bx); replace AA := blk_below AA bx; replace AB := blk_below AB bx; replace AC := blk_below AC bx; replace AD := blk_below AD bx; replace AP := blk_below AP bx; replace AQ := blk_below AQ bx; replace h11 := h11.below bx; replace A11 := blk_below A11 bx; replace h12 := h12.below bx; replace A12 := blk_below A12 bx; replace h18 := h18.below bx; replace B := below_then B bx; have HM12 := Lib.hid bx; clear bx; obtain ⟨z0, zz0, zzz0⟩ := blk A11; obtain ⟨z1, zz1, zzz1⟩ := blk A12; obtain ⟨z2, zz2, zzz2⟩ := blk AP)
    | (go_at_call 25; refine (join_ls q11 m11 _ q12 m12 _ _ (by first | exact h11 | exact h11.below (below_drewN (Below.refl _ _) _)) (by first | exact h12 | exact h12.below (below_drewN (Below.refl _ _) _)) (by (repeat (first | rw [List.length_map] | rw [List.length_append])); omega)).mono ?_; rintro e w11 ⟨q18, m18, rfl, h18, bx⟩; replace bx : Below w10.heap.size w10 w11 := (by first | exact bx | exact below_then (below_drewN (Below.refl _ _) _) bx); replace AA := blk_below AA bx; replace AB := blk_below AB bx; replace AC := blk_below AC bx; replace AD := blk_below AD bx; replace AP := blk_below AP bx; replace AQ := blk_below AQ bx; replace h11 := h11.below bx; replace A11 := blk_below A11 bx; replace h12 := h12.below bx; replace A12 := blk_below A12 bx; replace B := below_then B bx; have HM11 := Lib.hid bx; clear bx; obtain ⟨z0, zz0, zzz0⟩ := blk A11; obtain ⟨z1, zz1, zzz1⟩ := blk A12; obtain ⟨z2, zz2, zzz2⟩ := blk AP))
  clear z0 zz0 zzz0
  clear z1 zz1 zzz1
  clear z2 zz2 zzz2
  go_wp2_with fail
  have HL := Lib.hid s0.hlen
  have S0 := Lib.hid s0
  have HF := Lib.hid (⟨AA, AB, AC, AD, AP, AQ, A11, A12, h11, h12⟩ : _ ∧ _ ∧ _ ∧ _ ∧ _ ∧ _ ∧ _ ∧ _ ∧ _ ∧ _)
  have hszn := B.size
  have haw := (blk AA).2.2
  have hab := (blk AB).2.2
  have HBB := Lib.hid B
  clear AA AB AC AD AP AQ A11 A12 h11 h12 s0 s1
  go_loopw [20, 21] (fun v i wr => ∃ k : Nat, k ≤ n0 ∧ i = .int .i64 k ∧ wr.ownsRow w18.heap.size 3 1 v k (((x0.take k).map (lin x2 x3)).map (Value.int .i64)) ∧ Below w18.heap.size w18 wr) (fun _ i _ => n0 - (intOf i).toNat)
  case atStart => exact ⟨0, Nat.zero_le _, rfl, World.ownsRow_nil _ _ _ _, Below.refl _ _⟩
  case round =>
    obtain ⟨k, hk, rfl, hown, hb⟩ := hrel
    obtain ⟨AA, AB, AC, AD, AP, AQ, A11, A12, h11, h12⟩ := HF.out
    by_cases hlt : k < n0
    · obtain ⟨b, off, rfl, hbl, hc⟩ := S0.out.hat (by omega)
      have g := ((HBB.out.trans (hb.mono hszn)).cell (p := ⟨b, off + k, none⟩) hbl).trans (hc k hlt)
      obtain ⟨z0, zz0, zzz0⟩ := blk (blk_below AA hb)
      obtain ⟨z1, zz1, zzz1⟩ := blk (blk_below AB hb)
      have ya := z0 0
      have yb := z1 0
      have hbw : b < wr.heap.size := by have := hb.size; omega
      have hlti : (k : Int) < (n0 : Int) := by omega
      have hbs := hb.size
      have t1 := take_snoc' x0 k (by have := HL.out; omega)
      have T1 := Lib.hid t1
      obtain ⟨xk, hxk⟩ : ∃ z, x0[k]?.getD 0 = z := ⟨_, rfl⟩
      rw [hxk] at g
      have HX := Lib.hid hxk
      obtain ⟨m1, hm1⟩ : ∃ z, IntKind.i64.wrap (x2 * xk) = z := ⟨_, rfl⟩
      obtain ⟨lv, hlv⟩ : ∃ z, IntKind.i64.wrap (m1 + x3) = z := ⟨_, rfl⟩
      have hlin : lin x2 x3 xk = lv := by rw [← hlv, ← hm1, IntWalk.i64_left, IntWalk.i64_left]; rfl
      have HLV := Lib.hid hlin
      clear hlin
      clear hc AA AB AC AD AP AQ A11 A12 h11 h12 z0 z1 zz0 zz1 t1 hxk
      go_wp2_with fail
      go_region_held3 (fun w' => w'.cell? ⟨w.heap.size, 0, none⟩ = some (.int .i64 x2) ∧ w'.cell? ⟨w.heap.size + 1, 0, none⟩ = some (.int .i64 x3) ∧ w'.cell? ⟨b, off + k, none⟩ = some (.int .i64 xk)) (go_keep) (first
        | (refine step_append_any _ rfl (.tmp 64) (.tmp 73) 22 rfl w18.heap.size 3 t0 (.int .i64 0) 1 8 Try.underlying22 hi0 hz0 hz1 hz2 rfl (by decide) _ k _ rfl (by first | exact hown.alloc _ | exact World.ownsRow.alloc (w := wr.drewN _) hown _ | exact World.ownsRow.alloc (w := wr.drew) hown _) _ (some ⟨wr.heap.size, 0, none⟩) 1 1 [.int .i64 lv] rfl (by exact Reads.of_own (World.ownsRow_lit (base := wr.heap.size) (e := 3) (size := 1) _ #[.int .i64 lv] 1 (by simp) (by decide) rfl)) (by simp [Value.oneCell']) (by unfold maxLen; omega) (by omega) (by simp; omega) ?_; intro vv w2 hown2 hg2 hat2; have b2 : Below w18.heap.size wr w2 := (by first | exact below_grown ((Below.refl _ wr).alloc hbs _) (hown.alloc _) hg2 (Nat.le_refl _) (by simp; omega) | exact below_grown ((below_drewN (Below.refl _ wr) _).alloc hbs _) (World.ownsRow.alloc (w := wr.drewN _) hown _) hg2 (Nat.le_refl _) (by simp; omega)); have v0 := (b2.cell (p := ⟨w.heap.size, 0, none⟩) (by omega)).trans ya; have v1 := (b2.cell (p := ⟨w.heap.size + 1, 0, none⟩) (by omega)).trans yb; have v2 := (b2.cell (p := ⟨b, off + k, none⟩) (by simp; omega)).trans g))
      all_goals
        go_wp2_with fail
        go_roundw
      case' rel => exact ⟨k + 1, by omega, by go_num, by rw [T1.out, HX.out, List.map_append, List.map_append]; simpa [HLV.out] using hown2, hb.trans b2⟩
      all_goals (simp [intOf]; omega)
    · have he : k = n0 := by omega
      have hxs : x0.take k = x0 := List.take_of_length_le (by have := HL.out; omega)
      rw [hxs] at hown
      obtain ⟨aw, cw, rfl, sw⟩ := Sl.of_own (xs := x0.map (lin x2 x3)) (n := k) hown
      replace AA := blk_below AA hb
      replace AB := blk_below AB hb
      replace AP := blk_below AP hb
      replace A11 := blk_below A11 hb
      replace h11 := h11.below hb
      have BB := below_then HBB.out hb
      obtain ⟨z0, zz0, zzz0⟩ := blk A11
      obtain ⟨z1, zz1, zzz1⟩ := blk AP
      clear hown hxs A12 h12 AQ AC AD he
      go_wp2_with fail
      refine (ef_ls q11 m11 _ x2 x3 _ _ _ h11 AA AB (by omega)).mono ?_
      rintro e y1 ⟨q9, m9, rfl, h9, bx⟩
      replace sw := sw.below bx
      replace BB := below_then BB bx
      clear bx
      go_wp2_with fail
      refine (ints_ls q9 m9 _ _ h9 (by rw [List.length_map]; omega)).mono ?_
      rintro e y2 ⟨a9, k9, c9, rfl, s9, bx⟩
      replace sw := sw.below bx
      replace BB := below_then BB bx
      clear bx
      go_wp2_with fail
      refine (same_yes _ _ _ _ _ _ _ _ _ s9 sw rfl).mono ?_
      rintro e y3 ⟨rfl, bx⟩
      replace BB := below_then BB bx
      go_wp2_with fail
      go_ret
      exact ⟨rfl, BB⟩
end Go.Proofs.Ytooejhijdjcmkaa
