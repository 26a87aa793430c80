/-
  The walk of the law ListTells. Conditions: none.
-/
import Derived.Test.YtooejhijdjcmkaaListLs
namespace Go.Proofs.Ytooejhijdjcmkaa
open Go.RowKit Go.Deep
open Go.Proofs.Ytooejhijdjcmkaa.LI
set_option linter.unusedVariables false
theorem len_to (p : Option Addr) (m : Int) (xs : List Int) (S : Int) (w : World) (h : Ls w p m xs) (e : (xs.length : Int) = S) : Calls Try.prog 21 #[.agg #[.pointer p, .int .i64 m]] w fun e w' => e = .returned (.int .i64 S) ∧ Below w.heap.size w w' := by
  rw [← e]
  exact len_ls p m xs w h
set_option maxHeartbeats 4000000 in
set_option maxRecDepth 100000 in
theorem ListTells_nil_lo (a0 : Option Addr) (n c0 : Nat) (x1 : Int) (i : Int) (w : World) (s0 : Sl w a0 n c0 []) (e0 : n ≤ 17592186043904) (hi : i < 0) :
    Calls Try.prog 6 #[.slice a0 n c0, .int .i64 x1, .int .i64 i] w fun e w' => e = .returned (.bool true) ∧ Below w.heap.size w w' := by
  have hl := s0.hlen
  obtain ⟨t0, hi0, hz0, hz1, hz2⟩ := info_parts Try.infoInt
  obtain rfl : n = 0 := by rw [← hl]; rfl
  have hi' : ¬ (0 ≤ i ∧ i < (([] : List Int).length : Int)) := by simp only [List.length_nil]; omega
  clear hl
  go_enter Try.func6, Try.ntmps6
  go_wp2_with fail
  refine (listed_any _).mono ?_
  rintro e w1 ⟨rfl, bx⟩
  have B := bx
  clear bx
  go_wp2_with fail
  refine (of_ls a0 0 c0 [] _ (s0.below B) (by omega)).mono ?_
  rintro e w2 ⟨q11, m11, rfl, h11, bx⟩
  replace B := below_then B bx
  clear bx
  go_wp2_with fail
  refine (ints_ls q11 m11 _ _ (h11.alloc _) (by (repeat (first | rw [List.length_reverse] | rw [List.length_append] | rw [List.length_cons] | rw [List.length_nil])); omega)).mono ?_
  rintro e w3 ⟨a12, k12, c12, rfl, s12, bx⟩
  obtain ⟨bx, A11⟩ := hold1 bx ⟨rfl, rfl, rfl, rfl⟩
  replace h11 := h11.below bx
  replace B := below_then B bx
  clear bx
  go_wp2_with fail
  refine (same_yes _ _ _ _ _ _ _ _ _ s12 (s0.below B) rfl).mono ?_
  rintro e w4 ⟨rfl, bx⟩
  replace h11 := h11.below bx
  replace A11 := blk_below A11 bx
  replace s12 := s12.below bx
  replace B := below_then B bx
  clear bx
  obtain ⟨u0, uu0, uuu0⟩ := blk A11
  go_wp2_with fail
  refine (push_ls x1 q11 m11 _ _ h11 (by (repeat (first | rw [List.length_reverse] | rw [List.length_append] | rw [List.length_cons] | rw [List.length_nil])); omega)).mono ?_
  rintro e w5 ⟨q13, m13, rfl, h13, bx⟩
  clear u0 uu0 uuu0
  replace h11 := h11.below bx
  replace A11 := blk_below A11 bx
  replace s12 := s12.below bx
  replace B := below_then B bx
  clear bx
  go_wp2_with fail
  refine (ints_ls q13 m13 _ _ h13 (by (repeat (first | rw [List.length_reverse] | rw [List.length_append] | rw [List.length_cons] | rw [List.length_nil])); omega)).mono ?_
  rintro e w6 ⟨a14, k14, c14, rfl, s14, bx⟩
  replace h11 := h11.below bx
  replace A11 := blk_below A11 bx
  replace s12 := s12.below bx
  replace h13 := h13.below bx
  replace B := below_then B bx
  clear bx
  go_wp2_with (at_builtin; refine wpList_append_any _ rfl (.tmp 27) (.tmp 28) _ rfl w6.heap.size 3 t0 (.int .i64 0) 1 8 Try.underlying22 hi0 hz0 hz1 hz2 rfl (by omega) (.slice (some ⟨w6.heap.size, 0, none⟩) 1 1) 1 [.int .i64 x1] rfl (World.ownsRow_lit (base := w6.heap.size) (e := 3) (size := 1) _ #[.int .i64 x1] 1 (Nat.le_refl _) (by decide) rfl) _ a0 0 c0 _ rfl (((s0.below B).alloc _).reads) (one_cells []) (by simp only [maxLen]; omega) (by omega) (by simp) ?_; intro vv w7 hown hg hat)
  have bx : Below w6.heap.size w6 w7 := below_grown ((Below.refl _ _).alloc (Nat.le_refl _) _) (World.ownsRow_lit (base := w6.heap.size) (e := 3) (size := 1) w6 #[.int .i64 x1] 1 (Nat.le_refl _) (by decide) rfl) hg (Nat.le_refl _) (by simp)
  obtain ⟨a15, c15, rfl, s15⟩ := Sl.of_own (xs := x1 :: []) (n := 1 + 0) (by simpa using hown)
  clear hown hg hat
  replace h11 := h11.below bx
  replace A11 := blk_below A11 bx
  replace s12 := s12.below bx
  replace h13 := h13.below bx
  replace s14 := s14.below bx
  replace B := below_then B bx
  clear bx
  go_wp2_with fail
  refine (same_yes _ _ _ _ _ _ _ _ _ s14 s15 rfl).mono ?_
  rintro e w8 ⟨rfl, bx⟩
  replace h11 := h11.below bx
  replace A11 := blk_below A11 bx
  replace s12 := s12.below bx
  replace h13 := h13.below bx
  replace s14 := s14.below bx
  replace s15 := s15.below bx
  replace B := below_then B bx
  clear bx
  obtain ⟨u0, uu0, uuu0⟩ := blk A11
  go_wp2_with fail
  refine (len_to q11 m11 _ (0 : Int) _ h11 rfl).mono ?_
  rintro e w9 ⟨rfl, bx⟩
  clear u0 uu0 uuu0
  replace h11 := h11.below bx
  replace A11 := blk_below A11 bx
  replace s12 := s12.below bx
  replace h13 := h13.below bx
  replace s14 := s14.below bx
  replace s15 := s15.below bx
  replace B := below_then B bx
  clear bx
  obtain ⟨u0, uu0, uuu0⟩ := blk A11
  go_wp2_with fail
  refine (at_out i q11 m11 _ _ h11 hi').mono ?_
  rintro e w10 ⟨rfl, bx⟩
  clear u0 uu0 uuu0
  replace h11 := h11.below bx
  replace A11 := blk_below A11 bx
  replace s12 := s12.below bx
  replace h13 := h13.below bx
  replace s14 := s14.below bx
  replace s15 := s15.below bx
  replace B := below_then B bx
  clear bx
  obtain ⟨u0, uu0, uuu0⟩ := blk A11
  go_wp2_with fail
  refine (pop_nil q11 m11 _ h11).mono ?_
  rintro e w11 ⟨rfl, bx⟩
  clear u0 uu0 uuu0
  replace h11 := h11.below bx
  replace A11 := blk_below A11 bx
  replace s12 := s12.below bx
  replace h13 := h13.below bx
  replace s14 := s14.below bx
  replace s15 := s15.below bx
  replace B := below_then B bx
  clear bx
  have hz := Ls.nil w11
  go_wp2_with fail
  refine (len_to none 0 _ (0 : Int) _ (hz.alloc _) rfl).mono ?_
  rintro e w12 ⟨rfl, bx⟩
  obtain ⟨bx, AZ⟩ := hold1 bx ⟨rfl, rfl, rfl, rfl⟩
  replace h11 := h11.below bx
  replace A11 := blk_below A11 bx
  replace s12 := s12.below bx
  replace h13 := h13.below bx
  replace s14 := s14.below bx
  replace s15 := s15.below bx
  replace hz := hz.below bx
  replace B := below_then B bx
  clear bx
  go_wp2_with fail
  go_ret
  exact ⟨rfl, B⟩
set_option maxHeartbeats 4000000 in
set_option maxRecDepth 100000 in
theorem ListTells_nil_hi (a0 : Option Addr) (n c0 : Nat) (x1 : Int) (i : Int) (w : World) (s0 : Sl w a0 n c0 []) (e0 : n ≤ 17592186043904) (hi : (0 : Int) ≤ i) (hj : (n : Int) ≤ i) :
    Calls Try.prog 6 #[.slice a0 n c0, .int .i64 x1, .int .i64 i] w fun e w' => e = .returned (.bool true) ∧ Below w.heap.size w w' := by
  have hl := s0.hlen
  obtain ⟨t0, hi0, hz0, hz1, hz2⟩ := info_parts Try.infoInt
  obtain rfl : n = 0 := by rw [← hl]; rfl
  have hi' : ¬ (0 ≤ i ∧ i < (([] : List Int).length : Int)) := by simp only [List.length_nil]; omega
  clear hl
  go_enter Try.func6, Try.ntmps6
  go_wp2_with fail
  refine (listed_any _).mono ?_
  rintro e w1 ⟨rfl, bx⟩
  have B := bx
  clear bx
  go_wp2_with fail
  refine (of_ls a0 0 c0 [] _ (s0.below B) (by omega)).mono ?_
  rintro e w2 ⟨q11, m11, rfl, h11, bx⟩
  replace B := below_then B bx
  clear bx
  go_wp2_with fail
  refine (ints_ls q11 m11 _ _ (h11.alloc _) (by (repeat (first | rw [List.length_reverse] | rw [List.length_append] | rw [List.length_cons] | rw [List.length_nil])); omega)).mono ?_
  rintro e w3 ⟨a12, k12, c12, rfl, s12, bx⟩
  obtain ⟨bx, A11⟩ := hold1 bx ⟨rfl, rfl, rfl, rfl⟩
  replace h11 := h11.below bx
  replace B := below_then B bx
  clear bx
  go_wp2_with fail
  refine (same_yes _ _ _ _ _ _ _ _ _ s12 (s0.below B) rfl).mono ?_
  rintro e w4 ⟨rfl, bx⟩
  replace h11 := h11.below bx
  replace A11 := blk_below A11 bx
  replace s12 := s12.below bx
  replace B := below_then B bx
  clear bx
  obtain ⟨u0, uu0, uuu0⟩ := blk A11
  go_wp2_with fail
  refine (push_ls x1 q11 m11 _ _ h11 (by (repeat (first | rw [List.length_reverse] | rw [List.length_append] | rw [List.length_cons] | rw [List.length_nil])); omega)).mono ?_
  rintro e w5 ⟨q13, m13, rfl, h13, bx⟩
  clear u0 uu0 uuu0
  replace h11 := h11.below bx
  replace A11 := blk_below A11 bx
  replace s12 := s12.below bx
  replace B := below_then B bx
  clear bx
  go_wp2_with fail
  refine (ints_ls q13 m13 _ _ h13 (by (repeat (first | rw [List.length_reverse] | rw [List.length_append] | rw [List.length_cons] | rw [List.length_nil])); omega)).mono ?_
  rintro e w6 ⟨a14, k14, c14, rfl, s14, bx⟩
  replace h11 := h11.below bx
  replace A11 := blk_below A11 bx
  replace s12 := s12.below bx
  replace h13 := h13.below bx
  replace B := below_then B bx
  clear bx
  go_wp2_with (at_builtin; refine wpList_append_any _ rfl (.tmp 27) (.tmp 28) _ rfl w6.heap.size 3 t0 (.int .i64 0) 1 8 Try.underlying22 hi0 hz0 hz1 hz2 rfl (by omega) (.slice (some ⟨w6.heap.size, 0, none⟩) 1 1) 1 [.int .i64 x1] rfl (World.ownsRow_lit (base := w6.heap.size) (e := 3) (size := 1) _ #[.int .i64 x1] 1 (Nat.le_refl _) (by decide) rfl) _ a0 0 c0 _ rfl (((s0.below B).alloc _).reads) (one_cells []) (by simp only [maxLen]; omega) (by omega) (by simp) ?_; intro vv w7 hown hg hat)
  have bx : Below w6.heap.size w6 w7 := below_grown ((Below.refl _ _).alloc (Nat.le_refl _) _) (World.ownsRow_lit (base := w6.heap.size) (e := 3) (size := 1) w6 #[.int .i64 x1] 1 (Nat.le_refl _) (by decide) rfl) hg (Nat.le_refl _) (by simp)
  obtain ⟨a15, c15, rfl, s15⟩ := Sl.of_own (xs := x1 :: []) (n := 1 + 0) (by simpa using hown)
  clear hown hg hat
  replace h11 := h11.below bx
  replace A11 := blk_below A11 bx
  replace s12 := s12.below bx
  replace h13 := h13.below bx
  replace s14 := s14.below bx
  replace B := below_then B bx
  clear bx
  go_wp2_with fail
  refine (same_yes _ _ _ _ _ _ _ _ _ s14 s15 rfl).mono ?_
  rintro e w8 ⟨rfl, bx⟩
  replace h11 := h11.below bx
  replace A11 := blk_below A11 bx
  replace s12 := s12.below bx
  replace h13 := h13.below bx
  replace s14 := s14.below bx
  replace s15 := s15.below bx
  replace B := below_then B bx
  clear bx
  obtain ⟨u0, uu0, uuu0⟩ := blk A11
  go_wp2_with fail
  refine (len_to q11 m11 _ (0 : Int) _ h11 rfl).mono ?_
  rintro e w9 ⟨rfl, bx⟩
  clear u0 uu0 uuu0
  replace h11 := h11.below bx
  replace A11 := blk_below A11 bx
  replace s12 := s12.below bx
  replace h13 := h13.below bx
  replace s14 := s14.below bx
  replace s15 := s15.below bx
  replace B := below_then B bx
  clear bx
  obtain ⟨u0, uu0, uuu0⟩ := blk A11
  go_wp2_with fail
  refine (at_out i q11 m11 _ _ h11 hi').mono ?_
  rintro e w10 ⟨rfl, bx⟩
  clear u0 uu0 uuu0
  replace h11 := h11.below bx
  replace A11 := blk_below A11 bx
  replace s12 := s12.below bx
  replace h13 := h13.below bx
  replace s14 := s14.below bx
  replace s15 := s15.below bx
  replace B := below_then B bx
  clear bx
  obtain ⟨u0, uu0, uuu0⟩ := blk A11
  go_wp2_with fail
  refine (pop_nil q11 m11 _ h11).mono ?_
  rintro e w11 ⟨rfl, bx⟩
  clear u0 uu0 uuu0
  replace h11 := h11.below bx
  replace A11 := blk_below A11 bx
  replace s12 := s12.below bx
  replace h13 := h13.below bx
  replace s14 := s14.below bx
  replace s15 := s15.below bx
  replace B := below_then B bx
  clear bx
  have hz := Ls.nil w11
  go_wp2_with fail
  refine (len_to none 0 _ (0 : Int) _ (hz.alloc _) rfl).mono ?_
  rintro e w12 ⟨rfl, bx⟩
  obtain ⟨bx, AZ⟩ := hold1 bx ⟨rfl, rfl, rfl, rfl⟩
  replace h11 := h11.below bx
  replace A11 := blk_below A11 bx
  replace s12 := s12.below bx
  replace h13 := h13.below bx
  replace s14 := s14.below bx
  replace s15 := s15.below bx
  replace hz := hz.below bx
  replace B := below_then B bx
  clear bx
  go_wp2_with fail
  go_ret
  exact ⟨rfl, B⟩
set_option maxHeartbeats 4000000 in
set_option maxRecDepth 100000 in
theorem ListTells_in (a0 : Option Addr) (n c0 : Nat) (v : Int) (r : List Int) (x1 : Int) (i : Nat) (w : World) (s0 : Sl w a0 n c0 (v :: r)) (e0 : n ≤ 17592186043904) (hi : i < n) :
    Calls Try.prog 6 #[.slice a0 n c0, .int .i64 x1, .int .i64 ((i : Nat) : Int)] w fun e w' => e = .returned (.bool true) ∧ Below w.heap.size w w' := by
  have hl := s0.hlen
  obtain ⟨t0, hi0, hz0, hz1, hz2⟩ := info_parts Try.infoInt
  have hl' : r.length + 1 = n := by simpa using hl
  have HL := Lib.hid hl'
  have lr : r.length ≤ n := by omega
  have hn0 : (0 : Int) < (n : Int) := by omega
  have hnz : ((n : Int) == 0) = false := by simp; omega
  have hn1 : (1 : Int) ≤ (n : Int) := by omega
  obtain ⟨b, off, rfl, hbl, hcell⟩ := s0.hat (by omega)
  have hc0 := hcell 0 (by omega)
  simp only [Nat.add_zero, List.getElem?_cons_zero, Option.getD_some] at hc0
  have hci := hcell i hi
  have hii : (i : Int) < (n : Int) := by omega
  obtain ⟨vi, hvi⟩ : ∃ z, (v :: r)[i]?.getD 0 = z := ⟨_, rfl⟩
  rw [hvi] at hci
  have HV := Lib.hid hvi
  clear hvi
  have hnc : (n : Int) ≤ (c0 : Int) := by have := s0.hcap; omega
  have hrest : Sl w (cutAt (some ⟨b, off, none⟩) c0 1) (n - 1) (c0 - 1) r := by simpa using s0.rest (k := 1) (by omega)
  obtain ⟨of1, hof1, hof2⟩ : ∃ o' : Nat, cutAt (some ⟨b, off, none⟩) c0 1 = some ⟨b, o', none⟩ ∧ (if c0 = 1 then (some ⟨b, off, none⟩ : Option Addr) else some ⟨b, off + 1, none⟩) = some ⟨b, o', none⟩ := by
    by_cases hc1 : c0 = 1
    · exact ⟨off, by simp [cutAt, hc1], by simp [hc1]⟩
    · exact ⟨off + 1, by simp [cutAt, hc1, Addr.add], by simp [hc1]⟩
  rw [hof1] at hrest
  have H2 := Lib.hid hof2
  clear hof1 hof2
  clear hcell hl hl'
  go_enter Try.func6, Try.ntmps6
  go_wp2_with fail
  refine (listed_any _).mono ?_
  rintro e w1 ⟨rfl, bx⟩
  have B := bx
  clear bx
  go_wp2_with fail
  refine (of_ls (some ⟨b, off, none⟩) n c0 (v :: r) _ (s0.below B) (by omega)).mono ?_
  rintro e w2 ⟨q11, m11, rfl, h11, bx⟩
  replace B := below_then B bx
  clear bx
  go_wp2_with fail
  refine (ints_ls q11 m11 _ _ (h11.alloc _) (by (repeat (first | rw [List.length_reverse] | rw [List.length_append] | rw [List.length_cons] | rw [List.length_nil])); omega)).mono ?_
  rintro e w3 ⟨a12, k12, c12, rfl, s12, bx⟩
  obtain ⟨bx, A11⟩ := hold1 bx ⟨rfl, rfl, rfl, rfl⟩
  replace h11 := h11.below bx
  replace B := below_then B bx
  clear bx
  go_wp2_with fail
  refine (same_yes _ _ _ _ _ _ _ _ _ s12 (s0.below B) rfl).mono ?_
  rintro e w4 ⟨rfl, bx⟩
  replace h11 := h11.below bx
  replace A11 := blk_below A11 bx
  replace s12 := s12.below bx
  replace B := below_then B bx
  clear bx
  obtain ⟨u0, uu0, uuu0⟩ := blk A11
  go_wp2_with fail
  refine (push_ls x1 q11 m11 _ _ h11 (by (repeat (first | rw [List.length_reverse] | rw [List.length_append] | rw [List.length_cons] | rw [List.length_nil])); omega)).mono ?_
  rintro e w5 ⟨q13, m13, rfl, h13, bx⟩
  clear u0 uu0 uuu0
  replace h11 := h11.below bx
  replace A11 := blk_below A11 bx
  replace s12 := s12.below bx
  replace B := below_then B bx
  clear bx
  go_wp2_with fail
  refine (ints_ls q13 m13 _ _ h13 (by (repeat (first | rw [List.length_reverse] | rw [List.length_append] | rw [List.length_cons] | rw [List.length_nil])); omega)).mono ?_
  rintro e w6 ⟨a14, k14, c14, rfl, s14, bx⟩
  replace h11 := h11.below bx
  replace A11 := blk_below A11 bx
  replace s12 := s12.below bx
  replace h13 := h13.below bx
  replace B := below_then B bx
  clear bx
  go_wp2_with (at_builtin; refine wpList_append_any _ rfl (.tmp 27) (.tmp 28) _ rfl w6.heap.size 3 t0 (.int .i64 0) 1 8 Try.underlying22 hi0 hz0 hz1 hz2 rfl (by omega) (.slice (some ⟨w6.heap.size, 0, none⟩) 1 1) 1 [.int .i64 x1] rfl (World.ownsRow_lit (base := w6.heap.size) (e := 3) (size := 1) _ #[.int .i64 x1] 1 (Nat.le_refl _) (by decide) rfl) _ (some ⟨b, off, none⟩) n c0 _ rfl (((s0.below B).alloc _).reads) (one_cells (v :: r)) (by simp only [maxLen]; omega) (by omega) (by simp) ?_; intro vv w7 hown hg hat)
  have bx : Below w6.heap.size w6 w7 := below_grown ((Below.refl _ _).alloc (Nat.le_refl _) _) (World.ownsRow_lit (base := w6.heap.size) (e := 3) (size := 1) w6 #[.int .i64 x1] 1 (Nat.le_refl _) (by decide) rfl) hg (Nat.le_refl _) (by simp)
  obtain ⟨a15, c15, rfl, s15⟩ := Sl.of_own (xs := x1 :: (v :: r)) (n := 1 + n) (by simpa using hown)
  clear hown hg hat
  replace h11 := h11.below bx
  replace A11 := blk_below A11 bx
  replace s12 := s12.below bx
  replace h13 := h13.below bx
  replace s14 := s14.below bx
  replace B := below_then B bx
  clear bx
  go_wp2_with fail
  refine (same_yes _ _ _ _ _ _ _ _ _ s14 s15 rfl).mono ?_
  rintro e w8 ⟨rfl, bx⟩
  replace h11 := h11.below bx
  replace A11 := blk_below A11 bx
  replace s12 := s12.below bx
  replace h13 := h13.below bx
  replace s14 := s14.below bx
  replace s15 := s15.below bx
  replace B := below_then B bx
  clear bx
  obtain ⟨u0, uu0, uuu0⟩ := blk A11
  go_wp2_with fail
  refine (len_to q11 m11 _ (n : Int) _ h11 (by rw [List.length_cons]; have := HL.out; omega)).mono ?_
  rintro e w9 ⟨rfl, bx⟩
  clear u0 uu0 uuu0
  replace h11 := h11.below bx
  replace A11 := blk_below A11 bx
  replace s12 := s12.below bx
  replace h13 := h13.below bx
  replace s14 := s14.below bx
  replace s15 := s15.below bx
  replace B := below_then B bx
  clear bx
  obtain ⟨u0, uu0, uuu0⟩ := blk A11
  go_wp2_with fail
  refine (at_in i q11 m11 _ _ h11 (by rw [List.length_cons]; have := HL.out; omega) (by rw [List.length_cons]; have := HL.out; omega)).mono ?_
  rintro e w10 ⟨rfl, bx⟩
  clear u0 uu0 uuu0
  replace h11 := h11.below bx
  replace A11 := blk_below A11 bx
  replace s12 := s12.below bx
  replace h13 := h13.below bx
  replace s14 := s14.below bx
  replace s15 := s15.below bx
  replace B := below_then B bx
  clear bx
  rw [HV.out]
  have gci := (B.cell (p := ⟨b, off + i, none⟩) hbl).trans hci
  obtain ⟨u0, uu0, uuu0⟩ := blk A11
  go_wp2_with fail
  refine (pop_cons v r q11 m11 _ h11 (by omega)).mono ?_
  rintro e w11 ⟨q16, m16, rfl, h16, bx⟩
  clear u0 uu0 uuu0
  replace h11 := h11.below bx
  replace A11 := blk_below A11 bx
  replace s12 := s12.below bx
  replace h13 := h13.below bx
  replace s14 := s14.below bx
  replace s15 := s15.below bx
  replace B := below_then B bx
  clear bx
  go_wp2_with fail
  obtain ⟨w12, hw⟩ : ∃ W, (w11.alloc (.cells #[.pointer q16, .int .i64 m16] 28)) = W := ⟨_, rfl⟩
  have bx : Below w11.heap.size w11 w12 := by rw [← hw]; exact ((Below.refl _ _).alloc (by simp; try omega) _)
  have A16 : w12.heap[w11.heap.size]? = some (.cells #[.pointer q16, .int .i64 m16] 28 (0, 0)) := by
    rw [← hw]
    have := heap_alloc_new w11 (.cells #[.pointer q16, .int .i64 m16] 28)
    exact this
  rw [hw]
  clear hw
  replace h11 := h11.below bx
  replace A11 := blk_below A11 bx
  replace s12 := s12.below bx
  replace h13 := h13.below bx
  replace s14 := s14.below bx
  replace s15 := s15.below bx
  replace h16 := h16.below bx
  replace B := below_then B bx
  clear bx
  have gc0 := (B.cell (p := ⟨b, off, none⟩) hbl).trans hc0
  have hof2 := H2.out
  obtain ⟨z0, zz0, zzz0⟩ := blk A16
  go_wp2_with fail
  go_region_held3 (fun w' => w'.cell? ⟨w11.heap.size, 0, none⟩ = some (.pointer q16) ∧ w'.cell? ⟨w11.heap.size, 1, none⟩ = some (.int .i64 m16)) (go_keep) (first
    | (have _t := HM13; go_at_call 14; refine (same_yes _ _ _ _ _ _ _ _ _ (by first | exact s17 | exact s17.below (below_drewN (Below.refl _ _) _)) (by first | exact (hrest.below B) | exact (hrest.below B).below (below_drewN (Below.refl _ _) _)) rfl).mono ?_; rintro e w14 ⟨rfl, bx⟩; replace bx : Below w13.heap.size w13 w14 := (by first | exact bx | exact below_then (below_drewN (Below.refl _ _) _) bx); replace h11 := h11.below bx; replace A11 := blk_below A11 bx; replace s12 := s12.below bx; replace h13 := h13.below bx; replace s14 := s14.below bx; replace s15 := s15.below bx; replace h16 := h16.below bx; replace A16 := blk_below A16 bx; replace s17 := s17.below bx; replace B := below_then B bx; have HM14 := Lib.hid bx; clear bx; obtain ⟨z0, zz0, zzz0⟩ := blk A16)
    | (go_at_call 18; refine (ints_ls q16 m16 _ _ (by first | exact h16 | exact h16.below (below_drewN (Below.refl _ _) _)) (by (repeat (first | rw [List.length_reverse] | rw [List.length_append] | rw [List.length_cons] | rw [List.length_nil])); omega)).mono ?_; rintro e w13 ⟨a17, k17, c17, rfl, s17, bx⟩; replace bx : Below w12.heap.size w12 w13 := (by first | exact bx | exact below_then (below_drewN (Below.refl _ _) _) bx); replace h11 := h11.below bx; replace A11 := blk_below A11 bx; replace s12 := s12.below bx; replace h13 := h13.below bx; replace s14 := s14.below bx; replace s15 := s15.below bx; replace h16 := h16.below bx; replace A16 := blk_below A16 bx; replace B := below_then B bx; have HM13 := Lib.hid bx; clear bx; obtain ⟨z0, zz0, zzz0⟩ := blk A16))
  clear z0 zz0 zzz0
  replace gc0 := (B.cell (p := ⟨b, off, none⟩) hbl).trans hc0
  go_wp2_with fail
  go_ret
  exact ⟨rfl, B⟩
set_option maxHeartbeats 4000000 in
set_option maxRecDepth 100000 in
theorem ListTells_lo (a0 : Option Addr) (n c0 : Nat) (v : Int) (r : List Int) (x1 : Int) (i : Int) (w : World) (s0 : Sl w a0 n c0 (v :: r)) (e0 : n ≤ 17592186043904) (hi : i < 0) :
    Calls Try.prog 6 #[.slice a0 n c0, .int .i64 x1, .int .i64 i] w fun e w' => e = .returned (.bool true) ∧ Below w.heap.size w w' := by
  have hl := s0.hlen
  obtain ⟨t0, hi0, hz0, hz1, hz2⟩ := info_parts Try.infoInt
  have hl' : r.length + 1 = n := by simpa using hl
  have HL := Lib.hid hl'
  have lr : r.length ≤ n := by omega
  have hn0 : (0 : Int) < (n : Int) := by omega
  have hnz : ((n : Int) == 0) = false := by simp; omega
  have hn1 : (1 : Int) ≤ (n : Int) := by omega
  obtain ⟨b, off, rfl, hbl, hcell⟩ := s0.hat (by omega)
  have hc0 := hcell 0 (by omega)
  simp only [Nat.add_zero, List.getElem?_cons_zero, Option.getD_some] at hc0
  have hi' : ¬ (0 ≤ i ∧ i < ((v :: r).length : Int)) := by rw [hl]; omega
  have hnc : (n : Int) ≤ (c0 : Int) := by have := s0.hcap; omega
  have hrest : Sl w (cutAt (some ⟨b, off, none⟩) c0 1) (n - 1) (c0 - 1) r := by simpa using s0.rest (k := 1) (by omega)
  obtain ⟨of1, hof1, hof2⟩ : ∃ o' : Nat, cutAt (some ⟨b, off, none⟩) c0 1 = some ⟨b, o', none⟩ ∧ (if c0 = 1 then (some ⟨b, off, none⟩ : Option Addr) else some ⟨b, off + 1, none⟩) = some ⟨b, o', none⟩ := by
    by_cases hc1 : c0 = 1
    · exact ⟨off, by simp [cutAt, hc1], by simp [hc1]⟩
    · exact ⟨off + 1, by simp [cutAt, hc1, Addr.add], by simp [hc1]⟩
  rw [hof1] at hrest
  have H2 := Lib.hid hof2
  clear hof1 hof2
  clear hcell hl hl'
  go_enter Try.func6, Try.ntmps6
  go_wp2_with fail
  refine (listed_any _).mono ?_
  rintro e w1 ⟨rfl, bx⟩
  have B := bx
  clear bx
  go_wp2_with fail
  refine (of_ls (some ⟨b, off, none⟩) n c0 (v :: r) _ (s0.below B) (by omega)).mono ?_
  rintro e w2 ⟨q11, m11, rfl, h11, bx⟩
  replace B := below_then B bx
  clear bx
  go_wp2_with fail
  refine (ints_ls q11 m11 _ _ (h11.alloc _) (by (repeat (first | rw [List.length_reverse] | rw [List.length_append] | rw [List.length_cons] | rw [List.length_nil])); omega)).mono ?_
  rintro e w3 ⟨a12, k12, c12, rfl, s12, bx⟩
  obtain ⟨bx, A11⟩ := hold1 bx ⟨rfl, rfl, rfl, rfl⟩
  replace h11 := h11.below bx
  replace B := below_then B bx
  clear bx
  go_wp2_with fail
  refine (same_yes _ _ _ _ _ _ _ _ _ s12 (s0.below B) rfl).mono ?_
  rintro e w4 ⟨rfl, bx⟩
  replace h11 := h11.below bx
  replace A11 := blk_below A11 bx
  replace s12 := s12.below bx
  replace B := below_then B bx
  clear bx
  obtain ⟨u0, uu0, uuu0⟩ := blk A11
  go_wp2_with fail
  refine (push_ls x1 q11 m11 _ _ h11 (by (repeat (first | rw [List.length_reverse] | rw [List.length_append] | rw [List.length_cons] | rw [List.length_nil])); omega)).mono ?_
  rintro e w5 ⟨q13, m13, rfl, h13, bx⟩
  clear u0 uu0 uuu0
  replace h11 := h11.below bx
  replace A11 := blk_below A11 bx
  replace s12 := s12.below bx
  replace B := below_then B bx
  clear bx
  go_wp2_with fail
  refine (ints_ls q13 m13 _ _ h13 (by (repeat (first | rw [List.length_reverse] | rw [List.length_append] | rw [List.length_cons] | rw [List.length_nil])); omega)).mono ?_
  rintro e w6 ⟨a14, k14, c14, rfl, s14, bx⟩
  replace h11 := h11.below bx
  replace A11 := blk_below A11 bx
  replace s12 := s12.below bx
  replace h13 := h13.below bx
  replace B := below_then B bx
  clear bx
  go_wp2_with (at_builtin; refine wpList_append_any _ rfl (.tmp 27) (.tmp 28) _ rfl w6.heap.size 3 t0 (.int .i64 0) 1 8 Try.underlying22 hi0 hz0 hz1 hz2 rfl (by omega) (.slice (some ⟨w6.heap.size, 0, none⟩) 1 1) 1 [.int .i64 x1] rfl (World.ownsRow_lit (base := w6.heap.size) (e := 3) (size := 1) _ #[.int .i64 x1] 1 (Nat.le_refl _) (by decide) rfl) _ (some ⟨b, off, none⟩) n c0 _ rfl (((s0.below B).alloc _).reads) (one_cells (v :: r)) (by simp only [maxLen]; omega) (by omega) (by simp) ?_; intro vv w7 hown hg hat)
  have bx : Below w6.heap.size w6 w7 := below_grown ((Below.refl _ _).alloc (Nat.le_refl _) _) (World.ownsRow_lit (base := w6.heap.size) (e := 3) (size := 1) w6 #[.int .i64 x1] 1 (Nat.le_refl _) (by decide) rfl) hg (Nat.le_refl _) (by simp)
  obtain ⟨a15, c15, rfl, s15⟩ := Sl.of_own (xs := x1 :: (v :: r)) (n := 1 + n) (by simpa using hown)
  clear hown hg hat
  replace h11 := h11.below bx
  replace A11 := blk_below A11 bx
  replace s12 := s12.below bx
  replace h13 := h13.below bx
  replace s14 := s14.below bx
  replace B := below_then B bx
  clear bx
  go_wp2_with fail
  refine (same_yes _ _ _ _ _ _ _ _ _ s14 s15 rfl).mono ?_
  rintro e w8 ⟨rfl, bx⟩
  replace h11 := h11.below bx
  replace A11 := blk_below A11 bx
  replace s12 := s12.below bx
  replace h13 := h13.below bx
  replace s14 := s14.below bx
  replace s15 := s15.below bx
  replace B := below_then B bx
  clear bx
  obtain ⟨u0, uu0, uuu0⟩ := blk A11
  go_wp2_with fail
  refine (len_to q11 m11 _ (n : Int) _ h11 (by rw [List.length_cons]; have := HL.out; omega)).mono ?_
  rintro e w9 ⟨rfl, bx⟩
  clear u0 uu0 uuu0
  replace h11 := h11.below bx
  replace A11 := blk_below A11 bx
  replace s12 := s12.below bx
  replace h13 := h13.below bx
  replace s14 := s14.below bx
  replace s15 := s15.below bx
  replace B := below_then B bx
  clear bx
  obtain ⟨u0, uu0, uuu0⟩ := blk A11
  go_wp2_with fail
  refine (at_out i q11 m11 _ _ h11 hi').mono ?_
  rintro e w10 ⟨rfl, bx⟩
  clear u0 uu0 uuu0
  replace h11 := h11.below bx
  replace A11 := blk_below A11 bx
  replace s12 := s12.below bx
  replace h13 := h13.below bx
  replace s14 := s14.below bx
  replace s15 := s15.below bx
  replace B := below_then B bx
  clear bx
  obtain ⟨u0, uu0, uuu0⟩ := blk A11
  go_wp2_with fail
  refine (pop_cons v r q11 m11 _ h11 (by omega)).mono ?_
  rintro e w11 ⟨q16, m16, rfl, h16, bx⟩
  clear u0 uu0 uuu0
  replace h11 := h11.below bx
  replace A11 := blk_below A11 bx
  replace s12 := s12.below bx
  replace h13 := h13.below bx
  replace s14 := s14.below bx
  replace s15 := s15.below bx
  replace B := below_then B bx
  clear bx
  go_wp2_with fail
  obtain ⟨w12, hw⟩ : ∃ W, (w11.alloc (.cells #[.pointer q16, .int .i64 m16] 28)) = W := ⟨_, rfl⟩
  have bx : Below w11.heap.size w11 w12 := by rw [← hw]; exact ((Below.refl _ _).alloc (by simp; try omega) _)
  have A16 : w12.heap[w11.heap.size]? = some (.cells #[.pointer q16, .int .i64 m16] 28 (0, 0)) := by
    rw [← hw]
    have := heap_alloc_new w11 (.cells #[.pointer q16, .int .i64 m16] 28)
    exact this
  rw [hw]
  clear hw
  replace h11 := h11.below bx
  replace A11 := blk_below A11 bx
  replace s12 := s12.below bx
  replace h13 := h13.below bx
  replace s14 := s14.below bx
  replace s15 := s15.below bx
  replace h16 := h16.below bx
  replace B := below_then B bx
  clear bx
  have gc0 := (B.cell (p := ⟨b, off, none⟩) hbl).trans hc0
  have hof2 := H2.out
  obtain ⟨z0, zz0, zzz0⟩ := blk A16
  go_wp2_with fail
  go_region_held3 (fun w' => w'.cell? ⟨w11.heap.size, 0, none⟩ = some (.pointer q16) ∧ w'.cell? ⟨w11.heap.size, 1, none⟩ = some (.int .i64 m16)) (go_keep) (first
    | (have _t := HM13; go_at_call 14; refine (same_yes _ _ _ _ _ _ _ _ _ (by first | exact s17 | exact s17.below (below_drewN (Below.refl _ _) _)) (by first | exact (hrest.below B) | exact (hrest.below B).below (below_drewN (Below.refl _ _) _)) rfl).mono ?_; rintro e w14 ⟨rfl, bx⟩; replace bx : Below w13.heap.size w13 w14 := (by first | exact bx | exact below_then (below_drewN (Below.refl _ _) _) bx); replace h11 := h11.below bx; replace A11 := blk_below A11 bx; replace s12 := s12.below bx; replace h13 := h13.below bx; replace s14 := s14.below bx; replace s15 := s15.below bx; replace h16 := h16.below bx; replace A16 := blk_below A16 bx; replace s17 := s17.below bx; replace B := below_then B bx; have HM14 := Lib.hid bx; clear bx; obtain ⟨z0, zz0, zzz0⟩ := blk A16)
    | (go_at_call 18; refine (ints_ls q16 m16 _ _ (by first | exact h16 | exact h16.below (below_drewN (Below.refl _ _) _)) (by (repeat (first | rw [List.length_reverse] | rw [List.length_append] | rw [List.length_cons] | rw [List.length_nil])); omega)).mono ?_; rintro e w13 ⟨a17, k17, c17, rfl, s17, bx⟩; replace bx : Below w12.heap.size w12 w13 := (by first | exact bx | exact below_then (below_drewN (Below.refl _ _) _) bx); replace h11 := h11.below bx; replace A11 := blk_below A11 bx; replace s12 := s12.below bx; replace h13 := h13.below bx; replace s14 := s14.below bx; replace s15 := s15.below bx; replace h16 := h16.below bx; replace A16 := blk_below A16 bx; replace B := below_then B bx; have HM13 := Lib.hid bx; clear bx; obtain ⟨z0, zz0, zzz0⟩ := blk A16))
  clear z0 zz0 zzz0
  replace gc0 := (B.cell (p := ⟨b, off, none⟩) hbl).trans hc0
  go_wp2_with fail
  go_ret
  exact ⟨rfl, B⟩
set_option maxHeartbeats 4000000 in
set_option maxRecDepth 100000 in
theorem ListTells_hi (a0 : Option Addr) (n c0 : Nat) (v : Int) (r : List Int) (x1 : Int) (i : Int) (w : World) (s0 : Sl w a0 n c0 (v :: r)) (e0 : n ≤ 17592186043904) (hi : (0 : Int) ≤ i) (hj : (n : Int) ≤ i) :
    Calls Try.prog 6 #[.slice a0 n c0, .int .i64 x1, .int .i64 i] w fun e w' => e = .returned (.bool true) ∧ Below w.heap.size w w' := by
  have hl := s0.hlen
  obtain ⟨t0, hi0, hz0, hz1, hz2⟩ := info_parts Try.infoInt
  have hl' : r.length + 1 = n := by simpa using hl
  have HL := Lib.hid hl'
  have lr : r.length ≤ n := by omega
  have hn0 : (0 : Int) < (n : Int) := by omega
  have hnz : ((n : Int) == 0) = false := by simp; omega
  have hn1 : (1 : Int) ≤ (n : Int) := by omega
  obtain ⟨b, off, rfl, hbl, hcell⟩ := s0.hat (by omega)
  have hc0 := hcell 0 (by omega)
  simp only [Nat.add_zero, List.getElem?_cons_zero, Option.getD_some] at hc0
  have hi' : ¬ (0 ≤ i ∧ i < ((v :: r).length : Int)) := by rw [hl]; omega
  have hnc : (n : Int) ≤ (c0 : Int) := by have := s0.hcap; omega
  have hrest : Sl w (cutAt (some ⟨b, off, none⟩) c0 1) (n - 1) (c0 - 1) r := by simpa using s0.rest (k := 1) (by omega)
  obtain ⟨of1, hof1, hof2⟩ : ∃ o' : Nat, cutAt (some ⟨b, off, none⟩) c0 1 = some ⟨b, o', none⟩ ∧ (if c0 = 1 then (some ⟨b, off, none⟩ : Option Addr) else some ⟨b, off + 1, none⟩) = some ⟨b, o', none⟩ := by
    by_cases hc1 : c0 = 1
    · exact ⟨off, by simp [cutAt, hc1], by simp [hc1]⟩
    · exact ⟨off + 1, by simp [cutAt, hc1, Addr.add], by simp [hc1]⟩
  rw [hof1] at hrest
  have H2 := Lib.hid hof2
  clear hof1 hof2
  clear hcell hl hl'
  go_enter Try.func6, Try.ntmps6
  go_wp2_with fail
  refine (listed_any _).mono ?_
  rintro e w1 ⟨rfl, bx⟩
  have B := bx
  clear bx
  go_wp2_with fail
  refine (of_ls (some ⟨b, off, none⟩) n c0 (v :: r) _ (s0.below B) (by omega)).mono ?_
  rintro e w2 ⟨q11, m11, rfl, h11, bx⟩
  replace B := below_then B bx
  clear bx
  go_wp2_with fail
  refine (ints_ls q11 m11 _ _ (h11.alloc _) (by (repeat (first | rw [List.length_reverse] | rw [List.length_append] | rw [List.length_cons] | rw [List.length_nil])); omega)).mono ?_
  rintro e w3 ⟨a12, k12, c12, rfl, s12, bx⟩
  obtain ⟨bx, A11⟩ := hold1 bx ⟨rfl, rfl, rfl, rfl⟩
  replace h11 := h11.below bx
  replace B := below_then B bx
  clear bx
  go_wp2_with fail
  refine (same_yes _ _ _ _ _ _ _ _ _ s12 (s0.below B) rfl).mono ?_
  rintro e w4 ⟨rfl, bx⟩
  replace h11 := h11.below bx
  replace A11 := blk_below A11 bx
  replace s12 := s12.below bx
  replace B := below_then B bx
  clear bx
  obtain ⟨u0, uu0, uuu0⟩ := blk A11
  go_wp2_with fail
  refine (push_ls x1 q11 m11 _ _ h11 (by (repeat (first | rw [List.length_reverse] | rw [List.length_append] | rw [List.length_cons] | rw [List.length_nil])); omega)).mono ?_
  rintro e w5 ⟨q13, m13, rfl, h13, bx⟩
  clear u0 uu0 uuu0
  replace h11 := h11.below bx
  replace A11 := blk_below A11 bx
  replace s12 := s12.below bx
  replace B := below_then B bx
  clear bx
  go_wp2_with fail
  refine (ints_ls q13 m13 _ _ h13 (by (repeat (first | rw [List.length_reverse] | rw [List.length_append] | rw [List.length_cons] | rw [List.length_nil])); omega)).mono ?_
  rintro e w6 ⟨a14, k14, c14, rfl, s14, bx⟩
  replace h11 := h11.below bx
  replace A11 := blk_below A11 bx
  replace s12 := s12.below bx
  replace h13 := h13.below bx
  replace B := below_then B bx
  clear bx
  go_wp2_with (at_builtin; refine wpList_append_any _ rfl (.tmp 27) (.tmp 28) _ rfl w6.heap.size 3 t0 (.int .i64 0) 1 8 Try.underlying22 hi0 hz0 hz1 hz2 rfl (by omega) (.slice (some ⟨w6.heap.size, 0, none⟩) 1 1) 1 [.int .i64 x1] rfl (World.ownsRow_lit (base := w6.heap.size) (e := 3) (size := 1) _ #[.int .i64 x1] 1 (Nat.le_refl _) (by decide) rfl) _ (some ⟨b, off, none⟩) n c0 _ rfl (((s0.below B).alloc _).reads) (one_cells (v :: r)) (by simp only [maxLen]; omega) (by omega) (by simp) ?_; intro vv w7 hown hg hat)
  have bx : Below w6.heap.size w6 w7 := below_grown ((Below.refl _ _).alloc (Nat.le_refl _) _) (World.ownsRow_lit (base := w6.heap.size) (e := 3) (size := 1) w6 #[.int .i64 x1] 1 (Nat.le_refl _) (by decide) rfl) hg (Nat.le_refl _) (by simp)
  obtain ⟨a15, c15, rfl, s15⟩ := Sl.of_own (xs := x1 :: (v :: r)) (n := 1 + n) (by simpa using hown)
  clear hown hg hat
  replace h11 := h11.below bx
  replace A11 := blk_below A11 bx
  replace s12 := s12.below bx
  replace h13 := h13.below bx
  replace s14 := s14.below bx
  replace B := below_then B bx
  clear bx
  go_wp2_with fail
  refine (same_yes _ _ _ _ _ _ _ _ _ s14 s15 rfl).mono ?_
  rintro e w8 ⟨rfl, bx⟩
  replace h11 := h11.below bx
  replace A11 := blk_below A11 bx
  replace s12 := s12.below bx
  replace h13 := h13.below bx
  replace s14 := s14.below bx
  replace s15 := s15.below bx
  replace B := below_then B bx
  clear bx
  obtain ⟨u0, uu0, uuu0⟩ := blk A11
  go_wp2_with fail
  refine (len_to q11 m11 _ (n : Int) _ h11 (by rw [List.length_cons]; have := HL.out; omega)).mono ?_
  rintro e w9 ⟨rfl, bx⟩
  clear u0 uu0 uuu0
  replace h11 := h11.below bx
  replace A11 := blk_below A11 bx
  replace s12 := s12.below bx
  replace h13 := h13.below bx
  replace s14 := s14.below bx
  replace s15 := s15.below bx
  replace B := below_then B bx
  clear bx
  obtain ⟨u0, uu0, uuu0⟩ := blk A11
  go_wp2_with fail
  refine (at_out i q11 m11 _ _ h11 hi').mono ?_
  rintro e w10 ⟨rfl, bx⟩
  clear u0 uu0 uuu0
  replace h11 := h11.below bx
  replace A11 := blk_below A11 bx
  replace s12 := s12.below bx
  replace h13 := h13.below bx
  replace s14 := s14.below bx
  replace s15 := s15.below bx
  replace B := below_then B bx
  clear bx
  obtain ⟨u0, uu0, uuu0⟩ := blk A11
  go_wp2_with fail
  refine (pop_cons v r q11 m11 _ h11 (by omega)).mono ?_
  rintro e w11 ⟨q16, m16, rfl, h16, bx⟩
  clear u0 uu0 uuu0
  replace h11 := h11.below bx
  replace A11 := blk_below A11 bx
  replace s12 := s12.below bx
  replace h13 := h13.below bx
  replace s14 := s14.below bx
  replace s15 := s15.below bx
  replace B := below_then B bx
  clear bx
  go_wp2_with fail
  obtain ⟨w12, hw⟩ : ∃ W, (w11.alloc (.cells #[.pointer q16, .int .i64 m16] 28)) = W := ⟨_, rfl⟩
  have bx : Below w11.heap.size w11 w12 := by rw [← hw]; exact ((Below.refl _ _).alloc (by simp; try omega) _)
  have A16 : w12.heap[w11.heap.size]? = some (.cells #[.pointer q16, .int .i64 m16] 28 (0, 0)) := by
    rw [← hw]
    have := heap_alloc_new w11 (.cells #[.pointer q16, .int .i64 m16] 28)
    exact this
  rw [hw]
  clear hw
  replace h11 := h11.below bx
  replace A11 := blk_below A11 bx
  replace s12 := s12.below bx
  replace h13 := h13.below bx
  replace s14 := s14.below bx
  replace s15 := s15.below bx
  replace h16 := h16.below bx
  replace B := below_then B bx
  clear bx
  have gc0 := (B.cell (p := ⟨b, off, none⟩) hbl).trans hc0
  have hof2 := H2.out
  obtain ⟨z0, zz0, zzz0⟩ := blk A16
  go_wp2_with fail
  go_region_held3 (fun w' => w'.cell? ⟨w11.heap.size, 0, none⟩ = some (.pointer q16) ∧ w'.cell? ⟨w11.heap.size, 1, none⟩ = some (.int .i64 m16)) (go_keep) (first
    | (have _t := HM13; go_at_call 14; refine (same_yes _ _ _ _ _ _ _ _ _ (by first | exact s17 | exact s17.below (below_drewN (Below.refl _ _) _)) (by first | exact (hrest.below B) | exact (hrest.below B).below (below_drewN (Below.refl _ _) _)) rfl).mono ?_; rintro e w14 ⟨rfl, bx⟩; replace bx : Below w13.heap.size w13 w14 := (by first | exact bx | exact below_then (below_drewN (Below.refl _ _) _) bx); replace h11 := h11.below bx; replace A11 := blk_below A11 bx; replace s12 := s12.below bx; replace h13 := h13.below bx; replace s14 := s14.below bx; replace s15 := s15.below bx; replace h16 := h16.below bx; replace A16 := blk_below A16 bx; replace s17 := s17.below bx; replace B := below_then B bx; have HM14 := Lib.hid bx; clear bx; obtain ⟨z0, zz0, zzz0⟩ := blk A16)
    | (go_at_call 18; refine (ints_ls q16 m16 _ _ (by first | exact h16 | exact h16.below (below_drewN (Below.refl _ _) _)) (by (repeat (first | rw [List.length_reverse] | rw [List.length_append] | rw [List.length_cons] | rw [List.length_nil])); omega)).mono ?_; rintro e w13 ⟨a17, k17, c17, rfl, s17, bx⟩; replace bx : Below w12.heap.size w12 w13 := (by first | exact bx | exact below_then (below_drewN (Below.refl _ _) _) bx); replace h11 := h11.below bx; replace A11 := blk_below A11 bx; replace s12 := s12.below bx; replace h13 := h13.below bx; replace s14 := s14.below bx; replace s15 := s15.below bx; replace h16 := h16.below bx; replace A16 := blk_below A16 bx; replace B := below_then B bx; have HM13 := Lib.hid bx; clear bx; obtain ⟨z0, zz0, zzz0⟩ := blk A16))
  clear z0 zz0 zzz0
  replace gc0 := (B.cell (p := ⟨b, off, none⟩) hbl).trans hc0
  go_wp2_with fail
  go_ret
  exact ⟨rfl, B⟩
theorem ListTells_walk (a0 : Option Addr) (n0 c0 : Nat) (x0 : List Int) (x1 x2 : Int) (w : World) (s0 : Sl w a0 n0 c0 x0) (i0 : ∀ n ∈ x0, I64 n) (e0 : n0 ≤ 17592186043904) (i1 : I64 x1) (i2 : I64 x2) :
    Calls Try.prog 6 #[.slice a0 n0 c0, .int .i64 x1, .int .i64 x2] w fun e w' => e = .returned (.bool true) ∧ Below w.heap.size w w' := by
  cases x0 with
  | nil =>
    have h0 : n0 = 0 := by rw [← s0.hlen]; rfl
    by_cases hlo : x2 < 0
    · exact ListTells_nil_lo a0 n0 c0 x1 x2 w s0 e0 hlo
    · exact ListTells_nil_hi a0 n0 c0 x1 x2 w s0 e0 (by omega) (by omega)
  | cons v r =>
    by_cases hlo : x2 < 0
    · exact ListTells_lo a0 n0 c0 v r x1 x2 w s0 e0 hlo
    · by_cases hin : x2 < (n0 : Int)
      · obtain ⟨i, rfl⟩ : ∃ i : Nat, x2 = (i : Int) := ⟨x2.toNat, by omega⟩
        exact ListTells_in a0 n0 c0 v r x1 i w s0 e0 (by omega)
      · exact ListTells_hi a0 n0 c0 v r x1 x2 w s0 e0 (by omega) (by omega)
end Go.Proofs.Ytooejhijdjcmkaa
