/-
  The walk of the law MonoSplits. Conditions: together no more than 1048576 numbers.
-/
import Derived.Test.YtnddeelnfbgljaaMonoOf
import Derived.Test.YtnddeelnfbgljaaCat
namespace Go.Proofs.Ytnddeelnfbgljaa
open Go.RowKit Go.Deep
set_option linter.unusedVariables false
open MN
set_option maxHeartbeats 8000000 in
theorem MonoSplits_walk (a : Option Addr) (n c : Nat) (xs : List Int) (a' : Option Addr) (n' c' : Nat) (ys : List Int) (a'' : Option Addr) (n'' c'' : Nat) (zs : List Int) (w : World) (h : Sl w a n c xs) (hi : ∀ x ∈ xs, I64 x) (h' : Sl w a' n' c' ys) (hi' : ∀ x ∈ ys, I64 x) (h'' : Sl w a'' n'' c'' zs) (hi'' : ∀ x ∈ zs, I64 x) (hn : n + n' + n'' ≤ 1048576) :
    Calls Try.prog 4 #[.slice a n c, .slice a' n' c', .slice a'' n'' c''] w fun e w' => e = .returned (.bool true) ∧ Below w.heap.size w w' := by
  have HH := Lib.hid h
  have HH' := Lib.hid h'
  have HH'' := Lib.hid h''
  have l1 := h.hlen
  have l2 := h'.hlen
  have l3 := h''.hlen
  clear h h' h'' hi hi' hi''
  have C0 := fun p w' => of_any p 2 2 [5, 3] w'
  have e0 : of [5, 3] = ⟨2, 8, 3, 5, (of [5, 3]).h⟩ := Ms.ext' (of_n [5, 3] (by simp)) (by simp [of, join, one, zero, wrap64]) (by show min (min 9223372036854775807 5) 3 = (3 : Int); omega) (by show max (max (-9223372036854775808) 5) 3 = (5 : Int); omega) rfl
  obtain ⟨hh0, hy⟩ : ∃ y, (of [5, 3]).h = y := ⟨_, rfl⟩
  rw [hy] at e0
  rw [e0] at C0
  clear hy e0
  have C1 := fun p n c w' => of_any p n c xs w'
  have C2 := fun p n c w' => of_any p n c ys w'
  have C3 := fun p n c w' => of_any p n c zs w'
  have C4 := fun p n c w' => of_any p n c (xs ++ ys ++ zs) w'
  have A1 : join (join (of xs) (of ys)) (of zs) = of (xs ++ ys ++ zs) := by
    rw [of_append _ zs (by rw [List.length_append]; omega), of_append xs ys (by omega)]
  have A2 : join (of xs) (join (of ys) (of zs)) = of (xs ++ ys ++ zs) := by
    rw [List.append_assoc, of_append xs _ (by rw [List.length_append]; omega), of_append ys zs (by omega)]
  have A3 := join_zero_l xs (by omega)
  have A4 := join_zero_r xs (by omega)
  have I1 := of_i64 xs
  have I2 := of_i64 ys
  have I3 := of_i64 zs
  have I5 : I64 (join (of ys) (of zs)).n := i64_wrap _
  have I0 : I64 zero.n := by unfold I64; simp [zero]
  obtain ⟨x, hx⟩ : ∃ x, of xs = x := ⟨_, rfl⟩
  obtain ⟨y, hy⟩ : ∃ x, of ys = x := ⟨_, rfl⟩
  obtain ⟨z, hz⟩ : ∃ x, of zs = x := ⟨_, rfl⟩
  obtain ⟨s, hs⟩ : ∃ x, of (xs ++ ys ++ zs) = x := ⟨_, rfl⟩
  rw [hx, hy, hz, hs] at A1 A2
  rw [hx] at A3 A4 I1 C1
  rw [hy] at I2 C2 I5
  rw [hz] at I3 C3 I5
  rw [hs] at C4
  clear hx hy hz hs
  obtain ⟨o, ho⟩ : ∃ o, zero = o := ⟨_, rfl⟩
  have N0 := none_any
  rw [ho] at A3 A4 I0 N0
  clear ho
  have J1 := fun w => join_any x y w I2
  have J2 := fun w => join_any (join x y) z w I3
  have J3 := fun w => join_any y z w I3
  have J4 := fun w => join_any x (join y z) w I5
  have J5 := fun w => join_any o x w I1
  have J6 := fun w => join_any x o w I0
  simp only [A1] at J2
  simp only [A2] at J4
  simp only [A3] at J5
  simp only [A4] at J6
  clear A1 A2 A3 A4 I1 I2 I3 I5 I0
  generalize join x y = xy at J1 J2
  generalize join y z = yz at J3 J4
  simp only [Ms.val] at J1 J2 J3 J4 J5 J6
  go_enter Try.func4, Try.ntmps4
  go_wp2_with fail
  refine (C0 _ _ (Sl.two' _ _ rfl 5 3 _)).mono ?_
  rintro e w1 ⟨rfl, hb1⟩
  obtain ⟨hb1, x1⟩ := hold1 hb1 ⟨rfl, rfl, rfl, rfl⟩
  clear x1
  have z1 := hb1.size
  go_wp2_with fail
  refine (C1 _ _ _ _ ((HH.out.below hb1).below ((Below.refl _ _).alloc (Nat.le_refl _) _))).mono ?_
  rintro e w2 ⟨rfl, hb2⟩
  obtain ⟨hb2, _⟩ := hold1 hb2 ⟨rfl, rfl, rfl, rfl⟩
  replace hb2 := below_then hb1 hb2
  clear hb1
  have z2 := hb2.size
  go_wp2_with fail
  refine (C2 _ _ _ _ ((HH'.out.below hb2).below ((Below.refl _ _).alloc (Nat.le_refl _) _))).mono ?_
  rintro e w3 ⟨rfl, hb3⟩
  obtain ⟨hb3, x2⟩ := hold1 hb3 ⟨rfl, rfl, rfl, rfl⟩
  have z3 := hb3.size
  replace hb2 := below_then hb2 hb3
  clear hb3
  go_wp2_with fail
  refine (C3 _ _ _ _ ((HH''.out.below hb2).below ((Below.refl _ _).alloc (Nat.le_refl _) _))).mono ?_
  rintro e w4 ⟨rfl, hb4⟩
  obtain ⟨hb4, x3⟩ := hold1 hb4 ⟨rfl, rfl, rfl, rfl⟩
  have z4 := hb4.size
  replace x2 := blk_below x2 hb4
  replace hb2 := below_then hb2 hb4
  clear hb4
  go_wp2_with fail
  refine (N0 _).mono ?_
  rintro e w5 ⟨rfl, hb5⟩
  obtain ⟨hb5, x4⟩ := hold1 hb5 ⟨rfl, rfl, rfl, rfl⟩
  have z5 := hb5.size
  replace x2 := blk_below x2 hb5
  replace x3 := blk_below x3 hb5
  replace hb2 := below_then hb2 hb5
  clear hb5
  go_wp2_with fail
  refine (cat_any _ _ _ _ _ _ xs ys _ ((HH.out.below hb2).below ((Below.refl _ _).alloc (Nat.le_refl _) _)) ((HH'.out.below hb2).below ((Below.refl _ _).alloc (Nat.le_refl _) _)) (by omega)).mono ?_
  rintro e w6 ⟨v6, rfl, ow6, hb6⟩
  obtain ⟨hb6, x5⟩ := hold1 hb6 ⟨rfl, rfl, rfl, rfl⟩
  have z6 := hb6.size
  replace x2 := blk_below x2 hb6
  replace x3 := blk_below x3 hb6
  replace x4 := blk_below x4 hb6
  replace hb2 := below_then hb2 hb6
  clear hb6
  obtain ⟨a6, c6, rfl, s6⟩ := Sl.of_own ow6
  go_wp2_with fail
  refine (cat_any _ _ _ _ _ _ (xs ++ ys) zs _ s6 (HH''.out.below hb2) (by omega)).mono ?_
  rintro e w7 ⟨v7, rfl, ow7, hb7⟩
  have z7 := hb7.size
  replace x2 := blk_below x2 hb7
  replace x3 := blk_below x3 hb7
  replace x4 := blk_below x4 hb7
  replace x5 := blk_below x5 hb7
  replace hb2 := below_then hb2 hb7
  clear hb7
  obtain ⟨a7, c7, rfl, s7⟩ := Sl.of_own ow7
  go_wp2_with fail
  refine (C4 _ _ _ _ s7).mono ?_
  rintro e w8 ⟨rfl, hb8⟩
  have z8 := hb8.size
  replace x2 := blk_below x2 hb8
  replace x3 := blk_below x3 hb8
  replace x4 := blk_below x4 hb8
  replace x5 := blk_below x5 hb8
  replace hb2 := below_then hb2 hb8
  clear hb8
  go_wp2_with fail
  have X6 : At (w8.alloc (.cells #[.int .i64 s.n, .int .i64 s.s, .int .i64 s.lo, .int .i64 s.hi, .int .i64 s.h] 24)) w8.heap.size s := heap_alloc_new _ _
  have X2 : At (w8.alloc (.cells #[.int .i64 s.n, .int .i64 s.s, .int .i64 s.lo, .int .i64 s.hi, .int .i64 s.h] 24)) w2.heap.size x := (Below.heap_alloc _ _ _ (Array.getElem?_eq_some_iff.1 x2).1).trans x2
  have X3 : At (w8.alloc (.cells #[.int .i64 s.n, .int .i64 s.s, .int .i64 s.lo, .int .i64 s.hi, .int .i64 s.h] 24)) w3.heap.size y := (Below.heap_alloc _ _ _ (Array.getElem?_eq_some_iff.1 x3).1).trans x3
  have X4 : At (w8.alloc (.cells #[.int .i64 s.n, .int .i64 s.s, .int .i64 s.lo, .int .i64 s.hi, .int .i64 s.h] 24)) w4.heap.size z := (Below.heap_alloc _ _ _ (Array.getElem?_eq_some_iff.1 x4).1).trans x4
  have X5 : At (w8.alloc (.cells #[.int .i64 s.n, .int .i64 s.s, .int .i64 s.lo, .int .i64 s.hi, .int .i64 s.h] 24)) w5.heap.size o := (Below.heap_alloc _ _ _ (Array.getElem?_eq_some_iff.1 x5).1).trans x5
  clear x2 x3 x4 x5
  obtain ⟨⟨hx0, hx1, hx2, hx3, hx4⟩, _, _⟩ := X2.cells
  obtain ⟨⟨hy0, hy1, hy2, hy3, hy4⟩, _, _⟩ := X3.cells
  obtain ⟨⟨hz0, hz1, hz2, hz3, hz4⟩, _, _⟩ := X4.cells
  obtain ⟨⟨ho0, ho1, ho2, ho3, ho4⟩, _, _⟩ := X5.cells
  obtain ⟨⟨hs0, hs1, hs2, hs3, hs4⟩, _, _⟩ := X6.cells
  replace X2 := Lib.hid X2
  replace X3 := Lib.hid X3
  replace X4 := Lib.hid X4
  replace X5 := Lib.hid X5
  replace X6 := Lib.hid X6
  have hbb := Lib.hid (hb2.alloc (o := .cells #[.int .i64 s.n, .int .i64 s.s, .int .i64 s.lo, .int .i64 s.hi, .int .i64 s.h] 24) (by omega))
  clear hb2
  go_region_held3 (fun w' => w'.cell? ⟨w2.heap.size, 0, none⟩ = some (.int .i64 x.n) ∧ w'.cell? ⟨w2.heap.size, 1, none⟩ = some (.int .i64 x.s) ∧ w'.cell? ⟨w2.heap.size, 2, none⟩ = some (.int .i64 x.lo) ∧ w'.cell? ⟨w2.heap.size, 3, none⟩ = some (.int .i64 x.hi) ∧ w'.cell? ⟨w2.heap.size, 4, none⟩ = some (.int .i64 x.h) ∧ w'.cell? ⟨w3.heap.size, 0, none⟩ = some (.int .i64 y.n) ∧ w'.cell? ⟨w3.heap.size, 1, none⟩ = some (.int .i64 y.s) ∧ w'.cell? ⟨w3.heap.size, 2, none⟩ = some (.int .i64 y.lo) ∧ w'.cell? ⟨w3.heap.size, 3, none⟩ = some (.int .i64 y.hi) ∧ w'.cell? ⟨w3.heap.size, 4, none⟩ = some (.int .i64 y.h) ∧ w'.cell? ⟨w4.heap.size, 0, none⟩ = some (.int .i64 z.n) ∧ w'.cell? ⟨w4.heap.size, 1, none⟩ = some (.int .i64 z.s) ∧ w'.cell? ⟨w4.heap.size, 2, none⟩ = some (.int .i64 z.lo) ∧ w'.cell? ⟨w4.heap.size, 3, none⟩ = some (.int .i64 z.hi) ∧ w'.cell? ⟨w4.heap.size, 4, none⟩ = some (.int .i64 z.h) ∧ w'.cell? ⟨w5.heap.size, 0, none⟩ = some (.int .i64 o.n) ∧ w'.cell? ⟨w5.heap.size, 1, none⟩ = some (.int .i64 o.s) ∧ w'.cell? ⟨w5.heap.size, 2, none⟩ = some (.int .i64 o.lo) ∧ w'.cell? ⟨w5.heap.size, 3, none⟩ = some (.int .i64 o.hi) ∧ w'.cell? ⟨w5.heap.size, 4, none⟩ = some (.int .i64 o.h) ∧ w'.cell? ⟨w8.heap.size, 0, none⟩ = some (.int .i64 s.n) ∧ w'.cell? ⟨w8.heap.size, 1, none⟩ = some (.int .i64 s.s) ∧ w'.cell? ⟨w8.heap.size, 2, none⟩ = some (.int .i64 s.lo) ∧ w'.cell? ⟨w8.heap.size, 3, none⟩ = some (.int .i64 s.hi) ∧ w'.cell? ⟨w8.heap.size, 4, none⟩ = some (.int .i64 s.h)) (go_keep) (first
    | (go_at_call 13; have _t := hk5; refine (J6 _).mono ?_; rintro e v6 ⟨rfl, hk6⟩; have y62 : At v6 w2.heap.size x := blk_below (by exact Y52.out) hk6; obtain ⟨⟨k6x0, k6x1, k6x2, k6x3, k6x4⟩, _, _⟩ := y62.cells; have Y62 := Lib.hid y62; clear y62; have y63 : At v6 w3.heap.size y := blk_below (by exact Y53.out) hk6; obtain ⟨⟨k6y0, k6y1, k6y2, k6y3, k6y4⟩, _, _⟩ := y63.cells; have Y63 := Lib.hid y63; clear y63; have y64 : At v6 w4.heap.size z := blk_below (by exact Y54.out) hk6; obtain ⟨⟨k6z0, k6z1, k6z2, k6z3, k6z4⟩, _, _⟩ := y64.cells; have Y64 := Lib.hid y64; clear y64; have y65 : At v6 w5.heap.size o := blk_below (by exact Y55.out) hk6; obtain ⟨⟨k6o0, k6o1, k6o2, k6o3, k6o4⟩, _, _⟩ := y65.cells; have Y65 := Lib.hid y65; clear y65; have y66 : At v6 w8.heap.size s := blk_below (by exact Y56.out) hk6; obtain ⟨⟨k6s0, k6s1, k6s2, k6s3, k6s4⟩, _, _⟩ := y66.cells; have Y66 := Lib.hid y66; clear y66; replace hk6 : Below v5.heap.size v5 v6 := (by first | exact hk6 | exact below_of_drew hk6 | exact below_of_drewN hk6))
    | (go_at_call 13; have _t := hk4; refine (J5 _).mono ?_; rintro e v5 ⟨rfl, hk5⟩; have y52 : At v5 w2.heap.size x := blk_below (by exact Y42.out) hk5; obtain ⟨⟨k5x0, k5x1, k5x2, k5x3, k5x4⟩, _, _⟩ := y52.cells; have Y52 := Lib.hid y52; clear y52; have y53 : At v5 w3.heap.size y := blk_below (by exact Y43.out) hk5; obtain ⟨⟨k5y0, k5y1, k5y2, k5y3, k5y4⟩, _, _⟩ := y53.cells; have Y53 := Lib.hid y53; clear y53; have y54 : At v5 w4.heap.size z := blk_below (by exact Y44.out) hk5; obtain ⟨⟨k5z0, k5z1, k5z2, k5z3, k5z4⟩, _, _⟩ := y54.cells; have Y54 := Lib.hid y54; clear y54; have y55 : At v5 w5.heap.size o := blk_below (by exact Y45.out) hk5; obtain ⟨⟨k5o0, k5o1, k5o2, k5o3, k5o4⟩, _, _⟩ := y55.cells; have Y55 := Lib.hid y55; clear y55; have y56 : At v5 w8.heap.size s := blk_below (by exact Y46.out) hk5; obtain ⟨⟨k5s0, k5s1, k5s2, k5s3, k5s4⟩, _, _⟩ := y56.cells; have Y56 := Lib.hid y56; clear y56; replace hk5 : Below v4.heap.size v4 v5 := (by first | exact hk5 | exact below_of_drew hk5 | exact below_of_drewN hk5))
    | (go_at_call 13; have _t := hk3; refine (J4 _).mono ?_; rintro e v4 ⟨rfl, hk4⟩; have y42 : At v4 w2.heap.size x := blk_below (by exact Y32.out) hk4; obtain ⟨⟨k4x0, k4x1, k4x2, k4x3, k4x4⟩, _, _⟩ := y42.cells; have Y42 := Lib.hid y42; clear y42; have y43 : At v4 w3.heap.size y := blk_below (by exact Y33.out) hk4; obtain ⟨⟨k4y0, k4y1, k4y2, k4y3, k4y4⟩, _, _⟩ := y43.cells; have Y43 := Lib.hid y43; clear y43; have y44 : At v4 w4.heap.size z := blk_below (by exact Y34.out) hk4; obtain ⟨⟨k4z0, k4z1, k4z2, k4z3, k4z4⟩, _, _⟩ := y44.cells; have Y44 := Lib.hid y44; clear y44; have y45 : At v4 w5.heap.size o := blk_below (by exact Y35.out) hk4; obtain ⟨⟨k4o0, k4o1, k4o2, k4o3, k4o4⟩, _, _⟩ := y45.cells; have Y45 := Lib.hid y45; clear y45; have y46 : At v4 w8.heap.size s := blk_below (by exact Y36.out) hk4; obtain ⟨⟨k4s0, k4s1, k4s2, k4s3, k4s4⟩, _, _⟩ := y46.cells; have Y46 := Lib.hid y46; clear y46; replace hk4 : Below v3.heap.size v3 v4 := (by first | exact hk4 | exact below_of_drew hk4 | exact below_of_drewN hk4))
    | (go_at_call 13; have _t := hk2; refine (J3 _).mono ?_; rintro e v3 ⟨rfl, hk3⟩; have y32 : At v3 w2.heap.size x := blk_below (by exact Y22.out) hk3; obtain ⟨⟨k3x0, k3x1, k3x2, k3x3, k3x4⟩, _, _⟩ := y32.cells; have Y32 := Lib.hid y32; clear y32; have y33 : At v3 w3.heap.size y := blk_below (by exact Y23.out) hk3; obtain ⟨⟨k3y0, k3y1, k3y2, k3y3, k3y4⟩, _, _⟩ := y33.cells; have Y33 := Lib.hid y33; clear y33; have y34 : At v3 w4.heap.size z := blk_below (by exact Y24.out) hk3; obtain ⟨⟨k3z0, k3z1, k3z2, k3z3, k3z4⟩, _, _⟩ := y34.cells; have Y34 := Lib.hid y34; clear y34; have y35 : At v3 w5.heap.size o := blk_below (by exact Y25.out) hk3; obtain ⟨⟨k3o0, k3o1, k3o2, k3o3, k3o4⟩, _, _⟩ := y35.cells; have Y35 := Lib.hid y35; clear y35; have y36 : At v3 w8.heap.size s := blk_below (by exact Y26.out) hk3; obtain ⟨⟨k3s0, k3s1, k3s2, k3s3, k3s4⟩, _, _⟩ := y36.cells; have Y36 := Lib.hid y36; clear y36; replace hk3 : Below v2.heap.size v2 v3 := (by first | exact hk3 | exact below_of_drew hk3 | exact below_of_drewN hk3))
    | (go_at_call 13; have _t := hk1; refine (J2 _).mono ?_; rintro e v2 ⟨rfl, hk2⟩; have y22 : At v2 w2.heap.size x := blk_below (by exact Y12.out) hk2; obtain ⟨⟨k2x0, k2x1, k2x2, k2x3, k2x4⟩, _, _⟩ := y22.cells; have Y22 := Lib.hid y22; clear y22; have y23 : At v2 w3.heap.size y := blk_below (by exact Y13.out) hk2; obtain ⟨⟨k2y0, k2y1, k2y2, k2y3, k2y4⟩, _, _⟩ := y23.cells; have Y23 := Lib.hid y23; clear y23; have y24 : At v2 w4.heap.size z := blk_below (by exact Y14.out) hk2; obtain ⟨⟨k2z0, k2z1, k2z2, k2z3, k2z4⟩, _, _⟩ := y24.cells; have Y24 := Lib.hid y24; clear y24; have y25 : At v2 w5.heap.size o := blk_below (by exact Y15.out) hk2; obtain ⟨⟨k2o0, k2o1, k2o2, k2o3, k2o4⟩, _, _⟩ := y25.cells; have Y25 := Lib.hid y25; clear y25; have y26 : At v2 w8.heap.size s := blk_below (by exact Y16.out) hk2; obtain ⟨⟨k2s0, k2s1, k2s2, k2s3, k2s4⟩, _, _⟩ := y26.cells; have Y26 := Lib.hid y26; clear y26; replace hk2 : Below v1.heap.size v1 v2 := (by first | exact hk2 | exact below_of_drew hk2 | exact below_of_drewN hk2))
    | (go_at_call 13; refine (J1 _).mono ?_; rintro e v1 ⟨rfl, hk1⟩; have y12 : At v1 w2.heap.size x := blk_below (by exact X2.out) hk1; obtain ⟨⟨k1x0, k1x1, k1x2, k1x3, k1x4⟩, _, _⟩ := y12.cells; have Y12 := Lib.hid y12; clear y12; have y13 : At v1 w3.heap.size y := blk_below (by exact X3.out) hk1; obtain ⟨⟨k1y0, k1y1, k1y2, k1y3, k1y4⟩, _, _⟩ := y13.cells; have Y13 := Lib.hid y13; clear y13; have y14 : At v1 w4.heap.size z := blk_below (by exact X4.out) hk1; obtain ⟨⟨k1z0, k1z1, k1z2, k1z3, k1z4⟩, _, _⟩ := y14.cells; have Y14 := Lib.hid y14; clear y14; have y15 : At v1 w5.heap.size o := blk_below (by exact X5.out) hk1; obtain ⟨⟨k1o0, k1o1, k1o2, k1o3, k1o4⟩, _, _⟩ := y15.cells; have Y15 := Lib.hid y15; clear y15; have y16 : At v1 w8.heap.size s := blk_below (by exact X6.out) hk1; obtain ⟨⟨k1s0, k1s1, k1s2, k1s3, k1s4⟩, _, _⟩ := y16.cells; have Y16 := Lib.hid y16; clear y16; replace hk1 : Below (w8.alloc (.cells #[.int .i64 s.n, .int .i64 s.s, .int .i64 s.lo, .int .i64 s.hi, .int .i64 s.h] 24)).heap.size (w8.alloc (.cells #[.int .i64 s.n, .int .i64 s.s, .int .i64 s.lo, .int .i64 s.hi, .int .i64 s.h] 24)) v1 := (by first | exact hk1 | exact below_of_drew hk1 | exact below_of_drewN hk1)))
  all_goals
    have hend := below_then hbb.out (below_then hk1 (below_then hk2 (below_then hk3 (below_then hk4 (below_then hk5 hk6)))))
    clear hk1 hk2 hk3 hk4 hk5 hk6
    go_wp2_with fail
    go_ret
    first
      | exact ⟨rfl, hend⟩
      | exact ⟨rfl, hend.drew⟩
      | exact ⟨rfl, below_drewN hend _⟩
end Go.Proofs.Ytnddeelnfbgljaa
