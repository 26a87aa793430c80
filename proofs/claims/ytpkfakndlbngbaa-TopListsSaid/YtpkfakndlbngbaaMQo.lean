/-
  Queues: one more, how many, both halves, all. Conditions: at most 2^60 numbers; for all 2^44.
  Queues: the fact that each law asks first. Conditions: none.
-/
import Derived.Test.YtpkfakndlbngbaaQueueEven
import Derived.Test.YtpkfakndlbngbaaIntConcat
namespace Go.Proofs.Ytpkfakndlbngbaa
open Go.RowKit Go.Deep Go.BigFrame
set_option linter.unusedVariables false
namespace QU
open LI
set_option maxHeartbeats 2000000 in
theorem push_any (x : Int) (p : Option Addr) (m : Int) (q : Option Addr) (k : Int) (zs : List Int) (w : World) (h : In w p m q k zs) (hs : zs.length + 1 ≤ 1152921504606846976) :
    Calls Try.prog 7 #[.agg #[.pointer p, .int .i64 m, .pointer q, .int .i64 k], .int .i64 x] w fun e w' => ∃ r j s i, e = .returned (.agg #[.pointer r, .int .i64 j, .pointer s, .int .i64 i]) ∧ In w' r j s i (zs ++ [x]) ∧ Below w.heap.size w w' := by
  obtain ⟨f, b, h1, h2, rfl, hle⟩ := h
  rw [List.length_append, List.length_reverse] at hs
  have H1 := Lib.hid h1
  have H2 := Lib.hid h2
  clear h1 h2
  go_enter Try.func7, Try.ntmps7
  go_wp2_with fail
  obtain ⟨W, hW⟩ : ∃ W, ((w.alloc (.cells #[.pointer p, .int .i64 m, .pointer q, .int .i64 k] 38)).alloc (.cells #[.pointer none, .int .i64 0, .pointer none, .int .i64 0] 38)) = W := ⟨_, rfl⟩
  obtain ⟨bW, x0, x1⟩ := hold2 (w := w) (o1 := .cells #[.pointer p, .int .i64 m, .pointer q, .int .i64 k] 38) (o2 := .cells #[.pointer none, .int .i64 0, .pointer none, .int .i64 0] 38) (w1 := W) (by rw [← hW]; exact Below.refl _ _) ⟨rfl, rfl, rfl, rfl⟩
  rw [hW]
  clear hW
  obtain ⟨uc, vc, lc⟩ := blk x0
  have c0 : W.cell? ⟨w.heap.size, 0, none⟩ = some (.pointer p) := uc 0
  have c1 : W.cell? ⟨w.heap.size, 1, none⟩ = some (.int .i64 m) := uc 1
  have c2 : W.cell? ⟨w.heap.size, 2, none⟩ = some (.pointer q) := uc 2
  have c3 : W.cell? ⟨w.heap.size, 3, none⟩ = some (.int .i64 k) := uc 3
  have XX := Lib.hid x1
  have BB := Lib.hid bW
  have ne1 : ¬ w.heap.size = w.heap.size + 1 := by omega
  have ne2 : ¬ w.heap.size + 1 = w.heap.size := by omega
  have hX := H1.out.below bW
  have hY := H2.out.below bW
  clear x0 x1 bW uc vc
  go_region_held3 (fun w' => w'.cell? ⟨w.heap.size, 0, none⟩ = some (.pointer p) ∧ w'.cell? ⟨w.heap.size, 1, none⟩ = some (.int .i64 m) ∧ w'.cell? ⟨w.heap.size, 2, none⟩ = some (.pointer q) ∧ w'.cell? ⟨w.heap.size, 3, none⟩ = some (.int .i64 k)) (go_keep) (first
    | (have _t := bw1; go_at_call 22; refine (even_any p m f r1 i1 (x :: b) _ (by first | exact hX.below bw1 | exact (hX.below bw1).drew) (by first | exact h1 | exact h1.drew) (by simp only [List.length_cons]; omega)).mono ?_; rintro e w2 ⟨r2, j2, s2, i2, rfl, h2, hb2⟩; have bw2 := below_then bw1 hb2; have s2_0 := (bw2.cell (p := ⟨w.heap.size, 0, none⟩) lc).trans c0; have s2_1 := (bw2.cell (p := ⟨w.heap.size, 1, none⟩) lc).trans c1; have s2_2 := (bw2.cell (p := ⟨w.heap.size, 2, none⟩) lc).trans c2; have s2_3 := (bw2.cell (p := ⟨w.heap.size, 3, none⟩) lc).trans c3; obtain ⟨u3, v3, l3⟩ := blk (blk_below XX.out bw2); have v30 := v3 0; have v31 := v3 1; have v32 := v3 2; have v33 := v3 3; have u30 := u3 0; have u31 := u3 1; have u32 := u3 2; have u33 := u3 3; clear u3 v3)
    | (go_at_call 10; refine (push_ls x q k b _ (by first | exact hY | exact hY.drew | exact hY.drewN _ | exact (hY.drewN _).drew | exact (hY.drewN _).drewN _ | exact ((hY.drewN _).drewN _).drew) (by omega)).mono ?_; rintro e w1 ⟨r1, i1, rfl, h1, hb1⟩; have bw1 : Below W.heap.size W w1 := (by first | exact hb1 | exact below_of_drewN hb1 | exact below_of_drew hb1 | exact below_of_drewN (below_of_drew hb1) | exact below_of_drewN (below_of_drewN hb1) | exact below_of_drewN (below_of_drewN (below_of_drew hb1))); have s1_0 := (bw1.cell (p := ⟨w.heap.size, 0, none⟩) lc).trans c0; have s1_1 := (bw1.cell (p := ⟨w.heap.size, 1, none⟩) lc).trans c1; have s1_2 := (bw1.cell (p := ⟨w.heap.size, 2, none⟩) lc).trans c2; have s1_3 := (bw1.cell (p := ⟨w.heap.size, 3, none⟩) lc).trans c3))
  all_goals
    go_wp2_with fail
    refine bodyPost_ret (v := .agg #[.pointer r2, .int .i64 j2, .pointer s2, .int .i64 i2]) (by simp [results, Try.results7, go_sem, u30, u31, u32, u33]) rfl ⟨r2, j2, s2, i2, rfl, In.keep ?_ (box_keep (blk_below XX.out bw2) _ (by decide)), below_set4 (below_then BB.out bw2) (by omega) _ _ _ _⟩
    simpa using h2
theorem In.halves {w : World} {p q : Option Addr} {m k : Int} {zs : List Int} (h : In w p m q k zs) : m + k = (zs.length : Int) ∧ k ≤ m ∧ 0 ≤ k := by
  obtain ⟨f, b, h1, h2, rfl, hle⟩ := h
  rw [h1.2, h2.2, List.length_append, List.length_reverse]
  omega
theorem int_cells (xs : List Int) : ∀ u ∈ xs.map (Value.int .i64), u.oneCell' = true := by
  intro u hu
  obtain ⟨p, _, rfl⟩ := List.mem_map.1 hu
  rfl
theorem concat_sl (W : World) (j : Nat) (a1 : Option Addr) (n1 c1 : Nat) (xs : List Int) (a2 : Option Addr) (n2 c2 : Nat) (ys : List Int) (hj : j = W.heap.size) (h1 : Sl W a1 n1 c1 xs) (h2 : Sl W a2 n2 c2 ys) (hs : xs.length + ys.length ≤ 17592186044416) :
    Calls Try.prog 30 #[.slice (some ⟨j, 0, none⟩) 2 2] (W.alloc (.cells #[.slice a1 n1 c1, .slice a2 n2 c2] 22)) fun e w' => ∃ a n c, e = .returned (.slice a n c) ∧ Sl w' a n c (xs ++ ys) ∧ Below W.heap.size W w' := by
  subst hj
  have X := heap_alloc_new W (.cells #[.slice a1 n1 c1, .slice a2 n2 c2] 22)
  have ba : Below W.heap.size W (W.alloc (.cells #[.slice a1 n1 c1, .slice a2 n2 c2] 22)) := (Below.refl _ _).alloc (Nat.le_refl _) _
  refine (ICC.concat_any W.heap.size 2 a1 n1 c1 a2 n2 c2 (xs.map (Value.int .i64)) (ys.map (Value.int .i64)) _ (by omega) ((blk X).1 0) ((blk X).1 1) ((blk X).2.2) (h1.below ba).reads (h2.below ba).reads (int_cells _) (int_cells _) (by have := h1.hlen; have := h2.hlen; omega)).mono ?_
  rintro e w4 ⟨v, rfl, ho, hb4⟩
  rw [← List.map_append] at ho
  obtain ⟨a4, c4, rfl, s4⟩ := Sl.of_own ho
  exact ⟨a4, _, c4, rfl, s4, below_then ba hb4⟩
set_option maxHeartbeats 2000000 in
theorem ints_any (p : Option Addr) (m : Int) (q : Option Addr) (k : Int) (zs : List Int) (w : World) (h : In w p m q k zs) (hs : zs.length ≤ 17592186044416) :
    Calls Try.prog 15 #[.agg #[.pointer p, .int .i64 m, .pointer q, .int .i64 k]] w fun e w' => ∃ a n c, e = .returned (.slice a n c) ∧ Sl w' a n c zs ∧ Below w.heap.size w w' := by
  obtain ⟨f, b, h1, h2, rfl, hle⟩ := h
  rw [List.length_append, List.length_reverse] at hs
  have H1 := Lib.hid h1
  have H2 := Lib.hid h2
  clear h1 h2
  go_enter Try.func15, Try.ntmps15
  go_wp2_with fail
  obtain ⟨W, hW⟩ : ∃ W, (w.alloc (.cells #[.pointer p, .int .i64 m, .pointer q, .int .i64 k] 38)) = W := ⟨_, rfl⟩
  obtain ⟨bW, x0⟩ := hold1 (w := w) (o1 := .cells #[.pointer p, .int .i64 m, .pointer q, .int .i64 k] 38) (w1 := W) (by rw [← hW]; exact Below.refl _ _) ⟨rfl, rfl, rfl, rfl⟩
  rw [hW]
  clear hW
  obtain ⟨uc, vc, lc⟩ := blk x0
  have c0 : W.cell? ⟨w.heap.size, 0, none⟩ = some (.pointer p) := uc 0
  have c1 : W.cell? ⟨w.heap.size, 1, none⟩ = some (.int .i64 m) := uc 1
  have c2 : W.cell? ⟨w.heap.size, 2, none⟩ = some (.pointer q) := uc 2
  have c3 : W.cell? ⟨w.heap.size, 3, none⟩ = some (.int .i64 k) := uc 3
  have BB := Lib.hid bW
  have hX := H1.out.below bW
  have hY := H2.out.below bW
  clear x0 uc vc
  go_region_held3 (fun w' => w'.cell? ⟨w.heap.size, 0, none⟩ = some (.pointer p) ∧ w'.cell? ⟨w.heap.size, 1, none⟩ = some (.int .i64 m) ∧ w'.cell? ⟨w.heap.size, 2, none⟩ = some (.pointer q) ∧ w'.cell? ⟨w.heap.size, 3, none⟩ = some (.int .i64 k)) (go_keep) (first
    | (have _t := bw3; go_at_call 30; refine (concat_sl w3 _ a1 n1 c1' f a3 n3 c3' b.reverse rfl ((s1.below hb2).below hb3) s3 (by rw [List.length_reverse]; omega)).mono ?_; rintro e w4 ⟨a4, n4, c4', rfl, s4, hb4⟩; have bw4 := below_then bw3 hb4; have s4_0 := (bw4.cell (p := ⟨w.heap.size, 0, none⟩) lc).trans c0; have s4_1 := (bw4.cell (p := ⟨w.heap.size, 1, none⟩) lc).trans c1; have s4_2 := (bw4.cell (p := ⟨w.heap.size, 2, none⟩) lc).trans c2; have s4_3 := (bw4.cell (p := ⟨w.heap.size, 3, none⟩) lc).trans c3)
    | (have _t := bw2; go_at_call 11; refine (ints_ls p2 m2 b.reverse _ (by first | exact h2 | exact h2.drew) (by rw [List.length_reverse]; omega)).mono ?_; rintro e w3 ⟨a3, n3, c3', rfl, s3, hb3⟩; have bw3 := below_then bw2 hb3; have s3_0 := (bw3.cell (p := ⟨w.heap.size, 0, none⟩) lc).trans c0; have s3_1 := (bw3.cell (p := ⟨w.heap.size, 1, none⟩) lc).trans c1; have s3_2 := (bw3.cell (p := ⟨w.heap.size, 2, none⟩) lc).trans c2; have s3_3 := (bw3.cell (p := ⟨w.heap.size, 3, none⟩) lc).trans c3)
    | (have _t := bw1; go_at_call 31; refine (rev_ls q k b _ (by first | exact hY.below bw1 | exact (hY.below bw1).drew) (by omega)).mono ?_; rintro e w2 ⟨p2, m2, rfl, h2, hb2⟩; have bw2 := below_then bw1 hb2; have s2_0 := (bw2.cell (p := ⟨w.heap.size, 0, none⟩) lc).trans c0; have s2_1 := (bw2.cell (p := ⟨w.heap.size, 1, none⟩) lc).trans c1; have s2_2 := (bw2.cell (p := ⟨w.heap.size, 2, none⟩) lc).trans c2; have s2_3 := (bw2.cell (p := ⟨w.heap.size, 3, none⟩) lc).trans c3)
    | (go_at_call 11; refine (ints_ls p m f _ (by first | exact hX | exact hX.drew | exact hX.drewN _ | exact (hX.drewN _).drew | exact (hX.drewN _).drewN _ | exact ((hX.drewN _).drewN _).drew) (by omega)).mono ?_; rintro e w1 ⟨a1, n1, c1', rfl, s1, hb1⟩; have bw1 : Below W.heap.size W w1 := (by first | exact hb1 | exact below_of_drewN hb1 | exact below_of_drew hb1 | exact below_of_drewN (below_of_drew hb1) | exact below_of_drewN (below_of_drewN hb1) | exact below_of_drewN (below_of_drewN (below_of_drew hb1))); have s1_0 := (bw1.cell (p := ⟨w.heap.size, 0, none⟩) lc).trans c0; have s1_1 := (bw1.cell (p := ⟨w.heap.size, 1, none⟩) lc).trans c1; have s1_2 := (bw1.cell (p := ⟨w.heap.size, 2, none⟩) lc).trans c2; have s1_3 := (bw1.cell (p := ⟨w.heap.size, 3, none⟩) lc).trans c3))
  all_goals
    go_wp2_with fail
    go_ret
    exact ⟨a4, n4, c4', rfl, s4, below_then BB.out bw4⟩
end QU
end Go.Proofs.Ytpkfakndlbngbaa

namespace Go.Proofs.Ytpkfakndlbngbaa
open Go.RowKit Go.Deep Go.BigFrame
set_option linter.unusedVariables false
namespace QU
open LI
theorem In.drew {w : World} {p q : Option Addr} {m k : Int} {zs : List Int} (h : In w p m q k zs) : In w.drew p m q k zs := h.below (Below.refl _ _).drew
theorem In.drewN {w : World} {p q : Option Addr} {m k : Int} {zs : List Int} (h : In w p m q k zs) (n : Nat) : In (w.drewN n) p m q k zs := h.below (below_drewN (Below.refl _ _) n)
theorem Box.below {w w' : World} {G : Nat} {p q : Option Addr} {m k : Int} (h : Box w G p m q k) (hb : Below w.heap.size w w') : Box w' G p m q k := blk_below h hb
theorem Box.new (w : World) (p q : Option Addr) (m k : Int) : Box (w.alloc (.cells #[.pointer p, .int .i64 m, .pointer q, .int .i64 k] 38)) w.heap.size p m q k := heap_alloc_new _ _
end QU
end Go.Proofs.Ytpkfakndlbngbaa
