/-
  Queues: no more behind than in front. Conditions: at most 2^60 numbers.
-/
import Derived.Test.YtpkfakndlbngbaaQueLs
import Derived.Test.YtpkfakndlbngbaaCalm
namespace Go.Proofs.Ytpkfakndlbngbaa
open Go.RowKit Go.Deep Go.BigFrame
set_option linter.unusedVariables false
namespace QU
open LI
/-- A queue in memory, by its numbers. -/
def In (w : World) (p : Option Addr) (m : Int) (q : Option Addr) (k : Int) (zs : List Int) : Prop := ∃ f b, Ls w p m f ∧ Ls w q k b ∧ zs = f ++ b.reverse ∧ b.length ≤ f.length
theorem In.below {w w' : World} {p q : Option Addr} {m k : Int} {zs : List Int} (h : In w p m q k zs) (hb : Below w.heap.size w w') : In w' p m q k zs := by
  obtain ⟨f, b, h1, h2, h3⟩ := h
  exact ⟨f, b, h1.below hb, h2.below hb, h3⟩
theorem In.alloc {w : World} {p q : Option Addr} {m k : Int} {zs : List Int} (h : In w p m q k zs) (o : Obj) : In (w.alloc o) p m q k zs := h.below ((Below.refl _ _).alloc (Nat.le_refl _) _)
theorem ls_keep {w w' : World} {p : Option Addr} {m : Int} {xs : List Int} (hk : KeepT 60 w w') (h : Ls w p m xs) : Ls w' p m xs := ⟨h.1.keep hk, h.2⟩
theorem In.keep {w w' : World} {p q : Option Addr} {m k : Int} {zs : List Int} (h : In w p m q k zs) (hk : KeepT 60 w w') : In w' p m q k zs := by
  obtain ⟨f, b, h1, h2, h3⟩ := h
  exact ⟨f, b, ls_keep hk h1, ls_keep hk h2, h3⟩
theorem In.mk {w : World} {p q : Option Addr} {m k : Int} {f b : List Int} (h : Ls w p m f) (h' : Ls w q k b) (hl : b.length ≤ f.length) : In w p m q k (f ++ b.reverse) := ⟨f, b, h, h', rfl, hl⟩
theorem In.nil_back {w : World} {p : Option Addr} {m : Int} {f : List Int} (h : Ls w p m f) : In w p m none 0 f := ⟨f, [], h, Ls.nil w, by simp, Nat.zero_le _⟩
theorem In.nil (w : World) : In w none 0 none 0 [] := ⟨[], [], Ls.nil w, Ls.nil w, rfl, Nat.le_refl _⟩
/-- A queue's block. -/
def Box (w : World) (G : Nat) (p : Option Addr) (m : Int) (q : Option Addr) (k : Int) : Prop := w.heap[G]? = some (.cells #[.pointer p, .int .i64 m, .pointer q, .int .i64 k] 38 (0, 0))
theorem box_set {w : World} {G : Nat} {p p' q q' : Option Addr} {m m' k k' : Int} (h : Box w G p m q k) : Box ((((w.setCell ⟨G, 0, none⟩ (.pointer p')).setCell ⟨G, 1, none⟩ (.int .i64 m')).setCell ⟨G, 2, none⟩ (.pointer q')).setCell ⟨G, 3, none⟩ (.int .i64 k')) G p' m' q' k' :=
  blk_set (i := 3) (blk_set (i := 2) (blk_set (i := 1) (blk_set (i := 0) h)))
theorem box_keep {w : World} {G : Nat} {p p' q q' : Option Addr} {m m' k k' : Int} (h : Box w G p m q k) (T : TypeId) (hT : 38 ≠ T) : KeepT T w ((((w.setCell ⟨G, 0, none⟩ (.pointer p')).setCell ⟨G, 1, none⟩ (.int .i64 m')).setCell ⟨G, 2, none⟩ (.pointer q')).setCell ⟨G, 3, none⟩ (.int .i64 k')) := by
  have h0 := blk_set (i := 0) (v := .pointer p') h
  have h1 := blk_set (i := 1) (v := .int .i64 m') h0
  have h2 := blk_set (i := 2) (v := .pointer q') h1
  exact (((KeepT.setCell h hT).trans (KeepT.setCell h0 hT)).trans (KeepT.setCell h1 hT)).trans (KeepT.setCell h2 hT)
theorem below_set4 {B : Nat} {w W : World} {G : Nat} (h : Below B w W) (hG : B ≤ G) (u v x y : Value) : Below B w ((((W.setCell ⟨G, 0, none⟩ u).setCell ⟨G, 1, none⟩ v).setCell ⟨G, 2, none⟩ x).setCell ⟨G, 3, none⟩ y) :=
  (((h.setCell (p := ⟨G, 0, none⟩) hG u).setCell (p := ⟨G, 1, none⟩) hG v).setCell (p := ⟨G, 2, none⟩) hG x).setCell (p := ⟨G, 3, none⟩) hG y
set_option maxHeartbeats 2000000 in
theorem even_any (p : Option Addr) (m : Int) (xs : List Int) (q : Option Addr) (k : Int) (ys : List Int) (w : World) (h : Ls w p m xs) (h' : Ls w q k ys) (hs : xs.length + ys.length ≤ 1152921504606846976) :
    Calls Try.prog 22 #[.agg #[.pointer p, .int .i64 m], .agg #[.pointer q, .int .i64 k]] w fun e w' => ∃ r j s i, e = .returned (.agg #[.pointer r, .int .i64 j, .pointer s, .int .i64 i]) ∧ In w' r j s i (xs ++ ys.reverse) ∧ Below w.heap.size w w' := by
  have hmk : m = (xs.length : Int) ∧ k = (ys.length : Int) := ⟨h.2, h'.2⟩
  have MK := Lib.hid hmk
  have H := Lib.hid h
  have H' := Lib.hid h'
  clear h h' hmk
  by_cases hg : m < k
  · have hd : decide (m < k) = true := by simp [hg]
    go_enter Try.func22, Try.ntmps22
    go_wp2_with fail
    obtain ⟨W, hW⟩ : ∃ W, ((w.alloc (.cells #[.pointer p, .int .i64 m] 25)).alloc (.cells #[.pointer q, .int .i64 k] 25)).alloc (.cells #[.pointer none, .int .i64 0, .pointer none, .int .i64 0] 38) = W := ⟨_, rfl⟩
    obtain ⟨bW, x0, x1, x2⟩ := hold3 (w := w) (o1 := .cells #[.pointer p, .int .i64 m] 25) (o2 := .cells #[.pointer q, .int .i64 k] 25) (o3 := .cells #[.pointer none, .int .i64 0, .pointer none, .int .i64 0] 38) (w1 := W) (by rw [← hW]; exact Below.refl _ _) ⟨rfl, rfl, rfl, rfl⟩
    rw [hW]
    clear hW
    obtain ⟨u0, _, l0⟩ := blk x0
    obtain ⟨u1, _, l1⟩ := blk x1
    have c00 : W.cell? ⟨w.heap.size, 0, none⟩ = some (.pointer p) := u0 0
    have c01 : W.cell? ⟨w.heap.size, 1, none⟩ = some (.int .i64 m) := u0 1
    have c10 : W.cell? ⟨w.heap.size + 1, 0, none⟩ = some (.pointer q) := u1 0
    have c11 : W.cell? ⟨w.heap.size + 1, 1, none⟩ = some (.int .i64 k) := u1 1
    clear u0 u1
    have calm0 : ∀ u : Grown W, _ := fun u => u.cell c00
    have calm1 : ∀ u : Grown W, _ := fun u => u.cell c01
    have calm2 : ∀ u : Grown W, _ := fun u => u.cell c10
    have calm3 : ∀ u : Grown W, _ := fun u => u.cell c11
    refine wp_region_calm (by kernel_rfl) (by kernel_rfl) ?_
    repeat (go_big_quiet_step ((first | (go_at_call 36; with_reducible exact calm_of (LI.len_any p m _)) | (go_at_call 36; with_reducible exact calm_of (LI.len_any q k _)))))
    refine wpQuiet_nil ?_
    intro wq hw'
    have bc : Below W.heap.size W wq := by obtain ⟨u, rfl⟩ := hw'; exact u.below
    clear hw' calm0 calm1 calm2 calm3
    have X0 := blk_below x0 bc
    have X1 := blk_below x1 bc
    have X2 := blk_below x2 bc
    have B := below_then bW bc
    clear bW bc x0 x1 x2 c00 c01 c10 c11 l0 l1
    obtain ⟨u0, v0, l0⟩ := blk X0
    obtain ⟨u1, v1, l1⟩ := blk X1
    obtain ⟨u2, v2, l2⟩ := blk X2
    have c00 : wq.cell? ⟨w.heap.size, 0, none⟩ = some (.pointer p) := u0 0
    have c01 : wq.cell? ⟨w.heap.size, 1, none⟩ = some (.int .i64 m) := u0 1
    have c10 : wq.cell? ⟨w.heap.size + 1, 0, none⟩ = some (.pointer q) := u1 0
    have c11 : wq.cell? ⟨w.heap.size + 1, 1, none⟩ = some (.int .i64 k) := u1 1
    clear u0 u1 v0 v1
    have hX := H.out.below B
    have hY := H'.out.below B
    go_wp2_with fail
    have XX := Lib.hid X2
    have BB := Lib.hid B
    have ne1 : ¬ w.heap.size = w.heap.size + 1 + 1 := by omega
    have ne2 : ¬ w.heap.size + 1 + 1 = w.heap.size := by omega
    have ne3 : ¬ w.heap.size + 1 = w.heap.size + 1 + 1 := by omega
    have ne4 : ¬ w.heap.size + 1 + 1 = w.heap.size + 1 := by omega
    clear u2 v2 X0 X1 X2
    go_region_held3 (fun w' => w'.cell? ⟨w.heap.size, 0, none⟩ = some (.pointer p) ∧ w'.cell? ⟨w.heap.size, 1, none⟩ = some (.int .i64 m) ∧ w'.cell? ⟨w.heap.size + 1, 0, none⟩ = some (.pointer q) ∧ w'.cell? ⟨w.heap.size + 1, 1, none⟩ = some (.int .i64 k)) (go_keep) (first
      | (have _t := bw1; go_at_call 37; refine (join_ls p m xs r1 i1 ys.reverse _ (by first | exact hX.below bw1 | exact (hX.below bw1).drew) (by first | exact h1 | exact h1.drew) (by rw [List.length_reverse]; omega)).mono ?_; rintro e w2 ⟨r2, i2, rfl, h2, hb2⟩; have bw2 := below_then bw1 hb2; have s2_0 := (bw2.cell (p := ⟨w.heap.size, 0, none⟩) l0).trans c00; have s2_1 := (bw2.cell (p := ⟨w.heap.size, 1, none⟩) l0).trans c01; have s2_2 := (bw2.cell (p := ⟨w.heap.size + 1, 0, none⟩) l1).trans c10; have s2_3 := (bw2.cell (p := ⟨w.heap.size + 1, 1, none⟩) l1).trans c11; obtain ⟨u3, v3, l3⟩ := blk (blk_below XX.out bw2); have v30 := v3 0; have v31 := v3 1; have v32 := v3 2; have v33 := v3 3; have u30 := u3 0; have u31 := u3 1; have u32 := u3 2; have u33 := u3 3; clear u3 v3)
      | (go_at_call 31; refine (rev_ls q k ys _ (by first | exact hY | exact hY.drew | exact hY.drewN _ | exact (hY.drewN _).drew | exact (hY.drewN _).drewN _ | exact ((hY.drewN _).drewN _).drew) (by omega)).mono ?_; rintro e w1 ⟨r1, i1, rfl, h1, hb1⟩; have bw1 : Below wq.heap.size wq w1 := (by first | exact hb1 | exact below_of_drewN hb1 | exact below_of_drew hb1 | exact below_of_drewN (below_of_drew hb1) | exact below_of_drewN (below_of_drewN hb1) | exact below_of_drewN (below_of_drewN (below_of_drew hb1))); have s1_0 := (bw1.cell (p := ⟨w.heap.size, 0, none⟩) l0).trans c00; have s1_1 := (bw1.cell (p := ⟨w.heap.size, 1, none⟩) l0).trans c01; have s1_2 := (bw1.cell (p := ⟨w.heap.size + 1, 0, none⟩) l1).trans c10; have s1_3 := (bw1.cell (p := ⟨w.heap.size + 1, 1, none⟩) l1).trans c11))
    all_goals
      go_wp2_with fail
      exact bodyPost_ret (v := .agg #[.pointer r2, .int .i64 i2, .pointer none, .int .i64 0]) (by simp [results, Try.results22, go_sem, u30, u31, u32, u33]) rfl ⟨r2, i2, none, 0, rfl, (In.nil_back h2).keep (box_keep (blk_below XX.out bw2) _ (by decide)), below_set4 (below_then BB.out bw2) (by omega) _ _ _ _⟩
  · have hd : decide (m < k) = false := by simp; omega
    go_enter Try.func22, Try.ntmps22
    go_wp2_with fail
    obtain ⟨W, hW⟩ : ∃ W, ((w.alloc (.cells #[.pointer p, .int .i64 m] 25)).alloc (.cells #[.pointer q, .int .i64 k] 25)).alloc (.cells #[.pointer none, .int .i64 0, .pointer none, .int .i64 0] 38) = W := ⟨_, rfl⟩
    obtain ⟨bW, x0, x1, x2⟩ := hold3 (w := w) (o1 := .cells #[.pointer p, .int .i64 m] 25) (o2 := .cells #[.pointer q, .int .i64 k] 25) (o3 := .cells #[.pointer none, .int .i64 0, .pointer none, .int .i64 0] 38) (w1 := W) (by rw [← hW]; exact Below.refl _ _) ⟨rfl, rfl, rfl, rfl⟩
    rw [hW]
    clear hW
    obtain ⟨u0, _, l0⟩ := blk x0
    obtain ⟨u1, _, l1⟩ := blk x1
    have c00 : W.cell? ⟨w.heap.size, 0, none⟩ = some (.pointer p) := u0 0
    have c01 : W.cell? ⟨w.heap.size, 1, none⟩ = some (.int .i64 m) := u0 1
    have c10 : W.cell? ⟨w.heap.size + 1, 0, none⟩ = some (.pointer q) := u1 0
    have c11 : W.cell? ⟨w.heap.size + 1, 1, none⟩ = some (.int .i64 k) := u1 1
    clear u0 u1
    have calm0 : ∀ u : Grown W, _ := fun u => u.cell c00
    have calm1 : ∀ u : Grown W, _ := fun u => u.cell c01
    have calm2 : ∀ u : Grown W, _ := fun u => u.cell c10
    have calm3 : ∀ u : Grown W, _ := fun u => u.cell c11
    refine wp_region_calm (by kernel_rfl) (by kernel_rfl) ?_
    repeat (go_big_quiet_step ((first | (go_at_call 36; with_reducible exact calm_of (LI.len_any p m _)) | (go_at_call 36; with_reducible exact calm_of (LI.len_any q k _)))))
    refine wpQuiet_nil ?_
    intro wq hw'
    have bc : Below W.heap.size W wq := by obtain ⟨u, rfl⟩ := hw'; exact u.below
    clear hw' calm0 calm1 calm2 calm3
    have X0 := blk_below x0 bc
    have X1 := blk_below x1 bc
    have X2 := blk_below x2 bc
    have B := below_then bW bc
    clear bW bc x0 x1 x2 c00 c01 c10 c11 l0 l1
    obtain ⟨u0, v0, l0⟩ := blk X0
    obtain ⟨u1, v1, l1⟩ := blk X1
    obtain ⟨u2, v2, l2⟩ := blk X2
    have c00 : wq.cell? ⟨w.heap.size, 0, none⟩ = some (.pointer p) := u0 0
    have c01 : wq.cell? ⟨w.heap.size, 1, none⟩ = some (.int .i64 m) := u0 1
    have c10 : wq.cell? ⟨w.heap.size + 1, 0, none⟩ = some (.pointer q) := u1 0
    have c11 : wq.cell? ⟨w.heap.size + 1, 1, none⟩ = some (.int .i64 k) := u1 1
    clear u0 u1 v0 v1
    have XX := Lib.hid X2
    have u30 := u2 0
    have u31 := u2 1
    have u32 := u2 2
    have u33 := u2 3
    have v30 := v2 0
    have v31 := v2 1
    have v32 := v2 2
    have v33 := v2 3
    clear X0 X1 X2 u2 v2
    go_wp2_with fail
    have hle : ys.length ≤ xs.length := by have := MK.out; omega
    exact bodyPost_ret (v := .agg #[.pointer p, .int .i64 m, .pointer q, .int .i64 k]) (by simp [results, Try.results22, go_sem, u30, u31, u32, u33]) rfl ⟨p, m, q, k, rfl, (In.mk (H.out.below B) (H'.out.below B) hle).keep (box_keep XX.out _ (by decide)), below_set4 B (by omega) _ _ _ _⟩
end QU
end Go.Proofs.Ytpkfakndlbngbaa
