/-
  Lists: turned. Conditions: no more than 2^60 numbers.
-/
import Derived.Test.YtpkfakndlbngbaaListOps
namespace Go.Proofs.Ytpkfakndlbngbaa
open Go.RowKit Go.Deep Go.Shelf
set_option linter.unusedVariables false
attribute [local go_sem] Oper.semAt_some
namespace LI
theorem ko_below {W W' : World} (h : Below W.heap.size W W') : KeepsOthers W W' := ⟨h.size, fun k o hk _ => (h.block k (Array.getElem?_eq_some_iff.1 hk).1).trans hk⟩
theorem ko_set2 (W : World) (a b : Addr) (u v : Value) : KeepsOthers W ((W.setCell a u).setCell b v) := (KeepsOthers.setCell _ _ _).trans (KeepsOthers.setCell _ _ _)

set_option maxRecDepth 100000 in
set_option maxHeartbeats 2000000 in
theorem rev_any (p : Option Addr) (k : Int) (xs : List Int) (w : World) (h : In w p xs) (hs : xs.length ≤ 1152921504606846976) : Calls Try.prog 31 #[.agg #[.pointer p, .int .i64 k]] w fun e w' =>
    ∃ q, e = .returned (.agg #[.pointer q, .int .i64 (xs.length : Int)]) ∧ In w' q xs.reverse ∧ Below w.heap.size w w' := by
  refine (callsIn_wide (n := 3)).1 ?_
  refine callsIn_of_wp_marks Try.func31 rfl trivial ?_ rfl
  simp only [Try.ntmps31, List.size_toArray, List.length_cons, List.length_nil, Nat.reduceAdd, Nat.reduceSub, Array.replicate_succ, Array.replicate_zero, List.push_toArray, List.append_toArray, List.nil_append, List.cons_append]
  have T13 : Fence.wide.fn 27 := trivial
  gi_wp2_with (gi_at_call 27; refine (callsIn_wide.2 (all_any _ _ _)).mono ?_; rintro e w' ⟨rfl, rfl⟩)
  obtain ⟨WW, hWW⟩ : ∃ WW, (((w.alloc (.cells #[.pointer p, .int .i64 k] 25)).alloc (.cells #[.pointer none, .int .i64 0] 25)).alloc (.cells #[.pointer none, .int .i64 0] 25)).alloc (.cells #[.pointer p, .int .i64 k] 25) = WW := ⟨_, rfl⟩
  have hB0 : Below w.heap.size w WW := by rw [← hWW]; exact (((((Below.refl _ w).alloc (Nat.le_refl _) _).alloc (by simp) _).alloc (by simp; omega) _).alloc (by simp; omega) _)
  have hz : WW.heap.size = w.heap.size + 4 := by rw [← hWW]; simp
  have x1 : WW.heap[w.heap.size + 1]? = some (.cells #[.pointer none, .int .i64 0] 25 (0, 0)) := by
    rw [← hWW]
    refine (Below.heap_alloc _ _ _ (by simp)).trans ((Below.heap_alloc _ _ _ (by simp)).trans ?_)
    have := heap_alloc_new (w.alloc (.cells #[.pointer p, .int .i64 k] 25)) (.cells #[.pointer none, .int .i64 0] 25)
    rwa [World.size_alloc] at this
  have x2 : WW.heap[w.heap.size + 1 + 1]? = some (.cells #[.pointer none, .int .i64 0] 25 (0, 0)) := by
    rw [← hWW]
    refine (Below.heap_alloc _ _ _ (by simp)).trans ?_
    have := heap_alloc_new ((w.alloc (.cells #[.pointer p, .int .i64 k] 25)).alloc (.cells #[.pointer none, .int .i64 0] 25)) (.cells #[.pointer none, .int .i64 0] 25)
    rwa [World.size_alloc, World.size_alloc] at this
  have x3 : WW.heap[w.heap.size + 1 + 1 + 1]? = some (.cells #[.pointer p, .int .i64 k] 25 (0, 0)) := by
    rw [← hWW]
    have := heap_alloc_new (((w.alloc (.cells #[.pointer p, .int .i64 k] 25)).alloc (.cells #[.pointer none, .int .i64 0] 25)).alloc (.cells #[.pointer none, .int .i64 0] 25)) (.cells #[.pointer p, .int .i64 k] 25)
    rwa [World.size_alloc, World.size_alloc, World.size_alloc] at this
  rw [hWW]
  refine wpIn_rangeFunc_ownG rfl (by decide) (gf := 44) (lb := #[.pointer (some ⟨w.heap.size + 1 + 1 + 1, 0, none⟩)]) rfl trivial (enters_of Try.func44 (by kernel_rfl) rfl)
    (all_stops Fence.wide (3 - 1) trivial rfl (by decide) (w.heap.size + 1 + 1 + 1) p k xs w WW h (.of_below hB0) x3) KeepW.trans (fun W l o o' _ h1 h2 _ => keepW_b W l o o' h1 h2) (Below.refl _ _) (fun _ => rfl)
    (fun pre W => (∃ q, W.heap[w.heap.size + 1 + 1]? = some (.cells #[.pointer q, .int .i64 (pre.length : Int)] 25 (0, 0)) ∧ W.heap[w.heap.size + 1]? = some (.cells #[.pointer none, .int .i64 0] 25 (0, 0)) ∧ In W q pre.reverse) ∧ Below w.heap.size w W)
    (fun _ _ _ => False)
    (OwnFrom.and (Own.from (fun s A B row hs hg hr => by
      obtain ⟨q, h1, h2, h3⟩ := hs
      exact ⟨q, (grownBy_keeps_cells hg hr h1 rfl).trans h1, (grownBy_keeps_cells hg hr h2 rfl).trans h2, h3.kept hg hr⟩) _) (ownFrom_below (Nat.le_refl _) (by omega)))
    (fun _ _ _ _ _ hs _ _ => hs)
    ⟨⟨none, x2, x1, rfl⟩, hB0⟩
    (fun x => { tmps := #[.agg #[.pointer p, .int .i64 k], .pointer (some ⟨w.heap.size, 0, none⟩), .pointer (some ⟨w.heap.size + 1, 0, none⟩), .pointer (some ⟨w.heap.size + 1 + 1, 0, none⟩), .int .i64 x, .agg #[.pointer p, .int .i64 k], .func (.func 44) #[] #[.pointer (some ⟨w.heap.size + 1 + 1 + 1, 0, none⟩)], .int .i64 x, undef, undef, undef, undef], defers := [] }) ?assign ?body ?done ?stop
  case assign =>
    intro l x W K hK
    gi_wp2
    exact hK
  case body =>
    rintro l pre x W ⟨⟨q, h1, h2, h3⟩, hB⟩ hlt
    obtain ⟨c0, c1, c2⟩ := blk h1
    have e0 := c0 0
    have e1 := c0 1
    clear c0
    have hw : wrap64 ((pre.length : Int) + 1) = (pre.length : Int) + 1 := by unfold wrap64; omega
    have P := push_any x pre.reverse q (pre.length : Int) W h3
    rw [hw] at P
    have X := Lib.hid (⟨h1, h2⟩ : _ ∧ _)
    have hn : 1 ≤ 3 - 1 - 1 := by decide
    have T26 : Fence.wide.fn 10 := trivial
    clear h1 h2
    gi_wp2_with (gi_at_call 10; refine (CallsIn.inRound l (callsIn_wide.2 P)).mono ?_; rintro e w2 ⟨q2, rfl, hi2, hb2⟩; have h1 := blk_below X.out.1 hb2; obtain ⟨d0, d1, d2⟩ := blk h1; have H1 := Lib.hid h1; clear h1)
    have h2 := blk_below X.out.2 hb2
    have hle := hB.size
    refine ⟨((ko_below hb2).trans (ko_set2 _ _ _ _ _)).from _, KeepW.of_keepT (KeepT.trans (.of_below hb2) (KeepT.trans (.setCell H1.out (by decide)) (.setCell (blk_set H1.out) (by decide)))), ⟨q2, ?_, ?_, ?_⟩, ((hB.trans (hb2.mono hle)).setCell (p := ⟨w.heap.size + 1 + 1, 0, none⟩) (by simp; omega) _).setCell (p := ⟨w.heap.size + 1 + 1, 1, none⟩) (by simp; omega) _⟩
    · have := blk_set (i := 1) (v := .int .i64 ((pre.length : Int) + 1)) (blk_set (i := 0) (v := .pointer q2) H1.out)
      simpa using this
    · exact blk_far (blk_far h2 (by omega)) (by omega)
    · rw [List.reverse_append]
      exact (hi2.keep (.setCell H1.out (by decide))).keep (.setCell (blk_set H1.out) (by decide))
  case done =>
    rintro D ys W hD rfl ⟨⟨q, h1, h2, h3⟩, hB⟩ hK
    obtain ⟨c0, c1, c2⟩ := blk h1
    obtain ⟨d0, d1, d2⟩ := blk h2
    have H1 := Lib.hid h1
    have H2 := Lib.hid h2
    clear h1 h2
    gi_wp2
    have hK1 := (ko_set2 W ⟨w.heap.size + 1, 0, none⟩ ⟨w.heap.size + 1, 1, none⟩ (.pointer q) (.int .i64 (ys.length : Int))).same D _ hK rfl
    refine ⟨by simp, .inl ⟨_, _, rfl, run_takeDeferred hK1, ?_⟩⟩
    have y2 := blk_set (i := 1) (v := .int .i64 (ys.length : Int)) (blk_set (i := 0) (v := .pointer q) H2.out)
    have y3 := (grownBy_keeps_cells (grownBy_putObj' _ D (.deferred none)) (fun r e => by cases e; exact ⟨_, hK1, rfl⟩) y2 rfl).trans y2
    obtain ⟨f0, f1, f2⟩ := blk y3
    have i2 : In ((W.setCell ⟨w.heap.size + 1, 0, none⟩ (.pointer q)).setCell ⟨w.heap.size + 1, 1, none⟩ (.int .i64 (ys.length : Int))) q ys.reverse := (h3.keep (.setCell H2.out (by decide))).keep (.setCell (blk_set H2.out) (by decide))
    have i3 := i2.kept (grownBy_putObj' _ D (.deferred none)) (fun r e => by cases e; exact ⟨_, hK1, rfl⟩)
    have B3 := ((hB.setCell (p := ⟨w.heap.size + 1, 0, none⟩) (by simp) (.pointer q)).setCell (p := ⟨w.heap.size + 1, 1, none⟩) (by simp) (.int .i64 (ys.length : Int))).trans (belowK_b (w := w) (Nat.le_refl _) _ D _ (.deferred none) (by omega) hK1 rfl rfl)
    refine ⟨.agg #[.pointer q, .int .i64 (ys.length : Int)], ?_, q, rfl, i3, B3⟩
    have g0 := f0 0
    have g1 := f0 1
    simp [results, Try.f31, go_sem, g0, g1]
  case stop =>
    rintro D c pre W _ _ h _
    exact h.elim
end LI
end Go.Proofs.Ytpkfakndlbngbaa
