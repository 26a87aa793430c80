/-
  Lists: two joined. Conditions: no more than 2^44 numbers in both.
-/
import Derived.Test.YtpkfakndlbngbaaListRev
namespace Go.Proofs.Ytpkfakndlbngbaa
open Go.RowKit Go.Deep Go.Shelf
set_option linter.unusedVariables false
attribute [local go_sem] Oper.semAt_some
namespace LI
set_option maxRecDepth 100000 in
set_option maxHeartbeats 400000 in
theorem join_any (p : Option Addr) (k : Int) (xs : List Int) (q : Option Addr) (ys : List Int) (w : World) (h : In w p xs) (h' : In w q ys) (hs : xs.length + ys.length ≤ 1152921504606846976) : Calls Try.prog 37 #[.agg #[.pointer p, .int .i64 k], .agg #[.pointer q, .int .i64 (ys.length : Int)]] w fun e w' =>
    ∃ r, e = .returned (.agg #[.pointer r, .int .i64 ((xs ++ ys).length : Int)]) ∧ In w' r (xs ++ ys) ∧ Below w.heap.size w w' := by
  refine (callsIn_wide (n := 5)).1 ?_
  refine callsIn_of_wp_marks Try.func37 rfl trivial ?_ rfl
  simp only [Try.ntmps37, List.size_toArray, List.length_cons, List.length_nil, Nat.reduceAdd, Nat.reduceSub, Array.replicate_succ, Array.replicate_zero, List.push_toArray, List.append_toArray, List.nil_append, List.cons_append]
  have TT : ∀ f, Fence.wide.fn f := fun _ => trivial
  have TA := TT 27
  have TB := TT 31
  obtain ⟨W1, hW1⟩ : ∃ W1, (((w.alloc (.cells #[.pointer p, .int .i64 k] 25)).alloc (.cells #[.pointer q, .int .i64 (ys.length : Int)] 25)).alloc (.cells #[.pointer none, .int .i64 0] 25)) = W1 := ⟨_, rfl⟩
  have hB1 : Below w.heap.size w W1 := by rw [← hW1]; exact ((((Below.refl _ w).alloc (by simp) _).alloc (by simp) _).alloc (by simp; omega) _)
  have hz1 : W1.heap.size = w.heap.size + 3 := by rw [← hW1]; simp
  have x1 : W1.heap[w.heap.size + 1]? = some (.cells #[.pointer q, .int .i64 (ys.length : Int)] 25 (0, 0)) := by
    rw [← hW1]
    refine (Below.heap_alloc _ _ _ (by simp; try omega)).trans (?_)
    have := heap_alloc_new (w.alloc (.cells #[.pointer p, .int .i64 k] 25)) (.cells #[.pointer q, .int .i64 (ys.length : Int)] 25)
    rwa [World.size_alloc] at this
  have x2 : W1.heap[w.heap.size + 1 + 1]? = some (.cells #[.pointer none, .int .i64 0] 25 (0, 0)) := by
    rw [← hW1]
    have := heap_alloc_new ((w.alloc (.cells #[.pointer p, .int .i64 k] 25)).alloc (.cells #[.pointer q, .int .i64 (ys.length : Int)] 25)) (.cells #[.pointer none, .int .i64 0] 25)
    rwa [World.size_alloc, World.size_alloc] at this
  have RV := rev_any p k xs W1 (h.below hB1) (by omega)
  have HW := Lib.hid hW1
  have X1 := Lib.hid x1
  have X2 := Lib.hid x2
  clear hW1 x1 x2
  gi_wp2_with (first | (gi_at_call 31; rw [HW.out]; refine (callsIn_wide.2 RV).mono ?_; rintro e w2 ⟨q2, rfl, hi2, hb2⟩) | (gi_at_call 27; refine (callsIn_wide.2 (all_any _ _ _)).mono ?_; rintro e w' ⟨rfl, rfl⟩))
  obtain ⟨WW, hWW⟩ : ∃ WW, w2.alloc (.cells #[.pointer q2, .int .i64 (xs.length : Int)] 25) = WW := ⟨_, rfl⟩
  have hle2 := hb2.size
  have hB2 : Below w2.heap.size w2 WW := by rw [← hWW]; exact (Below.refl _ _).alloc (Nat.le_refl _) _
  have hB0 : Below w.heap.size w WW := (hB1.trans (hb2.mono (by omega))).trans (hB2.mono (by omega))
  have hz : WW.heap.size = w2.heap.size + 1 := by rw [← hWW]; simp
  have y1 := blk_below (blk_below X1.out hb2) hB2
  have y2 := blk_below (blk_below X2.out hb2) hB2
  have y3 : WW.heap[w2.heap.size]? = some (.cells #[.pointer q2, .int .i64 (xs.length : Int)] 25 (0, 0)) := by rw [← hWW]; exact heap_alloc_new _ _
  rw [hWW]
  refine wpIn_rangeFunc_ownG rfl (by decide) (gf := 44) (lb := #[.pointer (some ⟨w2.heap.size, 0, none⟩)]) rfl trivial (enters_of Try.func44 (by kernel_rfl) rfl)
    (all_stops Fence.wide (5 - 1) trivial rfl (by decide) w2.heap.size q2 (xs.length : Int) xs.reverse w2 WW hi2 (.of_below hB2) y3) KeepW.trans (fun W l o o' _ h1 h2 _ => keepW_b W l o o' h1 h2) (Below.refl _ _) (fun _ => rfl)
    (fun pre W => (∃ q0, W.heap[w.heap.size + 1]? = some (.cells #[.pointer q0, .int .i64 (((pre ++ ys).length : Nat) : Int)] 25 (0, 0)) ∧ W.heap[w.heap.size + 1 + 1]? = some (.cells #[.pointer none, .int .i64 0] 25 (0, 0)) ∧ In W q0 (List.reverse pre ++ ys)) ∧ Below w.heap.size w W)
    (fun _ _ _ => False)
    (OwnFrom.and (Own.from (fun s A B row hs hg hr => by
      obtain ⟨q, h1, h2, h3⟩ := hs
      exact ⟨q, (grownBy_keeps_cells hg hr h1 rfl).trans h1, (grownBy_keeps_cells hg hr h2 rfl).trans h2, h3.kept hg hr⟩) _) (ownFrom_below (Nat.le_refl _) (by omega)))
    (fun _ _ _ _ _ hs _ _ => hs)
    ⟨⟨q, by simpa using y1, y2, by simpa using h'.below hB0⟩, hB0⟩
    (fun x => { tmps := #[.agg #[.pointer p, .int .i64 k], .agg #[.pointer q, .int .i64 (ys.length : Int)], .pointer (some ⟨w.heap.size, 0, none⟩), .pointer (some ⟨w.heap.size + 1, 0, none⟩), .pointer (some ⟨w.heap.size + 1 + 1, 0, none⟩), .int .i64 x, .agg #[.pointer p, .int .i64 k], .agg #[.pointer q2, .int .i64 (xs.length : Int)], .func (.func 44) #[] #[.pointer (some ⟨w2.heap.size, 0, none⟩)], .int .i64 x, undef, undef, undef, undef], defers := [] }) ?assign ?body ?done ?stop
  case assign =>
    intro l x W K hK
    gi_wp2
    exact hK
  case body =>
    rintro l pre x W ⟨⟨q0, h1, h2, h3⟩, hB⟩ hlt
    rw [List.length_reverse] at hlt
    obtain ⟨c0, c1, c2⟩ := blk h1
    have e0 := c0 0
    have e1 := c0 1
    clear c0
    obtain ⟨tt, htt⟩ : ∃ t : Int, (((pre ++ ys).length : Nat) : Int) = t := ⟨_, rfl⟩
    obtain ⟨t2, ht2⟩ : ∃ t : Int, ((((pre ++ [x]) ++ ys).length : Nat) : Int) = t := ⟨_, rfl⟩
    have hw : wrap64 (tt + 1) = t2 := by simp only [List.length_append, List.length_cons, List.length_nil] at hlt ht2 htt; unfold wrap64; omega
    have P := push_any x (List.reverse pre ++ ys) q0 tt W h3
    rw [hw] at P
    rw [htt] at h1 e1
    have HT := Lib.hid htt
    have HT2 := Lib.hid ht2
    clear htt ht2
    have X := Lib.hid (⟨h1, h2⟩ : _ ∧ _)
    have hn : 1 ≤ 5 - 1 - 1 := by decide
    have T26 : Fence.wide.fn 10 := trivial
    clear h1 h2 hw
    gi_wp2_with (gi_at_call 10; refine (CallsIn.inRound l (callsIn_wide.2 P)).mono ?_; rintro e w2 ⟨q2, rfl, hi2, hb2⟩; have h1 := blk_below X.out.1 hb2; obtain ⟨d0, d1, d2⟩ := blk h1; have H1 := Lib.hid h1; clear h1)
    have h2 := blk_below X.out.2 hb2
    have hle := hB.size
    refine ⟨((ko_below hb2).trans (ko_set2 _ _ _ _ _)).from _, KeepW.of_keepT (KeepT.trans (.of_below hb2) (KeepT.trans (.setCell H1.out (by decide)) (.setCell (blk_set H1.out) (by decide)))), ⟨q2, ?_, ?_, ?_⟩, ((hB.trans (hb2.mono hle)).setCell (p := ⟨w.heap.size + 1, 0, none⟩) (by simp; try omega) _).setCell (p := ⟨w.heap.size + 1, 1, none⟩) (by simp; try omega) _⟩
    · rw [HT2.out]
      have := blk_set (i := 1) (v := .int .i64 t2) (blk_set (i := 0) (v := .pointer q2) H1.out)
      simpa using this
    · exact blk_far (blk_far h2 (by omega)) (by omega)
    · rw [show (List.reverse (pre ++ [x]) ++ ys) = x :: (List.reverse pre ++ ys) from by simp]
      exact (hi2.keep (.setCell H1.out (by decide))).keep (.setCell (blk_set H1.out) (by decide))
  case done =>
    rintro D ys' W hD hys ⟨⟨q0, h1, h2, h3⟩, hB⟩ hK
    obtain ⟨c0, c1, c2⟩ := blk h1
    obtain ⟨d0, d1, d2⟩ := blk h2
    have e0 := c0 0
    have e1 := c0 1
    have H1 := Lib.hid h1
    have H2 := Lib.hid h2
    clear h1 h2 c0
    obtain ⟨tt, htt⟩ : ∃ t : Int, (((ys' ++ ys).length : Nat) : Int) = t := ⟨_, rfl⟩
    rw [htt] at e1
    gi_wp2
    have hK1 := (ko_set2 W ⟨w.heap.size + 1 + 1, 0, none⟩ ⟨w.heap.size + 1 + 1, 1, none⟩ (.pointer q0) (.int .i64 tt)).same D _ hK rfl
    refine ⟨by simp, .inl ⟨_, _, rfl, run_takeDeferred hK1, ?_⟩⟩
    have y2 := blk_set (i := 1) (v := .int .i64 tt) (blk_set (i := 0) (v := .pointer q0) H2.out)
    have y3 := (grownBy_keeps_cells (grownBy_putObj' _ D (.deferred none)) (fun r e => by cases e; exact ⟨_, hK1, rfl⟩) y2 rfl).trans y2
    obtain ⟨f0, f1, f2⟩ := blk y3
    have i2 : In ((W.setCell ⟨w.heap.size + 1 + 1, 0, none⟩ (.pointer q0)).setCell ⟨w.heap.size + 1 + 1, 1, none⟩ (.int .i64 tt)) q0 _ := (h3.keep (.setCell H2.out (by decide))).keep (.setCell (blk_set H2.out) (by decide))
    have i3 := i2.kept (grownBy_putObj' _ D (.deferred none)) (fun r e => by cases e; exact ⟨_, hK1, rfl⟩)
    have hle := hB.size
    have B3 := ((hB.setCell (p := ⟨w.heap.size + 1 + 1, 0, none⟩) (by simp; try omega) (.pointer q0)).setCell (p := ⟨w.heap.size + 1 + 1, 1, none⟩) (by simp; try omega) (.int .i64 tt)).trans (belowK_b (w := w) (Nat.le_refl _) _ D _ (.deferred none) (by omega) hK1 rfl rfl)
    refine ⟨.agg #[.pointer q0, .int .i64 tt], ?_, q0, ?_, ?_, B3⟩
    rotate_left
    · rw [← htt, hys]; simp
    · have : List.reverse ys' ++ ys = xs ++ ys := by rw [hys, List.reverse_reverse]
      rw [← this]; exact i3
    have g0 := f0 0
    have g1 := f0 1
    simp [results, Try.f37, go_sem, g0, g1]
  case stop =>
    rintro D c pre W _ _ h _
    exact h.elim
end LI
end Go.Proofs.Ytpkfakndlbngbaa
