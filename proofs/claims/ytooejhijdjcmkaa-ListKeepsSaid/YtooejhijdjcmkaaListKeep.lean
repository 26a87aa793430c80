/-
  Lists: those of which a function says true. Conditions: the function returns, and turns nothing that lay; no more than 2^44 numbers.
-/
import Derived.Shelf.AbstractIn
import Derived.Test.YtooejhijdjcmkaaListOf
namespace Go.Proofs.Ytooejhijdjcmkaa
open Go.RowKit Go.Deep Go.Shelf
set_option linter.unusedVariables false
attribute [local go_sem] Oper.semAt_some
namespace LI
set_option maxRecDepth 100000 in
set_option maxHeartbeats 400000 in
theorem keep_any (p : Option Addr) (k : Int) (xs : List Int) (f : Nat) (lb : Array Value) (g : Int → Bool) (w : World) (h : In w p xs) (hs : xs.length ≤ 17592186044416)
    (hf : ∀ (u : Int) (W : World), Below w.heap.size w W → Calls Try.prog f (#[.int .i64 u] ++ lb) W fun e w' => e = .returned (.bool (g u)) ∧ Below W.heap.size W w') (ef : ∀ args w, (callFunc f args).run Try.prog w = .ok (.enter f args) w) :
    Calls Try.prog 17 #[.agg #[.pointer p, .int .i64 k], .func (.func f) #[] lb] w fun e w' => ∃ q, e = .returned (.agg #[.pointer q, .int .i64 ((xs.filter g).length : Int)]) ∧ In w' q (xs.filter g) ∧ Below w.heap.size w w' := by
  obtain ⟨i0, hi, hz0, hz1, hz2⟩ := info_parts Try.infoInt
  refine (callsIn_wide (n := 5)).1 ?_
  refine callsIn_of_wp_marks Try.func17 rfl trivial ?_ rfl
  simp only [Try.ntmps17, List.size_toArray, List.length_cons, List.length_nil, Nat.reduceAdd, Nat.reduceSub, Array.replicate_succ, Array.replicate_zero, List.push_toArray, List.append_toArray, List.nil_append, List.cons_append]
  have TT : ∀ f, Fence.wide.fn f := fun _ => trivial
  have TA := TT 13
  gi_wp2_with (gi_at_call 13; refine (callsIn_wide.2 (all_any _ _ _)).mono ?_; rintro e w' ⟨rfl, rfl⟩)
  obtain ⟨WW, hWW⟩ : ∃ WW, (((((w.alloc (.cells #[.pointer p, .int .i64 k] 28)).alloc (.cells #[.func (.func f) #[] lb] 33)).alloc (.cells #[.pointer none, .int .i64 0] 28)).alloc (.cells #[.slice none 0 0] 22)).alloc (.cells #[.pointer p, .int .i64 k] 28)) = WW := ⟨_, rfl⟩
  have hB0 : Below w.heap.size w WW := by rw [← hWW]; exact ((((((Below.refl _ w).alloc (by simp) _).alloc (by simp) _).alloc (by simp; omega) _).alloc (by simp; omega) _).alloc (by simp; omega) _)
  have hz : WW.heap.size = w.heap.size + 5 := by rw [← hWW]; simp
  have x1 : WW.heap[w.heap.size + 1]? = some (.cells #[.func (.func f) #[] lb] 33 (0, 0)) := by
    rw [← hWW]
    refine (Below.heap_alloc _ _ _ (by simp; try omega)).trans ((Below.heap_alloc _ _ _ (by simp; try omega)).trans ((Below.heap_alloc _ _ _ (by simp; try omega)).trans (?_)))
    have := heap_alloc_new (w.alloc (.cells #[.pointer p, .int .i64 k] 28)) (.cells #[.func (.func f) #[] lb] 33)
    rwa [World.size_alloc] at this
  have x2 : WW.heap[w.heap.size + 1 + 1]? = some (.cells #[.pointer none, .int .i64 0] 28 (0, 0)) := by
    rw [← hWW]
    refine (Below.heap_alloc _ _ _ (by simp; try omega)).trans ((Below.heap_alloc _ _ _ (by simp; try omega)).trans (?_))
    have := heap_alloc_new ((w.alloc (.cells #[.pointer p, .int .i64 k] 28)).alloc (.cells #[.func (.func f) #[] lb] 33)) (.cells #[.pointer none, .int .i64 0] 28)
    rwa [World.size_alloc, World.size_alloc] at this
  have x3 : WW.heap[w.heap.size + 1 + 1 + 1]? = some (.cells #[.slice none 0 0] 22 (0, 0)) := by
    rw [← hWW]
    refine (Below.heap_alloc _ _ _ (by simp; try omega)).trans (?_)
    have := heap_alloc_new (((w.alloc (.cells #[.pointer p, .int .i64 k] 28)).alloc (.cells #[.func (.func f) #[] lb] 33)).alloc (.cells #[.pointer none, .int .i64 0] 28)) (.cells #[.slice none 0 0] 22)
    rwa [World.size_alloc, World.size_alloc, World.size_alloc] at this
  have x4 : WW.heap[w.heap.size + 1 + 1 + 1 + 1]? = some (.cells #[.pointer p, .int .i64 k] 28 (0, 0)) := by
    rw [← hWW]
    have := heap_alloc_new ((((w.alloc (.cells #[.pointer p, .int .i64 k] 28)).alloc (.cells #[.func (.func f) #[] lb] 33)).alloc (.cells #[.pointer none, .int .i64 0] 28)).alloc (.cells #[.slice none 0 0] 22)) (.cells #[.pointer p, .int .i64 k] 28)
    rwa [World.size_alloc, World.size_alloc, World.size_alloc, World.size_alloc] at this
  rw [hWW]
  clear hWW
  refine wpIn_rangeFunc_ownG rfl (by decide) (gf := 37) (lb := #[.pointer (some ⟨w.heap.size + 1 + 1 + 1 + 1, 0, none⟩)]) rfl trivial (enters_of Try.func37 (by kernel_rfl) rfl)
    (all_stops Fence.wide (5 - 1) trivial rfl (by decide) (w.heap.size + 1 + 1 + 1 + 1) p k xs w WW h (.of_below hB0) x4) KeepW.trans (fun W l o o' _ h1 h2 _ => keepW_b W l o o' h1 h2) (Below.refl _ _) (fun _ => rfl)
    (fun pre W => ((∃ v, Boxed W (w.heap.size + 1 + 1 + 1) 22 v ∧ W.ownsRow w.heap.size 3 1 v (pre.filter g).length ((pre.filter g).map (Value.int .i64)) ∧ True) ∧ W.heap[w.heap.size + 1]? = some (.cells #[.func (.func f) #[] lb] 33 (0, 0)) ∧ W.heap[w.heap.size + 1 + 1]? = some (.cells #[.pointer none, .int .i64 0] 28 (0, 0))) ∧ Below w.heap.size w W)
    (fun _ _ _ => False)
    (OwnFrom.and (Own.from (fun s A B row hs hg hr => ⟨holdsRow_own w.heap.size (w.heap.size + 1 + 1 + 1) 22 3 1 (fun pre => (pre.filter g).length) (fun pre : List Int => (pre.filter g).map (Value.int .i64)) (fun _ _ => True) s A B row hs.1 hg hr, (grownBy_keeps_cells hg hr hs.2.1 rfl).trans hs.2.1, (grownBy_keeps_cells hg hr hs.2.2 rfl).trans hs.2.2⟩) _) (ownFrom_below (Nat.le_refl _) (by omega)))
    (fun _ _ _ _ _ hs _ _ => hs)
    ⟨⟨⟨_, x3, World.ownsRow_nil _ _ _ _, trivial⟩, x1, x2⟩, hB0⟩
    (fun x => { tmps := #[.agg #[.pointer p, .int .i64 k], .func (.func f) #[] lb, .pointer (some ⟨w.heap.size, 0, none⟩), .pointer (some ⟨w.heap.size + 1, 0, none⟩), .pointer (some ⟨w.heap.size + 1 + 1, 0, none⟩), .pointer (some ⟨w.heap.size + 1 + 1 + 1, 0, none⟩), .int .i64 x, .agg #[.pointer p, .int .i64 k], (.func (.func 37) #[] #[.pointer (some ⟨w.heap.size + 1 + 1 + 1 + 1, 0, none⟩)]), .int .i64 x, undef, undef, undef, undef, undef, undef, undef, undef, undef], defers := [] }) ?assign ?body ?done ?stop
  case assign =>
    intro l x W K hK
    gi_wp2
    exact hK
  case body =>
    rintro l pre x W ⟨⟨⟨v, hv, hrow, _⟩, h1, h2⟩, hB⟩ hlt
    have hc := hv.cell
    have X := Lib.hid (⟨h1, h2⟩ : _ ∧ _)
    obtain ⟨d0, d1, d2⟩ := blk h1
    have e1 := d0 0
    have hsz1 := hB.size
    have hn : 1 ≤ 5 - 1 - 1 := by decide
    have TF : Fence.wide.fn f := trivial
    have hf := Lib.hid hf
    clear h1 h2 d0
    have hpl : (pre.filter g).length ≤ pre.length := List.length_filter_le _ _
    cases hgx : g x
    case true =>
      have PF := fun W hW => (hf.out x W hW).mono (R' := fun e w' => e = .returned (.bool true) ∧ Below W.heap.size W w') (fun e w' ⟨h1, h2⟩ => ⟨by rw [h1, hgx], h2⟩)
      have HG := Lib.hid hgx
      have PP := Lib.hid PF
      clear hgx PF
      gi_wp2_with (first | (gi_at_fn f; refine (CallsIn.inRound l (callsIn_wide.2 (PP.out _ (by first | exact hB | exact hB.drew)))).mono ?_; rintro e w2 ⟨rfl, hb2⟩; replace hb2 : Below W.heap.size W w2 := (by first | exact hb2 | exact ((Below.refl W.heap.size W).drew).trans hb2); have hvv : Boxed w2 (w.heap.size + 1 + 1 + 1) 22 v := blk_below hv hb2; have hc2 := hvv.cell; have hrow2 := own_keep hrow (.of_below hb2); have hsz2 := hb2.size; have hY1 := blk_below X.out.1 hb2; have hY2 := blk_below X.out.2 hb2; have HY := Lib.hid (⟨hY1, hY2⟩ : _ ∧ _); clear hY1 hY2) | (gi_at_builtin; refine wpListIn_append_own _ rfl _ _ 22 rfl w.heap.size 3 i0 (.int .i64 0) 1 8 Try.underlying22 hi hz0 hz1 hz2 rfl (by decide) _ _ _ rfl (hrow2.alloc _) ⟨w2.heap.size, 0, none⟩ 1 1 [.int .i64 x] rfl rfl (cell_one_new _ _ _) (by simp [Value.oneCell']) (by unfold maxLen; omega) (by omega) (by simp; omega) ?_; intro v' w1 hown' hgrow _; obtain ⟨g', cap', rfl⟩ := ownsRow_succ hown'; obtain ⟨hv1, hv2, hr2, hk2, hb3⟩ := hvv.appended (by decide) hrow2 (by omega) (by omega) hown' hgrow; have hc1 := hv1.cell; have hf1 := hv1.frozen))
      have hgx := HG.out
      have kT : ∀ T, 3 ≠ T → 22 ≠ T → KeepT T w2 (w1.setCell ⟨w.heap.size + 1 + 1 + 1, 0, none⟩ (.slice (some ⟨g', 0, none⟩) ((pre.filter g).length + 1) cap')) := fun T h1 h2 => (((KeepT.refl _ _).alloc _).trans (.of_grown (hrow2.alloc _) hgrow h1)).trans (.setCell hv1 h2)
      exact ⟨((ko_below hb2).trans hk2).from _, KeepW.trans (.of_below (hb2.mono hB.size)) (.of_below hb3), ⟨⟨_, hv2, by rw [List.filter_append]; simpa [hgx] using hr2, trivial⟩, kT _ (by decide) (by decide) _ _ HY.out.1, kT _ (by decide) (by decide) _ _ HY.out.2⟩, (hB.trans (hb2.mono hB.size)).trans hb3⟩
    case false =>
      have PF := fun W hW => (hf.out x W hW).mono (R' := fun e w' => e = .returned (.bool false) ∧ Below W.heap.size W w') (fun e w' ⟨h1, h2⟩ => ⟨by rw [h1, hgx], h2⟩)
      have HG := Lib.hid hgx
      have PP := Lib.hid PF
      clear hgx PF
      gi_wp2_with (gi_at_fn f; refine (CallsIn.inRound l (callsIn_wide.2 (PP.out _ (by first | exact hB | exact hB.drew)))).mono ?_; rintro e w2 ⟨rfl, hb2⟩; replace hb2 : Below W.heap.size W w2 := (by first | exact hb2 | exact ((Below.refl W.heap.size W).drew).trans hb2); have hvv : Boxed w2 (w.heap.size + 1 + 1 + 1) 22 v := blk_below hv hb2; have hc2 := hvv.cell; have hrow2 := own_keep hrow (.of_below hb2); have hsz2 := hb2.size; have hY1 := blk_below X.out.1 hb2; have hY2 := blk_below X.out.2 hb2; have HY := Lib.hid (⟨hY1, hY2⟩ : _ ∧ _); clear hY1 hY2)
      have hgx := HG.out
      exact ⟨(ko_below hb2).from _, .of_below (hb2.mono hB.size), ⟨⟨v, hvv, by rw [List.filter_append]; simpa [hgx] using hrow2, trivial⟩, HY.out.1, HY.out.2⟩, hB.trans (hb2.mono hB.size)⟩
  case done =>
    rintro D ys W hD rfl ⟨⟨⟨v, hv, hrow, _⟩, h1, h2⟩, hB⟩ hK
    obtain ⟨c0, c1, c2⟩ := blk h2
    have hc := hv.cell
    obtain ⟨a', c', rfl, hsl⟩ := Sl.of_own hrow
    have hlen : (ys.filter g).length ≤ 17592186044416 := by have := List.length_filter_le g ys; omega
    have OF := of_any a' _ c' (ys.filter g) W hsl hlen
    have H2 := Lib.hid h2
    have HK := Lib.hid hK
    clear h1 h2 c0 hK
    have TO : Fence.wide.fn 12 := trivial
    have hn : 1 ≤ 5 := by decide
    gi_wp2_with (gi_at_call 12; refine (callsIn_wide.2 OF).mono ?_; rintro e w2 ⟨q0, rfl, hi2, hb2⟩; have h2 := blk_below H2.out hb2; obtain ⟨f0, f1, f2⟩ := blk h2; have G2 := Lib.hid h2; clear h2)
    have hKa : w2.heap[D]? = some (.deferred (some [])) := (hb2.block D (Array.getElem?_eq_some_iff.1 HK.out).1).trans HK.out
    have hK1 := (ko_set2 w2 ⟨w.heap.size + 1 + 1, 0, none⟩ ⟨w.heap.size + 1 + 1, 1, none⟩ (.pointer q0) (.int .i64 ((ys.filter g).length : Int))).same D _ hKa rfl
    refine ⟨by simp, .inl ⟨_, _, rfl, run_takeDeferred (by simpa using hK1), ?_⟩⟩
    have y2 := blk_set (i := 1) (v := .int .i64 ((ys.filter g).length : Int)) (blk_set (i := 0) (v := .pointer q0) G2.out)
    have y3 := (grownBy_keeps_cells (grownBy_putObj' _ D (.deferred none)) (fun r e => by cases e; exact ⟨_, hK1, rfl⟩) y2 rfl).trans y2
    obtain ⟨g0, g1, g2⟩ := blk y3
    have i2 : In ((w2.setCell ⟨w.heap.size + 1 + 1, 0, none⟩ (.pointer q0)).setCell ⟨w.heap.size + 1 + 1, 1, none⟩ (.int .i64 ((ys.filter g).length : Int))) q0 _ := (hi2.keep (.setCell G2.out (by decide))).keep (.setCell (blk_set G2.out) (by decide))
    have i3 := i2.kept (grownBy_putObj' _ D (.deferred none)) (fun r e => by cases e; exact ⟨_, hK1, rfl⟩)
    have hle := hB.size
    have hle2 := hb2.size
    have B3 := (((hB.trans (hb2.mono hle)).setCell (p := ⟨w.heap.size + 1 + 1, 0, none⟩) (by simp; try omega) (.pointer q0)).setCell (p := ⟨w.heap.size + 1 + 1, 1, none⟩) (by simp; try omega) (.int .i64 ((ys.filter g).length : Int))).trans (belowK_b (w := w) (Nat.le_refl _) _ D _ (.deferred none) (by omega) hK1 rfl rfl)
    refine ⟨.agg #[.pointer q0, .int .i64 ((ys.filter g).length : Int)], ?_, q0, rfl, by simpa using i3, by simpa using B3⟩
    have k0 := g0 0
    have k1 := g0 1
    simp at k0 k1
    simp [results, Try.f17, go_sem, k0, k1]
  case stop =>
    rintro D c pre W _ _ h _
    exact h.elim
end LI
end Go.Proofs.Ytooejhijdjcmkaa
