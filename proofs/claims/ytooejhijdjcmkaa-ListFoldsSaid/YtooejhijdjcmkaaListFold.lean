/-
  Lists: what a function makes of all, one by one. Conditions: the function returns, and turns nothing that lay.
-/
import Derived.Shelf.AbstractIn
import Derived.Test.YtooejhijdjcmkaaListRev
namespace Go.Proofs.Ytooejhijdjcmkaa
open Go.RowKit Go.Deep Go.Shelf
set_option linter.unusedVariables false
attribute [local go_sem] Oper.semAt_some
namespace LI
set_option maxRecDepth 100000 in
set_option maxHeartbeats 400000 in
theorem fold_any (p : Option Addr) (k : Int) (xs : List Int) (z : Int) (f : Nat) (lb : Array Value) (g : Int → Int → Int) (w : World) (h : In w p xs)
    (hf : ∀ (u v : Int) (W : World), Below w.heap.size w W → Calls Try.prog f (#[.int .i64 u, .int .i64 v] ++ lb) W fun e w' => e = .returned (.int .i64 (g u v)) ∧ Below W.heap.size W w') (ef : ∀ args w, (callFunc f args).run Try.prog w = .ok (.enter f args) w) :
    Calls Try.prog 24 #[.agg #[.pointer p, .int .i64 k], .int .i64 z, .func (.func f) #[] lb] w fun e w' => e = .returned (.int .i64 (xs.foldl g z)) ∧ Below w.heap.size w w' := by
  refine (callsIn_wide (n := 5)).1 ?_
  refine callsIn_of_wp_marks Try.func24 rfl trivial ?_ rfl
  simp only [Try.ntmps24, List.size_toArray, List.length_cons, List.length_nil, Nat.reduceAdd, Nat.reduceSub, Array.replicate_succ, Array.replicate_zero, List.push_toArray, List.append_toArray, List.nil_append, List.cons_append]
  have TT : ∀ f, Fence.wide.fn f := fun _ => trivial
  have TA := TT 13
  gi_wp2_with (gi_at_call 13; refine (callsIn_wide.2 (all_any _ _ _)).mono ?_; rintro e w' ⟨rfl, rfl⟩)
  obtain ⟨WW, hWW⟩ : ∃ WW, ((((w.alloc (.cells #[.pointer p, .int .i64 k] 28)).alloc (.cells #[.int .i64 z] 3)).alloc (.cells #[.func (.func f) #[] lb] 39)).alloc (.cells #[.pointer p, .int .i64 k] 28)) = WW := ⟨_, rfl⟩
  have hB0 : Below w.heap.size w WW := by rw [← hWW]; exact (((((Below.refl _ w).alloc (by simp) _).alloc (by simp) _).alloc (by simp; omega) _).alloc (by simp; omega) _)
  have hz : WW.heap.size = w.heap.size + 4 := by rw [← hWW]; simp
  have x1 : WW.heap[w.heap.size + 1]? = some (.cells #[.int .i64 z] 3 (0, 0)) := by
    rw [← hWW]
    refine (Below.heap_alloc _ _ _ (by simp; try omega)).trans ((Below.heap_alloc _ _ _ (by simp; try omega)).trans (?_))
    have := heap_alloc_new (w.alloc (.cells #[.pointer p, .int .i64 k] 28)) (.cells #[.int .i64 z] 3)
    rwa [World.size_alloc] at this
  have x2 : WW.heap[w.heap.size + 1 + 1]? = some (.cells #[.func (.func f) #[] lb] 39 (0, 0)) := by
    rw [← hWW]
    refine (Below.heap_alloc _ _ _ (by simp; try omega)).trans (?_)
    have := heap_alloc_new ((w.alloc (.cells #[.pointer p, .int .i64 k] 28)).alloc (.cells #[.int .i64 z] 3)) (.cells #[.func (.func f) #[] lb] 39)
    rwa [World.size_alloc, World.size_alloc] at this
  have x3 : WW.heap[w.heap.size + 1 + 1 + 1]? = some (.cells #[.pointer p, .int .i64 k] 28 (0, 0)) := by
    rw [← hWW]
    have := heap_alloc_new (((w.alloc (.cells #[.pointer p, .int .i64 k] 28)).alloc (.cells #[.int .i64 z] 3)).alloc (.cells #[.func (.func f) #[] lb] 39)) (.cells #[.pointer p, .int .i64 k] 28)
    rwa [World.size_alloc, World.size_alloc, World.size_alloc] at this
  rw [hWW]
  clear hWW
  refine wpIn_rangeFunc_ownG rfl (by decide) (gf := 37) (lb := #[.pointer (some ⟨w.heap.size + 1 + 1 + 1, 0, none⟩)]) rfl trivial (enters_of Try.func37 (by kernel_rfl) rfl)
    (all_stops Fence.wide (5 - 1) trivial rfl (by decide) (w.heap.size + 1 + 1 + 1) p k xs w WW h (.of_below hB0) x3) KeepW.trans (fun W l o o' _ h1 h2 _ => keepW_b W l o o' h1 h2) (Below.refl _ _) (fun _ => rfl)
    (fun pre W => (W.heap[w.heap.size + 1]? = some (.cells #[.int .i64 (pre.foldl g z)] 3 (0, 0)) ∧ W.heap[w.heap.size + 1 + 1]? = some (.cells #[.func (.func f) #[] lb] 39 (0, 0))) ∧ Below w.heap.size w W)
    (fun _ _ _ => False)
    (OwnFrom.and (Own.from (fun s A B row hs hg hr => ⟨(grownBy_keeps_cells hg hr hs.1 rfl).trans hs.1, (grownBy_keeps_cells hg hr hs.2 rfl).trans hs.2⟩) _) (ownFrom_below (Nat.le_refl _) (by omega)))
    (fun _ _ _ _ _ hs _ _ => hs)
    ⟨⟨x1, x2⟩, hB0⟩
    (fun x => { tmps := #[.agg #[.pointer p, .int .i64 k], .int .i64 z, .func (.func f) #[] lb, .pointer (some ⟨w.heap.size, 0, none⟩), .pointer (some ⟨w.heap.size + 1, 0, none⟩), .pointer (some ⟨w.heap.size + 1 + 1, 0, none⟩), .int .i64 0, .int .i64 x, .agg #[.pointer p, .int .i64 k], (.func (.func 37) #[] #[.pointer (some ⟨w.heap.size + 1 + 1 + 1, 0, none⟩)]), .int .i64 x, undef, undef, undef, undef, undef], defers := [] }) ?assign ?body ?done ?stop
  case assign =>
    intro l x W K hK
    gi_wp2
    exact hK
  case body =>
    rintro l pre x W ⟨⟨h1, h2⟩, hB⟩ hlt
    obtain ⟨c0, c1, c2⟩ := blk h1
    obtain ⟨d0, d1, d2⟩ := blk h2
    have e0 := c0 0
    have e1 := d0 0
    have P := hf (pre.foldl g z) x W hB
    have X := Lib.hid (⟨h1, h2⟩ : _ ∧ _)
    have hn : 1 ≤ 5 - 1 - 1 := by decide
    have TF : Fence.wide.fn f := trivial
    have HF := Lib.hid hf
    clear h1 h2 c0 d0 hf
    gi_wp2_with (gi_at_fn f; refine (CallsIn.inRound l (callsIn_wide.2 P)).mono ?_; rintro e w2 ⟨rfl, hb2⟩; have h1 := blk_below X.out.1 hb2; obtain ⟨d0, d1, d2⟩ := blk h1; have H1 := Lib.hid h1; clear h1)
    have h2 := blk_below X.out.2 hb2
    exact ⟨((ko_below hb2).trans (KeepsOthers.setCell _ _ _)).from _, .of_keepT (KeepT.trans (.of_below hb2) (.setCell H1.out (by decide))), ⟨by rw [List.foldl_append]; exact blk_set H1.out, blk_far h2 (by omega)⟩, (hB.trans (hb2.mono hB.size)).setCell (p := ⟨w.heap.size + 1, 0, none⟩) (by simp) _⟩
  case done =>
    rintro D ys W hD rfl ⟨⟨h1, h2⟩, hB⟩ hK
    obtain ⟨c0, c1, c2⟩ := blk h1
    have e0 := c0 0
    clear c0
    gi_wp2
    refine ⟨by simp, .inl ⟨_, _, rfl, run_takeDeferred hK, ?_⟩⟩
    exact ⟨_, results_tmp rfl _ _ _, rfl, hB.trans (belowK_b (w := w) (Nat.le_refl _) W D _ _ (by omega) hK rfl rfl)⟩
  case stop =>
    rintro D c pre W _ _ h _
    exact h.elim
end LI
end Go.Proofs.Ytooejhijdjcmkaa
