/-
  Lists of trees: a list of a slice's numbers. Conditions: no more than 2^44 numbers.
-/
import Derived.Test.YtpkfakndlbngbaaBack
import Derived.Test.YtpkfakndlbngbaaRalWalks
namespace Go.Proofs.Ytpkfakndlbngbaa
open Go.RowKit Go.Deep Go.Shelf
set_option linter.unusedVariables false
attribute [local go_sem] Oper.semAt_some
namespace RA
open LI (backward_any KeepB KeepB.trans keepB_b back_stops ko_below ko_set2)
theorem In.kept {w w' : World} {row : Option Nat} (hg : w.grownBy w' row) (hr : ∀ r, row = some r → ∃ o : Obj, w.heap[r]? = some o ∧ o.isCells = false) {p : Option Addr} {m : Int} {xs : List Int} (h : In w p m xs) : In w' p m xs :=
  h.keep (fun b cur hb => (grownBy_keeps_cells hg hr hb rfl).trans hb) (fun b cur hb => (grownBy_keeps_cells hg hr hb rfl).trans hb)
set_option maxRecDepth 100000 in
set_option maxHeartbeats 400000 in
theorem of_any (a : Option Addr) (n c : Nat) (xs : List Int) (w : World) (h : Sl w a n c xs) (hs : n ≤ 17592186044416) : Calls Try.prog 5 #[.slice a n c] w fun e w' =>
    ∃ q k, e = .returned (.agg #[.pointer q, .int .i64 k]) ∧ In w' q k xs ∧ Below w.heap.size w w' := by
  have hlen := h.hlen
  refine (callsIn_wide (n := 5)).1 ?_
  refine callsIn_of_wp_marks Try.func5 rfl trivial ?_ rfl
  simp only [Try.ntmps5, List.size_toArray, List.length_cons, List.length_nil, Nat.reduceAdd, Nat.reduceSub, Array.replicate_succ, Array.replicate_zero, List.push_toArray, List.append_toArray, List.nil_append, List.cons_append]
  have TT : ∀ f, Fence.wide.fn f := fun _ => trivial
  have TA := TT 20
  gi_wp2_with (gi_at_call 20; refine (callsIn_wide.2 (backward_any _ _ _ _)).mono ?_; rintro e w' ⟨rfl, rfl⟩)
  obtain ⟨WW, hWW⟩ : ∃ WW, (((w.alloc (.cells #[.pointer none, .int .i64 0] 29)).alloc (.cells #[.pointer none, .int .i64 0] 29)).alloc (.cells #[.slice a n c] 22)) = WW := ⟨_, rfl⟩
  have hB0 : Below w.heap.size w WW := by rw [← hWW]; exact ((((Below.refl _ w).alloc (by simp) _).alloc (by simp) _).alloc (by simp; omega) _)
  have hz : WW.heap.size = w.heap.size + 3 := by rw [← hWW]; simp
  have x2 : WW.heap[w.heap.size]? = some (.cells #[.pointer none, .int .i64 0] 29 (0, 0)) := by
    rw [← hWW]
    refine (Below.heap_alloc _ _ _ (by simp; try omega)).trans ((Below.heap_alloc _ _ _ (by simp; try omega)).trans (?_))
    have := heap_alloc_new w (.cells #[.pointer none, .int .i64 0] 29)
    exact this
  have x1 : WW.heap[w.heap.size + 1]? = some (.cells #[.pointer none, .int .i64 0] 29 (0, 0)) := by
    rw [← hWW]
    refine (Below.heap_alloc _ _ _ (by simp; try omega)).trans (?_)
    have := heap_alloc_new (w.alloc (.cells #[.pointer none, .int .i64 0] 29)) (.cells #[.pointer none, .int .i64 0] 29)
    rwa [World.size_alloc] at this
  have x3 : WW.heap[w.heap.size + 1 + 1]? = some (.cells #[.slice a n c] 22 (0, 0)) := by
    rw [← hWW]
    have := heap_alloc_new ((w.alloc (.cells #[.pointer none, .int .i64 0] 29)).alloc (.cells #[.pointer none, .int .i64 0] 29)) (.cells #[.slice a n c] 22)
    rwa [World.size_alloc, World.size_alloc] at this
  rw [hWW]
  clear hWW
  refine wpIn_rangeFunc_ownG rfl (by decide) (gf := 35) (lb := #[.pointer (some ⟨w.heap.size + 1 + 1, 0, none⟩)]) rfl trivial (enters_of Try.func35 (by kernel_rfl) rfl)
    (back_stops Fence.wide (5 - 1) trivial rfl (by decide) (w.heap.size + 1 + 1) a n c xs w WW h hs hB0 x3) KeepB.trans (keepB_b (by omega)) (Below.refl _ _) (fun _ => rfl)
    (fun pre W => (∃ (q0 : Option Addr) (tt : Int), W.heap[w.heap.size + 1]? = some (.cells #[.pointer q0, .int .i64 tt] 29 (0, 0)) ∧ W.heap[w.heap.size]? = some (.cells #[.pointer none, .int .i64 0] 29 (0, 0)) ∧ In W q0 tt (List.map Prod.snd pre).reverse) ∧ Below w.heap.size w W)
    (fun _ _ _ => False)
    (OwnFrom.and (Own.from (fun s A B row hs hg hr => by
      obtain ⟨q, tt, h1, h2, h3⟩ := hs
      exact ⟨q, tt, (grownBy_keeps_cells hg hr h1 rfl).trans h1, (grownBy_keeps_cells hg hr h2 rfl).trans h2, h3.kept hg hr⟩) _) (ownFrom_below (Nat.le_refl _) (by omega)))
    (fun _ _ _ _ _ hs _ _ => hs)
    ⟨⟨none, 0, x1, x2, In.nil _⟩, hB0⟩
    (fun x => { tmps := #[.slice a n c, undef, .pointer (some ⟨w.heap.size, 0, none⟩), .pointer (some ⟨w.heap.size + 1, 0, none⟩), undef, .int .i64 x.2, .slice a n c, .func (.func 35) #[] #[.pointer (some ⟨w.heap.size + 1 + 1, 0, none⟩)], .int .i64 x.1, .int .i64 x.2, undef, undef, undef, undef], defers := [] }) ?assign ?body ?done ?stop
  case assign =>
    intro l x W K hK
    gi_wp2
    exact hK
  case body =>
    rintro l pre x W ⟨⟨q0, tt, h1, h2, h3⟩, hB⟩ hlt
    obtain ⟨c0, c1, c2⟩ := blk h1
    have e0 := c0 0
    have e1 := c0 1
    clear c0
    have P := push_any x.2 q0 tt (List.map Prod.snd pre).reverse W h3 (by rw [List.length_reverse, List.length_map]; omega)
    have X := Lib.hid (⟨h1, h2⟩ : _ ∧ _)
    have hn : 1 ≤ 5 - 1 - 1 := by decide
    have T26 : Fence.wide.fn 12 := trivial
    clear h1 h2
    gi_wp2_with (gi_at_call 12; refine (CallsIn.inRound l (callsIn_wide.2 P)).mono ?_; rintro e w2 ⟨q2, t2, rfl, hi2, hb2⟩; have h1 := blk_below X.out.1 hb2; obtain ⟨d0, d1, d2⟩ := blk h1; have H1 := Lib.hid h1; clear h1)
    have h2 := blk_below X.out.2 hb2
    have hle := hB.size
    refine ⟨((ko_below hb2).trans (ko_set2 _ _ _ _ _)).from _, ⟨((hb2.mono hle).setCell (p := ⟨w.heap.size + 1, 0, none⟩) (by simp) _).setCell (p := ⟨w.heap.size + 1, 1, none⟩) (by simp) _, fun hb => blk_far (blk_far (blk_below hb hb2) (by omega)) (by omega)⟩, ⟨q2, t2, ?_, ?_, ?_⟩, ((hB.trans (hb2.mono hle)).setCell (p := ⟨w.heap.size + 1, 0, none⟩) (by simp; try omega) _).setCell (p := ⟨w.heap.size + 1, 1, none⟩) (by simp; try omega) _⟩
    · have := blk_set (i := 1) (v := .int .i64 t2) (blk_set (i := 0) (v := .pointer q2) H1.out)
      simpa using this
    · exact blk_far (blk_far h2 (by omega)) (by omega)
    · rw [show (List.map Prod.snd (pre ++ [x])).reverse = x.2 :: (List.map Prod.snd pre).reverse from by simp]
      exact hi2.box H1.out
  case done =>
    rintro D ys W hD hys ⟨⟨q0, tt, h1, h2, h3⟩, hB⟩ hK
    obtain ⟨c0, c1, c2⟩ := blk h1
    obtain ⟨d0, d1, d2⟩ := blk h2
    have e0 := c0 0
    have e1 := c0 1
    have H1 := Lib.hid h1
    have H2 := Lib.hid h2
    clear h1 h2 c0
    gi_wp2
    have hK1 := (ko_set2 W ⟨w.heap.size, 0, none⟩ ⟨w.heap.size, 1, none⟩ (.pointer q0) (.int .i64 tt)).same D _ hK rfl
    refine ⟨by simp, .inl ⟨_, _, rfl, run_takeDeferred hK1, ?_⟩⟩
    have y2 := blk_set (i := 1) (v := .int .i64 tt) (blk_set (i := 0) (v := .pointer q0) H2.out)
    have y3 := (grownBy_keeps_cells (grownBy_putObj' _ D (.deferred none)) (fun r e => by cases e; exact ⟨_, hK1, rfl⟩) y2 rfl).trans y2
    obtain ⟨f0, f1, f2⟩ := blk y3
    have i2 : In ((W.setCell ⟨w.heap.size, 0, none⟩ (.pointer q0)).setCell ⟨w.heap.size, 1, none⟩ (.int .i64 tt)) q0 tt _ := h3.box H2.out
    have i3 := i2.kept (grownBy_putObj' _ D (.deferred none)) (fun r e => by cases e; exact ⟨_, hK1, rfl⟩)
    have hle := hB.size
    have B3 := ((hB.setCell (p := ⟨w.heap.size, 0, none⟩) (by simp; try omega) (.pointer q0)).setCell (p := ⟨w.heap.size, 1, none⟩) (by simp; try omega) (.int .i64 tt)).trans (belowK_b (w := w) (Nat.le_refl _) _ D _ (.deferred none) (by omega) hK1 rfl rfl)
    refine ⟨.agg #[.pointer q0, .int .i64 tt], ?_, q0, tt, ?_, ?_, B3⟩
    rotate_left
    · rfl
    · rw [← show (List.map Prod.snd ys).reverse = xs by rw [hys, List.reverse_reverse]]; exact i3
    have g0 := f0 0
    have g1 := f0 1
    simp [results, Try.f5, go_sem, g0, g1]
  case stop =>
    rintro D c pre W _ _ h _
    exact h.elim
end RA
end Go.Proofs.Ytpkfakndlbngbaa
