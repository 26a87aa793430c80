/-
  Lists: what a function makes of each. Conditions: the function returns, and turns nothing that lay; no more than 2^44 numbers.
-/
import Derived.Shelf.AbstractIn
import Derived.Test.YtooejhijdjcmkaaListOf
namespace Go.Proofs.Ytooejhijdjcmkaa
open Go.RowKit Go.Deep Go.Shelf
set_option linter.unusedVariables false
attribute [local go_sem] Oper.semAt_some
namespace LI
section
variable {F : Fence} {n : Nat} {P : Program} (w : World)
theorem stepIn_append_own {ops : Array Oper} {o : Oper} {a : Act} {K : Act → World → Prop} {Q : Exit → Act → World → Prop} {E : Prop}
    (hg : o.guard = none) (s x : Operand) (t : TypeId) (hop : o.op = Op.call { callee := Callee.builtin Builtin.append, args := #[s, x], argTypes := #[t, t] })
    (base : Nat) (e : TypeId) (i : TypeInfo) (z : Value) (size bytes : Nat) (h1 : P.underlying t = some (.slice e)) (h2 : P.info? e = some i) (h3 : i.zero = some z) (h4 : i.size = size) (h5 : i.bytes = bytes) (h6 : z.cells.size = size) (h7 : 0 < size)
    (v : Value) (k : Nat) (xs : List Value) (hs : a.eval s = v) (hown : w.ownsRow base e size v k xs) (ad : Addr) (m c : Nat) (news : List Value) (hx : a.eval x = .slice (some ad) m c) (hn : news.length = m * size)
    (hc : ∀ j u, news[j]? = some u → w.cell? (ad.add j) = some u) (h1c : ∀ u ∈ news, u.oneCell' = true) (b1 : k + m ≤ maxLen) (b2 : (k + m) * bytes ≤ 140737488355328) (b3 : base ≤ w.heap.size)
    (hK : ∀ v' w', w'.ownsRow base e size v' (k + m) (xs ++ news) → w.grownBy w' v.ownBlock → (v' = .slice none 0 0 ↔ v = .slice none 0 0 ∧ m = 0) → K (a.put o.dst v') w') :
    if Region.wanted o (yielded ops a.tmps) = true then Oper.wpIn F n P o a w K Q else E := by
  have hw : Region.wanted o (yielded ops a.tmps) = true := by simp [Region.wanted, hg]
  rw [if_pos hw]
  obtain ⟨v', w', hrun, r1, r2, r3⟩ := run_append_own (P := P) w base t o.type e i z size bytes h1 h2 h3 h4 h5 h6 h7 v k xs hown ad m c news hn hc h1c b1 b2 b3
  unfold Oper.wpIn
  refine ⟨?_, ?_⟩
  · simp [Oper.about, hop, resolve, Target.leads, Sem.run_pure]
  · rw [Oper.semAt_plain F _ _ (by rw [hop]; intro c hc'; cases hc')]
    simp [execOp, hop, resolve, invoke, builtin, hs, hx, hrun, Result.andThen]
    exact hK v' w' r1 r2 r3
end
set_option maxRecDepth 100000 in
set_option maxHeartbeats 4000000 in
theorem each_any (p : Option Addr) (k : Int) (xs : List Int) (f : Nat) (lb : Array Value) (g : Int → Int) (w : World) (h : In w p xs) (hs : xs.length ≤ 17592186044416)
    (hf : ∀ (u : Int) (W : World), Below w.heap.size w W → Calls Try.prog f (#[.int .i64 u] ++ lb) W fun e w' => e = .returned (.int .i64 (g u)) ∧ Below W.heap.size W w') (ef : ∀ args w, (callFunc f args).run Try.prog w = .ok (.enter f args) w) :
    Calls Try.prog 34 #[.agg #[.pointer p, .int .i64 k], .func (.func f) #[] lb] w fun e w' => ∃ q, e = .returned (.agg #[.pointer q, .int .i64 (xs.length : Int)]) ∧ In w' q (xs.map g) ∧ Below w.heap.size w w' := by
  obtain ⟨i0, hi, hz0, hz1, hz2⟩ := info_parts Try.infoInt
  refine (callsIn_wide (n := 5)).1 ?_
  refine callsIn_of_wp_marks Try.func34 rfl trivial ?_ rfl
  simp only [Try.ntmps34, List.size_toArray, List.length_cons, List.length_nil, Nat.reduceAdd, Nat.reduceSub, Array.replicate_succ, Array.replicate_zero, List.push_toArray, List.append_toArray, List.nil_append, List.cons_append]
  have TT : ∀ f, Fence.wide.fn f := fun _ => trivial
  have TA := TT 13
  gi_wp2_with (gi_at_call 13; refine (callsIn_wide.2 (all_any _ _ _)).mono ?_; rintro e w' ⟨rfl, rfl⟩)
  obtain ⟨WW, hWW⟩ : ∃ WW, (((((w.alloc (.cells #[.pointer p, .int .i64 k] 28)).alloc (.cells #[.func (.func f) #[] lb] 53)).alloc (.cells #[.pointer none, .int .i64 0] 28)).alloc (.cells #[.slice none 0 0] 22)).alloc (.cells #[.pointer p, .int .i64 k] 28)) = WW := ⟨_, rfl⟩
  have hB0 : Below w.heap.size w WW := by rw [← hWW]; exact ((((((Below.refl _ w).alloc (by simp) _).alloc (by simp) _).alloc (by simp; omega) _).alloc (by simp; omega) _).alloc (by simp; omega) _)
  have hz : WW.heap.size = w.heap.size + 5 := by rw [← hWW]; simp
  have x1 : WW.heap[w.heap.size + 1]? = some (.cells #[.func (.func f) #[] lb] 53 (0, 0)) := by
    rw [← hWW]
    refine (Below.heap_alloc _ _ _ (by simp; try omega)).trans ((Below.heap_alloc _ _ _ (by simp; try omega)).trans ((Below.heap_alloc _ _ _ (by simp; try omega)).trans (?_)))
    have := heap_alloc_new (w.alloc (.cells #[.pointer p, .int .i64 k] 28)) (.cells #[.func (.func f) #[] lb] 53)
    rwa [World.size_alloc] at this
  have x2 : WW.heap[w.heap.size + 1 + 1]? = some (.cells #[.pointer none, .int .i64 0] 28 (0, 0)) := by
    rw [← hWW]
    refine (Below.heap_alloc _ _ _ (by simp; try omega)).trans ((Below.heap_alloc _ _ _ (by simp; try omega)).trans (?_))
    have := heap_alloc_new ((w.alloc (.cells #[.pointer p, .int .i64 k] 28)).alloc (.cells #[.func (.func f) #[] lb] 53)) (.cells #[.pointer none, .int .i64 0] 28)
    rwa [World.size_alloc, World.size_alloc] at this
  have x3 : WW.heap[w.heap.size + 1 + 1 + 1]? = some (.cells #[.slice none 0 0] 22 (0, 0)) := by
    rw [← hWW]
    refine (Below.heap_alloc _ _ _ (by simp; try omega)).trans (?_)
    have := heap_alloc_new (((w.alloc (.cells #[.pointer p, .int .i64 k] 28)).alloc (.cells #[.func (.func f) #[] lb] 53)).alloc (.cells #[.pointer none, .int .i64 0] 28)) (.cells #[.slice none 0 0] 22)
    rwa [World.size_alloc, World.size_alloc, World.size_alloc] at this
  have x4 : WW.heap[w.heap.size + 1 + 1 + 1 + 1]? = some (.cells #[.pointer p, .int .i64 k] 28 (0, 0)) := by
    rw [← hWW]
    have := heap_alloc_new ((((w.alloc (.cells #[.pointer p, .int .i64 k] 28)).alloc (.cells #[.func (.func f) #[] lb] 53)).alloc (.cells #[.pointer none, .int .i64 0] 28)).alloc (.cells #[.slice none 0 0] 22)) (.cells #[.pointer p, .int .i64 k] 28)
    rwa [World.size_alloc, World.size_alloc, World.size_alloc, World.size_alloc] at this
  rw [hWW]
  clear hWW
  refine wpIn_rangeFunc_ownG rfl (by decide) (gf := 37) (lb := #[.pointer (some ⟨w.heap.size + 1 + 1 + 1 + 1, 0, none⟩)]) rfl trivial (enters_of Try.func37 (by kernel_rfl) rfl)
    (all_stops Fence.wide (5 - 1) trivial rfl (by decide) (w.heap.size + 1 + 1 + 1 + 1) p k xs w WW h (.of_below hB0) x4) KeepW.trans (fun W l o o' _ h1 h2 _ => keepW_b W l o o' h1 h2) (Below.refl _ _) (fun _ => rfl)
    (fun pre W => ((∃ v, Boxed W (w.heap.size + 1 + 1 + 1) 22 v ∧ W.ownsRow w.heap.size 3 1 v pre.length ((pre.map g).map (Value.int .i64)) ∧ True) ∧ W.heap[w.heap.size + 1]? = some (.cells #[.func (.func f) #[] lb] 53 (0, 0)) ∧ W.heap[w.heap.size + 1 + 1]? = some (.cells #[.pointer none, .int .i64 0] 28 (0, 0))) ∧ Below w.heap.size w W)
    (fun _ _ _ => False)
    (OwnFrom.and (Own.from (fun s A B row hs hg hr => ⟨holdsRow_own w.heap.size (w.heap.size + 1 + 1 + 1) 22 3 1 (fun pre => pre.length) (fun pre : List Int => (pre.map g).map (Value.int .i64)) (fun _ _ => True) s A B row hs.1 hg hr, (grownBy_keeps_cells hg hr hs.2.1 rfl).trans hs.2.1, (grownBy_keeps_cells hg hr hs.2.2 rfl).trans hs.2.2⟩) _) (ownFrom_below (Nat.le_refl _) (by omega)))
    (fun _ _ _ _ _ hs _ _ => hs)
    ⟨⟨⟨_, x3, World.ownsRow_nil _ _ _ _, trivial⟩, x1, x2⟩, hB0⟩
    (fun x => { tmps := #[.agg #[.pointer p, .int .i64 k], .func (.func f) #[] lb, .pointer (some ⟨w.heap.size, 0, none⟩), .pointer (some ⟨w.heap.size + 1, 0, none⟩), .pointer (some ⟨w.heap.size + 1 + 1, 0, none⟩), .pointer (some ⟨w.heap.size + 1 + 1 + 1, 0, none⟩), .int .i64 x, .agg #[.pointer p, .int .i64 k], (.func (.func 37) #[] #[.pointer (some ⟨w.heap.size + 1 + 1 + 1 + 1, 0, none⟩)]), .int .i64 x, undef, undef, undef, undef, undef, undef, undef, undef], defers := [] }) ?assign ?body ?done ?stop
  case assign =>
    intro l x W K hK
    gi_wp2
    exact hK
  case body =>
    rintro l pre x W ⟨⟨⟨v, hv, hrow, _⟩, h1, h2⟩, hB⟩ hlt
    have hc := hv.cell
    have X := Lib.hid (⟨h1, h2⟩ : _ ∧ _)
    obtain ⟨d0, d1, d2⟩ := blk h1
    have e1 := d0 0
    have hsz1 := hB.size
    have hn : 1 ≤ 5 - 1 - 1 := by decide
    have TF : Fence.wide.fn f := trivial
    have hf := Lib.hid hf
    clear h1 h2 d0
    have hpl : (pre.map g).length = pre.length := List.length_map _
    have hmx : Try.prog.follows .mixedOrders = true := by kernel_rfl
    gi_wp2
    refine wpIn_region_any (by assumption) ?_
    (try (change wpAnyIn _ _ _ _ _ _ _ _ _ (World.drew _)))
    refine wpAnyIn_ready (rs := [0, 1, 2]) (by kernel_rfl) (by simp) ?_
    refine AllReadyIn.cons rfl (fun K hK => ?_) ?_
    · go_simp
      refine hK _ _ ?_
      clear hK K
      refine wpAnyIn_ready (rs := [1, 2]) (by kernel_rfl) (by simp) ?_
      refine AllReadyIn.cons rfl (fun K hK => ?_) ?_
      · go_simp
        refine hK _ _ ?_
        clear hK K
        refine wpAnyIn_ready (rs := [2]) (by kernel_rfl) (by simp) ?_
        refine AllReadyIn.cons rfl (fun K hK => ?_) ?_
        · go_simp
          refine hK _ _ ?_
          clear hK K
          refine wpAnyIn_ready (rs := [3]) (by kernel_rfl) (by simp) ?_
          refine AllReadyIn.cons rfl (fun K hK => ?_) ?_
          · go_simp
            gi_wp2_with ((gi_at_fn f; refine (CallsIn.inRound l (callsIn_wide.2 (hf.out x _ (by first | exact hB | exact hB.drew)))).mono ?_; rintro e w2 ⟨rfl, hb2⟩; replace hb2 : Below W.heap.size W w2 := (by first | exact hb2 | exact ((Below.refl W.heap.size W).drew).trans hb2); have hvv : Boxed w2 (w.heap.size + 1 + 1 + 1) 22 v := blk_below hv hb2; have hc2 := hvv.cell; have hc3 := fun o => (hvv.alloc o).cell; have hrow2 := own_keep hrow (.of_below hb2); have hsz2 := hb2.size; have hY1 := blk_below X.out.1 hb2; have hY2 := blk_below X.out.2 hb2; have HY := Lib.hid (⟨hY1, hY2⟩ : _ ∧ _); clear hY1 hY2))
            (try (refine hK _ _ ?_; clear hK K))
            refine wpAnyIn_ready (rs := [4]) (by kernel_rfl) (by simp) ?_
            refine AllReadyIn.cons rfl (fun K hK => ?_) ?_
            · go_simp
              refine hK _ _ ?_
              clear hK K
              refine wpAnyIn_ready (rs := [5]) (by kernel_rfl) (by simp) ?_
              refine AllReadyIn.cons rfl (fun K hK => ?_) ?_
              · refine stepIn_append_own _ rfl _ _ 22 rfl w.heap.size 3 i0 (.int .i64 0) 1 8 Try.underlying22 hi hz0 hz1 hz2 rfl (by decide) _ _ _ rfl (hrow2.alloc _) ⟨w2.heap.size, 0, none⟩ 1 1 [.int .i64 (g x)] rfl rfl (cell_one_new _ _ _) (by simp [Value.oneCell']) (by unfold maxLen; omega) (by omega) (by simp; omega) ?_
                intro v' w1 hown' hgrow _
                obtain ⟨g', cap', rfl⟩ := ownsRow_succ hown'
                obtain ⟨hv1, hv2, hr2, hk2, hb3⟩ := hvv.appended (by decide) hrow2 (by omega) (by omega) hown' hgrow
                have hc1 := hv1.cell
                have hf1 := hv1.frozen
                refine hK _ _ ?_
                clear hK K
                simp only [Act.put, List.setIfInBounds_toArray]
                refine wpAnyIn_ready (rs := [6]) (by kernel_rfl) (by simp) ?_
                refine AllReadyIn.cons rfl (fun K hK => ?_) ?_
                · go_simp
                  refine hK _ _ ?_
                  clear hK K
                  refine wpAnyIn_done (by kernel_rfl) ?_ _
                  have kT : ∀ T, 3 ≠ T → 22 ≠ T → KeepT T w2 (w1.setCell ⟨w.heap.size + 1 + 1 + 1, 0, none⟩ (.slice (some ⟨g', 0, none⟩) (pre.length + 1) cap')) := fun T h1 h2 => (((KeepT.refl _ _).alloc _).trans (.of_grown (hrow2.alloc _) hgrow h1)).trans (.setCell hv1 h2)
                  exact ⟨((ko_below hb2).trans hk2).from _, KeepW.trans (.of_below (hb2.mono hB.size)) (.of_below hb3), ⟨⟨_, hv2, by simpa using hr2, trivial⟩, kT _ (by decide) (by decide) _ _ HY.out.1, kT _ (by decide) (by decide) _ _ HY.out.2⟩, (hB.trans (hb2.mono hB.size)).trans hb3⟩
                exact AllReadyIn.nil
              exact AllReadyIn.nil
            exact AllReadyIn.nil
          exact AllReadyIn.nil
        exact AllReadyIn.nil
      refine AllReadyIn.cons rfl (fun K hK => ?_) ?_
      · go_simp
        refine hK _ _ ?_
        clear hK K
        refine wpAnyIn_ready (rs := [1]) (by kernel_rfl) (by simp) ?_
        refine AllReadyIn.cons rfl (fun K hK => ?_) ?_
        · go_simp
          refine hK _ _ ?_
          clear hK K
          refine wpAnyIn_ready (rs := [3]) (by kernel_rfl) (by simp) ?_
          refine AllReadyIn.cons rfl (fun K hK => ?_) ?_
          · go_simp
            gi_wp2_with ((gi_at_fn f; refine (CallsIn.inRound l (callsIn_wide.2 (hf.out x _ (by first | exact hB | exact hB.drew)))).mono ?_; rintro e w2 ⟨rfl, hb2⟩; replace hb2 : Below W.heap.size W w2 := (by first | exact hb2 | exact ((Below.refl W.heap.size W).drew).trans hb2); have hvv : Boxed w2 (w.heap.size + 1 + 1 + 1) 22 v := blk_below hv hb2; have hc2 := hvv.cell; have hc3 := fun o => (hvv.alloc o).cell; have hrow2 := own_keep hrow (.of_below hb2); have hsz2 := hb2.size; have hY1 := blk_below X.out.1 hb2; have hY2 := blk_below X.out.2 hb2; have HY := Lib.hid (⟨hY1, hY2⟩ : _ ∧ _); clear hY1 hY2))
            (try (refine hK _ _ ?_; clear hK K))
            refine wpAnyIn_ready (rs := [4]) (by kernel_rfl) (by simp) ?_
            refine AllReadyIn.cons rfl (fun K hK => ?_) ?_
            · go_simp
              refine hK _ _ ?_
              clear hK K
              refine wpAnyIn_ready (rs := [5]) (by kernel_rfl) (by simp) ?_
              refine AllReadyIn.cons rfl (fun K hK => ?_) ?_
              · refine stepIn_append_own _ rfl _ _ 22 rfl w.heap.size 3 i0 (.int .i64 0) 1 8 Try.underlying22 hi hz0 hz1 hz2 rfl (by decide) _ _ _ rfl (hrow2.alloc _) ⟨w2.heap.size, 0, none⟩ 1 1 [.int .i64 (g x)] rfl rfl (cell_one_new _ _ _) (by simp [Value.oneCell']) (by unfold maxLen; omega) (by omega) (by simp; omega) ?_
                intro v' w1 hown' hgrow _
                obtain ⟨g', cap', rfl⟩ := ownsRow_succ hown'
                obtain ⟨hv1, hv2, hr2, hk2, hb3⟩ := hvv.appended (by decide) hrow2 (by omega) (by omega) hown' hgrow
                have hc1 := hv1.cell
                have hf1 := hv1.frozen
                refine hK _ _ ?_
                clear hK K
                simp only [Act.put, List.setIfInBounds_toArray]
                refine wpAnyIn_ready (rs := [6]) (by kernel_rfl) (by simp) ?_
                refine AllReadyIn.cons rfl (fun K hK => ?_) ?_
                · go_simp
                  refine hK _ _ ?_
                  clear hK K
                  refine wpAnyIn_done (by kernel_rfl) ?_ _
                  have kT : ∀ T, 3 ≠ T → 22 ≠ T → KeepT T w2 (w1.setCell ⟨w.heap.size + 1 + 1 + 1, 0, none⟩ (.slice (some ⟨g', 0, none⟩) (pre.length + 1) cap')) := fun T h1 h2 => (((KeepT.refl _ _).alloc _).trans (.of_grown (hrow2.alloc _) hgrow h1)).trans (.setCell hv1 h2)
                  exact ⟨((ko_below hb2).trans hk2).from _, KeepW.trans (.of_below (hb2.mono hB.size)) (.of_below hb3), ⟨⟨_, hv2, by simpa using hr2, trivial⟩, kT _ (by decide) (by decide) _ _ HY.out.1, kT _ (by decide) (by decide) _ _ HY.out.2⟩, (hB.trans (hb2.mono hB.size)).trans hb3⟩
                exact AllReadyIn.nil
              exact AllReadyIn.nil
            exact AllReadyIn.nil
          exact AllReadyIn.nil
        exact AllReadyIn.nil
      exact AllReadyIn.nil
    refine AllReadyIn.cons rfl (fun K hK => ?_) ?_
    · go_simp
      refine hK _ _ ?_
      clear hK K
      refine wpAnyIn_ready (rs := [0, 2]) (by kernel_rfl) (by simp) ?_
      refine AllReadyIn.cons rfl (fun K hK => ?_) ?_
      · go_simp
        refine hK _ _ ?_
        clear hK K
        refine wpAnyIn_ready (rs := [2]) (by kernel_rfl) (by simp) ?_
        refine AllReadyIn.cons rfl (fun K hK => ?_) ?_
        · go_simp
          refine hK _ _ ?_
          clear hK K
          refine wpAnyIn_ready (rs := [3]) (by kernel_rfl) (by simp) ?_
          refine AllReadyIn.cons rfl (fun K hK => ?_) ?_
          · go_simp
            gi_wp2_with ((gi_at_fn f; refine (CallsIn.inRound l (callsIn_wide.2 (hf.out x _ (by first | exact hB | exact hB.drew)))).mono ?_; rintro e w2 ⟨rfl, hb2⟩; replace hb2 : Below W.heap.size W w2 := (by first | exact hb2 | exact ((Below.refl W.heap.size W).drew).trans hb2); have hvv : Boxed w2 (w.heap.size + 1 + 1 + 1) 22 v := blk_below hv hb2; have hc2 := hvv.cell; have hc3 := fun o => (hvv.alloc o).cell; have hrow2 := own_keep hrow (.of_below hb2); have hsz2 := hb2.size; have hY1 := blk_below X.out.1 hb2; have hY2 := blk_below X.out.2 hb2; have HY := Lib.hid (⟨hY1, hY2⟩ : _ ∧ _); clear hY1 hY2))
            (try (refine hK _ _ ?_; clear hK K))
            refine wpAnyIn_ready (rs := [4]) (by kernel_rfl) (by simp) ?_
            refine AllReadyIn.cons rfl (fun K hK => ?_) ?_
            · go_simp
              refine hK _ _ ?_
              clear hK K
              refine wpAnyIn_ready (rs := [5]) (by kernel_rfl) (by simp) ?_
              refine AllReadyIn.cons rfl (fun K hK => ?_) ?_
              · refine stepIn_append_own _ rfl _ _ 22 rfl w.heap.size 3 i0 (.int .i64 0) 1 8 Try.underlying22 hi hz0 hz1 hz2 rfl (by decide) _ _ _ rfl (hrow2.alloc _) ⟨w2.heap.size, 0, none⟩ 1 1 [.int .i64 (g x)] rfl rfl (cell_one_new _ _ _) (by simp [Value.oneCell']) (by unfold maxLen; omega) (by omega) (by simp; omega) ?_
                intro v' w1 hown' hgrow _
                obtain ⟨g', cap', rfl⟩ := ownsRow_succ hown'
                obtain ⟨hv1, hv2, hr2, hk2, hb3⟩ := hvv.appended (by decide) hrow2 (by omega) (by omega) hown' hgrow
                have hc1 := hv1.cell
                have hf1 := hv1.frozen
                refine hK _ _ ?_
                clear hK K
                simp only [Act.put, List.setIfInBounds_toArray]
                refine wpAnyIn_ready (rs := [6]) (by kernel_rfl) (by simp) ?_
                refine AllReadyIn.cons rfl (fun K hK => ?_) ?_
                · go_simp
                  refine hK _ _ ?_
                  clear hK K
                  refine wpAnyIn_done (by kernel_rfl) ?_ _
                  have kT : ∀ T, 3 ≠ T → 22 ≠ T → KeepT T w2 (w1.setCell ⟨w.heap.size + 1 + 1 + 1, 0, none⟩ (.slice (some ⟨g', 0, none⟩) (pre.length + 1) cap')) := fun T h1 h2 => (((KeepT.refl _ _).alloc _).trans (.of_grown (hrow2.alloc _) hgrow h1)).trans (.setCell hv1 h2)
                  exact ⟨((ko_below hb2).trans hk2).from _, KeepW.trans (.of_below (hb2.mono hB.size)) (.of_below hb3), ⟨⟨_, hv2, by simpa using hr2, trivial⟩, kT _ (by decide) (by decide) _ _ HY.out.1, kT _ (by decide) (by decide) _ _ HY.out.2⟩, (hB.trans (hb2.mono hB.size)).trans hb3⟩
                exact AllReadyIn.nil
              exact AllReadyIn.nil
            exact AllReadyIn.nil
          exact AllReadyIn.nil
        exact AllReadyIn.nil
      refine AllReadyIn.cons rfl (fun K hK => ?_) ?_
      · go_simp
        refine hK _ _ ?_
        clear hK K
        refine wpAnyIn_ready (rs := [0, 3]) (by kernel_rfl) (by simp) ?_
        refine AllReadyIn.cons rfl (fun K hK => ?_) ?_
        · go_simp
          refine hK _ _ ?_
          clear hK K
          refine wpAnyIn_ready (rs := [3]) (by kernel_rfl) (by simp) ?_
          refine AllReadyIn.cons rfl (fun K hK => ?_) ?_
          · go_simp
            gi_wp2_with ((gi_at_fn f; refine (CallsIn.inRound l (callsIn_wide.2 (hf.out x _ (by first | exact hB | exact hB.drew)))).mono ?_; rintro e w2 ⟨rfl, hb2⟩; replace hb2 : Below W.heap.size W w2 := (by first | exact hb2 | exact ((Below.refl W.heap.size W).drew).trans hb2); have hvv : Boxed w2 (w.heap.size + 1 + 1 + 1) 22 v := blk_below hv hb2; have hc2 := hvv.cell; have hc3 := fun o => (hvv.alloc o).cell; have hrow2 := own_keep hrow (.of_below hb2); have hsz2 := hb2.size; have hY1 := blk_below X.out.1 hb2; have hY2 := blk_below X.out.2 hb2; have HY := Lib.hid (⟨hY1, hY2⟩ : _ ∧ _); clear hY1 hY2))
            (try (refine hK _ _ ?_; clear hK K))
            refine wpAnyIn_ready (rs := [4]) (by kernel_rfl) (by simp) ?_
            refine AllReadyIn.cons rfl (fun K hK => ?_) ?_
            · go_simp
              refine hK _ _ ?_
              clear hK K
              refine wpAnyIn_ready (rs := [5]) (by kernel_rfl) (by simp) ?_
              refine AllReadyIn.cons rfl (fun K hK => ?_) ?_
              · refine stepIn_append_own _ rfl _ _ 22 rfl w.heap.size 3 i0 (.int .i64 0) 1 8 Try.underlying22 hi hz0 hz1 hz2 rfl (by decide) _ _ _ rfl (hrow2.alloc _) ⟨w2.heap.size, 0, none⟩ 1 1 [.int .i64 (g x)] rfl rfl (cell_one_new _ _ _) (by simp [Value.oneCell']) (by unfold maxLen; omega) (by omega) (by simp; omega) ?_
                intro v' w1 hown' hgrow _
                obtain ⟨g', cap', rfl⟩ := ownsRow_succ hown'
                obtain ⟨hv1, hv2, hr2, hk2, hb3⟩ := hvv.appended (by decide) hrow2 (by omega) (by omega) hown' hgrow
                have hc1 := hv1.cell
                have hf1 := hv1.frozen
                refine hK _ _ ?_
                clear hK K
                simp only [Act.put, List.setIfInBounds_toArray]
                refine wpAnyIn_ready (rs := [6]) (by kernel_rfl) (by simp) ?_
                refine AllReadyIn.cons rfl (fun K hK => ?_) ?_
                · go_simp
                  refine hK _ _ ?_
                  clear hK K
                  refine wpAnyIn_done (by kernel_rfl) ?_ _
                  have kT : ∀ T, 3 ≠ T → 22 ≠ T → KeepT T w2 (w1.setCell ⟨w.heap.size + 1 + 1 + 1, 0, none⟩ (.slice (some ⟨g', 0, none⟩) (pre.length + 1) cap')) := fun T h1 h2 => (((KeepT.refl _ _).alloc _).trans (.of_grown (hrow2.alloc _) hgrow h1)).trans (.setCell hv1 h2)
                  exact ⟨((ko_below hb2).trans hk2).from _, KeepW.trans (.of_below (hb2.mono hB.size)) (.of_below hb3), ⟨⟨_, hv2, by simpa using hr2, trivial⟩, kT _ (by decide) (by decide) _ _ HY.out.1, kT _ (by decide) (by decide) _ _ HY.out.2⟩, (hB.trans (hb2.mono hB.size)).trans hb3⟩
                exact AllReadyIn.nil
              exact AllReadyIn.nil
            exact AllReadyIn.nil
          exact AllReadyIn.nil
        refine AllReadyIn.cons rfl (fun K hK => ?_) ?_
        · go_simp
          gi_wp2_with ((gi_at_fn f; refine (CallsIn.inRound l (callsIn_wide.2 (hf.out x _ (by first | exact hB | exact hB.drew)))).mono ?_; rintro e w2 ⟨rfl, hb2⟩; replace hb2 : Below W.heap.size W w2 := (by first | exact hb2 | exact ((Below.refl W.heap.size W).drew).trans hb2); have hvv : Boxed w2 (w.heap.size + 1 + 1 + 1) 22 v := blk_below hv hb2; have hc2 := hvv.cell; have hc3 := fun o => (hvv.alloc o).cell; have hrow2 := own_keep hrow (.of_below hb2); have hsz2 := hb2.size; have hY1 := blk_below X.out.1 hb2; have hY2 := blk_below X.out.2 hb2; have HY := Lib.hid (⟨hY1, hY2⟩ : _ ∧ _); clear hY1 hY2))
          (try (refine hK _ _ ?_; clear hK K))
          refine wpAnyIn_ready (rs := [0, 4]) (by kernel_rfl) (by simp) ?_
          refine AllReadyIn.cons rfl (fun K hK => ?_) ?_
          · go_simp
            refine hK _ _ ?_
            clear hK K
            refine wpAnyIn_ready (rs := [4]) (by kernel_rfl) (by simp) ?_
            refine AllReadyIn.cons rfl (fun K hK => ?_) ?_
            · go_simp
              refine hK _ _ ?_
              clear hK K
              refine wpAnyIn_ready (rs := [5]) (by kernel_rfl) (by simp) ?_
              refine AllReadyIn.cons rfl (fun K hK => ?_) ?_
              · refine stepIn_append_own _ rfl _ _ 22 rfl w.heap.size 3 i0 (.int .i64 0) 1 8 Try.underlying22 hi hz0 hz1 hz2 rfl (by decide) _ _ _ rfl (hrow2.alloc _) ⟨w2.heap.size, 0, none⟩ 1 1 [.int .i64 (g x)] rfl rfl (cell_one_new _ _ _) (by simp [Value.oneCell']) (by unfold maxLen; omega) (by omega) (by simp; omega) ?_
                intro v' w1 hown' hgrow _
                obtain ⟨g', cap', rfl⟩ := ownsRow_succ hown'
                obtain ⟨hv1, hv2, hr2, hk2, hb3⟩ := hvv.appended (by decide) hrow2 (by omega) (by omega) hown' hgrow
                have hc1 := hv1.cell
                have hf1 := hv1.frozen
                refine hK _ _ ?_
                clear hK K
                simp only [Act.put, List.setIfInBounds_toArray]
                refine wpAnyIn_ready (rs := [6]) (by kernel_rfl) (by simp) ?_
                refine AllReadyIn.cons rfl (fun K hK => ?_) ?_
                · go_simp
                  refine hK _ _ ?_
                  clear hK K
                  refine wpAnyIn_done (by kernel_rfl) ?_ _
                  have kT : ∀ T, 3 ≠ T → 22 ≠ T → KeepT T w2 (w1.setCell ⟨w.heap.size + 1 + 1 + 1, 0, none⟩ (.slice (some ⟨g', 0, none⟩) (pre.length + 1) cap')) := fun T h1 h2 => (((KeepT.refl _ _).alloc _).trans (.of_grown (hrow2.alloc _) hgrow h1)).trans (.setCell hv1 h2)
                  exact ⟨((ko_below hb2).trans hk2).from _, KeepW.trans (.of_below (hb2.mono hB.size)) (.of_below hb3), ⟨⟨_, hv2, by simpa using hr2, trivial⟩, kT _ (by decide) (by decide) _ _ HY.out.1, kT _ (by decide) (by decide) _ _ HY.out.2⟩, (hB.trans (hb2.mono hB.size)).trans hb3⟩
                exact AllReadyIn.nil
              exact AllReadyIn.nil
            exact AllReadyIn.nil
          refine AllReadyIn.cons rfl (fun K hK => ?_) ?_
          · go_simp
            refine hK _ _ ?_
            clear hK K
            refine wpAnyIn_ready (rs := [0]) (by kernel_rfl) (by simp) ?_
            refine AllReadyIn.cons rfl (fun K hK => ?_) ?_
            · go_simp
              refine hK _ _ ?_
              clear hK K
              refine wpAnyIn_ready (rs := [5]) (by kernel_rfl) (by simp) ?_
              refine AllReadyIn.cons rfl (fun K hK => ?_) ?_
              · refine stepIn_append_own _ rfl _ _ 22 rfl w.heap.size 3 i0 (.int .i64 0) 1 8 Try.underlying22 hi hz0 hz1 hz2 rfl (by decide) _ _ _ rfl (hrow2.alloc _) ⟨w2.heap.size, 0, none⟩ 1 1 [.int .i64 (g x)] rfl rfl (cell_one_new _ _ _) (by simp [Value.oneCell']) (by unfold maxLen; omega) (by omega) (by simp; omega) ?_
                intro v' w1 hown' hgrow _
                obtain ⟨g', cap', rfl⟩ := ownsRow_succ hown'
                obtain ⟨hv1, hv2, hr2, hk2, hb3⟩ := hvv.appended (by decide) hrow2 (by omega) (by omega) hown' hgrow
                have hc1 := hv1.cell
                have hf1 := hv1.frozen
                refine hK _ _ ?_
                clear hK K
                simp only [Act.put, List.setIfInBounds_toArray]
                refine wpAnyIn_ready (rs := [6]) (by kernel_rfl) (by simp) ?_
                refine AllReadyIn.cons rfl (fun K hK => ?_) ?_
                · go_simp
                  refine hK _ _ ?_
                  clear hK K
                  refine wpAnyIn_done (by kernel_rfl) ?_ _
                  have kT : ∀ T, 3 ≠ T → 22 ≠ T → KeepT T w2 (w1.setCell ⟨w.heap.size + 1 + 1 + 1, 0, none⟩ (.slice (some ⟨g', 0, none⟩) (pre.length + 1) cap')) := fun T h1 h2 => (((KeepT.refl _ _).alloc _).trans (.of_grown (hrow2.alloc _) hgrow h1)).trans (.setCell hv1 h2)
                  exact ⟨((ko_below hb2).trans hk2).from _, KeepW.trans (.of_below (hb2.mono hB.size)) (.of_below hb3), ⟨⟨_, hv2, by simpa using hr2, trivial⟩, kT _ (by decide) (by decide) _ _ HY.out.1, kT _ (by decide) (by decide) _ _ HY.out.2⟩, (hB.trans (hb2.mono hB.size)).trans hb3⟩
                exact AllReadyIn.nil
              exact AllReadyIn.nil
            exact AllReadyIn.nil
          exact AllReadyIn.nil
        exact AllReadyIn.nil
      exact AllReadyIn.nil
    refine AllReadyIn.cons rfl (fun K hK => ?_) ?_
    · go_simp
      refine hK _ _ ?_
      clear hK K
      refine wpAnyIn_ready (rs := [0, 1]) (by kernel_rfl) (by simp) ?_
      refine AllReadyIn.cons rfl (fun K hK => ?_) ?_
      · go_simp
        refine hK _ _ ?_
        clear hK K
        refine wpAnyIn_ready (rs := [1]) (by kernel_rfl) (by simp) ?_
        refine AllReadyIn.cons rfl (fun K hK => ?_) ?_
        · go_simp
          refine hK _ _ ?_
          clear hK K
          refine wpAnyIn_ready (rs := [3]) (by kernel_rfl) (by simp) ?_
          refine AllReadyIn.cons rfl (fun K hK => ?_) ?_
          · go_simp
            gi_wp2_with ((gi_at_fn f; refine (CallsIn.inRound l (callsIn_wide.2 (hf.out x _ (by first | exact hB | exact hB.drew)))).mono ?_; rintro e w2 ⟨rfl, hb2⟩; replace hb2 : Below W.heap.size W w2 := (by first | exact hb2 | exact ((Below.refl W.heap.size W).drew).trans hb2); have hvv : Boxed w2 (w.heap.size + 1 + 1 + 1) 22 v := blk_below hv hb2; have hc2 := hvv.cell; have hc3 := fun o => (hvv.alloc o).cell; have hrow2 := own_keep hrow (.of_below hb2); have hsz2 := hb2.size; have hY1 := blk_below X.out.1 hb2; have hY2 := blk_below X.out.2 hb2; have HY := Lib.hid (⟨hY1, hY2⟩ : _ ∧ _); clear hY1 hY2))
            (try (refine hK _ _ ?_; clear hK K))
            refine wpAnyIn_ready (rs := [4]) (by kernel_rfl) (by simp) ?_
            refine AllReadyIn.cons rfl (fun K hK => ?_) ?_
            · go_simp
              refine hK _ _ ?_
              clear hK K
              refine wpAnyIn_ready (rs := [5]) (by kernel_rfl) (by simp) ?_
              refine AllReadyIn.cons rfl (fun K hK => ?_) ?_
              · refine stepIn_append_own _ rfl _ _ 22 rfl w.heap.size 3 i0 (.int .i64 0) 1 8 Try.underlying22 hi hz0 hz1 hz2 rfl (by decide) _ _ _ rfl (hrow2.alloc _) ⟨w2.heap.size, 0, none⟩ 1 1 [.int .i64 (g x)] rfl rfl (cell_one_new _ _ _) (by simp [Value.oneCell']) (by unfold maxLen; omega) (by omega) (by simp; omega) ?_
                intro v' w1 hown' hgrow _
                obtain ⟨g', cap', rfl⟩ := ownsRow_succ hown'
                obtain ⟨hv1, hv2, hr2, hk2, hb3⟩ := hvv.appended (by decide) hrow2 (by omega) (by omega) hown' hgrow
                have hc1 := hv1.cell
                have hf1 := hv1.frozen
                refine hK _ _ ?_
                clear hK K
                simp only [Act.put, List.setIfInBounds_toArray]
                refine wpAnyIn_ready (rs := [6]) (by kernel_rfl) (by simp) ?_
                refine AllReadyIn.cons rfl (fun K hK => ?_) ?_
                · go_simp
                  refine hK _ _ ?_
                  clear hK K
                  refine wpAnyIn_done (by kernel_rfl) ?_ _
                  have kT : ∀ T, 3 ≠ T → 22 ≠ T → KeepT T w2 (w1.setCell ⟨w.heap.size + 1 + 1 + 1, 0, none⟩ (.slice (some ⟨g', 0, none⟩) (pre.length + 1) cap')) := fun T h1 h2 => (((KeepT.refl _ _).alloc _).trans (.of_grown (hrow2.alloc _) hgrow h1)).trans (.setCell hv1 h2)
                  exact ⟨((ko_below hb2).trans hk2).from _, KeepW.trans (.of_below (hb2.mono hB.size)) (.of_below hb3), ⟨⟨_, hv2, by simpa using hr2, trivial⟩, kT _ (by decide) (by decide) _ _ HY.out.1, kT _ (by decide) (by decide) _ _ HY.out.2⟩, (hB.trans (hb2.mono hB.size)).trans hb3⟩
                exact AllReadyIn.nil
              exact AllReadyIn.nil
            exact AllReadyIn.nil
          exact AllReadyIn.nil
        exact AllReadyIn.nil
      refine AllReadyIn.cons rfl (fun K hK => ?_) ?_
      · go_simp
        refine hK _ _ ?_
        clear hK K
        refine wpAnyIn_ready (rs := [0, 3]) (by kernel_rfl) (by simp) ?_
        refine AllReadyIn.cons rfl (fun K hK => ?_) ?_
        · go_simp
          refine hK _ _ ?_
          clear hK K
          refine wpAnyIn_ready (rs := [3]) (by kernel_rfl) (by simp) ?_
          refine AllReadyIn.cons rfl (fun K hK => ?_) ?_
          · go_simp
            gi_wp2_with ((gi_at_fn f; refine (CallsIn.inRound l (callsIn_wide.2 (hf.out x _ (by first | exact hB | exact hB.drew)))).mono ?_; rintro e w2 ⟨rfl, hb2⟩; replace hb2 : Below W.heap.size W w2 := (by first | exact hb2 | exact ((Below.refl W.heap.size W).drew).trans hb2); have hvv : Boxed w2 (w.heap.size + 1 + 1 + 1) 22 v := blk_below hv hb2; have hc2 := hvv.cell; have hc3 := fun o => (hvv.alloc o).cell; have hrow2 := own_keep hrow (.of_below hb2); have hsz2 := hb2.size; have hY1 := blk_below X.out.1 hb2; have hY2 := blk_below X.out.2 hb2; have HY := Lib.hid (⟨hY1, hY2⟩ : _ ∧ _); clear hY1 hY2))
            (try (refine hK _ _ ?_; clear hK K))
            refine wpAnyIn_ready (rs := [4]) (by kernel_rfl) (by simp) ?_
            refine AllReadyIn.cons rfl (fun K hK => ?_) ?_
            · go_simp
              refine hK _ _ ?_
              clear hK K
              refine wpAnyIn_ready (rs := [5]) (by kernel_rfl) (by simp) ?_
              refine AllReadyIn.cons rfl (fun K hK => ?_) ?_
              · refine stepIn_append_own _ rfl _ _ 22 rfl w.heap.size 3 i0 (.int .i64 0) 1 8 Try.underlying22 hi hz0 hz1 hz2 rfl (by decide) _ _ _ rfl (hrow2.alloc _) ⟨w2.heap.size, 0, none⟩ 1 1 [.int .i64 (g x)] rfl rfl (cell_one_new _ _ _) (by simp [Value.oneCell']) (by unfold maxLen; omega) (by omega) (by simp; omega) ?_
                intro v' w1 hown' hgrow _
                obtain ⟨g', cap', rfl⟩ := ownsRow_succ hown'
                obtain ⟨hv1, hv2, hr2, hk2, hb3⟩ := hvv.appended (by decide) hrow2 (by omega) (by omega) hown' hgrow
                have hc1 := hv1.cell
                have hf1 := hv1.frozen
                refine hK _ _ ?_
                clear hK K
                simp only [Act.put, List.setIfInBounds_toArray]
                refine wpAnyIn_ready (rs := [6]) (by kernel_rfl) (by simp) ?_
                refine AllReadyIn.cons rfl (fun K hK => ?_) ?_
                · go_simp
                  refine hK _ _ ?_
                  clear hK K
                  refine wpAnyIn_done (by kernel_rfl) ?_ _
                  have kT : ∀ T, 3 ≠ T → 22 ≠ T → KeepT T w2 (w1.setCell ⟨w.heap.size + 1 + 1 + 1, 0, none⟩ (.slice (some ⟨g', 0, none⟩) (pre.length + 1) cap')) := fun T h1 h2 => (((KeepT.refl _ _).alloc _).trans (.of_grown (hrow2.alloc _) hgrow h1)).trans (.setCell hv1 h2)
                  exact ⟨((ko_below hb2).trans hk2).from _, KeepW.trans (.of_below (hb2.mono hB.size)) (.of_below hb3), ⟨⟨_, hv2, by simpa using hr2, trivial⟩, kT _ (by decide) (by decide) _ _ HY.out.1, kT _ (by decide) (by decide) _ _ HY.out.2⟩, (hB.trans (hb2.mono hB.size)).trans hb3⟩
                exact AllReadyIn.nil
              exact AllReadyIn.nil
            exact AllReadyIn.nil
          exact AllReadyIn.nil
        refine AllReadyIn.cons rfl (fun K hK => ?_) ?_
        · go_simp
          gi_wp2_with ((gi_at_fn f; refine (CallsIn.inRound l (callsIn_wide.2 (hf.out x _ (by first | exact hB | exact hB.drew)))).mono ?_; rintro e w2 ⟨rfl, hb2⟩; replace hb2 : Below W.heap.size W w2 := (by first | exact hb2 | exact ((Below.refl W.heap.size W).drew).trans hb2); have hvv : Boxed w2 (w.heap.size + 1 + 1 + 1) 22 v := blk_below hv hb2; have hc2 := hvv.cell; have hc3 := fun o => (hvv.alloc o).cell; have hrow2 := own_keep hrow (.of_below hb2); have hsz2 := hb2.size; have hY1 := blk_below X.out.1 hb2; have hY2 := blk_below X.out.2 hb2; have HY := Lib.hid (⟨hY1, hY2⟩ : _ ∧ _); clear hY1 hY2))
          (try (refine hK _ _ ?_; clear hK K))
          refine wpAnyIn_ready (rs := [0, 4]) (by kernel_rfl) (by simp) ?_
          refine AllReadyIn.cons rfl (fun K hK => ?_) ?_
          · go_simp
            refine hK _ _ ?_
            clear hK K
            refine wpAnyIn_ready (rs := [4]) (by kernel_rfl) (by simp) ?_
            refine AllReadyIn.cons rfl (fun K hK => ?_) ?_
            · go_simp
              refine hK _ _ ?_
              clear hK K
              refine wpAnyIn_ready (rs := [5]) (by kernel_rfl) (by simp) ?_
              refine AllReadyIn.cons rfl (fun K hK => ?_) ?_
              · refine stepIn_append_own _ rfl _ _ 22 rfl w.heap.size 3 i0 (.int .i64 0) 1 8 Try.underlying22 hi hz0 hz1 hz2 rfl (by decide) _ _ _ rfl (hrow2.alloc _) ⟨w2.heap.size, 0, none⟩ 1 1 [.int .i64 (g x)] rfl rfl (cell_one_new _ _ _) (by simp [Value.oneCell']) (by unfold maxLen; omega) (by omega) (by simp; omega) ?_
                intro v' w1 hown' hgrow _
                obtain ⟨g', cap', rfl⟩ := ownsRow_succ hown'
                obtain ⟨hv1, hv2, hr2, hk2, hb3⟩ := hvv.appended (by decide) hrow2 (by omega) (by omega) hown' hgrow
                have hc1 := hv1.cell
                have hf1 := hv1.frozen
                refine hK _ _ ?_
                clear hK K
                simp only [Act.put, List.setIfInBounds_toArray]
                refine wpAnyIn_ready (rs := [6]) (by kernel_rfl) (by simp) ?_
                refine AllReadyIn.cons rfl (fun K hK => ?_) ?_
                · go_simp
                  refine hK _ _ ?_
                  clear hK K
                  refine wpAnyIn_done (by kernel_rfl) ?_ _
                  have kT : ∀ T, 3 ≠ T → 22 ≠ T → KeepT T w2 (w1.setCell ⟨w.heap.size + 1 + 1 + 1, 0, none⟩ (.slice (some ⟨g', 0, none⟩) (pre.length + 1) cap')) := fun T h1 h2 => (((KeepT.refl _ _).alloc _).trans (.of_grown (hrow2.alloc _) hgrow h1)).trans (.setCell hv1 h2)
                  exact ⟨((ko_below hb2).trans hk2).from _, KeepW.trans (.of_below (hb2.mono hB.size)) (.of_below hb3), ⟨⟨_, hv2, by simpa using hr2, trivial⟩, kT _ (by decide) (by decide) _ _ HY.out.1, kT _ (by decide) (by decide) _ _ HY.out.2⟩, (hB.trans (hb2.mono hB.size)).trans hb3⟩
                exact AllReadyIn.nil
              exact AllReadyIn.nil
            exact AllReadyIn.nil
          refine AllReadyIn.cons rfl (fun K hK => ?_) ?_
          · go_simp
            refine hK _ _ ?_
            clear hK K
            refine wpAnyIn_ready (rs := [0]) (by kernel_rfl) (by simp) ?_
            refine AllReadyIn.cons rfl (fun K hK => ?_) ?_
            · go_simp
              refine hK _ _ ?_
              clear hK K
              refine wpAnyIn_ready (rs := [5]) (by kernel_rfl) (by simp) ?_
              refine AllReadyIn.cons rfl (fun K hK => ?_) ?_
              · refine stepIn_append_own _ rfl _ _ 22 rfl w.heap.size 3 i0 (.int .i64 0) 1 8 Try.underlying22 hi hz0 hz1 hz2 rfl (by decide) _ _ _ rfl (hrow2.alloc _) ⟨w2.heap.size, 0, none⟩ 1 1 [.int .i64 (g x)] rfl rfl (cell_one_new _ _ _) (by simp [Value.oneCell']) (by unfold maxLen; omega) (by omega) (by simp; omega) ?_
                intro v' w1 hown' hgrow _
                obtain ⟨g', cap', rfl⟩ := ownsRow_succ hown'
                obtain ⟨hv1, hv2, hr2, hk2, hb3⟩ := hvv.appended (by decide) hrow2 (by omega) (by omega) hown' hgrow
                have hc1 := hv1.cell
                have hf1 := hv1.frozen
                refine hK _ _ ?_
                clear hK K
                simp only [Act.put, List.setIfInBounds_toArray]
                refine wpAnyIn_ready (rs := [6]) (by kernel_rfl) (by simp) ?_
                refine AllReadyIn.cons rfl (fun K hK => ?_) ?_
                · go_simp
                  refine hK _ _ ?_
                  clear hK K
                  refine wpAnyIn_done (by kernel_rfl) ?_ _
                  have kT : ∀ T, 3 ≠ T → 22 ≠ T → KeepT T w2 (w1.setCell ⟨w.heap.size + 1 + 1 + 1, 0, none⟩ (.slice (some ⟨g', 0, none⟩) (pre.length + 1) cap')) := fun T h1 h2 => (((KeepT.refl _ _).alloc _).trans (.of_grown (hrow2.alloc _) hgrow h1)).trans (.setCell hv1 h2)
                  exact ⟨((ko_below hb2).trans hk2).from _, KeepW.trans (.of_below (hb2.mono hB.size)) (.of_below hb3), ⟨⟨_, hv2, by simpa using hr2, trivial⟩, kT _ (by decide) (by decide) _ _ HY.out.1, kT _ (by decide) (by decide) _ _ HY.out.2⟩, (hB.trans (hb2.mono hB.size)).trans hb3⟩
                exact AllReadyIn.nil
              exact AllReadyIn.nil
            exact AllReadyIn.nil
          exact AllReadyIn.nil
        exact AllReadyIn.nil
      exact AllReadyIn.nil
    exact AllReadyIn.nil
  case done =>
    rintro D ys W hD rfl ⟨⟨⟨v, hv, hrow, _⟩, h1, h2⟩, hB⟩ hK
    obtain ⟨c0, c1, c2⟩ := blk h2
    have hc := hv.cell
    obtain ⟨a', c', rfl, hsl⟩ := Sl.of_own hrow
    have hlen : ys.length ≤ 17592186044416 := by exact hs
    have OF := of_any a' _ c' (ys.map g) W hsl hlen
    have H2 := Lib.hid h2
    have HK := Lib.hid hK
    clear h1 h2 c0 hK
    have TO : Fence.wide.fn 12 := trivial
    have hn : 1 ≤ 5 := by decide
    gi_wp2_with (gi_at_call 12; refine (callsIn_wide.2 OF).mono ?_; rintro e w2 ⟨q0, rfl, hi2, hb2⟩; have h2 := blk_below H2.out hb2; obtain ⟨f0, f1, f2⟩ := blk h2; have G2 := Lib.hid h2; clear h2)
    have hKa : w2.heap[D]? = some (.deferred (some [])) := (hb2.block D (Array.getElem?_eq_some_iff.1 HK.out).1).trans HK.out
    have hK1 := (ko_set2 w2 ⟨w.heap.size + 1 + 1, 0, none⟩ ⟨w.heap.size + 1 + 1, 1, none⟩ (.pointer q0) (.int .i64 (ys.length : Int))).same D _ hKa rfl
    refine ⟨by simp, .inl ⟨_, _, rfl, run_takeDeferred (by simpa using hK1), ?_⟩⟩
    have y2 := blk_set (i := 1) (v := .int .i64 (ys.length : Int)) (blk_set (i := 0) (v := .pointer q0) G2.out)
    have y3 := (grownBy_keeps_cells (grownBy_putObj' _ D (.deferred none)) (fun r e => by cases e; exact ⟨_, hK1, rfl⟩) y2 rfl).trans y2
    obtain ⟨g0, g1, g2⟩ := blk y3
    have i2 : In ((w2.setCell ⟨w.heap.size + 1 + 1, 0, none⟩ (.pointer q0)).setCell ⟨w.heap.size + 1 + 1, 1, none⟩ (.int .i64 (ys.length : Int))) q0 _ := (hi2.keep (.setCell G2.out (by decide))).keep (.setCell (blk_set G2.out) (by decide))
    have i3 := i2.kept (grownBy_putObj' _ D (.deferred none)) (fun r e => by cases e; exact ⟨_, hK1, rfl⟩)
    have hle := hB.size
    have hle2 := hb2.size
    have B3 := (((hB.trans (hb2.mono hle)).setCell (p := ⟨w.heap.size + 1 + 1, 0, none⟩) (by simp; try omega) (.pointer q0)).setCell (p := ⟨w.heap.size + 1 + 1, 1, none⟩) (by simp; try omega) (.int .i64 (ys.length : Int))).trans (belowK_b (w := w) (Nat.le_refl _) _ D _ (.deferred none) (by omega) hK1 rfl rfl)
    refine ⟨.agg #[.pointer q0, .int .i64 (ys.length : Int)], ?_, q0, rfl, by simpa using i3, by simpa using B3⟩
    have k0 := g0 0
    have k1 := g0 1
    simp at k0 k1
    simp [results, Try.f34, go_sem, k0, k1]
  case stop =>
    rintro D c pre W _ _ h _
    exact h.elim
end LI
end Go.Proofs.Ytooejhijdjcmkaa
