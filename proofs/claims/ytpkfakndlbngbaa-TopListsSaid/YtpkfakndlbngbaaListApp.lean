/-
  Lists: all numbers, in order. Conditions: no more than 2^44 numbers.
-/
import Derived.Test.YtpkfakndlbngbaaListRev
namespace Go.Proofs.Ytpkfakndlbngbaa
open Go.RowKit Go.Deep Go.Shelf
set_option linter.unusedVariables false
attribute [local go_sem] Oper.semAt_some
namespace LI
theorem own_less {w : World} {base base' : Nat} {e : TypeId} {size : Nat} {v : Value} {n : Nat} {xs : List Value} (hle : base' ≤ base) (h : w.ownsRow base e size v n xs) : w.ownsRow base' e size v n xs := by
  refine ⟨h.1, ?_⟩
  rcases h.2 with h0 | ⟨g, cap, cur, e1, e2, r⟩
  · exact .inl h0
  · exact .inr ⟨g, cap, cur, e1, Nat.le_trans hle e2, r⟩
set_option maxRecDepth 100000 in
set_option maxHeartbeats 2000000 in
theorem app_any (Bn : Nat) (p : Option Addr) (k : Int) (xs : List Int) (w : World) (h : In w p xs) (hc : w.heap[Bn]? = some (.cells #[.pointer p, .int .i64 k] 25 (0, 0))) (hs : xs.length ≤ 17592186044416) :
    Calls Try.prog 43 #[.slice none 0 0, (.func (.func 44) #[] #[.pointer (some ⟨Bn, 0, none⟩)])] w fun e w' => ∃ v, e = .returned v ∧ w'.ownsRow w.heap.size 3 1 v xs.length (xs.map (Value.int .i64)) ∧ Below w.heap.size w w' := by
  obtain ⟨i0, hi, hz0, hz1, hz2⟩ := info_parts Try.infoInt
  refine (callsIn_wide (n := 5)).1 ?_
  refine callsIn_of_wp_marks Try.func43 rfl trivial ?_ rfl
  simp only [Try.ntmps43, List.size_toArray, List.length_cons, List.length_nil, Nat.reduceAdd, Nat.reduceSub, Array.replicate_succ, Array.replicate_zero, List.push_toArray, List.append_toArray, List.nil_append, List.cons_append]
  have TT : ∀ f, Fence.wide.fn f := fun _ => trivial
  have TA := TT 27
  gi_wp2_with fail
  have bO := Boxed.new w 22 (.slice none 0 0)
  have hB0 : Below w.heap.size w (w.alloc (.cells #[.slice none 0 0] 22)) := (Below.refl _ _).alloc (Nat.le_refl _) _
  refine wpIn_rangeFunc_ownG rfl (by decide) (gf := 44) (lb := #[.pointer (some ⟨Bn, 0, none⟩)]) rfl trivial (enters_of Try.func44 (by kernel_rfl) rfl)
    (all_stops Fence.wide (5 - 1) trivial rfl (by decide) Bn p k xs w _ h (.of_below hB0) (blk_below hc hB0)) KeepW.trans (fun W l o o' _ h1 h2 _ => keepW_b W l o o' h1 h2) (Below.refl _ _) (fun _ => rfl)
    (fun pre W => (∃ v, Boxed W w.heap.size 22 v ∧ W.ownsRow w.heap.size 3 1 v pre.length (pre.map (Value.int .i64)) ∧ True) ∧ Below w.heap.size w W)
    (fun _ _ _ => False)
    (OwnFrom.and (Own.from (holdsRow_own w.heap.size w.heap.size 22 3 1 (fun pre => pre.length) (fun pre : List Int => pre.map (Value.int .i64)) (fun _ _ => True)) _) (ownFrom_below (Nat.le_refl _) (by simp)))
    (fun _ _ _ _ _ hs _ _ => hs)
    ⟨⟨_, bO, World.ownsRow_nil _ _ _ _, trivial⟩, hB0⟩
    (fun x => { tmps := #[.slice none 0 0, (.func (.func 44) #[] #[.pointer (some ⟨Bn, 0, none⟩)]), .pointer (some ⟨w.heap.size, 0, none⟩), undef, .slice none 0 0, .int .i64 x, (.func (.func 44) #[] #[.pointer (some ⟨Bn, 0, none⟩)]), .int .i64 x, undef, undef, undef, undef, undef], defers := [] }) ?assign ?body ?done ?stop
  case assign =>
    intro l x W K hK
    gi_wp2
    exact hK
  case body =>
    rintro l pre x W ⟨⟨v, hv, hrow, _⟩, hB⟩ hlt
    have hc := hv.cell
    gi_wp2_with (gi_at_builtin; refine wpListIn_append_own _ rfl _ _ 22 rfl w.heap.size 3 i0 (.int .i64 0) 1 8 Try.underlying22 hi hz0 hz1 hz2 rfl (by decide) _ _ _ rfl (hrow.alloc _) ⟨W.heap.size, 0, none⟩ 1 1 [.int .i64 x] rfl rfl (cell_one_new _ _ _) (by simp [Value.oneCell']) (by unfold maxLen; omega) (by omega) (by have := hB.size; simp; omega) ?_; intro v' w1 hown' hgrow _; obtain ⟨g', cap', rfl⟩ := ownsRow_succ hown'; obtain ⟨hv1, hv2, hr2, hk2, hb2⟩ := hv.appended (by decide) hrow hB.size (Nat.le_refl _) hown' hgrow; have hc1 := hv1.cell; have hf1 := hv1.frozen)
    exact ⟨hk2.from _, .of_below hb2, ⟨_, hv2, by simpa using hr2, trivial⟩, hB.trans hb2⟩
  case done =>
    rintro D ys W hD rfl ⟨⟨v, hv, hrow, _⟩, hB⟩ hK
    have hc := hv.cell
    gi_wp2
    refine ⟨by simp, .inl ⟨_, _, rfl, run_takeDeferred hK, ?_⟩⟩
    exact ⟨_, results_tmp rfl _ _ _, v, rfl, ownsRow_putObj hrow _ hK rfl, hB.trans (belowK_b (w := w) (Nat.le_refl _) W D _ _ (by simp at hD; omega) hK rfl rfl)⟩
  case stop =>
    rintro D c pre W _ _ h _
    exact h.elim

theorem collect_any (Bn : Nat) (p : Option Addr) (k : Int) (xs : List Int) (w : World) (h : In w p xs) (hc : w.heap[Bn]? = some (.cells #[.pointer p, .int .i64 k] 25 (0, 0))) (hs : xs.length ≤ 17592186044416) :
    Calls Try.prog 26 #[(.func (.func 44) #[] #[.pointer (some ⟨Bn, 0, none⟩)])] w fun e w' => ∃ v, e = .returned v ∧ w'.ownsRow w.heap.size 3 1 v xs.length (xs.map (Value.int .i64)) ∧ Below w.heap.size w w' := by
  have A := app_any Bn p k xs w h hc hs
  clear hc
  go_enter Try.func26, Try.ntmps26
  go_wp2_with fail
  refine A.mono ?_
  rintro e w' ⟨v, rfl, ho, hb⟩
  go_wp2_with fail
  go_ret
  exact ⟨v, rfl, ho, hb⟩

theorem ints_any (p : Option Addr) (k : Int) (xs : List Int) (w : World) (h : In w p xs) (hs : xs.length ≤ 17592186044416) :
    Calls Try.prog 11 #[.agg #[.pointer p, .int .i64 k]] w fun e w' => ∃ v, e = .returned v ∧ w'.ownsRow w.heap.size 3 1 v xs.length (xs.map (Value.int .i64)) ∧ Below w.heap.size w w' := by
  go_enter Try.func11, Try.ntmps11
  go_wp2_with fail
  refine (all_any p k _).mono ?_
  rintro e w1 ⟨rfl, rfl⟩
  go_wp2_with fail
  have hb : Below w.heap.size w ((w.alloc (.cells #[.pointer p, .int .i64 k] 25)).alloc (.cells #[.pointer p, .int .i64 k] 25)) := ((Below.refl _ _).alloc (Nat.le_refl _) _).alloc (by simp) _
  have hc := heap_alloc_new (w.alloc (.cells #[.pointer p, .int .i64 k] 25)) (.cells #[.pointer p, .int .i64 k] 25)
  rw [World.size_alloc] at hc
  refine (collect_any (w.heap.size + 1) p k xs _ (h.below hb) hc hs).mono ?_
  rintro e w' ⟨v, rfl, ho, hb2⟩
  go_wp2_with fail
  go_ret
  exact ⟨v, rfl, own_less (by simp; omega) ho, below_then hb hb2⟩
end LI
end Go.Proofs.Ytpkfakndlbngbaa
