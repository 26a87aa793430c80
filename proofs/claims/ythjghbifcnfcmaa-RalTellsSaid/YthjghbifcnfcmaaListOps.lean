/-
  Lists: one ahead, the first one, how many, the one at a place, the loop. Conditions: none.
-/
import Derived.Test.YthjghbifcnfcmaaListWalks
namespace Go.Proofs.Ythjghbifcnfcmaa
open Go.RowKit Go.Deep Go.Shelf
set_option linter.unusedVariables false
attribute [local go_sem] Oper.semAt_some
namespace LI

theorem all_any (p : Option Addr) (k : Int) (w : World) : Calls Try.prog 43 #[.agg #[.pointer p, .int .i64 k]] w fun e w' =>
    e = .returned (.func (.func 47) #[] #[.pointer (some ⟨w.heap.size, 0, none⟩)]) ∧ w' = w.alloc (.cells #[.pointer p, .int .i64 k] 26) := by
  go_enter Try.func43, Try.ntmps43
  go_wp2_with fail
  go_ret
  exact ⟨rfl, rfl⟩

theorem all_stops (F : Fence) (n : Nat) (h6 : F.fn 47) (hro : F.round = none) (hn : 1 ≤ n) (Bn : Nat) (p0 : Option Addr) (k0 : Int) (xs : List Int) (w0 w : World) (hL : In w0 p0 xs) (hw : KeepT 82 w0 w)
    (hc : w.heap[Bn]? = some (.cells #[.pointer p0, .int .i64 k0] 26 (0, 0))) :
    SeqStopsK F n Try.prog 47 #[.pointer (some ⟨Bn, 0, none⟩)] (fun x : Int => #[Value.int .i64 x]) (KeepW w0) (fun ys => ys = xs) (fun pre => pre <+: xs) xs.length w := fun l J Jx W hW _ _ hY h0 =>
  all1_in F n h6 hro hn l Bn p0 k0 xs w0 hL J Jx hY W (hw.trans (.of_below hW)) (blk_below hc hW) h0

theorem push_any (x : Int) (xs : List Int) (p : Option Addr) (k : Int) (w : World) (h : In w p xs) : Calls Try.prog 29 #[.agg #[.pointer p, .int .i64 k], .int .i64 x] w fun e w' =>
    ∃ q, e = .returned (.agg #[.pointer q, .int .i64 (wrap64 (k + 1))]) ∧ In w' q (x :: xs) ∧ Below w.heap.size w w' := by
  go_enter Try.func29, Try.ntmps29
  go_wp2_with fail
  have B : Below w.heap.size w (((w.alloc (.cells #[.pointer p, .int .i64 k] 26)).alloc (.cells #[.pointer (some ⟨w.heap.size + 1 + 1, 0, none⟩), .int .i64 (wrap64 (k + 1))] 26)).alloc (.cells #[.int .i64 x, .pointer p] 82)) :=
    (((Below.refl _ _).alloc (Nat.le_refl _) _).alloc (by simp) _).alloc (by simp; omega) _
  refine bodyPost_ret (v := .agg #[.pointer (some ⟨w.heap.size + 1 + 1, 0, none⟩), .int .i64 (wrap64 (k + 1))]) (by simp [results, Try.results29, go_sem]) rfl ⟨_, rfl, ⟨_, p, rfl, ?_, h.below B⟩, B⟩
  have := heap_alloc_new ((w.alloc (.cells #[.pointer p, .int .i64 k] 26)).alloc (.cells #[.pointer (some ⟨w.heap.size + 1 + 1, 0, none⟩), .int .i64 (wrap64 (k + 1))] 26)) (.cells #[.int .i64 x, .pointer p] 82)
  simpa using this

theorem len_any (p : Option Addr) (k : Int) (w : World) : Calls Try.prog 31 #[.agg #[.pointer p, .int .i64 k]] w fun e w' => e = .returned (.int .i64 k) ∧ Below w.heap.size w w' := by
  go_enter Try.func31, Try.ntmps31
  go_wp2_with fail
  go_ret
  exact ⟨rfl, (Below.refl _ _).alloc (Nat.le_refl _) _⟩

theorem pop_any (xs : List Int) (p : Option Addr) (k : Int) (w : World) (h : In w p xs) : Calls Try.prog 30 #[.agg #[.pointer p, .int .i64 k]] w fun e w' =>
    ((xs = [] ∧ e = .returned (.tuple #[.int .i64 0, .agg #[.pointer none, .int .i64 0], .bool false])) ∨
     ∃ x r q, xs = x :: r ∧ e = .returned (.tuple #[.int .i64 x, .agg #[.pointer q, .int .i64 (wrap64 (k - 1))], .bool true]) ∧ In w' q r) ∧ Below w.heap.size w w' := by
  cases xs with
  | nil =>
    obtain rfl : p = none := h
    go_enter Try.func30, Try.ntmps30
    go_wp2_with fail
    refine bodyPost_ret (v := .tuple #[.int .i64 0, .agg #[.pointer none, .int .i64 0], .bool false]) (by simp [results, Try.results30, go_sem]) rfl ⟨.inl ⟨by trivial, rfl⟩, ((Below.refl _ _).alloc (Nat.le_refl _) _).alloc (by simp) _⟩
  | cons x r =>
    obtain ⟨b, q, rfl, hb, hr⟩ := h
    obtain ⟨c0, c1, c2⟩ := blk hb
    have e0 := c0 0
    have e1 := c0 1
    clear c0
    go_enter Try.func30, Try.ntmps30
    go_wp2_with fail
    go_region
    all_goals
      go_wp2_with fail
      have B : Below w.heap.size w ((w.alloc (.cells #[.pointer (some ⟨b, 0, none⟩), .int .i64 k] 26)).alloc (.cells #[.pointer q, .int .i64 (wrap64 (k - 1))] 26)).drew := (((Below.refl _ _).alloc (Nat.le_refl _) _).alloc (by simp) _).drew
      exact bodyPost_ret (v := .tuple #[.int .i64 x, .agg #[.pointer q, .int .i64 (wrap64 (k - 1))], .bool true]) (by simp [results, Try.results30, go_sem]) rfl ⟨.inr ⟨x, r, q, rfl, rfl, hr.below B⟩, B⟩
end LI
end Go.Proofs.Ythjghbifcnfcmaa
