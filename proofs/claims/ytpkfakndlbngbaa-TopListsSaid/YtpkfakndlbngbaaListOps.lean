/-
  Lists: one ahead, the first one, how many, the one at a place, the loop. Conditions: none.
-/
import Derived.Test.YtpkfakndlbngbaaListWalks
namespace Go.Proofs.Ytpkfakndlbngbaa
open Go.RowKit Go.Deep Go.Shelf
set_option linter.unusedVariables false
attribute [local go_sem] Oper.semAt_some
namespace LI

theorem all_any (p : Option Addr) (k : Int) (w : World) : Calls Try.prog 27 #[.agg #[.pointer p, .int .i64 k]] w fun e w' =>
    e = .returned (.func (.func 44) #[] #[.pointer (some ⟨w.heap.size, 0, none⟩)]) ∧ w' = w.alloc (.cells #[.pointer p, .int .i64 k] 25) := by
  go_enter Try.func27, Try.ntmps27
  go_wp2_with fail
  go_ret
  exact ⟨rfl, rfl⟩

theorem all_stops (F : Fence) (n : Nat) (h6 : F.fn 44) (hro : F.round = none) (hn : 1 ≤ n) (Bn : Nat) (p0 : Option Addr) (k0 : Int) (xs : List Int) (w0 w : World) (hL : In w0 p0 xs) (hw : KeepT 60 w0 w)
    (hc : w.heap[Bn]? = some (.cells #[.pointer p0, .int .i64 k0] 25 (0, 0))) :
    SeqStopsK F n Try.prog 44 #[.pointer (some ⟨Bn, 0, none⟩)] (fun x : Int => #[Value.int .i64 x]) (KeepW w0) (fun ys => ys = xs) (fun pre => pre <+: xs) xs.length w := fun l J Jx W hW _ _ hY h0 =>
  all1_in F n h6 hro hn l Bn p0 k0 xs w0 hL J Jx hY W (hw.trans (.of_below hW)) (blk_below hc hW) h0

theorem push_any (x : Int) (xs : List Int) (p : Option Addr) (k : Int) (w : World) (h : In w p xs) : Calls Try.prog 10 #[.agg #[.pointer p, .int .i64 k], .int .i64 x] w fun e w' =>
    ∃ q, e = .returned (.agg #[.pointer q, .int .i64 (wrap64 (k + 1))]) ∧ In w' q (x :: xs) ∧ Below w.heap.size w w' := by
  go_enter Try.func10, Try.ntmps10
  go_wp2_with fail
  have B : Below w.heap.size w (((w.alloc (.cells #[.pointer p, .int .i64 k] 25)).alloc (.cells #[.pointer (some ⟨w.heap.size + 1 + 1, 0, none⟩), .int .i64 (wrap64 (k + 1))] 25)).alloc (.cells #[.int .i64 x, .pointer p] 60)) :=
    (((Below.refl _ _).alloc (Nat.le_refl _) _).alloc (by simp) _).alloc (by simp; omega) _
  refine bodyPost_ret (v := .agg #[.pointer (some ⟨w.heap.size + 1 + 1, 0, none⟩), .int .i64 (wrap64 (k + 1))]) (by simp [results, Try.results10, go_sem]) rfl ⟨_, rfl, ⟨_, p, rfl, ?_, h.below B⟩, B⟩
  have := heap_alloc_new ((w.alloc (.cells #[.pointer p, .int .i64 k] 25)).alloc (.cells #[.pointer (some ⟨w.heap.size + 1 + 1, 0, none⟩), .int .i64 (wrap64 (k + 1))] 25)) (.cells #[.int .i64 x, .pointer p] 60)
  simpa using this

theorem len_any (p : Option Addr) (k : Int) (w : World) : Calls Try.prog 36 #[.agg #[.pointer p, .int .i64 k]] w fun e w' => e = .returned (.int .i64 k) ∧ Below w.heap.size w w' := by
  go_enter Try.func36, Try.ntmps36
  go_wp2_with fail
  go_ret
  exact ⟨rfl, (Below.refl _ _).alloc (Nat.le_refl _) _⟩

end LI
end Go.Proofs.Ytpkfakndlbngbaa
