/-
  The number at a place: a list, one of trees, and a sequence of the same numbers tell the same. Conditions: at most 2^44 numbers.
-/
import Derived.Test.YtpkfakndlbngbaaLsAt
import Derived.Test.YtpkfakndlbngbaaMRl
import Derived.Test.YtpkfakndlbngbaaSeqOps
namespace Go.Proofs.Ytpkfakndlbngbaa
open Go.RowKit Go.Deep
set_option linter.unusedVariables false
theorem at_three (xs : List Int) (i : Int) (hs : xs.length ≤ 17592186044416) : ∃ (y : Int) (b : Bool),
    (∀ (p : Option Addr) (m : Int) (W : World), LI.Ls W p m xs → Calls Try.prog 16 #[.agg #[.pointer p, .int .i64 m], .int .i64 i] W fun e w' => e = .returned (.tuple #[.int .i64 y, .bool b]) ∧ Below W.heap.size W w') ∧
    (∀ (p : Option Addr) (m : Int) (W : World), RA.In W p m xs → Calls Try.prog 17 #[.agg #[.pointer p, .int .i64 m], .int .i64 i] W fun e w' => e = .returned (.tuple #[.int .i64 y, .bool b]) ∧ Below W.heap.size W w') ∧
    (∀ (p : Option Addr) (v : FG.Lv) (W : World), FG.InV W p v → v.Ok 0 → v.toL = xs → Calls Try.prog 18 #[.agg #[.pointer p], .int .i64 i] W fun e w' => e = .returned (.tuple #[.int .i64 y, .bool b]) ∧ Below W.heap.size W w') := by
  by_cases hi : 0 ≤ i ∧ i < (xs.length : Int)
  · obtain ⟨k, rfl⟩ : ∃ k : Nat, i = (k : Int) := ⟨i.toNat, by omega⟩
    have hk : k < xs.length := by omega
    have hy : xs[k]? = some (xs[k]?.getD 0) := by rw [List.getElem?_eq_getElem hk]; rfl
    refine ⟨xs[k]?.getD 0, true, fun p m W h => LI.at_in k p m xs W h hs hk, fun p m W h => RA.at_in k _ p m xs W h hy (by omega), fun p v W h ok e => ?_⟩
    subst e
    exact FG.at_in k _ v p W h ok (by rw [← FG.Lv.len]; exact hs) hy
  · refine ⟨0, false, fun p m W h => LI.at_out i p m xs W h hi, fun p m W h => RA.at_out i p m xs W h hi, fun p v W h ok e => ?_⟩
    subst e
    exact FG.at_out i v p W h (by rw [← FG.Lv.len]; exact hi)
end Go.Proofs.Ytpkfakndlbngbaa
