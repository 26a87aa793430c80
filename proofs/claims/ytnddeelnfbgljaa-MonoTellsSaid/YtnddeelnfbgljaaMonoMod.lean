/-
  The document's remainder. Conditions: none.
-/
import Derived.Test.YtnddeelnfbgljaaMonoWalks
namespace Go.Proofs.Ytnddeelnfbgljaa
open Go.RowKit Go.Deep
namespace MN
theorem Mod_any (n : Int) (w : World) :
    Calls Try.prog 16 #[.int .i64 n] w fun e w' => e = .returned (.int .i64 (n % 2147483647)) ∧ w = w' := by
  have hb := Int.lt_tmod_of_pos n (b := 2147483647) (by decide)
  have e0 := tmod_two n
  by_cases h : n.tmod 2147483647 < 0
  · have e : n % 2147483647 = n.tmod 2147483647 + 2147483647 := by omega
    rw [e]
    clear e e0
    have hw : IntKind.i64.wrap (n.tmod 2147483647 + 2147483647) = n.tmod 2147483647 + 2147483647 := IntWalk.i64_in _ (by omega)
    go_enter Try.func16, Try.ntmps16
    go_wp2
    go_ret
    exact ⟨rfl, rfl⟩
  · have e : n % 2147483647 = n.tmod 2147483647 := by omega
    rw [e]
    clear e e0
    go_enter Try.func16, Try.ntmps16
    go_wp2
    go_ret
    exact ⟨rfl, rfl⟩

end MN
end Go.Proofs.Ytnddeelnfbgljaa
