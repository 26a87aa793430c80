/-
  The walk of the law Names: it returns true and writes nothing. Conditions: none.
-/
import Derived.Test.YtllbjgdbnghjkaaBase
namespace Go.Proofs.Ytllbjgdbnghjkaa
open Go.RowKit
theorem Names_walk (w : World) :
    Calls Try.prog 3 #[] w fun e w' => e = .returned (.bool true) ∧ Below w.heap.size w w' := by
  go_enter Try.func3, Try.ntmps3
  go_wp2
  go_ret
  exact ⟨rfl, Below.refl _ _⟩
end Go.Proofs.Ytllbjgdbnghjkaa
