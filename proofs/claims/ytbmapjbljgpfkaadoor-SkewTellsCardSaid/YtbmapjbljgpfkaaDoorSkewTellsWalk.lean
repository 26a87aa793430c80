/-
  The walk of SkewTells, case by case. Conditions: errors.errorType holds the handle of error.
-/
import Derived.Test.YtbmapjbljgpfkaaDoorSkewTellsA
import Derived.Test.YtbmapjbljgpfkaaDoorSkewTellsB
import Derived.Test.YtbmapjbljgpfkaaDoorSkewTellsC
namespace Go.Proofs.YtbmapjbljgpfkaaDoor
open Go.RowKit Go.Deep
open Go.Proofs.YtbmapjbljgpfkaaDoor.SK
set_option linter.unusedVariables false
set_option maxRecDepth 100000
theorem SkewTells_walk (a0 : Option Addr) (n0 c0 : Nat) (x0 : List Int) (x1 : Int) (w : World) (s0 : Sl w a0 n0 c0 x0) (i1 : I64 x1) (hh : Hdl w) :
    Calls Tryd.prog 3 #[.slice a0 n0 c0, .int .i64 x1] w fun e w' => e = .returned (.bool true) ∧ Below w.heap.size w w' := by
  by_cases hv : valid x0
  · obtain ⟨_, h1, h0⟩ := valid_uniq hv
    by_cases hi : x0.sum < 1099511627776
    · by_cases hd : x0.sum < 1
      · by_cases g0 : x1 < 0
        · exact st_1100a a0 n0 c0 x0 x1 _ w s0 hh i1 hv rfl h0 h1 hi hd g0
        · by_cases g1 : 1099511627776 < x1
          · exact st_1100b a0 n0 c0 x0 x1 _ w s0 hh i1 hv rfl h0 h1 hi hd g0 g1
          · exact st_1101a a0 n0 c0 x0 x1 _ w s0 hh i1 hv rfl h0 h1 hi hd g0 g1
      · have hd2 : ¬ 1099511627777 < x0.sum := by omega
        by_cases g0 : x1 < 0
        · exact st_1110a a0 n0 c0 x0 x1 _ w s0 hh i1 hv rfl h0 h1 hi hd hd2 g0
        · by_cases g1 : 1099511627776 < x1
          · exact st_1110b a0 n0 c0 x0 x1 _ w s0 hh i1 hv rfl h0 h1 hi hd hd2 g0 g1
          · exact st_1111a a0 n0 c0 x0 x1 _ w s0 hh i1 hv rfl h0 h1 hi hd hd2 g0 g1
    · have hd : ¬ x0.sum < 1 := by omega
      by_cases hd2 : 1099511627777 < x0.sum
      · by_cases g0 : x1 < 0
        · exact st_1000a a0 n0 c0 x0 x1 _ w s0 hh i1 hv rfl h0 h1 hi hd hd2 g0
        · by_cases g1 : 1099511627776 < x1
          · exact st_1000b a0 n0 c0 x0 x1 _ w s0 hh i1 hv rfl h0 h1 hi hd hd2 g0 g1
          · exact st_1001a a0 n0 c0 x0 x1 _ w s0 hh i1 hv rfl h0 h1 hi hd hd2 g0 g1
      · skip
        by_cases g0 : x1 < 0
        · exact st_1010a a0 n0 c0 x0 x1 _ w s0 hh i1 hv rfl h0 h1 hi hd hd2 g0
        · by_cases g1 : 1099511627776 < x1
          · exact st_1010b a0 n0 c0 x0 x1 _ w s0 hh i1 hv rfl h0 h1 hi hd hd2 g0 g1
          · exact st_1011a a0 n0 c0 x0 x1 _ w s0 hh i1 hv rfl h0 h1 hi hd hd2 g0 g1
  · by_cases g0 : x1 < 0
    · exact st_0000a a0 n0 c0 x0 x1 0 w s0 hh i1 hv g0
    · by_cases g1 : 1099511627776 < x1
      · exact st_0000b a0 n0 c0 x0 x1 0 w s0 hh i1 hv g0 g1
      · exact st_0001a a0 n0 c0 x0 x1 0 w s0 hh i1 hv g0 g1
end Go.Proofs.YtbmapjbljgpfkaaDoor
