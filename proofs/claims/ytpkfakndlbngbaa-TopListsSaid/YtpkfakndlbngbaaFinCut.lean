/-
  Finger trees: a level cut at the thing at which there are more than so many. Conditions: at most 2^44 numbers.
-/
import Derived.Test.YtpkfakndlbngbaaFinCutL
import Derived.Test.YtpkfakndlbngbaaFinCutM
import Derived.Test.YtpkfakndlbngbaaFinCutR
namespace Go.Proofs.Ytpkfakndlbngbaa
open Go.RowKit Go.Deep
open Go.Proofs.Ytpkfakndlbngbaa.MN
set_option linter.unusedVariables false
namespace FG

open Lv
theorem cut_any (i A : Nat) (v : Lv) : CutsAt i A v := by
  induction v with
  | nil => intro so ms q d w _ h; exact absurd rfl h
  | one s => exact cut_one i A s
  | deep l m r ih =>
    intro so ms q d w hv _ ok hm h0 h1 hA hs
    by_cases c1 : i < so + tsN l
    · exact cut_deepL i A so l m r ms q d w hv ok hm h0 h1 hA hs c1
    · by_cases c2 : i < so + tsN l + m.size
      · exact cut_deepM i A so l m r ms q d w ih hv ok hm h0 h1 hA hs ⟨by omega, c2⟩
      · exact cut_deepR i A so l m r ms q d w hv ok hm h0 h1 hA hs (by omega)
end FG
end Go.Proofs.Ytpkfakndlbngbaa
