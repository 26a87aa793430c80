/-
  Trees of nearly even heights: what the turns make in memory. Conditions: sizes below 2^62.
-/
import Derived.Test.YtinmmhjllmlimaaAvlEvenA
import Derived.Test.YtinmmhjllmlimaaAvlEvenB
import Derived.Test.YtinmmhjllmlimaaAvlEvenC
import Derived.Test.YtinmmhjllmlimaaAvlEvenD
import Derived.Test.YtinmmhjllmlimaaAvlEvenE
namespace Go.Proofs.Ytinmmhjllmlimaa.AVL
open Go.RowKit Go.Deep
open Go.Proofs.Ytinmmhjllmlimaa Go.Proofs.Ytinmmhjllmlimaa.ST


theorem even_any (tl tr : ST) (x : Int) (pl pr : Option Addr) (w : World) (hl : In w pl tl) (hr : In w pr tr) (hs : tl.size + tr.size ≤ 4611686018427387904) :
    Calls Try.prog 72 #[.pointer pl, .int .i64 x, .pointer pr] w fun e w' => ∃ p, e = .returned (.pointer p) ∧ In w' p (even tl x tr) ∧ Below w.heap.size w w' := by
    by_cases h1 : tr.height + 1 < tl.height
    · cases tl with
      | nil => simp [height] at h1
      | node c y ll lr =>
        by_cases hh : lr.height ≤ ll.height
        · exact even_ll c y ll lr tr x pl pr w hl hr hs h1 hh
        · exact even_lr c y ll lr tr x pl pr w hl hr hs h1 hh
    · by_cases h2 : tl.height + 1 < tr.height
      · cases tr with
        | nil => simp [height] at h2
        | node c y rl rr =>
          by_cases hh : rl.height ≤ rr.height
          · exact even_rr c y rl rr tl x pl pr w hl hr hs h2 hh
          · exact even_rl c y rl rr tl x pl pr w hl hr hs h2 hh
      · exact even_mk tl tr x pl pr w hl hr hs h1 h2
end Go.Proofs.Ytinmmhjllmlimaa.AVL
