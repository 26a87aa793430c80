/-
  Red: the turns. Conditions: sizes below 2^60.
-/
import Derived.Test.YtchglmgbnmdffaaRedEvenA
import Derived.Test.YtchglmgbnmdffaaRedEvenB
import Derived.Test.YtchglmgbnmdffaaRedEvenC
import Derived.Test.YtchglmgbnmdffaaRedEvenD
import Derived.Test.YtchglmgbnmdffaaRedEvenE
namespace Go.Proofs.Ytchglmgbnmdffaa.RED
open Go.RowKit Go.Deep
open Go.Proofs.Ytchglmgbnmdffaa Go.Proofs.Ytchglmgbnmdffaa.ST

theorem left_red {t : ST} (h : isRed (left t) = true) : ∃ c y z a b r, t = .node c y (.node true z a b) r := by
  cases t with
  | nil => cases h
  | node c y l r =>
    cases l with
    | nil => cases h
    | node c2 z a b =>
      have : c2 = true := h
      subst this
      exact ⟨c, y, z, a, b, r, rfl⟩
theorem right_red {t : ST} (h : isRed (right t) = true) : ∃ c y z a b l, t = .node c y l (.node true z a b) := by
  cases t with
  | nil => cases h
  | node c y l r =>
    cases r with
    | nil => cases h
    | node c2 z a b =>
      have : c2 = true := h
      subst this
      exact ⟨c, y, z, a, b, l, rfl⟩
theorem even_any (x : Int) (tl tr : ST) (pl pr : Option Addr) (w : World) (hl : In w pl tl) (hr : In w pr tr) (hs : tl.size + tr.size ≤ 1152921504606846970) :
    Calls Try.prog 71 #[.pointer pl, .int .i64 x, .pointer pr] w fun e w' => ∃ q, e = .returned (.pointer q) ∧ In w' q (even tl x tr) ∧ Below w.heap.size w w' := by
  cases hL : isRed tl with
  | true =>
    cases hLL : isRed (left tl) with
    | true =>
      obtain ⟨c, y, z, a, b, r, rfl⟩ := left_red hLL
      obtain rfl : c = true := hL
      exact even_TT x y z a b r tr pl pr w hl hr hs
    | false =>
      cases hLR : isRed (right tl) with
      | true =>
        obtain ⟨c, y, z, a, b, l, rfl⟩ := right_red hLR
        obtain rfl : c = true := hL
        exact even_TFT x y z l a b tr hLL pl pr w hl hr hs
      | false =>
        cases tl with
        | nil => cases hL
        | node c y l r =>
          obtain rfl : c = true := hL
          cases hR : isRed tr with
          | false => exact even_TFF_F x y l r tr hLL hLR hR pl pr w hl hr hs
          | true =>
            cases hRL : isRed (left tr) with
            | true =>
              obtain ⟨c, u, v, d, f, g, rfl⟩ := left_red hRL
              obtain rfl : c = true := hR
              exact even_TFF_TT x y l r u v d f g hLL hLR pl pr w hl hr hs
            | false =>
              cases hRR : isRed (right tr) with
              | true =>
                obtain ⟨c, u, v, d, f, g, rfl⟩ := right_red hRR
                obtain rfl : c = true := hR
                exact even_TFF_TFT x y l r u v g d f hLL hLR hRL pl pr w hl hr hs
              | false =>
                cases tr with
                | nil => cases hR
                | node c u d f =>
                  obtain rfl : c = true := hR
                  exact even_TFF_TFF x y l r u d f hLL hLR hRL hRR pl pr w hl hr hs
  | false =>
    cases hR : isRed tr with
    | false => exact even_F_F x tl tr hL hR pl pr w hl hr hs
    | true =>
      cases hRL : isRed (left tr) with
      | true =>
        obtain ⟨c, u, v, d, f, g, rfl⟩ := left_red hRL
        obtain rfl : c = true := hR
        exact even_F_TT x tl u v d f g hL pl pr w hl hr hs
      | false =>
        cases hRR : isRed (right tr) with
        | true =>
          obtain ⟨c, u, v, d, f, g, rfl⟩ := right_red hRR
          obtain rfl : c = true := hR
          exact even_F_TFT x tl u v g d f hL hRL pl pr w hl hr hs
        | false =>
          cases tr with
          | nil => cases hR
          | node c u d f =>
            obtain rfl : c = true := hR
            exact even_F_TFF x tl u d f hL hRL hRR pl pr w hl hr hs
end Go.Proofs.Ytchglmgbnmdffaa.RED
