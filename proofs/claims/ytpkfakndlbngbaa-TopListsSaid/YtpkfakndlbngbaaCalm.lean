/-
  Regions that draw their order and call functions that make memory and hand back plain values: one walk in the order of the text. Conditions: none.
-/
import Derived.Test.YtpkfakndlbngbaaWords
import Derived.Deep.QuietTactic
import Derived.BigQuiet
namespace Go.Proofs.Ytpkfakndlbngbaa
open Go.RowKit Go.Deep

/-- A later world: all that lay in the first one lies there as it lay. -/
structure Grown (W : World) where
  val : World
  below : Below W.heap.size W val
instance (W : World) : Inhabited (Grown W) := ⟨⟨W, Below.refl _ _⟩⟩
theorem Grown.cell {W : World} {b o : Nat} {v : Value} (h : W.cell? ⟨b, o, none⟩ = some v) (u : Grown W) : u.val.cell? ⟨b, o, none⟩ = some v :=
  (u.below.cell (p := ⟨b, o, none⟩) (World.block_lt_of_cell? W _ h)).trans h
theorem calm_of {P : Program} {f : FuncId} {args : Array Value} {W : World} {u : Grown W} {v : Value}
    (h : Calls P f args u.val fun e w' => e = .returned v ∧ Below u.val.heap.size u.val w') : Calls P f args u.val fun e w'' => e = .returned v ∧ ∃ u' : Grown W, w'' = u'.val :=
  h.mono fun _ w' ⟨he, hb⟩ => ⟨he, ⟨w', below_then u.below hb⟩, rfl⟩
theorem calm_of_same {P : Program} {f : FuncId} {args : Array Value} {W : World} {u : Grown W} {v : Value}
    (h : Calls P f args u.val fun e w' => e = .returned v ∧ u.val = w') : Calls P f args u.val fun e w'' => e = .returned v ∧ ∃ u' : Grown W, w'' = u'.val :=
  h.mono fun _ _ ⟨he, hb⟩ => ⟨he, u, hb.symm⟩
theorem wp_region_calm {P : Program} {id : Nat} {Q : Exit → Act → World → Prop} {a : Act} {w : World} {l : List Oper} (hm : P.follows .mixedOrders = true) (hB : Region.lexB .any l.toArray = true)
    (h : wpQuiet P l.toArray (fun w' => ∃ u : Grown w, w' = u.val) (fun a' => ∀ w', (∃ u : Grown w, w' = u.val) → Q .normal a' w') l a) : (Code.region id l.toArray true).wp P Q a w :=
  wp_region_quiet (C := fun w' => ∃ u : Grown w, w' = u.val) hm hB ⟨⟨w.drew, (Below.refl _ _).drew⟩, rfl⟩ (by simpa using h)
end Go.Proofs.Ytpkfakndlbngbaa
