/-
  No cell of these rows narrows 'for every input' (looked for: loops, veiled, ifaces, maps, wideKeys, modest, calm, conditions, laid).
  DERIVED. THE GIVEN ROWS OF THIS SEAT. 6 by the template 'for every input the law returns true; each argument reads behind the call as it read before'; 0 by the template 'total and deterministic' (their statements: YtnddeelnfbgljaaTotals.lean).
  GIVEN WITH THE SEED: the statements are not yours to turn. If you find one false, say at which input.
  Laid BY PROGRAM, IN A SANDBOX (cutbox-rows.mjs): the forced cells as the released guide's own fill.sh prints them over the translation bc0bdaf8be19e129… (all of the seat's roots in one cut). By AI agents, Wed Nov 11 2026. No macro, syntax, notation, axiom, sorry.
-/
import Derived.Test.YtnddeelnfbgljaaChecked
import GoSem.Claim
import GoSem.ClaimJoined
import GoSem.ClaimMapViews
import Derived.JoinedTies
import Derived.KernelRfl
namespace Go.Proofs.Ytnddeelnfbgljaa
/- THE CELL 'sum', in the pinned program and in every row, IS THE sha256 OF THE DUMP (.gsa) THAT YtnddeelnfbgljaaProg.lean LOADS. Nothing in Lean hashes anything: it is a label: what it is worth is what the hold of that sum in a sandbox is worth. -/
noncomputable def Try.pinned : Pinned := { name := "ytnddeelnfbgljaa", sum := "bc0bdaf8be19e12953a46880c4a789460e4862d60473e15828a5c16a8ccdaf21", checked := Try.checked }
namespace Rows
def none {H : Type} : Left H := { results := [], args := [] }

/-- 'wattleworklaw1.MonoTells': WHATEVER THE INPUT: true; the input reads as it did. -/
def monoTellsSpec : ChangeSpec := { name := "monoTells", fn := fun _ => fun
  | [d1, d2, d3, d4] => { results := [.lit (.bool true)], args := [d1, d2, d3, d4] }
  | _ => none }
def monoTellsRow : OpenClaim := { program := "ytnddeelnfbgljaa", sum := "bc0bdaf8be19e12953a46880c4a789460e4862d60473e15828a5c16a8ccdaf21", func := "wattlework/wattleworklaw1.MonoTells", spec := "monoTells", apart := false }
def MonoTellsSaid : Prop := monoTellsRow.holds Try.pinned (OpenSpec.ofChange monoTellsSpec)

/-- ITS FALSE NEIGHBOUR: 'it returns false'. Refute it at one input. -/
def monoTellsWrong : ChangeSpec := { name := "monoTells", fn := fun _ => fun
  | [d1, d2, d3, d4] => { results := [.lit (.bool false)], args := [d1, d2, d3, d4] }
  | _ => none }
def MonoTellsWrongFalsely : Prop := monoTellsRow.holds Try.pinned (OpenSpec.ofChange monoTellsWrong)

/-- 'wattleworklaw1.MonoSplits': WHATEVER THE INPUT: true; the input reads as it did. -/
def monoSplitsSpec : ChangeSpec := { name := "monoSplits", fn := fun _ => fun
  | [d1, d2, d3] => { results := [.lit (.bool true)], args := [d1, d2, d3] }
  | _ => none }
def monoSplitsRow : OpenClaim := { program := "ytnddeelnfbgljaa", sum := "bc0bdaf8be19e12953a46880c4a789460e4862d60473e15828a5c16a8ccdaf21", func := "wattlework/wattleworklaw1.MonoSplits", spec := "monoSplits", apart := false }
def MonoSplitsSaid : Prop := monoSplitsRow.holds Try.pinned (OpenSpec.ofChange monoSplitsSpec)

/-- ITS FALSE NEIGHBOUR: 'it returns false'. Refute it at one input. -/
def monoSplitsWrong : ChangeSpec := { name := "monoSplits", fn := fun _ => fun
  | [d1, d2, d3] => { results := [.lit (.bool false)], args := [d1, d2, d3] }
  | _ => none }
def MonoSplitsWrongFalsely : Prop := monoSplitsRow.holds Try.pinned (OpenSpec.ofChange monoSplitsWrong)

/-- 'wattleworklaw1.MonoBounds': WHATEVER THE INPUT: true; the input reads as it did. -/
def monoBoundsSpec : ChangeSpec := { name := "monoBounds", fn := fun _ => fun
  | [d] => { results := [.lit (.bool true)], args := [d] }
  | _ => none }
def monoBoundsRow : OpenClaim := { program := "ytnddeelnfbgljaa", sum := "bc0bdaf8be19e12953a46880c4a789460e4862d60473e15828a5c16a8ccdaf21", func := "wattlework/wattleworklaw1.MonoBounds", spec := "monoBounds", apart := false }
def MonoBoundsSaid : Prop := monoBoundsRow.holds Try.pinned (OpenSpec.ofChange monoBoundsSpec)

/-- ITS FALSE NEIGHBOUR: 'it returns false'. Refute it at one input. -/
def monoBoundsWrong : ChangeSpec := { name := "monoBounds", fn := fun _ => fun
  | [d] => { results := [.lit (.bool false)], args := [d] }
  | _ => none }
def MonoBoundsWrongFalsely : Prop := monoBoundsRow.holds Try.pinned (OpenSpec.ofChange monoBoundsWrong)

/-- 'wattleworklaw1.MonoOrder': WHATEVER THE INPUT: true; the input reads as it did. -/
def monoOrderSpec : ChangeSpec := { name := "monoOrder", fn := fun _ => fun
  | [d1, d2] => { results := [.lit (.bool true)], args := [d1, d2] }
  | _ => none }
def monoOrderRow : OpenClaim := { program := "ytnddeelnfbgljaa", sum := "bc0bdaf8be19e12953a46880c4a789460e4862d60473e15828a5c16a8ccdaf21", func := "wattlework/wattleworklaw1.MonoOrder", spec := "monoOrder", apart := false }
def MonoOrderSaid : Prop := monoOrderRow.holds Try.pinned (OpenSpec.ofChange monoOrderSpec)

/-- ITS FALSE NEIGHBOUR: 'it returns false'. Refute it at one input. -/
def monoOrderWrong : ChangeSpec := { name := "monoOrder", fn := fun _ => fun
  | [d1, d2] => { results := [.lit (.bool false)], args := [d1, d2] }
  | _ => none }
def MonoOrderWrongFalsely : Prop := monoOrderRow.holds Try.pinned (OpenSpec.ofChange monoOrderWrong)

/-- 'wattleworklaw1.SkewBack': WHATEVER THE INPUT: true; the input reads as it did. -/
def skewBackSpec : ChangeSpec := { name := "skewBack", fn := fun _ => fun
  | [d1, d2, d3] => { results := [.lit (.bool true)], args := [d1, d2, d3] }
  | _ => none }
def skewBackRow : OpenClaim := { program := "ytnddeelnfbgljaa", sum := "bc0bdaf8be19e12953a46880c4a789460e4862d60473e15828a5c16a8ccdaf21", func := "wattlework/wattleworklaw1.SkewBack", spec := "skewBack", apart := false }
def SkewBackSaid : Prop := skewBackRow.holds Try.pinned (OpenSpec.ofChange skewBackSpec)

/-- ITS FALSE NEIGHBOUR: 'it returns false'. Refute it at one input. -/
def skewBackWrong : ChangeSpec := { name := "skewBack", fn := fun _ => fun
  | [d1, d2, d3] => { results := [.lit (.bool false)], args := [d1, d2, d3] }
  | _ => none }
def SkewBackWrongFalsely : Prop := skewBackRow.holds Try.pinned (OpenSpec.ofChange skewBackWrong)

/-- 'wattleworklaw1.SkewSteps': WHATEVER THE INPUT: true; the input reads as it did. -/
def skewStepsSpec : ChangeSpec := { name := "skewSteps", fn := fun _ => fun
  | [d] => { results := [.lit (.bool true)], args := [d] }
  | _ => none }
def skewStepsRow : OpenClaim := { program := "ytnddeelnfbgljaa", sum := "bc0bdaf8be19e12953a46880c4a789460e4862d60473e15828a5c16a8ccdaf21", func := "wattlework/wattleworklaw1.SkewSteps", spec := "skewSteps", apart := false }
def SkewStepsSaid : Prop := skewStepsRow.holds Try.pinned (OpenSpec.ofChange skewStepsSpec)

/-- ITS FALSE NEIGHBOUR: 'it returns false'. Refute it at one input. -/
def skewStepsWrong : ChangeSpec := { name := "skewSteps", fn := fun _ => fun
  | [d] => { results := [.lit (.bool false)], args := [d] }
  | _ => none }
def SkewStepsWrongFalsely : Prop := skewStepsRow.holds Try.pinned (OpenSpec.ofChange skewStepsWrong)

/- THE SECOND FORM. 'bulk': how many values and letters a reading holds, each counted each time it is reached (what is shared counts as often as it is met; a slice's spare places count too). A statement '..UptoSaid' is the law's where the arguments, and the package variables that the reading takes, are together of bulk at most 1048576: NARROWER than '..Said'. Prove '..Said' where nothing that the law and all that it calls make is longer than what came in: it says more and counts as full. Else prove '..UptoSaid'. A law counts once. -/
mutual
def uptoBulk {H : Type} : DataW H → Nat
  | .lit (.string bytes) => bytes.length + 1
  | .lit _ => 1
  | .nil => 1
  | .ptr d => uptoBulk d + 1
  | .slice elems spare => uptoBulkAll elems + uptoBulkAll spare + 1
  | .agg parts => uptoBulkAll parts + 1
  | .iface _ d => uptoBulk d + 1
  | .map entries => uptoBulkEntries entries + 1
  | .held _ => 1
def uptoBulkAll {H : Type} : List (DataW H) → Nat
  | [] => 0
  | d :: r => uptoBulk d + uptoBulkAll r
def uptoBulkEntries {H : Type} : List (Lit × DataW H) → Nat
  | [] => 0
  | x :: r => uptoBulkEntry x + uptoBulkEntries r
def uptoBulkEntry {H : Type} : Lit × DataW H → Nat
  | (.string bytes, d) => bytes.length + uptoBulk d + 1
  | (_, d) => uptoBulk d + 1
 end
def uptoSmall : (H : Type) → List (DataW H) → Bool := fun _ ds => decide (uptoBulkAll ds ≤ 1048576)
def OpenSpec.upto (s : _root_.Go.ChangeSpec) : _root_.Go.OpenSpec := { _root_.Go.OpenSpec.ofChange s with cond := some uptoSmall }

/-- 'wattleworklaw1.MonoTells', WHERE WHAT IT READS IS OF BULK AT MOST 1048576: true; the input reads as it did. -/
def monoTellsUptoRow : OpenClaim := { program := "ytnddeelnfbgljaa", sum := "bc0bdaf8be19e12953a46880c4a789460e4862d60473e15828a5c16a8ccdaf21", func := "wattlework/wattleworklaw1.MonoTells", spec := "monoTells", apart := false, narrowed := true }
def MonoTellsUptoSaid : Prop := monoTellsUptoRow.holds Try.pinned (OpenSpec.upto monoTellsSpec)

/-- 'wattleworklaw1.MonoSplits', WHERE WHAT IT READS IS OF BULK AT MOST 1048576: true; the input reads as it did. -/
def monoSplitsUptoRow : OpenClaim := { program := "ytnddeelnfbgljaa", sum := "bc0bdaf8be19e12953a46880c4a789460e4862d60473e15828a5c16a8ccdaf21", func := "wattlework/wattleworklaw1.MonoSplits", spec := "monoSplits", apart := false, narrowed := true }
def MonoSplitsUptoSaid : Prop := monoSplitsUptoRow.holds Try.pinned (OpenSpec.upto monoSplitsSpec)

/-- 'wattleworklaw1.MonoBounds', WHERE WHAT IT READS IS OF BULK AT MOST 1048576: true; the input reads as it did. -/
def monoBoundsUptoRow : OpenClaim := { program := "ytnddeelnfbgljaa", sum := "bc0bdaf8be19e12953a46880c4a789460e4862d60473e15828a5c16a8ccdaf21", func := "wattlework/wattleworklaw1.MonoBounds", spec := "monoBounds", apart := false, narrowed := true }
def MonoBoundsUptoSaid : Prop := monoBoundsUptoRow.holds Try.pinned (OpenSpec.upto monoBoundsSpec)

/-- 'wattleworklaw1.MonoOrder', WHERE WHAT IT READS IS OF BULK AT MOST 1048576: true; the input reads as it did. -/
def monoOrderUptoRow : OpenClaim := { program := "ytnddeelnfbgljaa", sum := "bc0bdaf8be19e12953a46880c4a789460e4862d60473e15828a5c16a8ccdaf21", func := "wattlework/wattleworklaw1.MonoOrder", spec := "monoOrder", apart := false, narrowed := true }
def MonoOrderUptoSaid : Prop := monoOrderUptoRow.holds Try.pinned (OpenSpec.upto monoOrderSpec)

/-- 'wattleworklaw1.SkewBack', WHERE WHAT IT READS IS OF BULK AT MOST 1048576: true; the input reads as it did. -/
def skewBackUptoRow : OpenClaim := { program := "ytnddeelnfbgljaa", sum := "bc0bdaf8be19e12953a46880c4a789460e4862d60473e15828a5c16a8ccdaf21", func := "wattlework/wattleworklaw1.SkewBack", spec := "skewBack", apart := false, narrowed := true }
def SkewBackUptoSaid : Prop := skewBackUptoRow.holds Try.pinned (OpenSpec.upto skewBackSpec)

/-- 'wattleworklaw1.SkewSteps', WHERE WHAT IT READS IS OF BULK AT MOST 1048576: true; the input reads as it did. -/
def skewStepsUptoRow : OpenClaim := { program := "ytnddeelnfbgljaa", sum := "bc0bdaf8be19e12953a46880c4a789460e4862d60473e15828a5c16a8ccdaf21", func := "wattlework/wattleworklaw1.SkewSteps", spec := "skewSteps", apart := false, narrowed := true }
def SkewStepsUptoSaid : Prop := skewStepsUptoRow.holds Try.pinned (OpenSpec.upto skewStepsSpec)

end Rows
end Go.Proofs.Ytnddeelnfbgljaa
