/-
  No cell of these rows narrows 'for every input' (looked for: loops, veiled, ifaces, maps, wideKeys, modest, calm, conditions, laid).
  DERIVED. THE GIVEN ROWS OF THIS SEAT. 9 by the template 'for every input the law returns true; each argument reads behind the call as it read before'; 0 by the template 'total and deterministic' (their statements: YtajbmikicbddiaaTotals.lean).
  GIVEN WITH THE SEED: the statements are not yours to turn. If you find one false, say at which input.
  Laid BY PROGRAM, IN A SANDBOX (cutbox-rows.mjs): the forced cells as the released guide's own fill.sh prints them over the translation 71156a26e04d895f… (all of the seat's roots in one cut). By AI agents, Wed Nov 11 2026. No macro, syntax, notation, axiom, sorry.
-/
import Derived.Test.YtajbmikicbddiaaChecked
import GoSem.Claim
import GoSem.ClaimJoined
import GoSem.ClaimMapViews
import Derived.JoinedTies
import Derived.KernelRfl
namespace Go.Proofs.Ytajbmikicbddiaa
/- THE CELL 'sum', in the pinned program and in every row, IS THE sha256 OF THE DUMP (.gsa) THAT YtajbmikicbddiaaProg.lean LOADS. Nothing in Lean hashes anything: it is a label: what it is worth is what the hold of that sum in a sandbox is worth. -/
noncomputable def Try.pinned : Pinned := { name := "ytajbmikicbddiaa", sum := "71156a26e04d895f1f6896a09970825382cf915a0394e31815a1c28e1bdda066", checked := Try.checked }
namespace Rows
def none {H : Type} : Left H := { results := [], args := [] }

/-- 'wattleworklaw1.LeftSpine': WHATEVER THE INPUT: true; the input reads as it did. -/
def leftSpineSpec : ChangeSpec := { name := "leftSpine", fn := fun _ => fun
  | [d1, d2, d3] => { results := [.lit (.bool true)], args := [d1, d2, d3] }
  | _ => none }
def leftSpineRow : OpenClaim := { program := "ytajbmikicbddiaa", sum := "71156a26e04d895f1f6896a09970825382cf915a0394e31815a1c28e1bdda066", func := "wattlework/wattleworklaw1.LeftSpine", spec := "leftSpine", recurses := true, apart := false }
def LeftSpineSaid : Prop := leftSpineRow.holds Try.pinned (OpenSpec.ofChange leftSpineSpec)

/-- ITS FALSE NEIGHBOUR: 'it returns false'. Refute it at one input. -/
def leftSpineWrong : ChangeSpec := { name := "leftSpine", fn := fun _ => fun
  | [d1, d2, d3] => { results := [.lit (.bool false)], args := [d1, d2, d3] }
  | _ => none }
def LeftSpineWrongFalsely : Prop := leftSpineRow.holds Try.pinned (OpenSpec.ofChange leftSpineWrong)

/-- 'wattleworklaw1.LeftTells': WHATEVER THE INPUT: true; the input reads as it did. -/
def leftTellsSpec : ChangeSpec := { name := "leftTells", fn := fun _ => fun
  | [d1, d2, d3] => { results := [.lit (.bool true)], args := [d1, d2, d3] }
  | _ => none }
def leftTellsRow : OpenClaim := { program := "ytajbmikicbddiaa", sum := "71156a26e04d895f1f6896a09970825382cf915a0394e31815a1c28e1bdda066", func := "wattlework/wattleworklaw1.LeftTells", spec := "leftTells", recurses := true, apart := false }
def LeftTellsSaid : Prop := leftTellsRow.holds Try.pinned (OpenSpec.ofChange leftTellsSpec)

/-- ITS FALSE NEIGHBOUR: 'it returns false'. Refute it at one input. -/
def leftTellsWrong : ChangeSpec := { name := "leftTells", fn := fun _ => fun
  | [d1, d2, d3] => { results := [.lit (.bool false)], args := [d1, d2, d3] }
  | _ => none }
def LeftTellsWrongFalsely : Prop := leftTellsRow.holds Try.pinned (OpenSpec.ofChange leftTellsWrong)

/-- 'wattleworklaw1.LeftJoins': WHATEVER THE INPUT: true; the input reads as it did. -/
def leftJoinsSpec : ChangeSpec := { name := "leftJoins", fn := fun _ => fun
  | [d1, d2, d3] => { results := [.lit (.bool true)], args := [d1, d2, d3] }
  | _ => none }
def leftJoinsRow : OpenClaim := { program := "ytajbmikicbddiaa", sum := "71156a26e04d895f1f6896a09970825382cf915a0394e31815a1c28e1bdda066", func := "wattlework/wattleworklaw1.LeftJoins", spec := "leftJoins", recurses := true, apart := false }
def LeftJoinsSaid : Prop := leftJoinsRow.holds Try.pinned (OpenSpec.ofChange leftJoinsSpec)

/-- ITS FALSE NEIGHBOUR: 'it returns false'. Refute it at one input. -/
def leftJoinsWrong : ChangeSpec := { name := "leftJoins", fn := fun _ => fun
  | [d1, d2, d3] => { results := [.lit (.bool false)], args := [d1, d2, d3] }
  | _ => none }
def LeftJoinsWrongFalsely : Prop := leftJoinsRow.holds Try.pinned (OpenSpec.ofChange leftJoinsWrong)

/-- 'wattleworklaw1.PairRises': WHATEVER THE INPUT: true; the input reads as it did. -/
def pairRisesSpec : ChangeSpec := { name := "pairRises", fn := fun _ => fun
  | [d1, d2] => { results := [.lit (.bool true)], args := [d1, d2] }
  | _ => none }
def pairRisesRow : OpenClaim := { program := "ytajbmikicbddiaa", sum := "71156a26e04d895f1f6896a09970825382cf915a0394e31815a1c28e1bdda066", func := "wattlework/wattleworklaw1.PairRises", spec := "pairRises", apart := false }
def PairRisesSaid : Prop := pairRisesRow.holds Try.pinned (OpenSpec.ofChange pairRisesSpec)

/-- ITS FALSE NEIGHBOUR: 'it returns false'. Refute it at one input. -/
def pairRisesWrong : ChangeSpec := { name := "pairRises", fn := fun _ => fun
  | [d1, d2] => { results := [.lit (.bool false)], args := [d1, d2] }
  | _ => none }
def PairRisesWrongFalsely : Prop := pairRisesRow.holds Try.pinned (OpenSpec.ofChange pairRisesWrong)

/-- 'wattleworklaw1.PairTells': WHATEVER THE INPUT: true; the input reads as it did. -/
def pairTellsSpec : ChangeSpec := { name := "pairTells", fn := fun _ => fun
  | [d1, d2, d3] => { results := [.lit (.bool true)], args := [d1, d2, d3] }
  | _ => none }
def pairTellsRow : OpenClaim := { program := "ytajbmikicbddiaa", sum := "71156a26e04d895f1f6896a09970825382cf915a0394e31815a1c28e1bdda066", func := "wattlework/wattleworklaw1.PairTells", spec := "pairTells", apart := false }
def PairTellsSaid : Prop := pairTellsRow.holds Try.pinned (OpenSpec.ofChange pairTellsSpec)

/-- ITS FALSE NEIGHBOUR: 'it returns false'. Refute it at one input. -/
def pairTellsWrong : ChangeSpec := { name := "pairTells", fn := fun _ => fun
  | [d1, d2, d3] => { results := [.lit (.bool false)], args := [d1, d2, d3] }
  | _ => none }
def PairTellsWrongFalsely : Prop := pairTellsRow.holds Try.pinned (OpenSpec.ofChange pairTellsWrong)

/-- 'wattleworklaw1.PairJoins': WHATEVER THE INPUT: true; the input reads as it did. -/
def pairJoinsSpec : ChangeSpec := { name := "pairJoins", fn := fun _ => fun
  | [d1, d2, d3] => { results := [.lit (.bool true)], args := [d1, d2, d3] }
  | _ => none }
def pairJoinsRow : OpenClaim := { program := "ytajbmikicbddiaa", sum := "71156a26e04d895f1f6896a09970825382cf915a0394e31815a1c28e1bdda066", func := "wattlework/wattleworklaw1.PairJoins", spec := "pairJoins", apart := false }
def PairJoinsSaid : Prop := pairJoinsRow.holds Try.pinned (OpenSpec.ofChange pairJoinsSpec)

/-- ITS FALSE NEIGHBOUR: 'it returns false'. Refute it at one input. -/
def pairJoinsWrong : ChangeSpec := { name := "pairJoins", fn := fun _ => fun
  | [d1, d2, d3] => { results := [.lit (.bool false)], args := [d1, d2, d3] }
  | _ => none }
def PairJoinsWrongFalsely : Prop := pairJoinsRow.holds Try.pinned (OpenSpec.ofChange pairJoinsWrong)

/-- 'wattleworklaw1.BinoRanks': WHATEVER THE INPUT: true; the input reads as it did. -/
def binoRanksSpec : ChangeSpec := { name := "binoRanks", fn := fun _ => fun
  | [d1, d2, d3] => { results := [.lit (.bool true)], args := [d1, d2, d3] }
  | _ => none }
def binoRanksRow : OpenClaim := { program := "ytajbmikicbddiaa", sum := "71156a26e04d895f1f6896a09970825382cf915a0394e31815a1c28e1bdda066", func := "wattlework/wattleworklaw1.BinoRanks", spec := "binoRanks", recurses := true, apart := false }
def BinoRanksSaid : Prop := binoRanksRow.holds Try.pinned (OpenSpec.ofChange binoRanksSpec)

/-- ITS FALSE NEIGHBOUR: 'it returns false'. Refute it at one input. -/
def binoRanksWrong : ChangeSpec := { name := "binoRanks", fn := fun _ => fun
  | [d1, d2, d3] => { results := [.lit (.bool false)], args := [d1, d2, d3] }
  | _ => none }
def BinoRanksWrongFalsely : Prop := binoRanksRow.holds Try.pinned (OpenSpec.ofChange binoRanksWrong)

/-- 'wattleworklaw1.BinoTells': WHATEVER THE INPUT: true; the input reads as it did. -/
def binoTellsSpec : ChangeSpec := { name := "binoTells", fn := fun _ => fun
  | [d1, d2, d3] => { results := [.lit (.bool true)], args := [d1, d2, d3] }
  | _ => none }
def binoTellsRow : OpenClaim := { program := "ytajbmikicbddiaa", sum := "71156a26e04d895f1f6896a09970825382cf915a0394e31815a1c28e1bdda066", func := "wattlework/wattleworklaw1.BinoTells", spec := "binoTells", recurses := true, apart := false }
def BinoTellsSaid : Prop := binoTellsRow.holds Try.pinned (OpenSpec.ofChange binoTellsSpec)

/-- ITS FALSE NEIGHBOUR: 'it returns false'. Refute it at one input. -/
def binoTellsWrong : ChangeSpec := { name := "binoTells", fn := fun _ => fun
  | [d1, d2, d3] => { results := [.lit (.bool false)], args := [d1, d2, d3] }
  | _ => none }
def BinoTellsWrongFalsely : Prop := binoTellsRow.holds Try.pinned (OpenSpec.ofChange binoTellsWrong)

/-- 'wattleworklaw1.BinoJoins': WHATEVER THE INPUT: true; the input reads as it did. -/
def binoJoinsSpec : ChangeSpec := { name := "binoJoins", fn := fun _ => fun
  | [d1, d2, d3] => { results := [.lit (.bool true)], args := [d1, d2, d3] }
  | _ => none }
def binoJoinsRow : OpenClaim := { program := "ytajbmikicbddiaa", sum := "71156a26e04d895f1f6896a09970825382cf915a0394e31815a1c28e1bdda066", func := "wattlework/wattleworklaw1.BinoJoins", spec := "binoJoins", recurses := true, apart := false }
def BinoJoinsSaid : Prop := binoJoinsRow.holds Try.pinned (OpenSpec.ofChange binoJoinsSpec)

/-- ITS FALSE NEIGHBOUR: 'it returns false'. Refute it at one input. -/
def binoJoinsWrong : ChangeSpec := { name := "binoJoins", fn := fun _ => fun
  | [d1, d2, d3] => { results := [.lit (.bool false)], args := [d1, d2, d3] }
  | _ => none }
def BinoJoinsWrongFalsely : Prop := binoJoinsRow.holds Try.pinned (OpenSpec.ofChange binoJoinsWrong)

/- THE SECOND FORM. 'bulk': how many values and letters a reading holds, each counted each time it is reached (what is shared counts as often as it is met; a slice's spare places count too). A statement '..UptoSaid' is the law's where the arguments, and the package variables that the reading takes, are together of bulk at most 1048576: NARROWER than '..Said'. Prove '..Said' where nothing that the law and all that it calls make is longer than what came in: it says more and counts as full. Else prove '..UptoSaid'. A law counts once. -/
mutual
def uptoBulk {H : Type} : DataW H → Nat
  | .lit (.string bytes) => bytes.length + 1
  | .lit _ => 1
  | .nil => 1
  | .ptr d => uptoBulk d + 1
  | .slice elems spare => uptoBulkAll elems + uptoBulkAll spare + 1
  | .agg parts => uptoBulkAll parts + 1
  | .iface _ d => uptoBulk d + 1
  | .map entries => uptoBulkEntries entries + 1
  | .held _ => 1
def uptoBulkAll {H : Type} : List (DataW H) → Nat
  | [] => 0
  | d :: r => uptoBulk d + uptoBulkAll r
def uptoBulkEntries {H : Type} : List (Lit × DataW H) → Nat
  | [] => 0
  | x :: r => uptoBulkEntry x + uptoBulkEntries r
def uptoBulkEntry {H : Type} : Lit × DataW H → Nat
  | (.string bytes, d) => bytes.length + uptoBulk d + 1
  | (_, d) => uptoBulk d + 1
 end
def uptoSmall : (H : Type) → List (DataW H) → Bool := fun _ ds => decide (uptoBulkAll ds ≤ 1048576)
def OpenSpec.upto (s : _root_.Go.ChangeSpec) : _root_.Go.OpenSpec := { _root_.Go.OpenSpec.ofChange s with cond := some uptoSmall }

/-- 'wattleworklaw1.LeftSpine', WHERE WHAT IT READS IS OF BULK AT MOST 1048576: true; the input reads as it did. -/
def leftSpineUptoRow : OpenClaim := { program := "ytajbmikicbddiaa", sum := "71156a26e04d895f1f6896a09970825382cf915a0394e31815a1c28e1bdda066", func := "wattlework/wattleworklaw1.LeftSpine", spec := "leftSpine", recurses := true, apart := false, narrowed := true }
def LeftSpineUptoSaid : Prop := leftSpineUptoRow.holds Try.pinned (OpenSpec.upto leftSpineSpec)

/-- 'wattleworklaw1.LeftTells', WHERE WHAT IT READS IS OF BULK AT MOST 1048576: true; the input reads as it did. -/
def leftTellsUptoRow : OpenClaim := { program := "ytajbmikicbddiaa", sum := "71156a26e04d895f1f6896a09970825382cf915a0394e31815a1c28e1bdda066", func := "wattlework/wattleworklaw1.LeftTells", spec := "leftTells", recurses := true, apart := false, narrowed := true }
def LeftTellsUptoSaid : Prop := leftTellsUptoRow.holds Try.pinned (OpenSpec.upto leftTellsSpec)

/-- 'wattleworklaw1.LeftJoins', WHERE WHAT IT READS IS OF BULK AT MOST 1048576: true; the input reads as it did. -/
def leftJoinsUptoRow : OpenClaim := { program := "ytajbmikicbddiaa", sum := "71156a26e04d895f1f6896a09970825382cf915a0394e31815a1c28e1bdda066", func := "wattlework/wattleworklaw1.LeftJoins", spec := "leftJoins", recurses := true, apart := false, narrowed := true }
def LeftJoinsUptoSaid : Prop := leftJoinsUptoRow.holds Try.pinned (OpenSpec.upto leftJoinsSpec)

/-- 'wattleworklaw1.PairRises', WHERE WHAT IT READS IS OF BULK AT MOST 1048576: true; the input reads as it did. -/
def pairRisesUptoRow : OpenClaim := { program := "ytajbmikicbddiaa", sum := "71156a26e04d895f1f6896a09970825382cf915a0394e31815a1c28e1bdda066", func := "wattlework/wattleworklaw1.PairRises", spec := "pairRises", apart := false, narrowed := true }
def PairRisesUptoSaid : Prop := pairRisesUptoRow.holds Try.pinned (OpenSpec.upto pairRisesSpec)

/-- 'wattleworklaw1.PairTells', WHERE WHAT IT READS IS OF BULK AT MOST 1048576: true; the input reads as it did. -/
def pairTellsUptoRow : OpenClaim := { program := "ytajbmikicbddiaa", sum := "71156a26e04d895f1f6896a09970825382cf915a0394e31815a1c28e1bdda066", func := "wattlework/wattleworklaw1.PairTells", spec := "pairTells", apart := false, narrowed := true }
def PairTellsUptoSaid : Prop := pairTellsUptoRow.holds Try.pinned (OpenSpec.upto pairTellsSpec)

/-- 'wattleworklaw1.PairJoins', WHERE WHAT IT READS IS OF BULK AT MOST 1048576: true; the input reads as it did. -/
def pairJoinsUptoRow : OpenClaim := { program := "ytajbmikicbddiaa", sum := "71156a26e04d895f1f6896a09970825382cf915a0394e31815a1c28e1bdda066", func := "wattlework/wattleworklaw1.PairJoins", spec := "pairJoins", apart := false, narrowed := true }
def PairJoinsUptoSaid : Prop := pairJoinsUptoRow.holds Try.pinned (OpenSpec.upto pairJoinsSpec)

/-- 'wattleworklaw1.BinoRanks', WHERE WHAT IT READS IS OF BULK AT MOST 1048576: true; the input reads as it did. -/
def binoRanksUptoRow : OpenClaim := { program := "ytajbmikicbddiaa", sum := "71156a26e04d895f1f6896a09970825382cf915a0394e31815a1c28e1bdda066", func := "wattlework/wattleworklaw1.BinoRanks", spec := "binoRanks", recurses := true, apart := false, narrowed := true }
def BinoRanksUptoSaid : Prop := binoRanksUptoRow.holds Try.pinned (OpenSpec.upto binoRanksSpec)

/-- 'wattleworklaw1.BinoTells', WHERE WHAT IT READS IS OF BULK AT MOST 1048576: true; the input reads as it did. -/
def binoTellsUptoRow : OpenClaim := { program := "ytajbmikicbddiaa", sum := "71156a26e04d895f1f6896a09970825382cf915a0394e31815a1c28e1bdda066", func := "wattlework/wattleworklaw1.BinoTells", spec := "binoTells", recurses := true, apart := false, narrowed := true }
def BinoTellsUptoSaid : Prop := binoTellsUptoRow.holds Try.pinned (OpenSpec.upto binoTellsSpec)

/-- 'wattleworklaw1.BinoJoins', WHERE WHAT IT READS IS OF BULK AT MOST 1048576: true; the input reads as it did. -/
def binoJoinsUptoRow : OpenClaim := { program := "ytajbmikicbddiaa", sum := "71156a26e04d895f1f6896a09970825382cf915a0394e31815a1c28e1bdda066", func := "wattlework/wattleworklaw1.BinoJoins", spec := "binoJoins", recurses := true, apart := false, narrowed := true }
def BinoJoinsUptoSaid : Prop := binoJoinsUptoRow.holds Try.pinned (OpenSpec.upto binoJoinsSpec)

end Rows
end Go.Proofs.Ytajbmikicbddiaa
