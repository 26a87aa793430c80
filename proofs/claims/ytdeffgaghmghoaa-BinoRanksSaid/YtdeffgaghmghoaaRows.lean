/-
  No cell of these rows narrows 'for every input' (looked for: loops, veiled, ifaces, maps, wideKeys, modest, calm, conditions, laid).
  DERIVED. THE GIVEN ROWS OF THIS SEAT. 3 by the template 'for every input the law returns true; each argument reads behind the call as it read before'; 0 by the template 'total and deterministic' (their statements: YtdeffgaghmghoaaTotals.lean).
  GIVEN WITH THE SEED: the statements are not yours to turn. If you find one false, say at which input.
  Laid BY PROGRAM, IN A SANDBOX (cutbox-rows.mjs): the forced cells as the released guide's own fill.sh prints them over the translation 5583932f8de2e0f8… (all of the seat's roots in one cut). By AI agents, Wed Nov 11 2026. No macro, syntax, notation, axiom, sorry.
-/
import Derived.Test.YtdeffgaghmghoaaChecked
import GoSem.Claim
import GoSem.ClaimJoined
import GoSem.ClaimMapViews
import Derived.JoinedTies
import Derived.KernelRfl
namespace Go.Proofs.Ytdeffgaghmghoaa
/- THE CELL 'sum', in the pinned program and in every row, IS THE sha256 OF THE DUMP (.gsa) THAT YtdeffgaghmghoaaProg.lean LOADS. Nothing in Lean hashes anything: it is a label: what it is worth is what the hold of that sum in a sandbox is worth. -/
noncomputable def Try.pinned : Pinned := { name := "ytdeffgaghmghoaa", sum := "5583932f8de2e0f8546456eb99f8eafc97ae198cb5741249fe94bd07e1cb98c4", checked := Try.checked }
namespace Rows
def none {H : Type} : Left H := { results := [], args := [] }

/-- 'wattleworklaw1.BinoRanks': WHATEVER THE INPUT: true; the input reads as it did. -/
def binoRanksSpec : ChangeSpec := { name := "binoRanks", fn := fun _ => fun
  | [d1, d2, d3] => { results := [.lit (.bool true)], args := [d1, d2, d3] }
  | _ => none }
def binoRanksRow : OpenClaim := { program := "ytdeffgaghmghoaa", sum := "5583932f8de2e0f8546456eb99f8eafc97ae198cb5741249fe94bd07e1cb98c4", func := "wattlework/wattleworklaw1.BinoRanks", spec := "binoRanks", recurses := true, apart := false }
def BinoRanksSaid : Prop := binoRanksRow.holds Try.pinned (OpenSpec.ofChange binoRanksSpec)

/-- ITS FALSE NEIGHBOUR: 'it returns false'. Refute it at one input. -/
def binoRanksWrong : ChangeSpec := { name := "binoRanks", fn := fun _ => fun
  | [d1, d2, d3] => { results := [.lit (.bool false)], args := [d1, d2, d3] }
  | _ => none }
def BinoRanksWrongFalsely : Prop := binoRanksRow.holds Try.pinned (OpenSpec.ofChange binoRanksWrong)

/-- 'wattleworklaw1.BinoTells': WHATEVER THE INPUT: true; the input reads as it did. -/
def binoTellsSpec : ChangeSpec := { name := "binoTells", fn := fun _ => fun
  | [d1, d2, d3] => { results := [.lit (.bool true)], args := [d1, d2, d3] }
  | _ => none }
def binoTellsRow : OpenClaim := { program := "ytdeffgaghmghoaa", sum := "5583932f8de2e0f8546456eb99f8eafc97ae198cb5741249fe94bd07e1cb98c4", func := "wattlework/wattleworklaw1.BinoTells", spec := "binoTells", recurses := true, apart := false }
def BinoTellsSaid : Prop := binoTellsRow.holds Try.pinned (OpenSpec.ofChange binoTellsSpec)

/-- ITS FALSE NEIGHBOUR: 'it returns false'. Refute it at one input. -/
def binoTellsWrong : ChangeSpec := { name := "binoTells", fn := fun _ => fun
  | [d1, d2, d3] => { results := [.lit (.bool false)], args := [d1, d2, d3] }
  | _ => none }
def BinoTellsWrongFalsely : Prop := binoTellsRow.holds Try.pinned (OpenSpec.ofChange binoTellsWrong)

/-- 'wattleworklaw1.BinoJoins': WHATEVER THE INPUT: true; the input reads as it did. -/
def binoJoinsSpec : ChangeSpec := { name := "binoJoins", fn := fun _ => fun
  | [d1, d2, d3] => { results := [.lit (.bool true)], args := [d1, d2, d3] }
  | _ => none }
def binoJoinsRow : OpenClaim := { program := "ytdeffgaghmghoaa", sum := "5583932f8de2e0f8546456eb99f8eafc97ae198cb5741249fe94bd07e1cb98c4", func := "wattlework/wattleworklaw1.BinoJoins", spec := "binoJoins", recurses := true, apart := false }
def BinoJoinsSaid : Prop := binoJoinsRow.holds Try.pinned (OpenSpec.ofChange binoJoinsSpec)

/-- ITS FALSE NEIGHBOUR: 'it returns false'. Refute it at one input. -/
def binoJoinsWrong : ChangeSpec := { name := "binoJoins", fn := fun _ => fun
  | [d1, d2, d3] => { results := [.lit (.bool false)], args := [d1, d2, d3] }
  | _ => none }
def BinoJoinsWrongFalsely : Prop := binoJoinsRow.holds Try.pinned (OpenSpec.ofChange binoJoinsWrong)

/- THE SECOND FORM. 'bulk': how many values and letters a reading holds, each counted each time it is reached (what is shared counts as often as it is met; a slice's spare places count too). A statement '..UptoSaid' is the law's where the arguments, and the package variables that the reading takes, are together of bulk at most 1048576: NARROWER than '..Said'. Prove '..Said' where nothing that the law and all that it calls make is longer than what came in: it says more and counts as full. Else prove '..UptoSaid'. A law counts once. -/
mutual
def uptoBulk {H : Type} : DataW H → Nat
  | .lit (.string bytes) => bytes.length + 1
  | .lit _ => 1
  | .nil => 1
  | .ptr d => uptoBulk d + 1
  | .slice elems spare => uptoBulkAll elems + uptoBulkAll spare + 1
  | .agg parts => uptoBulkAll parts + 1
  | .iface _ d => uptoBulk d + 1
  | .map entries => uptoBulkEntries entries + 1
  | .held _ => 1
def uptoBulkAll {H : Type} : List (DataW H) → Nat
  | [] => 0
  | d :: r => uptoBulk d + uptoBulkAll r
def uptoBulkEntries {H : Type} : List (Lit × DataW H) → Nat
  | [] => 0
  | x :: r => uptoBulkEntry x + uptoBulkEntries r
def uptoBulkEntry {H : Type} : Lit × DataW H → Nat
  | (.string bytes, d) => bytes.length + uptoBulk d + 1
  | (_, d) => uptoBulk d + 1
 end
def uptoSmall : (H : Type) → List (DataW H) → Bool := fun _ ds => decide (uptoBulkAll ds ≤ 1048576)
def OpenSpec.upto (s : _root_.Go.ChangeSpec) : _root_.Go.OpenSpec := { _root_.Go.OpenSpec.ofChange s with cond := some uptoSmall }

/-- 'wattleworklaw1.BinoRanks', WHERE WHAT IT READS IS OF BULK AT MOST 1048576: true; the input reads as it did. -/
def binoRanksUptoRow : OpenClaim := { program := "ytdeffgaghmghoaa", sum := "5583932f8de2e0f8546456eb99f8eafc97ae198cb5741249fe94bd07e1cb98c4", func := "wattlework/wattleworklaw1.BinoRanks", spec := "binoRanks", recurses := true, apart := false, narrowed := true }
def BinoRanksUptoSaid : Prop := binoRanksUptoRow.holds Try.pinned (OpenSpec.upto binoRanksSpec)

/-- 'wattleworklaw1.BinoTells', WHERE WHAT IT READS IS OF BULK AT MOST 1048576: true; the input reads as it did. -/
def binoTellsUptoRow : OpenClaim := { program := "ytdeffgaghmghoaa", sum := "5583932f8de2e0f8546456eb99f8eafc97ae198cb5741249fe94bd07e1cb98c4", func := "wattlework/wattleworklaw1.BinoTells", spec := "binoTells", recurses := true, apart := false, narrowed := true }
def BinoTellsUptoSaid : Prop := binoTellsUptoRow.holds Try.pinned (OpenSpec.upto binoTellsSpec)

/-- 'wattleworklaw1.BinoJoins', WHERE WHAT IT READS IS OF BULK AT MOST 1048576: true; the input reads as it did. -/
def binoJoinsUptoRow : OpenClaim := { program := "ytdeffgaghmghoaa", sum := "5583932f8de2e0f8546456eb99f8eafc97ae198cb5741249fe94bd07e1cb98c4", func := "wattlework/wattleworklaw1.BinoJoins", spec := "binoJoins", recurses := true, apart := false, narrowed := true }
def BinoJoinsUptoSaid : Prop := binoJoinsUptoRow.holds Try.pinned (OpenSpec.upto binoJoinsSpec)

end Rows
end Go.Proofs.Ytdeffgaghmghoaa
