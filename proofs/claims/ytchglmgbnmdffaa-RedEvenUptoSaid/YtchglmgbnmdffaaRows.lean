/-
  No cell of these rows narrows 'for every input' (looked for: loops, veiled, ifaces, maps, wideKeys, modest, calm, conditions, laid).
  DERIVED. THE GIVEN ROWS OF THIS SEAT. 11 by the template 'for every input the law returns true; each argument reads behind the call as it read before'; 0 by the template 'total and deterministic' (their statements: YtchglmgbnmdffaaTotals.lean).
  GIVEN WITH THE SEED: the statements are not yours to turn. If you find one false, say at which input.
  Laid BY PROGRAM, IN A SANDBOX (cutbox-rows.mjs): the forced cells as the released guide's own fill.sh prints them over the translation bea013ca8c94f349… (all of the seat's roots in one cut). By AI agents, Wed Nov 11 2026. No macro, syntax, notation, axiom, sorry.
-/
import Derived.Test.YtchglmgbnmdffaaChecked
import GoSem.Claim
import GoSem.ClaimJoined
import GoSem.ClaimMapViews
import Derived.JoinedTies
import Derived.KernelRfl
namespace Go.Proofs.Ytchglmgbnmdffaa
/- THE CELL 'sum', in the pinned program and in every row, IS THE sha256 OF THE DUMP (.gsa) THAT YtchglmgbnmdffaaProg.lean LOADS. Nothing in Lean hashes anything: it is a label: what it is worth is what the hold of that sum in a sandbox is worth. -/
noncomputable def Try.pinned : Pinned := { name := "ytchglmgbnmdffaa", sum := "bea013ca8c94f34969ae18c35a400d772fc8f13fc8813733a2a93c1799529f4f", checked := Try.checked }
namespace Rows
def none {H : Type} : Left H := { results := [], args := [] }

/-- 'wattleworklaw2.WbtRanks': WHATEVER THE INPUT: true; the input reads as it did. -/
def wbtRanksSpec : ChangeSpec := { name := "wbtRanks", fn := fun _ => fun
  | [d1, d2, d3] => { results := [.lit (.bool true)], args := [d1, d2, d3] }
  | _ => none }
def wbtRanksRow : OpenClaim := { program := "ytchglmgbnmdffaa", sum := "bea013ca8c94f34969ae18c35a400d772fc8f13fc8813733a2a93c1799529f4f", func := "wattlework/wattleworklaw2.WbtRanks", spec := "wbtRanks", recurses := true, apart := false }
def WbtRanksSaid : Prop := wbtRanksRow.holds Try.pinned (OpenSpec.ofChange wbtRanksSpec)

/-- ITS FALSE NEIGHBOUR: 'it returns false'. Refute it at one input. -/
def wbtRanksWrong : ChangeSpec := { name := "wbtRanks", fn := fun _ => fun
  | [d1, d2, d3] => { results := [.lit (.bool false)], args := [d1, d2, d3] }
  | _ => none }
def WbtRanksWrongFalsely : Prop := wbtRanksRow.holds Try.pinned (OpenSpec.ofChange wbtRanksWrong)

/-- 'wattleworklaw2.WbtActs': WHATEVER THE INPUT: true; the input reads as it did. -/
def wbtActsSpec : ChangeSpec := { name := "wbtActs", fn := fun _ => fun
  | [d1, d2, d3] => { results := [.lit (.bool true)], args := [d1, d2, d3] }
  | _ => none }
def wbtActsRow : OpenClaim := { program := "ytchglmgbnmdffaa", sum := "bea013ca8c94f34969ae18c35a400d772fc8f13fc8813733a2a93c1799529f4f", func := "wattlework/wattleworklaw2.WbtActs", spec := "wbtActs", recurses := true, apart := false }
def WbtActsSaid : Prop := wbtActsRow.holds Try.pinned (OpenSpec.ofChange wbtActsSpec)

/-- ITS FALSE NEIGHBOUR: 'it returns false'. Refute it at one input. -/
def wbtActsWrong : ChangeSpec := { name := "wbtActs", fn := fun _ => fun
  | [d1, d2, d3] => { results := [.lit (.bool false)], args := [d1, d2, d3] }
  | _ => none }
def WbtActsWrongFalsely : Prop := wbtActsRow.holds Try.pinned (OpenSpec.ofChange wbtActsWrong)

/-- 'wattleworklaw2.WbtTells': WHATEVER THE INPUT: true; the input reads as it did. -/
def wbtTellsSpec : ChangeSpec := { name := "wbtTells", fn := fun _ => fun
  | [d1, d2, d3] => { results := [.lit (.bool true)], args := [d1, d2, d3] }
  | _ => none }
def wbtTellsRow : OpenClaim := { program := "ytchglmgbnmdffaa", sum := "bea013ca8c94f34969ae18c35a400d772fc8f13fc8813733a2a93c1799529f4f", func := "wattlework/wattleworklaw2.WbtTells", spec := "wbtTells", unfollowed := true, recurses := true, apart := false }
def WbtTellsSaid : Prop := wbtTellsRow.holds Try.pinned (OpenSpec.ofChange wbtTellsSpec)

/-- ITS FALSE NEIGHBOUR: 'it returns false'. Refute it at one input. -/
def wbtTellsWrong : ChangeSpec := { name := "wbtTells", fn := fun _ => fun
  | [d1, d2, d3] => { results := [.lit (.bool false)], args := [d1, d2, d3] }
  | _ => none }
def WbtTellsWrongFalsely : Prop := wbtTellsRow.holds Try.pinned (OpenSpec.ofChange wbtTellsWrong)

/-- 'wattleworklaw2.WbtSplits': WHATEVER THE INPUT: true; the input reads as it did. -/
def wbtSplitsSpec : ChangeSpec := { name := "wbtSplits", fn := fun _ => fun
  | [d1, d2] => { results := [.lit (.bool true)], args := [d1, d2] }
  | _ => none }
def wbtSplitsRow : OpenClaim := { program := "ytchglmgbnmdffaa", sum := "bea013ca8c94f34969ae18c35a400d772fc8f13fc8813733a2a93c1799529f4f", func := "wattlework/wattleworklaw2.WbtSplits", spec := "wbtSplits", recurses := true, apart := false }
def WbtSplitsSaid : Prop := wbtSplitsRow.holds Try.pinned (OpenSpec.ofChange wbtSplitsSpec)

/-- ITS FALSE NEIGHBOUR: 'it returns false'. Refute it at one input. -/
def wbtSplitsWrong : ChangeSpec := { name := "wbtSplits", fn := fun _ => fun
  | [d1, d2] => { results := [.lit (.bool false)], args := [d1, d2] }
  | _ => none }
def WbtSplitsWrongFalsely : Prop := wbtSplitsRow.holds Try.pinned (OpenSpec.ofChange wbtSplitsWrong)

/-- 'wattleworklaw2.WbtBoole': WHATEVER THE INPUT: true; the input reads as it did. -/
def wbtBooleSpec : ChangeSpec := { name := "wbtBoole", fn := fun _ => fun
  | [d1, d2, d3] => { results := [.lit (.bool true)], args := [d1, d2, d3] }
  | _ => none }
def wbtBooleRow : OpenClaim := { program := "ytchglmgbnmdffaa", sum := "bea013ca8c94f34969ae18c35a400d772fc8f13fc8813733a2a93c1799529f4f", func := "wattlework/wattleworklaw2.WbtBoole", spec := "wbtBoole", recurses := true, apart := false }
def WbtBooleSaid : Prop := wbtBooleRow.holds Try.pinned (OpenSpec.ofChange wbtBooleSpec)

/-- ITS FALSE NEIGHBOUR: 'it returns false'. Refute it at one input. -/
def wbtBooleWrong : ChangeSpec := { name := "wbtBoole", fn := fun _ => fun
  | [d1, d2, d3] => { results := [.lit (.bool false)], args := [d1, d2, d3] }
  | _ => none }
def WbtBooleWrongFalsely : Prop := wbtBooleRow.holds Try.pinned (OpenSpec.ofChange wbtBooleWrong)

/-- 'wattleworklaw2.WbtSets': WHATEVER THE INPUT: true; the input reads as it did. -/
def wbtSetsSpec : ChangeSpec := { name := "wbtSets", fn := fun _ => fun
  | [d1, d2, d3, d4] => { results := [.lit (.bool true)], args := [d1, d2, d3, d4] }
  | _ => none }
def wbtSetsRow : OpenClaim := { program := "ytchglmgbnmdffaa", sum := "bea013ca8c94f34969ae18c35a400d772fc8f13fc8813733a2a93c1799529f4f", func := "wattlework/wattleworklaw2.WbtSets", spec := "wbtSets", recurses := true, apart := false }
def WbtSetsSaid : Prop := wbtSetsRow.holds Try.pinned (OpenSpec.ofChange wbtSetsSpec)

/-- ITS FALSE NEIGHBOUR: 'it returns false'. Refute it at one input. -/
def wbtSetsWrong : ChangeSpec := { name := "wbtSets", fn := fun _ => fun
  | [d1, d2, d3, d4] => { results := [.lit (.bool false)], args := [d1, d2, d3, d4] }
  | _ => none }
def WbtSetsWrongFalsely : Prop := wbtSetsRow.holds Try.pinned (OpenSpec.ofChange wbtSetsWrong)

/-- 'wattleworklaw2.WbtEven': WHATEVER THE INPUT: true; the input reads as it did. -/
def wbtEvenSpec : ChangeSpec := { name := "wbtEven", fn := fun _ => fun
  | [d1, d2, d3, d4] => { results := [.lit (.bool true)], args := [d1, d2, d3, d4] }
  | _ => none }
def wbtEvenRow : OpenClaim := { program := "ytchglmgbnmdffaa", sum := "bea013ca8c94f34969ae18c35a400d772fc8f13fc8813733a2a93c1799529f4f", func := "wattlework/wattleworklaw2.WbtEven", spec := "wbtEven", unfollowed := true, recurses := true, apart := false }
def WbtEvenSaid : Prop := wbtEvenRow.holds Try.pinned (OpenSpec.ofChange wbtEvenSpec)

/-- ITS FALSE NEIGHBOUR: 'it returns false'. Refute it at one input. -/
def wbtEvenWrong : ChangeSpec := { name := "wbtEven", fn := fun _ => fun
  | [d1, d2, d3, d4] => { results := [.lit (.bool false)], args := [d1, d2, d3, d4] }
  | _ => none }
def WbtEvenWrongFalsely : Prop := wbtEvenRow.holds Try.pinned (OpenSpec.ofChange wbtEvenWrong)

/-- 'wattleworklaw2.RedActs': WHATEVER THE INPUT: true; the input reads as it did. -/
def redActsSpec : ChangeSpec := { name := "redActs", fn := fun _ => fun
  | [d1, d2, d3] => { results := [.lit (.bool true)], args := [d1, d2, d3] }
  | _ => none }
def redActsRow : OpenClaim := { program := "ytchglmgbnmdffaa", sum := "bea013ca8c94f34969ae18c35a400d772fc8f13fc8813733a2a93c1799529f4f", func := "wattlework/wattleworklaw2.RedActs", spec := "redActs", unfollowed := true, recurses := true, apart := false }
def RedActsSaid : Prop := redActsRow.holds Try.pinned (OpenSpec.ofChange redActsSpec)

/-- ITS FALSE NEIGHBOUR: 'it returns false'. Refute it at one input. -/
def redActsWrong : ChangeSpec := { name := "redActs", fn := fun _ => fun
  | [d1, d2, d3] => { results := [.lit (.bool false)], args := [d1, d2, d3] }
  | _ => none }
def RedActsWrongFalsely : Prop := redActsRow.holds Try.pinned (OpenSpec.ofChange redActsWrong)

/-- 'wattleworklaw2.RedTells': WHATEVER THE INPUT: true; the input reads as it did. -/
def redTellsSpec : ChangeSpec := { name := "redTells", fn := fun _ => fun
  | [d1, d2, d3] => { results := [.lit (.bool true)], args := [d1, d2, d3] }
  | _ => none }
def redTellsRow : OpenClaim := { program := "ytchglmgbnmdffaa", sum := "bea013ca8c94f34969ae18c35a400d772fc8f13fc8813733a2a93c1799529f4f", func := "wattlework/wattleworklaw2.RedTells", spec := "redTells", unfollowed := true, recurses := true, apart := false }
def RedTellsSaid : Prop := redTellsRow.holds Try.pinned (OpenSpec.ofChange redTellsSpec)

/-- ITS FALSE NEIGHBOUR: 'it returns false'. Refute it at one input. -/
def redTellsWrong : ChangeSpec := { name := "redTells", fn := fun _ => fun
  | [d1, d2, d3] => { results := [.lit (.bool false)], args := [d1, d2, d3] }
  | _ => none }
def RedTellsWrongFalsely : Prop := redTellsRow.holds Try.pinned (OpenSpec.ofChange redTellsWrong)

/-- 'wattleworklaw2.RedEven': WHATEVER THE INPUT: true; the input reads as it did. -/
def redEvenSpec : ChangeSpec := { name := "redEven", fn := fun _ => fun
  | [d1, d2] => { results := [.lit (.bool true)], args := [d1, d2] }
  | _ => none }
def redEvenRow : OpenClaim := { program := "ytchglmgbnmdffaa", sum := "bea013ca8c94f34969ae18c35a400d772fc8f13fc8813733a2a93c1799529f4f", func := "wattlework/wattleworklaw2.RedEven", spec := "redEven", unfollowed := true, recurses := true, apart := false }
def RedEvenSaid : Prop := redEvenRow.holds Try.pinned (OpenSpec.ofChange redEvenSpec)

/-- ITS FALSE NEIGHBOUR: 'it returns false'. Refute it at one input. -/
def redEvenWrong : ChangeSpec := { name := "redEven", fn := fun _ => fun
  | [d1, d2] => { results := [.lit (.bool false)], args := [d1, d2] }
  | _ => none }
def RedEvenWrongFalsely : Prop := redEvenRow.holds Try.pinned (OpenSpec.ofChange redEvenWrong)

/-- 'wattleworklaw2.RedHigh': WHATEVER THE INPUT: true; the input reads as it did. -/
def redHighSpec : ChangeSpec := { name := "redHigh", fn := fun _ => fun
  | [d1, d2] => { results := [.lit (.bool true)], args := [d1, d2] }
  | _ => none }
def redHighRow : OpenClaim := { program := "ytchglmgbnmdffaa", sum := "bea013ca8c94f34969ae18c35a400d772fc8f13fc8813733a2a93c1799529f4f", func := "wattlework/wattleworklaw2.RedHigh", spec := "redHigh", unfollowed := true, recurses := true, apart := false }
def RedHighSaid : Prop := redHighRow.holds Try.pinned (OpenSpec.ofChange redHighSpec)

/-- ITS FALSE NEIGHBOUR: 'it returns false'. Refute it at one input. -/
def redHighWrong : ChangeSpec := { name := "redHigh", fn := fun _ => fun
  | [d1, d2] => { results := [.lit (.bool false)], args := [d1, d2] }
  | _ => none }
def RedHighWrongFalsely : Prop := redHighRow.holds Try.pinned (OpenSpec.ofChange redHighWrong)

/- THE SECOND FORM. 'bulk': how many values and letters a reading holds, each counted each time it is reached (what is shared counts as often as it is met; a slice's spare places count too). A statement '..UptoSaid' is the law's where the arguments, and the package variables that the reading takes, are together of bulk at most 1048576: NARROWER than '..Said'. Prove '..Said' where nothing that the law and all that it calls make is longer than what came in: it says more and counts as full. Else prove '..UptoSaid'. A law counts once. -/
mutual
def uptoBulk {H : Type} : DataW H → Nat
  | .lit (.string bytes) => bytes.length + 1
  | .lit _ => 1
  | .nil => 1
  | .ptr d => uptoBulk d + 1
  | .slice elems spare => uptoBulkAll elems + uptoBulkAll spare + 1
  | .agg parts => uptoBulkAll parts + 1
  | .iface _ d => uptoBulk d + 1
  | .map entries => uptoBulkEntries entries + 1
  | .held _ => 1
def uptoBulkAll {H : Type} : List (DataW H) → Nat
  | [] => 0
  | d :: r => uptoBulk d + uptoBulkAll r
def uptoBulkEntries {H : Type} : List (Lit × DataW H) → Nat
  | [] => 0
  | x :: r => uptoBulkEntry x + uptoBulkEntries r
def uptoBulkEntry {H : Type} : Lit × DataW H → Nat
  | (.string bytes, d) => bytes.length + uptoBulk d + 1
  | (_, d) => uptoBulk d + 1
 end
def uptoSmall : (H : Type) → List (DataW H) → Bool := fun _ ds => decide (uptoBulkAll ds ≤ 1048576)
def OpenSpec.upto (s : _root_.Go.ChangeSpec) : _root_.Go.OpenSpec := { _root_.Go.OpenSpec.ofChange s with cond := some uptoSmall }

/-- 'wattleworklaw2.WbtRanks', WHERE WHAT IT READS IS OF BULK AT MOST 1048576: true; the input reads as it did. -/
def wbtRanksUptoRow : OpenClaim := { program := "ytchglmgbnmdffaa", sum := "bea013ca8c94f34969ae18c35a400d772fc8f13fc8813733a2a93c1799529f4f", func := "wattlework/wattleworklaw2.WbtRanks", spec := "wbtRanks", recurses := true, apart := false, narrowed := true }
def WbtRanksUptoSaid : Prop := wbtRanksUptoRow.holds Try.pinned (OpenSpec.upto wbtRanksSpec)

/-- 'wattleworklaw2.WbtActs', WHERE WHAT IT READS IS OF BULK AT MOST 1048576: true; the input reads as it did. -/
def wbtActsUptoRow : OpenClaim := { program := "ytchglmgbnmdffaa", sum := "bea013ca8c94f34969ae18c35a400d772fc8f13fc8813733a2a93c1799529f4f", func := "wattlework/wattleworklaw2.WbtActs", spec := "wbtActs", recurses := true, apart := false, narrowed := true }
def WbtActsUptoSaid : Prop := wbtActsUptoRow.holds Try.pinned (OpenSpec.upto wbtActsSpec)

/-- 'wattleworklaw2.WbtTells', WHERE WHAT IT READS IS OF BULK AT MOST 1048576: true; the input reads as it did. -/
def wbtTellsUptoRow : OpenClaim := { program := "ytchglmgbnmdffaa", sum := "bea013ca8c94f34969ae18c35a400d772fc8f13fc8813733a2a93c1799529f4f", func := "wattlework/wattleworklaw2.WbtTells", spec := "wbtTells", unfollowed := true, recurses := true, apart := false, narrowed := true }
def WbtTellsUptoSaid : Prop := wbtTellsUptoRow.holds Try.pinned (OpenSpec.upto wbtTellsSpec)

/-- 'wattleworklaw2.WbtSplits', WHERE WHAT IT READS IS OF BULK AT MOST 1048576: true; the input reads as it did. -/
def wbtSplitsUptoRow : OpenClaim := { program := "ytchglmgbnmdffaa", sum := "bea013ca8c94f34969ae18c35a400d772fc8f13fc8813733a2a93c1799529f4f", func := "wattlework/wattleworklaw2.WbtSplits", spec := "wbtSplits", recurses := true, apart := false, narrowed := true }
def WbtSplitsUptoSaid : Prop := wbtSplitsUptoRow.holds Try.pinned (OpenSpec.upto wbtSplitsSpec)

/-- 'wattleworklaw2.WbtBoole', WHERE WHAT IT READS IS OF BULK AT MOST 1048576: true; the input reads as it did. -/
def wbtBooleUptoRow : OpenClaim := { program := "ytchglmgbnmdffaa", sum := "bea013ca8c94f34969ae18c35a400d772fc8f13fc8813733a2a93c1799529f4f", func := "wattlework/wattleworklaw2.WbtBoole", spec := "wbtBoole", recurses := true, apart := false, narrowed := true }
def WbtBooleUptoSaid : Prop := wbtBooleUptoRow.holds Try.pinned (OpenSpec.upto wbtBooleSpec)

/-- 'wattleworklaw2.WbtSets', WHERE WHAT IT READS IS OF BULK AT MOST 1048576: true; the input reads as it did. -/
def wbtSetsUptoRow : OpenClaim := { program := "ytchglmgbnmdffaa", sum := "bea013ca8c94f34969ae18c35a400d772fc8f13fc8813733a2a93c1799529f4f", func := "wattlework/wattleworklaw2.WbtSets", spec := "wbtSets", recurses := true, apart := false, narrowed := true }
def WbtSetsUptoSaid : Prop := wbtSetsUptoRow.holds Try.pinned (OpenSpec.upto wbtSetsSpec)

/-- 'wattleworklaw2.WbtEven', WHERE WHAT IT READS IS OF BULK AT MOST 1048576: true; the input reads as it did. -/
def wbtEvenUptoRow : OpenClaim := { program := "ytchglmgbnmdffaa", sum := "bea013ca8c94f34969ae18c35a400d772fc8f13fc8813733a2a93c1799529f4f", func := "wattlework/wattleworklaw2.WbtEven", spec := "wbtEven", unfollowed := true, recurses := true, apart := false, narrowed := true }
def WbtEvenUptoSaid : Prop := wbtEvenUptoRow.holds Try.pinned (OpenSpec.upto wbtEvenSpec)

/-- 'wattleworklaw2.RedActs', WHERE WHAT IT READS IS OF BULK AT MOST 1048576: true; the input reads as it did. -/
def redActsUptoRow : OpenClaim := { program := "ytchglmgbnmdffaa", sum := "bea013ca8c94f34969ae18c35a400d772fc8f13fc8813733a2a93c1799529f4f", func := "wattlework/wattleworklaw2.RedActs", spec := "redActs", unfollowed := true, recurses := true, apart := false, narrowed := true }
def RedActsUptoSaid : Prop := redActsUptoRow.holds Try.pinned (OpenSpec.upto redActsSpec)

/-- 'wattleworklaw2.RedTells', WHERE WHAT IT READS IS OF BULK AT MOST 1048576: true; the input reads as it did. -/
def redTellsUptoRow : OpenClaim := { program := "ytchglmgbnmdffaa", sum := "bea013ca8c94f34969ae18c35a400d772fc8f13fc8813733a2a93c1799529f4f", func := "wattlework/wattleworklaw2.RedTells", spec := "redTells", unfollowed := true, recurses := true, apart := false, narrowed := true }
def RedTellsUptoSaid : Prop := redTellsUptoRow.holds Try.pinned (OpenSpec.upto redTellsSpec)

/-- 'wattleworklaw2.RedEven', WHERE WHAT IT READS IS OF BULK AT MOST 1048576: true; the input reads as it did. -/
def redEvenUptoRow : OpenClaim := { program := "ytchglmgbnmdffaa", sum := "bea013ca8c94f34969ae18c35a400d772fc8f13fc8813733a2a93c1799529f4f", func := "wattlework/wattleworklaw2.RedEven", spec := "redEven", unfollowed := true, recurses := true, apart := false, narrowed := true }
def RedEvenUptoSaid : Prop := redEvenUptoRow.holds Try.pinned (OpenSpec.upto redEvenSpec)

/-- 'wattleworklaw2.RedHigh', WHERE WHAT IT READS IS OF BULK AT MOST 1048576: true; the input reads as it did. -/
def redHighUptoRow : OpenClaim := { program := "ytchglmgbnmdffaa", sum := "bea013ca8c94f34969ae18c35a400d772fc8f13fc8813733a2a93c1799529f4f", func := "wattlework/wattleworklaw2.RedHigh", spec := "redHigh", unfollowed := true, recurses := true, apart := false, narrowed := true }
def RedHighUptoSaid : Prop := redHighUptoRow.holds Try.pinned (OpenSpec.upto redHighSpec)

end Rows
end Go.Proofs.Ytchglmgbnmdffaa
