/-
  No cell of these rows narrows 'for every input' (looked for: loops, veiled, ifaces, maps, wideKeys, modest, calm, conditions, laid).
  DERIVED. THE GIVEN ROWS OF THIS SEAT. 6 by the template 'for every input the law returns true; each argument reads behind the call as it read before'; 0 by the template 'total and deterministic' (their statements: YthjghbifcnfcmaaTotals.lean).
  GIVEN WITH THE SEED: the statements are not yours to turn. If you find one false, say at which input.
  Laid BY PROGRAM, IN A SANDBOX (cutbox-rows.mjs): the forced cells as the released guide's own fill.sh prints them over the translation 83fa8677cdc3267e… (all of the seat's roots in one cut). By AI agents, Wed Nov 11 2026. No macro, syntax, notation, axiom, sorry.
-/
import Derived.Test.YthjghbifcnfcmaaChecked
import GoSem.Claim
import GoSem.ClaimJoined
import GoSem.ClaimMapViews
import Derived.JoinedTies
import Derived.KernelRfl
namespace Go.Proofs.Ythjghbifcnfcmaa
/- THE CELL 'sum', in the pinned program and in every row, IS THE sha256 OF THE DUMP (.gsa) THAT YthjghbifcnfcmaaProg.lean LOADS. Nothing in Lean hashes anything: it is a label: what it is worth is what the hold of that sum in a sandbox is worth. -/
noncomputable def Try.pinned : Pinned := { name := "ythjghbifcnfcmaa", sum := "83fa8677cdc3267e69b1aa8828b5c2b7e80946f7b9e551c08de1353f05ccc1f3", checked := Try.checked }
namespace Rows
def none {H : Type} : Left H := { results := [], args := [] }

/-- 'wattleworklaw1.QueueFirst': WHATEVER THE INPUT: true; the input reads as it did. -/
def queueFirstSpec : ChangeSpec := { name := "queueFirst", fn := fun _ => fun
  | [d] => { results := [.lit (.bool true)], args := [d] }
  | _ => none }
def queueFirstRow : OpenClaim := { program := "ythjghbifcnfcmaa", sum := "83fa8677cdc3267e69b1aa8828b5c2b7e80946f7b9e551c08de1353f05ccc1f3", func := "wattlework/wattleworklaw1.QueueFirst", spec := "queueFirst", unfollowed := true, recurses := true, apart := false }
def QueueFirstSaid : Prop := queueFirstRow.holds Try.pinned (OpenSpec.ofChange queueFirstSpec)

/-- ITS FALSE NEIGHBOUR: 'it returns false'. Refute it at one input. -/
def queueFirstWrong : ChangeSpec := { name := "queueFirst", fn := fun _ => fun
  | [d] => { results := [.lit (.bool false)], args := [d] }
  | _ => none }
def QueueFirstWrongFalsely : Prop := queueFirstRow.holds Try.pinned (OpenSpec.ofChange queueFirstWrong)

/-- 'wattleworklaw1.QueueStays': WHATEVER THE INPUT: true; the input reads as it did. -/
def queueStaysSpec : ChangeSpec := { name := "queueStays", fn := fun _ => fun
  | [d1, d2, d3] => { results := [.lit (.bool true)], args := [d1, d2, d3] }
  | _ => none }
def queueStaysRow : OpenClaim := { program := "ythjghbifcnfcmaa", sum := "83fa8677cdc3267e69b1aa8828b5c2b7e80946f7b9e551c08de1353f05ccc1f3", func := "wattlework/wattleworklaw1.QueueStays", spec := "queueStays", unfollowed := true, recurses := true, apart := false }
def QueueStaysSaid : Prop := queueStaysRow.holds Try.pinned (OpenSpec.ofChange queueStaysSpec)

/-- ITS FALSE NEIGHBOUR: 'it returns false'. Refute it at one input. -/
def queueStaysWrong : ChangeSpec := { name := "queueStays", fn := fun _ => fun
  | [d1, d2, d3] => { results := [.lit (.bool false)], args := [d1, d2, d3] }
  | _ => none }
def QueueStaysWrongFalsely : Prop := queueStaysRow.holds Try.pinned (OpenSpec.ofChange queueStaysWrong)

/-- 'wattleworklaw1.QueueTells': WHATEVER THE INPUT: true; the input reads as it did. -/
def queueTellsSpec : ChangeSpec := { name := "queueTells", fn := fun _ => fun
  | [d1, d2] => { results := [.lit (.bool true)], args := [d1, d2] }
  | _ => none }
def queueTellsRow : OpenClaim := { program := "ythjghbifcnfcmaa", sum := "83fa8677cdc3267e69b1aa8828b5c2b7e80946f7b9e551c08de1353f05ccc1f3", func := "wattlework/wattleworklaw1.QueueTells", spec := "queueTells", unfollowed := true, recurses := true, apart := false }
def QueueTellsSaid : Prop := queueTellsRow.holds Try.pinned (OpenSpec.ofChange queueTellsSpec)

/-- ITS FALSE NEIGHBOUR: 'it returns false'. Refute it at one input. -/
def queueTellsWrong : ChangeSpec := { name := "queueTells", fn := fun _ => fun
  | [d1, d2] => { results := [.lit (.bool false)], args := [d1, d2] }
  | _ => none }
def QueueTellsWrongFalsely : Prop := queueTellsRow.holds Try.pinned (OpenSpec.ofChange queueTellsWrong)

/-- 'wattleworklaw1.RalSizes': WHATEVER THE INPUT: true; the input reads as it did. -/
def ralSizesSpec : ChangeSpec := { name := "ralSizes", fn := fun _ => fun
  | [d1, d2] => { results := [.lit (.bool true)], args := [d1, d2] }
  | _ => none }
def ralSizesRow : OpenClaim := { program := "ythjghbifcnfcmaa", sum := "83fa8677cdc3267e69b1aa8828b5c2b7e80946f7b9e551c08de1353f05ccc1f3", func := "wattlework/wattleworklaw1.RalSizes", spec := "ralSizes", unfollowed := true, recurses := true, apart := false }
def RalSizesSaid : Prop := ralSizesRow.holds Try.pinned (OpenSpec.ofChange ralSizesSpec)

/-- ITS FALSE NEIGHBOUR: 'it returns false'. Refute it at one input. -/
def ralSizesWrong : ChangeSpec := { name := "ralSizes", fn := fun _ => fun
  | [d1, d2] => { results := [.lit (.bool false)], args := [d1, d2] }
  | _ => none }
def RalSizesWrongFalsely : Prop := ralSizesRow.holds Try.pinned (OpenSpec.ofChange ralSizesWrong)

/-- 'wattleworklaw1.RalSets': WHATEVER THE INPUT: true; the input reads as it did. -/
def ralSetsSpec : ChangeSpec := { name := "ralSets", fn := fun _ => fun
  | [d1, d2, d3, d4, d5, d6] => { results := [.lit (.bool true)], args := [d1, d2, d3, d4, d5, d6] }
  | _ => none }
def ralSetsRow : OpenClaim := { program := "ythjghbifcnfcmaa", sum := "83fa8677cdc3267e69b1aa8828b5c2b7e80946f7b9e551c08de1353f05ccc1f3", func := "wattlework/wattleworklaw1.RalSets", spec := "ralSets", unfollowed := true, recurses := true, apart := false }
def RalSetsSaid : Prop := ralSetsRow.holds Try.pinned (OpenSpec.ofChange ralSetsSpec)

/-- ITS FALSE NEIGHBOUR: 'it returns false'. Refute it at one input. -/
def ralSetsWrong : ChangeSpec := { name := "ralSets", fn := fun _ => fun
  | [d1, d2, d3, d4, d5, d6] => { results := [.lit (.bool false)], args := [d1, d2, d3, d4, d5, d6] }
  | _ => none }
def RalSetsWrongFalsely : Prop := ralSetsRow.holds Try.pinned (OpenSpec.ofChange ralSetsWrong)

/-- 'wattleworklaw1.RalTells': WHATEVER THE INPUT: true; the input reads as it did. -/
def ralTellsSpec : ChangeSpec := { name := "ralTells", fn := fun _ => fun
  | [d1, d2, d3] => { results := [.lit (.bool true)], args := [d1, d2, d3] }
  | _ => none }
def ralTellsRow : OpenClaim := { program := "ythjghbifcnfcmaa", sum := "83fa8677cdc3267e69b1aa8828b5c2b7e80946f7b9e551c08de1353f05ccc1f3", func := "wattlework/wattleworklaw1.RalTells", spec := "ralTells", unfollowed := true, recurses := true, apart := false }
def RalTellsSaid : Prop := ralTellsRow.holds Try.pinned (OpenSpec.ofChange ralTellsSpec)

/-- ITS FALSE NEIGHBOUR: 'it returns false'. Refute it at one input. -/
def ralTellsWrong : ChangeSpec := { name := "ralTells", fn := fun _ => fun
  | [d1, d2, d3] => { results := [.lit (.bool false)], args := [d1, d2, d3] }
  | _ => none }
def RalTellsWrongFalsely : Prop := ralTellsRow.holds Try.pinned (OpenSpec.ofChange ralTellsWrong)

/- THE SECOND FORM. 'bulk': how many values and letters a reading holds, each counted each time it is reached (what is shared counts as often as it is met; a slice's spare places count too). A statement '..UptoSaid' is the law's where the arguments, and the package variables that the reading takes, are together of bulk at most 1048576: NARROWER than '..Said'. Prove '..Said' where nothing that the law and all that it calls make is longer than what came in: it says more and counts as full. Else prove '..UptoSaid'. A law counts once. -/
mutual
def uptoBulk {H : Type} : DataW H → Nat
  | .lit (.string bytes) => bytes.length + 1
  | .lit _ => 1
  | .nil => 1
  | .ptr d => uptoBulk d + 1
  | .slice elems spare => uptoBulkAll elems + uptoBulkAll spare + 1
  | .agg parts => uptoBulkAll parts + 1
  | .iface _ d => uptoBulk d + 1
  | .map entries => uptoBulkEntries entries + 1
  | .held _ => 1
def uptoBulkAll {H : Type} : List (DataW H) → Nat
  | [] => 0
  | d :: r => uptoBulk d + uptoBulkAll r
def uptoBulkEntries {H : Type} : List (Lit × DataW H) → Nat
  | [] => 0
  | x :: r => uptoBulkEntry x + uptoBulkEntries r
def uptoBulkEntry {H : Type} : Lit × DataW H → Nat
  | (.string bytes, d) => bytes.length + uptoBulk d + 1
  | (_, d) => uptoBulk d + 1
 end
def uptoSmall : (H : Type) → List (DataW H) → Bool := fun _ ds => decide (uptoBulkAll ds ≤ 1048576)
def OpenSpec.upto (s : _root_.Go.ChangeSpec) : _root_.Go.OpenSpec := { _root_.Go.OpenSpec.ofChange s with cond := some uptoSmall }

/-- 'wattleworklaw1.QueueFirst', WHERE WHAT IT READS IS OF BULK AT MOST 1048576: true; the input reads as it did. -/
def queueFirstUptoRow : OpenClaim := { program := "ythjghbifcnfcmaa", sum := "83fa8677cdc3267e69b1aa8828b5c2b7e80946f7b9e551c08de1353f05ccc1f3", func := "wattlework/wattleworklaw1.QueueFirst", spec := "queueFirst", unfollowed := true, recurses := true, apart := false, narrowed := true }
def QueueFirstUptoSaid : Prop := queueFirstUptoRow.holds Try.pinned (OpenSpec.upto queueFirstSpec)

/-- 'wattleworklaw1.QueueStays', WHERE WHAT IT READS IS OF BULK AT MOST 1048576: true; the input reads as it did. -/
def queueStaysUptoRow : OpenClaim := { program := "ythjghbifcnfcmaa", sum := "83fa8677cdc3267e69b1aa8828b5c2b7e80946f7b9e551c08de1353f05ccc1f3", func := "wattlework/wattleworklaw1.QueueStays", spec := "queueStays", unfollowed := true, recurses := true, apart := false, narrowed := true }
def QueueStaysUptoSaid : Prop := queueStaysUptoRow.holds Try.pinned (OpenSpec.upto queueStaysSpec)

/-- 'wattleworklaw1.QueueTells', WHERE WHAT IT READS IS OF BULK AT MOST 1048576: true; the input reads as it did. -/
def queueTellsUptoRow : OpenClaim := { program := "ythjghbifcnfcmaa", sum := "83fa8677cdc3267e69b1aa8828b5c2b7e80946f7b9e551c08de1353f05ccc1f3", func := "wattlework/wattleworklaw1.QueueTells", spec := "queueTells", unfollowed := true, recurses := true, apart := false, narrowed := true }
def QueueTellsUptoSaid : Prop := queueTellsUptoRow.holds Try.pinned (OpenSpec.upto queueTellsSpec)

/-- 'wattleworklaw1.RalSizes', WHERE WHAT IT READS IS OF BULK AT MOST 1048576: true; the input reads as it did. -/
def ralSizesUptoRow : OpenClaim := { program := "ythjghbifcnfcmaa", sum := "83fa8677cdc3267e69b1aa8828b5c2b7e80946f7b9e551c08de1353f05ccc1f3", func := "wattlework/wattleworklaw1.RalSizes", spec := "ralSizes", unfollowed := true, recurses := true, apart := false, narrowed := true }
def RalSizesUptoSaid : Prop := ralSizesUptoRow.holds Try.pinned (OpenSpec.upto ralSizesSpec)

/-- 'wattleworklaw1.RalSets', WHERE WHAT IT READS IS OF BULK AT MOST 1048576: true; the input reads as it did. -/
def ralSetsUptoRow : OpenClaim := { program := "ythjghbifcnfcmaa", sum := "83fa8677cdc3267e69b1aa8828b5c2b7e80946f7b9e551c08de1353f05ccc1f3", func := "wattlework/wattleworklaw1.RalSets", spec := "ralSets", unfollowed := true, recurses := true, apart := false, narrowed := true }
def RalSetsUptoSaid : Prop := ralSetsUptoRow.holds Try.pinned (OpenSpec.upto ralSetsSpec)

/-- 'wattleworklaw1.RalTells', WHERE WHAT IT READS IS OF BULK AT MOST 1048576: true; the input reads as it did. -/
def ralTellsUptoRow : OpenClaim := { program := "ythjghbifcnfcmaa", sum := "83fa8677cdc3267e69b1aa8828b5c2b7e80946f7b9e551c08de1353f05ccc1f3", func := "wattlework/wattleworklaw1.RalTells", spec := "ralTells", unfollowed := true, recurses := true, apart := false, narrowed := true }
def RalTellsUptoSaid : Prop := ralTellsUptoRow.holds Try.pinned (OpenSpec.upto ralTellsSpec)

end Rows
end Go.Proofs.Ythjghbifcnfcmaa
