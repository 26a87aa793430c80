/-
  No cell of these rows narrows 'for every input' (looked for: loops, veiled, ifaces, maps, wideKeys, modest, calm, conditions, laid).
  DERIVED. THE GIVEN ROWS OF THIS SEAT. 8 by the template 'for every input the law returns true; each argument reads behind the call as it read before'; 0 by the template 'total and deterministic' (their statements: YtooejhijdjcmkaaTotals.lean).
  GIVEN WITH THE SEED: the statements are not yours to turn. If you find one false, say at which input.
  Laid BY PROGRAM, IN A SANDBOX (cutbox-rows.mjs): the forced cells as the released guide's own fill.sh prints them over the translation 3b854a223451a415… (all of the seat's roots in one cut). By AI agents, Wed Nov 11 2026. No macro, syntax, notation, axiom, sorry.
-/
import Derived.Test.YtooejhijdjcmkaaChecked
import GoSem.Claim
import GoSem.ClaimJoined
import GoSem.ClaimMapViews
import Derived.JoinedTies
import Derived.KernelRfl
namespace Go.Proofs.Ytooejhijdjcmkaa
/- THE CELL 'sum', in the pinned program and in every row, IS THE sha256 OF THE DUMP (.gsa) THAT YtooejhijdjcmkaaProg.lean LOADS. Nothing in Lean hashes anything: it is a label: what it is worth is what the hold of that sum in a sandbox is worth. -/
noncomputable def Try.pinned : Pinned := { name := "ytooejhijdjcmkaa", sum := "3b854a223451a4153ae9529074de8f64ac5ea17a70ea7d4ac3201a6db90852e6", checked := Try.checked }
namespace Rows
def none {H : Type} : Left H := { results := [], args := [] }

/-- 'wattleworklaw1.ListLoops': WHATEVER THE INPUT: true; the input reads as it did. -/
def listLoopsSpec : ChangeSpec := { name := "listLoops", fn := fun _ => fun
  | [d1, d2] => { results := [.lit (.bool true)], args := [d1, d2] }
  | _ => none }
def listLoopsRow : OpenClaim := { program := "ytooejhijdjcmkaa", sum := "3b854a223451a4153ae9529074de8f64ac5ea17a70ea7d4ac3201a6db90852e6", func := "wattlework/wattleworklaw1.ListLoops", spec := "listLoops", unfollowed := true, recurses := true, apart := false }
def ListLoopsSaid : Prop := listLoopsRow.holds Try.pinned (OpenSpec.ofChange listLoopsSpec)

/-- ITS FALSE NEIGHBOUR: 'it returns false'. Refute it at one input. -/
def listLoopsWrong : ChangeSpec := { name := "listLoops", fn := fun _ => fun
  | [d1, d2] => { results := [.lit (.bool false)], args := [d1, d2] }
  | _ => none }
def ListLoopsWrongFalsely : Prop := listLoopsRow.holds Try.pinned (OpenSpec.ofChange listLoopsWrong)

/-- 'wattleworklaw1.ListKeeps': WHATEVER THE INPUT: true; the input reads as it did. -/
def listKeepsSpec : ChangeSpec := { name := "listKeeps", fn := fun _ => fun
  | [d1, d2, d3] => { results := [.lit (.bool true)], args := [d1, d2, d3] }
  | _ => none }
def listKeepsRow : OpenClaim := { program := "ytooejhijdjcmkaa", sum := "3b854a223451a4153ae9529074de8f64ac5ea17a70ea7d4ac3201a6db90852e6", func := "wattlework/wattleworklaw1.ListKeeps", spec := "listKeeps", unfollowed := true, recurses := true, apart := false }
def ListKeepsSaid : Prop := listKeepsRow.holds Try.pinned (OpenSpec.ofChange listKeepsSpec)

/-- ITS FALSE NEIGHBOUR: 'it returns false'. Refute it at one input. -/
def listKeepsWrong : ChangeSpec := { name := "listKeeps", fn := fun _ => fun
  | [d1, d2, d3] => { results := [.lit (.bool false)], args := [d1, d2, d3] }
  | _ => none }
def ListKeepsWrongFalsely : Prop := listKeepsRow.holds Try.pinned (OpenSpec.ofChange listKeepsWrong)

/-- 'wattleworklaw1.ListFolds': WHATEVER THE INPUT: true; the input reads as it did. -/
def listFoldsSpec : ChangeSpec := { name := "listFolds", fn := fun _ => fun
  | [d1, d2, d3, d4] => { results := [.lit (.bool true)], args := [d1, d2, d3, d4] }
  | _ => none }
def listFoldsRow : OpenClaim := { program := "ytooejhijdjcmkaa", sum := "3b854a223451a4153ae9529074de8f64ac5ea17a70ea7d4ac3201a6db90852e6", func := "wattlework/wattleworklaw1.ListFolds", spec := "listFolds", unfollowed := true, recurses := true, apart := false }
def ListFoldsSaid : Prop := listFoldsRow.holds Try.pinned (OpenSpec.ofChange listFoldsSpec)

/-- ITS FALSE NEIGHBOUR: 'it returns false'. Refute it at one input. -/
def listFoldsWrong : ChangeSpec := { name := "listFolds", fn := fun _ => fun
  | [d1, d2, d3, d4] => { results := [.lit (.bool false)], args := [d1, d2, d3, d4] }
  | _ => none }
def ListFoldsWrongFalsely : Prop := listFoldsRow.holds Try.pinned (OpenSpec.ofChange listFoldsWrong)

/-- 'wattleworklaw1.ListTells': WHATEVER THE INPUT: true; the input reads as it did. -/
def listTellsSpec : ChangeSpec := { name := "listTells", fn := fun _ => fun
  | [d1, d2, d3] => { results := [.lit (.bool true)], args := [d1, d2, d3] }
  | _ => none }
def listTellsRow : OpenClaim := { program := "ytooejhijdjcmkaa", sum := "3b854a223451a4153ae9529074de8f64ac5ea17a70ea7d4ac3201a6db90852e6", func := "wattlework/wattleworklaw1.ListTells", spec := "listTells", unfollowed := true, recurses := true, apart := false }
def ListTellsSaid : Prop := listTellsRow.holds Try.pinned (OpenSpec.ofChange listTellsSpec)

/-- ITS FALSE NEIGHBOUR: 'it returns false'. Refute it at one input. -/
def listTellsWrong : ChangeSpec := { name := "listTells", fn := fun _ => fun
  | [d1, d2, d3] => { results := [.lit (.bool false)], args := [d1, d2, d3] }
  | _ => none }
def ListTellsWrongFalsely : Prop := listTellsRow.holds Try.pinned (OpenSpec.ofChange listTellsWrong)

/-- 'wattleworklaw1.ListRevs': WHATEVER THE INPUT: true; the input reads as it did. -/
def listRevsSpec : ChangeSpec := { name := "listRevs", fn := fun _ => fun
  | [d1, d2] => { results := [.lit (.bool true)], args := [d1, d2] }
  | _ => none }
def listRevsRow : OpenClaim := { program := "ytooejhijdjcmkaa", sum := "3b854a223451a4153ae9529074de8f64ac5ea17a70ea7d4ac3201a6db90852e6", func := "wattlework/wattleworklaw1.ListRevs", spec := "listRevs", unfollowed := true, recurses := true, apart := false }
def ListRevsSaid : Prop := listRevsRow.holds Try.pinned (OpenSpec.ofChange listRevsSpec)

/-- ITS FALSE NEIGHBOUR: 'it returns false'. Refute it at one input. -/
def listRevsWrong : ChangeSpec := { name := "listRevs", fn := fun _ => fun
  | [d1, d2] => { results := [.lit (.bool false)], args := [d1, d2] }
  | _ => none }
def ListRevsWrongFalsely : Prop := listRevsRow.holds Try.pinned (OpenSpec.ofChange listRevsWrong)

/-- 'wattleworklaw1.ListJoins': WHATEVER THE INPUT: true; the input reads as it did. -/
def listJoinsSpec : ChangeSpec := { name := "listJoins", fn := fun _ => fun
  | [d1, d2, d3] => { results := [.lit (.bool true)], args := [d1, d2, d3] }
  | _ => none }
def listJoinsRow : OpenClaim := { program := "ytooejhijdjcmkaa", sum := "3b854a223451a4153ae9529074de8f64ac5ea17a70ea7d4ac3201a6db90852e6", func := "wattlework/wattleworklaw1.ListJoins", spec := "listJoins", unfollowed := true, recurses := true, apart := false }
def ListJoinsSaid : Prop := listJoinsRow.holds Try.pinned (OpenSpec.ofChange listJoinsSpec)

/-- ITS FALSE NEIGHBOUR: 'it returns false'. Refute it at one input. -/
def listJoinsWrong : ChangeSpec := { name := "listJoins", fn := fun _ => fun
  | [d1, d2, d3] => { results := [.lit (.bool false)], args := [d1, d2, d3] }
  | _ => none }
def ListJoinsWrongFalsely : Prop := listJoinsRow.holds Try.pinned (OpenSpec.ofChange listJoinsWrong)

/-- 'wattleworklaw1.ListStays': WHATEVER THE INPUT: true; the input reads as it did. -/
def listStaysSpec : ChangeSpec := { name := "listStays", fn := fun _ => fun
  | [d1, d2, d3] => { results := [.lit (.bool true)], args := [d1, d2, d3] }
  | _ => none }
def listStaysRow : OpenClaim := { program := "ytooejhijdjcmkaa", sum := "3b854a223451a4153ae9529074de8f64ac5ea17a70ea7d4ac3201a6db90852e6", func := "wattlework/wattleworklaw1.ListStays", spec := "listStays", unfollowed := true, recurses := true, apart := false }
def ListStaysSaid : Prop := listStaysRow.holds Try.pinned (OpenSpec.ofChange listStaysSpec)

/-- ITS FALSE NEIGHBOUR: 'it returns false'. Refute it at one input. -/
def listStaysWrong : ChangeSpec := { name := "listStays", fn := fun _ => fun
  | [d1, d2, d3] => { results := [.lit (.bool false)], args := [d1, d2, d3] }
  | _ => none }
def ListStaysWrongFalsely : Prop := listStaysRow.holds Try.pinned (OpenSpec.ofChange listStaysWrong)

/-- 'wattleworklaw1.ListEach': WHATEVER THE INPUT: true; the input reads as it did. -/
def listEachSpec : ChangeSpec := { name := "listEach", fn := fun _ => fun
  | [d1, d2, d3, d4, d5, d6] => { results := [.lit (.bool true)], args := [d1, d2, d3, d4, d5, d6] }
  | _ => none }
def listEachRow : OpenClaim := { program := "ytooejhijdjcmkaa", sum := "3b854a223451a4153ae9529074de8f64ac5ea17a70ea7d4ac3201a6db90852e6", func := "wattlework/wattleworklaw1.ListEach", spec := "listEach", unfollowed := true, recurses := true, apart := false }
def ListEachSaid : Prop := listEachRow.holds Try.pinned (OpenSpec.ofChange listEachSpec)

/-- ITS FALSE NEIGHBOUR: 'it returns false'. Refute it at one input. -/
def listEachWrong : ChangeSpec := { name := "listEach", fn := fun _ => fun
  | [d1, d2, d3, d4, d5, d6] => { results := [.lit (.bool false)], args := [d1, d2, d3, d4, d5, d6] }
  | _ => none }
def ListEachWrongFalsely : Prop := listEachRow.holds Try.pinned (OpenSpec.ofChange listEachWrong)

/- THE SECOND FORM. 'bulk': how many values and letters a reading holds, each counted each time it is reached (what is shared counts as often as it is met; a slice's spare places count too). A statement '..UptoSaid' is the law's where the arguments, and the package variables that the reading takes, are together of bulk at most 1048576: NARROWER than '..Said'. Prove '..Said' where nothing that the law and all that it calls make is longer than what came in: it says more and counts as full. Else prove '..UptoSaid'. A law counts once. -/
mutual
def uptoBulk {H : Type} : DataW H → Nat
  | .lit (.string bytes) => bytes.length + 1
  | .lit _ => 1
  | .nil => 1
  | .ptr d => uptoBulk d + 1
  | .slice elems spare => uptoBulkAll elems + uptoBulkAll spare + 1
  | .agg parts => uptoBulkAll parts + 1
  | .iface _ d => uptoBulk d + 1
  | .map entries => uptoBulkEntries entries + 1
  | .held _ => 1
def uptoBulkAll {H : Type} : List (DataW H) → Nat
  | [] => 0
  | d :: r => uptoBulk d + uptoBulkAll r
def uptoBulkEntries {H : Type} : List (Lit × DataW H) → Nat
  | [] => 0
  | x :: r => uptoBulkEntry x + uptoBulkEntries r
def uptoBulkEntry {H : Type} : Lit × DataW H → Nat
  | (.string bytes, d) => bytes.length + uptoBulk d + 1
  | (_, d) => uptoBulk d + 1
 end
def uptoSmall : (H : Type) → List (DataW H) → Bool := fun _ ds => decide (uptoBulkAll ds ≤ 1048576)
def OpenSpec.upto (s : _root_.Go.ChangeSpec) : _root_.Go.OpenSpec := { _root_.Go.OpenSpec.ofChange s with cond := some uptoSmall }

/-- 'wattleworklaw1.ListLoops', WHERE WHAT IT READS IS OF BULK AT MOST 1048576: true; the input reads as it did. -/
def listLoopsUptoRow : OpenClaim := { program := "ytooejhijdjcmkaa", sum := "3b854a223451a4153ae9529074de8f64ac5ea17a70ea7d4ac3201a6db90852e6", func := "wattlework/wattleworklaw1.ListLoops", spec := "listLoops", unfollowed := true, recurses := true, apart := false, narrowed := true }
def ListLoopsUptoSaid : Prop := listLoopsUptoRow.holds Try.pinned (OpenSpec.upto listLoopsSpec)

/-- 'wattleworklaw1.ListKeeps', WHERE WHAT IT READS IS OF BULK AT MOST 1048576: true; the input reads as it did. -/
def listKeepsUptoRow : OpenClaim := { program := "ytooejhijdjcmkaa", sum := "3b854a223451a4153ae9529074de8f64ac5ea17a70ea7d4ac3201a6db90852e6", func := "wattlework/wattleworklaw1.ListKeeps", spec := "listKeeps", unfollowed := true, recurses := true, apart := false, narrowed := true }
def ListKeepsUptoSaid : Prop := listKeepsUptoRow.holds Try.pinned (OpenSpec.upto listKeepsSpec)

/-- 'wattleworklaw1.ListFolds', WHERE WHAT IT READS IS OF BULK AT MOST 1048576: true; the input reads as it did. -/
def listFoldsUptoRow : OpenClaim := { program := "ytooejhijdjcmkaa", sum := "3b854a223451a4153ae9529074de8f64ac5ea17a70ea7d4ac3201a6db90852e6", func := "wattlework/wattleworklaw1.ListFolds", spec := "listFolds", unfollowed := true, recurses := true, apart := false, narrowed := true }
def ListFoldsUptoSaid : Prop := listFoldsUptoRow.holds Try.pinned (OpenSpec.upto listFoldsSpec)

/-- 'wattleworklaw1.ListTells', WHERE WHAT IT READS IS OF BULK AT MOST 1048576: true; the input reads as it did. -/
def listTellsUptoRow : OpenClaim := { program := "ytooejhijdjcmkaa", sum := "3b854a223451a4153ae9529074de8f64ac5ea17a70ea7d4ac3201a6db90852e6", func := "wattlework/wattleworklaw1.ListTells", spec := "listTells", unfollowed := true, recurses := true, apart := false, narrowed := true }
def ListTellsUptoSaid : Prop := listTellsUptoRow.holds Try.pinned (OpenSpec.upto listTellsSpec)

/-- 'wattleworklaw1.ListRevs', WHERE WHAT IT READS IS OF BULK AT MOST 1048576: true; the input reads as it did. -/
def listRevsUptoRow : OpenClaim := { program := "ytooejhijdjcmkaa", sum := "3b854a223451a4153ae9529074de8f64ac5ea17a70ea7d4ac3201a6db90852e6", func := "wattlework/wattleworklaw1.ListRevs", spec := "listRevs", unfollowed := true, recurses := true, apart := false, narrowed := true }
def ListRevsUptoSaid : Prop := listRevsUptoRow.holds Try.pinned (OpenSpec.upto listRevsSpec)

/-- 'wattleworklaw1.ListJoins', WHERE WHAT IT READS IS OF BULK AT MOST 1048576: true; the input reads as it did. -/
def listJoinsUptoRow : OpenClaim := { program := "ytooejhijdjcmkaa", sum := "3b854a223451a4153ae9529074de8f64ac5ea17a70ea7d4ac3201a6db90852e6", func := "wattlework/wattleworklaw1.ListJoins", spec := "listJoins", unfollowed := true, recurses := true, apart := false, narrowed := true }
def ListJoinsUptoSaid : Prop := listJoinsUptoRow.holds Try.pinned (OpenSpec.upto listJoinsSpec)

/-- 'wattleworklaw1.ListStays', WHERE WHAT IT READS IS OF BULK AT MOST 1048576: true; the input reads as it did. -/
def listStaysUptoRow : OpenClaim := { program := "ytooejhijdjcmkaa", sum := "3b854a223451a4153ae9529074de8f64ac5ea17a70ea7d4ac3201a6db90852e6", func := "wattlework/wattleworklaw1.ListStays", spec := "listStays", unfollowed := true, recurses := true, apart := false, narrowed := true }
def ListStaysUptoSaid : Prop := listStaysUptoRow.holds Try.pinned (OpenSpec.upto listStaysSpec)

/-- 'wattleworklaw1.ListEach', WHERE WHAT IT READS IS OF BULK AT MOST 1048576: true; the input reads as it did. -/
def listEachUptoRow : OpenClaim := { program := "ytooejhijdjcmkaa", sum := "3b854a223451a4153ae9529074de8f64ac5ea17a70ea7d4ac3201a6db90852e6", func := "wattlework/wattleworklaw1.ListEach", spec := "listEach", unfollowed := true, recurses := true, apart := false, narrowed := true }
def ListEachUptoSaid : Prop := listEachUptoRow.holds Try.pinned (OpenSpec.upto listEachSpec)

end Rows
end Go.Proofs.Ytooejhijdjcmkaa
