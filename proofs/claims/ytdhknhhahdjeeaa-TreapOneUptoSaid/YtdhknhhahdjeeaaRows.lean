/-
  No cell of these rows narrows 'for every input' (looked for: loops, veiled, ifaces, maps, wideKeys, modest, calm, conditions, laid).
  DERIVED. THE GIVEN ROWS OF THIS SEAT. 8 by the template 'for every input the law returns true; each argument reads behind the call as it read before'; 0 by the template 'total and deterministic' (their statements: YtdhknhhahdjeeaaTotals.lean).
  GIVEN WITH THE SEED: the statements are not yours to turn. If you find one false, say at which input.
  Laid BY PROGRAM, IN A SANDBOX (cutbox-rows.mjs): the forced cells as the released guide's own fill.sh prints them over the translation e2270a51d4874318… (all of the seat's roots in one cut). By AI agents, Wed Nov 11 2026. No macro, syntax, notation, axiom, sorry.
-/
import Derived.Test.YtdhknhhahdjeeaaChecked
import GoSem.Claim
import GoSem.ClaimJoined
import GoSem.ClaimMapViews
import Derived.JoinedTies
import Derived.KernelRfl
namespace Go.Proofs.Ytdhknhhahdjeeaa
/- THE CELL 'sum', in the pinned program and in every row, IS THE sha256 OF THE DUMP (.gsa) THAT YtdhknhhahdjeeaaProg.lean LOADS. Nothing in Lean hashes anything: it is a label: what it is worth is what the hold of that sum in a sandbox is worth. -/
noncomputable def Try.pinned : Pinned := { name := "ytdhknhhahdjeeaa", sum := "e2270a51d48743185ecae389ecf40990be2797acd21e32f48630e7b7ec5ff3bd", checked := Try.checked }
namespace Rows
def none {H : Type} : Left H := { results := [], args := [] }

/-- 'wattleworklaw2.SplayActs': WHATEVER THE INPUT: true; the input reads as it did. -/
def splayActsSpec : ChangeSpec := { name := "splayActs", fn := fun _ => fun
  | [d1, d2, d3] => { results := [.lit (.bool true)], args := [d1, d2, d3] }
  | _ => none }
def splayActsRow : OpenClaim := { program := "ytdhknhhahdjeeaa", sum := "e2270a51d48743185ecae389ecf40990be2797acd21e32f48630e7b7ec5ff3bd", func := "wattlework/wattleworklaw2.SplayActs", spec := "splayActs", unfollowed := true, recurses := true, apart := false }
def SplayActsSaid : Prop := splayActsRow.holds Try.pinned (OpenSpec.ofChange splayActsSpec)

/-- ITS FALSE NEIGHBOUR: 'it returns false'. Refute it at one input. -/
def splayActsWrong : ChangeSpec := { name := "splayActs", fn := fun _ => fun
  | [d1, d2, d3] => { results := [.lit (.bool false)], args := [d1, d2, d3] }
  | _ => none }
def SplayActsWrongFalsely : Prop := splayActsRow.holds Try.pinned (OpenSpec.ofChange splayActsWrong)

/-- 'wattleworklaw2.SplayTop': WHATEVER THE INPUT: true; the input reads as it did. -/
def splayTopSpec : ChangeSpec := { name := "splayTop", fn := fun _ => fun
  | [d1, d2, d3] => { results := [.lit (.bool true)], args := [d1, d2, d3] }
  | _ => none }
def splayTopRow : OpenClaim := { program := "ytdhknhhahdjeeaa", sum := "e2270a51d48743185ecae389ecf40990be2797acd21e32f48630e7b7ec5ff3bd", func := "wattlework/wattleworklaw2.SplayTop", spec := "splayTop", unfollowed := true, recurses := true, apart := false }
def SplayTopSaid : Prop := splayTopRow.holds Try.pinned (OpenSpec.ofChange splayTopSpec)

/-- ITS FALSE NEIGHBOUR: 'it returns false'. Refute it at one input. -/
def splayTopWrong : ChangeSpec := { name := "splayTop", fn := fun _ => fun
  | [d1, d2, d3] => { results := [.lit (.bool false)], args := [d1, d2, d3] }
  | _ => none }
def SplayTopWrongFalsely : Prop := splayTopRow.holds Try.pinned (OpenSpec.ofChange splayTopWrong)

/-- 'wattleworklaw2.SplayAsks': WHATEVER THE INPUT: true; the input reads as it did. -/
def splayAsksSpec : ChangeSpec := { name := "splayAsks", fn := fun _ => fun
  | [d1, d2] => { results := [.lit (.bool true)], args := [d1, d2] }
  | _ => none }
def splayAsksRow : OpenClaim := { program := "ytdhknhhahdjeeaa", sum := "e2270a51d48743185ecae389ecf40990be2797acd21e32f48630e7b7ec5ff3bd", func := "wattlework/wattleworklaw2.SplayAsks", spec := "splayAsks", unfollowed := true, recurses := true, apart := false }
def SplayAsksSaid : Prop := splayAsksRow.holds Try.pinned (OpenSpec.ofChange splayAsksSpec)

/-- ITS FALSE NEIGHBOUR: 'it returns false'. Refute it at one input. -/
def splayAsksWrong : ChangeSpec := { name := "splayAsks", fn := fun _ => fun
  | [d1, d2] => { results := [.lit (.bool false)], args := [d1, d2] }
  | _ => none }
def SplayAsksWrongFalsely : Prop := splayAsksRow.holds Try.pinned (OpenSpec.ofChange splayAsksWrong)

/-- 'wattleworklaw2.SplayTells': WHATEVER THE INPUT: true; the input reads as it did. -/
def splayTellsSpec : ChangeSpec := { name := "splayTells", fn := fun _ => fun
  | [d1, d2, d3] => { results := [.lit (.bool true)], args := [d1, d2, d3] }
  | _ => none }
def splayTellsRow : OpenClaim := { program := "ytdhknhhahdjeeaa", sum := "e2270a51d48743185ecae389ecf40990be2797acd21e32f48630e7b7ec5ff3bd", func := "wattlework/wattleworklaw2.SplayTells", spec := "splayTells", unfollowed := true, recurses := true, apart := false }
def SplayTellsSaid : Prop := splayTellsRow.holds Try.pinned (OpenSpec.ofChange splayTellsSpec)

/-- ITS FALSE NEIGHBOUR: 'it returns false'. Refute it at one input. -/
def splayTellsWrong : ChangeSpec := { name := "splayTells", fn := fun _ => fun
  | [d1, d2, d3] => { results := [.lit (.bool false)], args := [d1, d2, d3] }
  | _ => none }
def SplayTellsWrongFalsely : Prop := splayTellsRow.holds Try.pinned (OpenSpec.ofChange splayTellsWrong)

/-- 'wattleworklaw2.TreapActs': WHATEVER THE INPUT: true; the input reads as it did. -/
def treapActsSpec : ChangeSpec := { name := "treapActs", fn := fun _ => fun
  | [d1, d2, d3] => { results := [.lit (.bool true)], args := [d1, d2, d3] }
  | _ => none }
def treapActsRow : OpenClaim := { program := "ytdhknhhahdjeeaa", sum := "e2270a51d48743185ecae389ecf40990be2797acd21e32f48630e7b7ec5ff3bd", func := "wattlework/wattleworklaw2.TreapActs", spec := "treapActs", unfollowed := true, recurses := true, apart := false }
def TreapActsSaid : Prop := treapActsRow.holds Try.pinned (OpenSpec.ofChange treapActsSpec)

/-- ITS FALSE NEIGHBOUR: 'it returns false'. Refute it at one input. -/
def treapActsWrong : ChangeSpec := { name := "treapActs", fn := fun _ => fun
  | [d1, d2, d3] => { results := [.lit (.bool false)], args := [d1, d2, d3] }
  | _ => none }
def TreapActsWrongFalsely : Prop := treapActsRow.holds Try.pinned (OpenSpec.ofChange treapActsWrong)

/-- 'wattleworklaw2.TreapHeap': WHATEVER THE INPUT: true; the input reads as it did. -/
def treapHeapSpec : ChangeSpec := { name := "treapHeap", fn := fun _ => fun
  | [d1, d2] => { results := [.lit (.bool true)], args := [d1, d2] }
  | _ => none }
def treapHeapRow : OpenClaim := { program := "ytdhknhhahdjeeaa", sum := "e2270a51d48743185ecae389ecf40990be2797acd21e32f48630e7b7ec5ff3bd", func := "wattlework/wattleworklaw2.TreapHeap", spec := "treapHeap", unfollowed := true, recurses := true, apart := false }
def TreapHeapSaid : Prop := treapHeapRow.holds Try.pinned (OpenSpec.ofChange treapHeapSpec)

/-- ITS FALSE NEIGHBOUR: 'it returns false'. Refute it at one input. -/
def treapHeapWrong : ChangeSpec := { name := "treapHeap", fn := fun _ => fun
  | [d1, d2] => { results := [.lit (.bool false)], args := [d1, d2] }
  | _ => none }
def TreapHeapWrongFalsely : Prop := treapHeapRow.holds Try.pinned (OpenSpec.ofChange treapHeapWrong)

/-- 'wattleworklaw2.TreapTells': WHATEVER THE INPUT: true; the input reads as it did. -/
def treapTellsSpec : ChangeSpec := { name := "treapTells", fn := fun _ => fun
  | [d1, d2, d3] => { results := [.lit (.bool true)], args := [d1, d2, d3] }
  | _ => none }
def treapTellsRow : OpenClaim := { program := "ytdhknhhahdjeeaa", sum := "e2270a51d48743185ecae389ecf40990be2797acd21e32f48630e7b7ec5ff3bd", func := "wattlework/wattleworklaw2.TreapTells", spec := "treapTells", unfollowed := true, recurses := true, apart := false }
def TreapTellsSaid : Prop := treapTellsRow.holds Try.pinned (OpenSpec.ofChange treapTellsSpec)

/-- ITS FALSE NEIGHBOUR: 'it returns false'. Refute it at one input. -/
def treapTellsWrong : ChangeSpec := { name := "treapTells", fn := fun _ => fun
  | [d1, d2, d3] => { results := [.lit (.bool false)], args := [d1, d2, d3] }
  | _ => none }
def TreapTellsWrongFalsely : Prop := treapTellsRow.holds Try.pinned (OpenSpec.ofChange treapTellsWrong)

/-- 'wattleworklaw2.TreapOne': WHATEVER THE INPUT: true; the input reads as it did. -/
def treapOneSpec : ChangeSpec := { name := "treapOne", fn := fun _ => fun
  | [d1, d2, d3] => { results := [.lit (.bool true)], args := [d1, d2, d3] }
  | _ => none }
def treapOneRow : OpenClaim := { program := "ytdhknhhahdjeeaa", sum := "e2270a51d48743185ecae389ecf40990be2797acd21e32f48630e7b7ec5ff3bd", func := "wattlework/wattleworklaw2.TreapOne", spec := "treapOne", unfollowed := true, recurses := true, apart := false }
def TreapOneSaid : Prop := treapOneRow.holds Try.pinned (OpenSpec.ofChange treapOneSpec)

/-- ITS FALSE NEIGHBOUR: 'it returns false'. Refute it at one input. -/
def treapOneWrong : ChangeSpec := { name := "treapOne", fn := fun _ => fun
  | [d1, d2, d3] => { results := [.lit (.bool false)], args := [d1, d2, d3] }
  | _ => none }
def TreapOneWrongFalsely : Prop := treapOneRow.holds Try.pinned (OpenSpec.ofChange treapOneWrong)

/- THE SECOND FORM. 'bulk': how many values and letters a reading holds, each counted each time it is reached (what is shared counts as often as it is met; a slice's spare places count too). A statement '..UptoSaid' is the law's where the arguments, and the package variables that the reading takes, are together of bulk at most 1048576: NARROWER than '..Said'. Prove '..Said' where nothing that the law and all that it calls make is longer than what came in: it says more and counts as full. Else prove '..UptoSaid'. A law counts once. -/
mutual
def uptoBulk {H : Type} : DataW H → Nat
  | .lit (.string bytes) => bytes.length + 1
  | .lit _ => 1
  | .nil => 1
  | .ptr d => uptoBulk d + 1
  | .slice elems spare => uptoBulkAll elems + uptoBulkAll spare + 1
  | .agg parts => uptoBulkAll parts + 1
  | .iface _ d => uptoBulk d + 1
  | .map entries => uptoBulkEntries entries + 1
  | .held _ => 1
def uptoBulkAll {H : Type} : List (DataW H) → Nat
  | [] => 0
  | d :: r => uptoBulk d + uptoBulkAll r
def uptoBulkEntries {H : Type} : List (Lit × DataW H) → Nat
  | [] => 0
  | x :: r => uptoBulkEntry x + uptoBulkEntries r
def uptoBulkEntry {H : Type} : Lit × DataW H → Nat
  | (.string bytes, d) => bytes.length + uptoBulk d + 1
  | (_, d) => uptoBulk d + 1
 end
def uptoSmall : (H : Type) → List (DataW H) → Bool := fun _ ds => decide (uptoBulkAll ds ≤ 1048576)
def OpenSpec.upto (s : _root_.Go.ChangeSpec) : _root_.Go.OpenSpec := { _root_.Go.OpenSpec.ofChange s with cond := some uptoSmall }

/-- 'wattleworklaw2.SplayActs', WHERE WHAT IT READS IS OF BULK AT MOST 1048576: true; the input reads as it did. -/
def splayActsUptoRow : OpenClaim := { program := "ytdhknhhahdjeeaa", sum := "e2270a51d48743185ecae389ecf40990be2797acd21e32f48630e7b7ec5ff3bd", func := "wattlework/wattleworklaw2.SplayActs", spec := "splayActs", unfollowed := true, recurses := true, apart := false, narrowed := true }
def SplayActsUptoSaid : Prop := splayActsUptoRow.holds Try.pinned (OpenSpec.upto splayActsSpec)

/-- 'wattleworklaw2.SplayTop', WHERE WHAT IT READS IS OF BULK AT MOST 1048576: true; the input reads as it did. -/
def splayTopUptoRow : OpenClaim := { program := "ytdhknhhahdjeeaa", sum := "e2270a51d48743185ecae389ecf40990be2797acd21e32f48630e7b7ec5ff3bd", func := "wattlework/wattleworklaw2.SplayTop", spec := "splayTop", unfollowed := true, recurses := true, apart := false, narrowed := true }
def SplayTopUptoSaid : Prop := splayTopUptoRow.holds Try.pinned (OpenSpec.upto splayTopSpec)

/-- 'wattleworklaw2.SplayAsks', WHERE WHAT IT READS IS OF BULK AT MOST 1048576: true; the input reads as it did. -/
def splayAsksUptoRow : OpenClaim := { program := "ytdhknhhahdjeeaa", sum := "e2270a51d48743185ecae389ecf40990be2797acd21e32f48630e7b7ec5ff3bd", func := "wattlework/wattleworklaw2.SplayAsks", spec := "splayAsks", unfollowed := true, recurses := true, apart := false, narrowed := true }
def SplayAsksUptoSaid : Prop := splayAsksUptoRow.holds Try.pinned (OpenSpec.upto splayAsksSpec)

/-- 'wattleworklaw2.SplayTells', WHERE WHAT IT READS IS OF BULK AT MOST 1048576: true; the input reads as it did. -/
def splayTellsUptoRow : OpenClaim := { program := "ytdhknhhahdjeeaa", sum := "e2270a51d48743185ecae389ecf40990be2797acd21e32f48630e7b7ec5ff3bd", func := "wattlework/wattleworklaw2.SplayTells", spec := "splayTells", unfollowed := true, recurses := true, apart := false, narrowed := true }
def SplayTellsUptoSaid : Prop := splayTellsUptoRow.holds Try.pinned (OpenSpec.upto splayTellsSpec)

/-- 'wattleworklaw2.TreapActs', WHERE WHAT IT READS IS OF BULK AT MOST 1048576: true; the input reads as it did. -/
def treapActsUptoRow : OpenClaim := { program := "ytdhknhhahdjeeaa", sum := "e2270a51d48743185ecae389ecf40990be2797acd21e32f48630e7b7ec5ff3bd", func := "wattlework/wattleworklaw2.TreapActs", spec := "treapActs", unfollowed := true, recurses := true, apart := false, narrowed := true }
def TreapActsUptoSaid : Prop := treapActsUptoRow.holds Try.pinned (OpenSpec.upto treapActsSpec)

/-- 'wattleworklaw2.TreapHeap', WHERE WHAT IT READS IS OF BULK AT MOST 1048576: true; the input reads as it did. -/
def treapHeapUptoRow : OpenClaim := { program := "ytdhknhhahdjeeaa", sum := "e2270a51d48743185ecae389ecf40990be2797acd21e32f48630e7b7ec5ff3bd", func := "wattlework/wattleworklaw2.TreapHeap", spec := "treapHeap", unfollowed := true, recurses := true, apart := false, narrowed := true }
def TreapHeapUptoSaid : Prop := treapHeapUptoRow.holds Try.pinned (OpenSpec.upto treapHeapSpec)

/-- 'wattleworklaw2.TreapTells', WHERE WHAT IT READS IS OF BULK AT MOST 1048576: true; the input reads as it did. -/
def treapTellsUptoRow : OpenClaim := { program := "ytdhknhhahdjeeaa", sum := "e2270a51d48743185ecae389ecf40990be2797acd21e32f48630e7b7ec5ff3bd", func := "wattlework/wattleworklaw2.TreapTells", spec := "treapTells", unfollowed := true, recurses := true, apart := false, narrowed := true }
def TreapTellsUptoSaid : Prop := treapTellsUptoRow.holds Try.pinned (OpenSpec.upto treapTellsSpec)

/-- 'wattleworklaw2.TreapOne', WHERE WHAT IT READS IS OF BULK AT MOST 1048576: true; the input reads as it did. -/
def treapOneUptoRow : OpenClaim := { program := "ytdhknhhahdjeeaa", sum := "e2270a51d48743185ecae389ecf40990be2797acd21e32f48630e7b7ec5ff3bd", func := "wattlework/wattleworklaw2.TreapOne", spec := "treapOne", unfollowed := true, recurses := true, apart := false, narrowed := true }
def TreapOneUptoSaid : Prop := treapOneUptoRow.holds Try.pinned (OpenSpec.upto treapOneSpec)

end Rows
end Go.Proofs.Ytdhknhhahdjeeaa
