/-
  DERIVED. GIVEN WITH THE SEED: THE CARDS: each row of YtbmapjbljgpfkaaDoorRows.lean that lists a variable, with what it lists TIED to the program's text (the seventh form; the later family's looks); each row that meets fmt, with fmt's text TOLD by the authors' own Lean function (tested against real Go, not proved from fmt's source: count such statements apart). THE CARD IS WHAT COUNTS. Prove the row's statement (the work); the ties are given (YtbmapjbljgpfkaaDoorTie.lean); close each card by the builder's one call (the guide's Derived/Test/ToyasCard.lean, 'card_holds'). Laid BY PROGRAM, IN A SANDBOX (cutbox-door.mjs). By AI agents, Wed Nov 11 2026. No macro, syntax, notation, axiom, sorry.
-/
import Derived.Test.YtbmapjbljgpfkaaDoorRows
import GoSem.ClaimSeven
namespace Go.Proofs.YtbmapjbljgpfkaaDoor
namespace Rows

/-- THE TIED CARD OF 'wattleworklaw1.SkewTells'. -/
def skewTellsCard : Claim7 := { stood := { row := skewTellsRow, standIns := [], harness := (true, "346b2016f46fc4eb30e80e65d38c1c381d9877275f3c43c25e799c92ee25edf8"), looks := true }, kinds := [], alts := [], laidByText := true, laidKinds := [.handle], laidTests := true, laidLooks := .later }
def SkewTellsCardSaid : Prop := Claim7.holds Tryd.pinned (.plain (OpenSpec.ofChange skewTellsSpec)) skewTellsCard

/-- THE SECOND FORM's CARD OF 'wattleworklaw1.SkewTells'. -/
def skewTellsUptoCard : Claim7 := { stood := { row := skewTellsUptoRow, standIns := [], harness := (true, "346b2016f46fc4eb30e80e65d38c1c381d9877275f3c43c25e799c92ee25edf8"), looks := true }, kinds := [], alts := [], laidByText := true, laidKinds := [.handle], laidTests := true, laidLooks := .later }
def SkewTellsUptoCardSaid : Prop := Claim7.holds Tryd.pinned (.plain (OpenSpec.upto skewTellsSpec)) skewTellsUptoCard
end Rows
end Go.Proofs.YtbmapjbljgpfkaaDoor
