/-
  SkewTells: the tied card: the row's one listed variable is tied to the program's text. Conditions: none.
-/
import Derived.Test.YtbmapjbljgpfkaaDoorSkewTells
import Derived.Test.YtbmapjbljgpfkaaDoorCards
import Derived.Test.YtbmapjbljgpfkaaDoorTie
import Derived.SevenTiedAt
namespace Go.Proofs.YtbmapjbljgpfkaaDoor
open Go
set_option maxRecDepth 100000
theorem SkewTells_card : Rows.SkewTellsCardSaid :=
  Claim7.holds_tied_plain_at .later [] [.handle] true (true, "346b2016f46fc4eb30e80e65d38c1c381d9877275f3c43c25e799c92ee25edf8") true
    SkewTells_holds (fun _ h => by cases h) (by kernel_rfl) (fun _ h => by cases h) skewTells_row_tie rfl ⟨rfl, rfl⟩ (by kernel_rfl) rfl
    (fun f fn hf hfn => by
      obtain rfl : f = 3 := Option.some.inj ((show Tryd.prog.funcNamed "wattlework/wattleworklaw1.SkewTells" = some 3 by kernel_rfl).symm.trans hf) |>.symm
      obtain rfl : fn = Tryd.f3 := (Option.some.inj (Tryd.func3.symm.trans hfn)).symm
      exact ⟨by kernel_rfl, fun j t ht => by
        rw [Tryd.params3] at ht
        have h3 : t = 22 ∨ t = 3 := by
          rcases j with _ | _ | j
          · exact .inl (by simpa using ht.symm)
          · exact .inr (by simpa using ht.symm)
          · simp at ht
        rcases h3 with rfl | rfl
        · exact (show Tryd.prog.wantsStandIn 22 = false by kernel_rfl)
        · exact (show Tryd.prog.wantsStandIn 3 = false by kernel_rfl)⟩)
    (by kernel_rfl)
#print axioms SkewTells_card
end Go.Proofs.YtbmapjbljgpfkaaDoor
