/-
  The reference's list with another number at a place. Conditions: at most 2^44 numbers.
-/
import Derived.Test.YthjghbifcnfcmaaCat
import Derived.Test.YthjghbifcnfcmaaApp
import Derived.Laws.OwnMore
namespace Go.Proofs.Ythjghbifcnfcmaa
open Go.RowKit Go.Deep
set_option linter.unusedVariables false
set_option maxHeartbeats 1000000 in
theorem put_any (a : Option Addr) (n c i : Nat) (xs : List Int) (y : Int) (w : World) (h : Sl w a n c xs) (hi : i < n) (hs : n ≤ 17592186044416) :
    Calls Try.prog 27 #[.slice a n c, .int .i64 (i : Int), .int .i64 y] w fun e w' => ∃ a' n' c', e = .returned (.slice a' n' c') ∧ Sl w' a' n' c' (xs.set i y) ∧ Below w.heap.size w w' := by
  have L0 := Lib.hid h.hlen
  have hin : (i : Int) < (n : Int) := by omega
  have hi0 : (0 : Int) ≤ (i : Int) := by omega
  go_enter Try.func27, Try.ntmps27
  go_wp2_with fail
  refine (cat_any a none n 0 c 0 xs [] _ h (Sl.nil _) (by omega)).mono ?_
  rintro e w1 ⟨v, rfl, ho, hb⟩
  simp only [Nat.add_zero, List.append_nil] at ho
  obtain ⟨k, rfl⟩ : ∃ k, n = k + 1 := ⟨n - 1, by omega⟩
  obtain ⟨g, cap, rfl⟩ := own_succ ho
  have hg : w.heap.size ≤ g := (ho.lt g rfl).1
  have c1 := ho.cellAt i (by omega)
  have f1 := ho.frozenAt i
  obtain ⟨z, hz⟩ : ∃ z, (xs.map (Value.int .i64))[i]? = some z := ⟨_, List.getElem?_eq_getElem (by rw [List.length_map, L0.out]; exact hi)⟩
  rw [hz] at c1
  obtain ⟨o1, _⟩ := ho.stored i (Value.int .i64 y)
  have O1 := Lib.hid o1
  clear o1 ho h hz
  go_wp2_with fail
  go_ret
  have e1 : (xs.map (Value.int .i64)).set i (Value.int .i64 y) = (xs.set i y).map (Value.int .i64) := by rw [List.map_set]
  have o2 := O1.out
  rw [e1] at o2
  obtain ⟨a2, c2, e2, s2⟩ := Sl.of_own o2
  cases e2
  exact ⟨_, _, _, rfl, s2, hb.setCell (p := ⟨g, i, none⟩) hg _⟩
end Go.Proofs.Ythjghbifcnfcmaa
