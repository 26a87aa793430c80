/-
  What sets of numbers answer, whatever their trees are: plain lists. No program. Conditions: none.
-/
import Derived.Test.YthokmfonedfmfaaSetPlain
namespace Go.Proofs.Ythokmfonedfmfaa
theorem one_more {a b : List Int} {x : Int} (ha : SRise a) (hb : SRise b) (h : ∀ y, y ∈ a ↔ y = x ∨ y ∈ b) (hx : x ∉ b) : a.length = b.length + 1 := by
  have hp : a.Perm (x :: b) := (List.perm_ext_iff_of_nodup (srise_nodup ha) (List.nodup_cons.2 ⟨hx, srise_nodup hb⟩)).2 fun y => by rw [h y, List.mem_cons]
  have := hp.length_eq
  simpa using this
theorem once_53 : onceL [5, 3] = [3, 5] := by decide
theorem dec_iff {p q : Prop} [Decidable p] [Decidable q] (h : p ↔ q) : decide p = decide q := by
  by_cases hp : p
  · rw [decide_eq_true hp, decide_eq_true (h.1 hp)]
  · rw [decide_eq_false hp, decide_eq_false (fun hq => hp (h.2 hq))]
end Go.Proofs.Ythokmfonedfmfaa
