/-
  Trees of nearly even heights: a high one has many. No program. Conditions: none.
-/
import Derived.Test.YtinmmhjllmlimaaAvlPlain
import Derived.Test.YtinmmhjllmlimaaShapePlain
namespace Go.Proofs.Ytinmmhjllmlimaa.AVL
open Go.Proofs.Ytinmmhjllmlimaa Go.Proofs.Ytinmmhjllmlimaa.ST

/-- The least number of nodes of a height. -/
def few : Nat → Nat
  | 0 => 0
  | 1 => 1
  | n + 2 => few n + few (n + 1) + 1
theorem few_step (n : Nat) : few n ≤ few (n + 1) := by
  cases n with
  | zero => exact Nat.zero_le _
  | succ n => simp only [few]; omega
theorem few_mono {a b : Nat} (h : a ≤ b) : few a ≤ few b := by
  induction h with
  | refl => exact Nat.le_refl _
  | step _ ih => exact Nat.le_trans ih (few_step _)
theorem few_le (t : ST) : Av t → few t.height ≤ t.size := by
  induction t with
  | nil => intro _; exact Nat.le_refl _
  | node c x l r ihl ihr =>
    rintro ⟨a1, a2, a3, a4⟩
    have h1 := ihl a1
    have h2 := ihr a2
    simp only [height, size]
    by_cases h : l.height ≤ r.height
    · rw [show 1 + max l.height r.height = r.height + 1 by omega]
      cases hr : r.height with
      | zero => simp only [few]; omega
      | succ n =>
        rw [hr] at h2 a4
        have := few_mono (show n ≤ l.height by omega)
        simp only [few]
        omega
    · rw [show 1 + max l.height r.height = l.height + 1 by omega]
      cases hl : l.height with
      | zero => omega
      | succ n =>
        rw [hl] at h1 a3 h
        have := few_mono (show n ≤ r.height by omega)
        simp only [few]
        omega
theorem av_sub {s t : ST} (h : Sub s t) (k : Av t) : Av s := sub_all (P := Av) (fun _ _ _ _ h => ⟨h.1, h.2.1⟩) h k
end Go.Proofs.Ytinmmhjllmlimaa.AVL
