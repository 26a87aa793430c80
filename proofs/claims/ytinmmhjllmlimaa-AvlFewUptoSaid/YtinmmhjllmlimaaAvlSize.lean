/-
  Trees of nearly even heights: how many there are. No program. Conditions: none.
-/
import Derived.Test.YtinmmhjllmlimaaAvlPlain
namespace Go.Proofs.Ytinmmhjllmlimaa.AVL
open Go.Proofs.Ytinmmhjllmlimaa Go.Proofs.Ytinmmhjllmlimaa.ST

theorem even_size (l : ST) (x : Int) (r : ST) : (even l x r).size = l.size + r.size + 1 := by
  rw [← toL_length, even_toL, List.length_append, List.length_cons, toL_length, toL_length]
  omega
theorem put_size (t : ST) (x : Int) : (put t x).size ≤ t.size + 1 := by
  induction t with
  | nil => exact Nat.le_refl _
  | node c y l r ihl ihr =>
    simp only [put]
    split
    · rw [even_size]; simp only [size]; omega
    · split
      · rw [even_size]; simp only [size]; omega
      · exact Nat.le_succ _
theorem first_size (t : ST) (h : t ≠ .nil) : (first t).2.size + 1 = t.size := by
  have := congrArg List.length (first_toL t h)
  rw [List.length_cons, toL_length, toL_length] at this
  omega
theorem drop_size (t : ST) (x : Int) : (drop t x).size ≤ t.size := by
  induction t with
  | nil => exact Nat.le_refl _
  | node c y l r ihl ihr =>
    simp only [drop]
    split
    · rw [even_size]; simp only [size]; omega
    · split
      · rw [even_size]; simp only [size]; omega
      · cases r with
        | nil => simp only [size]; omega
        | node c' z rl rr =>
          have := first_size (.node c' z rl rr) (by simp)
          simp only
          rw [even_size]
          simp only [size] at *
          omega
theorem ofL_size (l : List Int) : (ofL l).size ≤ l.length := by
  have h : ∀ (l : List Int) (t : ST), (l.foldl put t).size ≤ t.size + l.length := by
    intro l
    induction l with
    | nil => intro t; exact Nat.le_refl _
    | cons x l ih =>
      intro t
      have h1 := ih (put t x)
      have h2 := put_size t x
      rw [List.foldl_cons, List.length_cons]
      omega
  have := h l .nil
  simpa [size, ofL] using this
end Go.Proofs.Ytinmmhjllmlimaa.AVL
