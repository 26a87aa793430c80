/-
  Places and ranks in a list that rises. No program. Conditions: none.
-/
import Derived.Test.YthokmfonedfmfaaSetPlain
namespace Go.Proofs.Ythokmfonedfmfaa
/-- The one at a place. -/
def atL (l : List Int) (i : Int) : Int × Bool := if 0 ≤ i ∧ i < (l.length : Int) then (l[i.toNat]?.getD 0, true) else (0, false)
theorem atL_yes {l : List Int} {k : Nat} (h : k < l.length) : atL l (k : Int) = (l[k]?.getD 0, true) := by
  unfold atL
  rw [if_pos ⟨by omega, by omega⟩]
  simp
theorem atL_no {l : List Int} {i : Int} (h : i < 0 ∨ (l.length : Int) ≤ i) : atL l i = (0, false) := by
  unfold atL
  exact if_neg (by omega)
theorem below_zero {l : List Int} {x : Int} (h : ∀ y ∈ l, x ≤ y) : belowN l x = 0 := by
  induction l with
  | nil => rfl
  | cons y l ih =>
    rw [belowN_cons, ih fun z hz => h z (List.mem_cons_of_mem _ hz), if_neg]
    have := h y List.mem_cons_self
    omega
theorem below_append (a b : List Int) (x : Int) : belowN (a ++ b) x = belowN a x + belowN b x := by
  unfold belowN
  exact List.countP_append
theorem below_all {l : List Int} {x : Int} (h : ∀ y ∈ l, y < x) : belowN l x = l.length := by
  induction l with
  | nil => rfl
  | cons y l ih => rw [belowN_cons, ih fun z hz => h z (List.mem_cons_of_mem _ hz), if_pos (h y List.mem_cons_self), List.length_cons]
theorem rank_iff {l : List Int} {x : Int} : ∀ (j : Nat) (hj : j < l.length), SRise l → (l[j] < x ↔ j < belowN l x) := by
  induction l with
  | nil => intro j hj; exact absurd hj (Nat.not_lt_zero _)
  | cons y l ih =>
    intro j hj h
    obtain ⟨h1, h2⟩ := List.pairwise_cons.1 h
    by_cases hy : y < x
    · rw [belowN_cons, if_pos hy]
      cases j with
      | zero => simp [hy]
      | succ j =>
        have := ih j (by simpa using hj) h2
        simp only [List.getElem_cons_succ]
        rw [this]
        omega
    · have hz : belowN (y :: l) x = 0 := below_zero fun z hz => by
        rcases List.mem_cons.1 hz with rfl | k
        · omega
        · have := h1 z k; omega
      rw [hz]
      cases j with
      | zero => simp [hy]
      | succ j =>
        simp only [List.getElem_cons_succ]
        have := h1 _ (List.getElem_mem (l := l) (n := j) (by simpa using hj))
        omega
theorem rank_has {l : List Int} (h : SRise l) (x : Int) : decide (x ∈ l) = ((atL l (belowN l x : Int)).2 && decide ((atL l (belowN l x : Int)).1 = x)) := by
  by_cases hk : belowN l x < l.length
  · rw [atL_yes hk, Bool.true_and]
    simp only
    rw [List.getElem?_eq_getElem hk, Option.getD_some]
    have h0 : ¬ l[belowN l x] < x := fun e => by have := (rank_iff _ hk h).1 e; omega
    rw [Bool.eq_iff_iff, decide_eq_true_iff, decide_eq_true_iff]
    constructor
    · intro hx
      obtain ⟨j, hj, e⟩ := List.getElem_of_mem hx
      have h1 : ¬ j < belowN l x := fun e1 => by have := (rank_iff j hj h).2 e1; omega
      by_cases h2 : j = belowN l x
      · subst h2; exact e
      · have h3 := List.pairwise_iff_getElem.1 h _ _ hk hj (by omega)
        omega
    · intro e
      rw [← e]
      exact List.getElem_mem _
  · rw [atL_no (.inr (by omega)), Bool.false_and, decide_eq_false_iff_not]
    intro hx
    obtain ⟨j, hj, e⟩ := List.getElem_of_mem hx
    have := (rank_iff (x := x) j hj h)
    omega
namespace ST
theorem rank_left {c : Bool} {x y : Int} {l r : ST} (h : (ST.node c y l r).Bst) (hx : x ≤ y) : belowN (ST.node c y l r).toL x = belowN l.toL x := by
  obtain ⟨_, _, _, b4⟩ := bst_node.1 h
  rw [toL, below_append, belowN_cons, if_neg (by omega), below_zero (l := r.toL) fun z hz => by have := b4 z hz; omega]
  omega
theorem rank_right {c : Bool} {x y : Int} {l r : ST} (h : (ST.node c y l r).Bst) (hx : y < x) : belowN (ST.node c y l r).toL x = l.size + 1 + belowN r.toL x := by
  obtain ⟨_, _, b3, _⟩ := bst_node.1 h
  rw [toL, below_append, belowN_cons, if_pos hx, below_all (l := l.toL) fun z hz => by have := b3 z hz; omega, toL_length]
  omega
theorem at_left {c : Bool} {y : Int} {l r : ST} {j : Nat} (h : j < l.size) : (ST.node c y l r).toL[j]? = l.toL[j]? := by
  rw [toL, List.getElem?_append_left (by rw [toL_length]; exact h)]
theorem at_here {c : Bool} {y : Int} {l r : ST} : (ST.node c y l r).toL[l.size]? = some y := by
  rw [toL, List.getElem?_append_right (by rw [toL_length]; exact Nat.le_refl _), toL_length]
  simp
theorem at_right {c : Bool} {y : Int} {l r : ST} {j : Nat} (h : l.size < j) : (ST.node c y l r).toL[j]? = r.toL[j - l.size - 1]? := by
  rw [toL, List.getElem?_append_right (by rw [toL_length]; omega), toL_length]
  obtain ⟨d, rfl⟩ : ∃ d, j = l.size + 1 + d := ⟨j - l.size - 1, by omega⟩
  rw [show l.size + 1 + d - l.size = d + 1 by omega]
  rfl
end ST
end Go.Proofs.Ythokmfonedfmfaa
