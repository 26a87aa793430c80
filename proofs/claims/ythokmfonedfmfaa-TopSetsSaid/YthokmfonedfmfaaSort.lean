/-
  Plain lists: rising lists of numbers, a number put where it belongs, a list sorted by that; two rising lists of the same numbers are one. No program. Conditions: none.
-/
namespace Go.Proofs.Ythokmfonedfmfaa

/-- How many are below a number. -/
def belowN (l : List Int) (x : Int) : Nat := l.countP (fun y => decide (y < x))
/-- A number put ahead of a place. -/
def withL (l : List Int) (k : Nat) (x : Int) : List Int := l.take k ++ x :: l.drop k
def insL (l : List Int) (x : Int) : List Int := withL l (belowN l x) x
def sortL (l : List Int) : List Int := l.foldl insL []
def Rise (l : List Int) : Prop := l.Pairwise (· ≤ ·)

theorem belowN_le (l : List Int) (x : Int) : belowN l x ≤ l.length := List.countP_le_length
theorem belowN_nil (x : Int) : belowN [] x = 0 := rfl
theorem belowN_cons (y : Int) (l : List Int) (x : Int) : belowN (y :: l) x = belowN l x + (if y < x then 1 else 0) := by
  unfold belowN
  rw [List.countP_cons]
  simp
theorem belowN_snoc (y : Int) (l : List Int) (x : Int) : belowN (l ++ [y]) x = belowN l x + (if y < x then 1 else 0) := by
  unfold belowN
  rw [List.countP_append, List.countP_cons]
  simp
theorem belowN_zero {l : List Int} {x : Int} (h : ∀ y ∈ l, x ≤ y) : belowN l x = 0 := by
  unfold belowN
  rw [List.countP_eq_zero]
  intro y hy
  have := h y hy
  simp
  omega
theorem belowN_append (a b : List Int) (x : Int) : belowN (a ++ b) x = belowN a x + belowN b x := List.countP_append
theorem belowN_all {l : List Int} {x : Int} (h : ∀ y ∈ l, y < x) : belowN l x = l.length := by
  unfold belowN
  rw [List.countP_eq_length]
  intro y hy
  have := h y hy
  simp [this]

theorem withL_length (l : List Int) (k : Nat) (x : Int) : (withL l k x).length = l.length + 1 := by
  unfold withL
  simp
  omega
theorem withL_perm (l : List Int) (k : Nat) (x : Int) : (withL l k x).Perm (x :: l) := by
  unfold withL
  have h : (l.take k ++ x :: l.drop k).Perm (x :: (l.take k ++ l.drop k)) := List.perm_middle
  rwa [List.take_append_drop] at h
theorem insL_perm (l : List Int) (x : Int) : (insL l x).Perm (x :: l) := withL_perm _ _ _
theorem insL_length (l : List Int) (x : Int) : (insL l x).length = l.length + 1 := withL_length _ _ _

theorem insL_nil (x : Int) : insL [] x = [x] := rfl
theorem insL_low {y : Int} {l : List Int} {x : Int} (h : y < x) : insL (y :: l) x = y :: insL l x := by
  unfold insL withL
  rw [belowN_cons, if_pos h]
  simp
theorem insL_high {y : Int} {l : List Int} {x : Int} (hr : Rise (y :: l)) (h : ¬ y < x) : insL (y :: l) x = x :: y :: l := by
  unfold insL withL
  rw [belowN_zero (fun z hz => ?_)]
  · simp
  · rcases List.mem_cons.1 hz with rfl | hz
    · omega
    · have := (List.pairwise_cons.1 hr).1 z hz
      omega

theorem insL_rise (l : List Int) (x : Int) (h : Rise l) : Rise (insL l x) := by
  induction l with
  | nil => rw [insL_nil]; exact List.pairwise_singleton _ _
  | cons y l ih =>
    have h' := List.pairwise_cons.1 h
    by_cases hy : y < x
    · rw [insL_low hy]
      refine List.pairwise_cons.2 ⟨fun z hz => ?_, ih h'.2⟩
      have hz' := (insL_perm l x).mem_iff.1 hz
      rcases List.mem_cons.1 hz' with rfl | hz'
      · omega
      · exact h'.1 z hz'
    · rw [insL_high h hy]
      refine List.pairwise_cons.2 ⟨fun z hz => ?_, h⟩
      rcases List.mem_cons.1 hz with rfl | hz
      · omega
      · have := h'.1 z hz
        omega

theorem foldl_insL_perm (l : List Int) : ∀ acc : List Int, (l.foldl insL acc).Perm (l ++ acc) := by
  induction l with
  | nil => intro acc; exact List.Perm.refl _
  | cons x l ih =>
    intro acc
    rw [List.foldl_cons]
    refine (ih _).trans ?_
    refine ((insL_perm acc x).append_left l).trans ?_
    exact List.perm_middle
theorem sortL_perm (l : List Int) : (sortL l).Perm l := by
  have := foldl_insL_perm l []
  rwa [List.append_nil] at this
theorem foldl_insL_rise (l : List Int) : ∀ acc : List Int, Rise acc → Rise (l.foldl insL acc) := by
  induction l with
  | nil => intro acc h; exact h
  | cons x l ih => intro acc h; exact ih _ (insL_rise acc x h)
theorem sortL_rise (l : List Int) : Rise (sortL l) := foldl_insL_rise l [] List.Pairwise.nil
theorem sortL_length (l : List Int) : (sortL l).length = l.length := (sortL_perm l).length_eq
theorem sortL_snoc (l : List Int) (x : Int) : sortL (l ++ [x]) = insL (sortL l) x := by
  unfold sortL
  rw [List.foldl_append]
  rfl

/-- TWO RISING LISTS OF THE SAME NUMBERS ARE ONE. -/
theorem rise_unique {a b : List Int} (ha : Rise a) (hb : Rise b) (h : a.Perm b) : a = b :=
  List.Perm.eq_of_pairwise (fun _ _ _ _ h1 h2 => Int.le_antisymm h1 h2) ha hb h
theorem rise_eq_sort {a b : List Int} (ha : Rise a) (h : a.Perm b) : a = sortL b :=
  rise_unique ha (sortL_rise b) (h.trans (sortL_perm b).symm)
end Go.Proofs.Ythokmfonedfmfaa
