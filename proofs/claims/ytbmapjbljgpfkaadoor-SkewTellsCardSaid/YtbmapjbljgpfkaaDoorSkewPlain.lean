/-
  Skew digits, as plain lists. Conditions: none.
-/
import Derived.Test.YtbmapjbljgpfkaaDoorBase
namespace Go.Proofs.YtbmapjbljgpfkaaDoor
namespace SK

/-- The digit of so many ones. -/
def D : Nat → Int
  | 0 => 0
  | k + 1 => 2 * D k + 1
def Form (d : Int) : Prop := ∃ k, 1 ≤ k ∧ k ≤ 40 ∧ d = D k

theorem D_nonneg (k : Nat) : 0 ≤ D k := by
  induction k with
  | zero => simp [D]
  | succ k ih => simp only [D]; omega
theorem D_pos (k : Nat) (h : 1 ≤ k) : 1 ≤ D k := by
  cases k with
  | zero => omega
  | succ k => have := D_nonneg k; simp only [D]; omega
theorem D_mono {a b : Nat} (h : a ≤ b) : D a ≤ D b := by
  induction b with
  | zero => have : a = 0 := by omega
            subst this; exact Int.le_refl _
  | succ b ih =>
    by_cases e : a = b + 1
    · subst e; exact Int.le_refl _
    · have := ih (by omega)
      have := D_nonneg b
      simp only [D]; omega
theorem D_lt {a b : Nat} (h : a < b) : D a < D b := by
  have h1 : D (a + 1) ≤ D b := D_mono h
  have := D_nonneg a
  simp only [D] at h1
  omega
theorem D_inj {a b : Nat} (h : D a = D b) : a = b := by
  rcases Nat.lt_trichotomy a b with h1 | h1 | h1
  · have := D_lt h1; omega
  · exact h1
  · have := D_lt h1; omega
theorem D40 : D 40 = 1099511627775 := by decide

/-- Digits, the greatest first. -/
def vd : List Int → Prop
  | [] => True
  | x :: r => Form x ∧ (match r with | [] => True | [y] => y ≤ x | y :: _ => y < x) ∧ vd r
theorem vd_le : ∀ (r : List Int) (x : Int), vd (x :: r) → ∀ y ∈ r, y ≤ x := by
  intro r
  induction r with
  | nil => intro x _ y h; cases h
  | cons z r ih =>
    intro x h y hy
    obtain ⟨_, h2, h3⟩ := h
    have hz : z ≤ x := by
      cases r with
      | nil => exact h2
      | cons => exact Int.le_of_lt h2
    rcases List.mem_cons.1 hy with rfl | hy
    · exact hz
    · exact Int.le_trans (ih z h3 y hy) hz

/-- The greedy digits. -/
def gd : Nat → Int → List Int
  | 0, _ => []
  | k + 1, n => if D (k + 1) ≤ n then D (k + 1) :: (if D (k + 1) ≤ n - D (k + 1) then [D (k + 1)] else gd k (n - D (k + 1))) else gd k n
theorem gd_zero (k : Nat) : gd k 0 = [] := by
  induction k with
  | zero => rfl
  | succ k ih =>
    have := D_pos (k + 1) (by omega)
    simp only [gd]
    rw [if_neg (by omega), ih]

theorem form_le {x : Int} {k : Nat} (h : Form x) (hx : x ≤ D (k + 1)) : x = D (k + 1) ∨ x ≤ D k := by
  obtain ⟨j, _, _, rfl⟩ := h
  rcases Nat.lt_or_ge j (k + 1) with h1 | h1
  · right; exact D_mono (by omega)
  · left
    have := D_mono h1
    omega
theorem form_pos {x : Int} (h : Form x) : 1 ≤ x := by
  obtain ⟨j, h1, _, rfl⟩ := h
  exact D_pos j h1
theorem form_top {x : Int} (h : Form x) : x ≤ 1099511627775 := by
  obtain ⟨j, _, h2, rfl⟩ := h
  rw [← D40]
  exact D_mono h2

theorem uniq (k : Nat) : ∀ r : List Int, vd r → (∀ x ∈ r, x ≤ D k) → r = gd k r.sum ∧ r.sum ≤ 2 * D k ∧ 0 ≤ r.sum := by
  induction k with
  | zero =>
    intro r h1 h2
    cases r with
    | nil => simp [gd, D]
    | cons x r =>
      have := form_pos h1.1
      have := h2 x (by simp)
      simp only [D] at this
      omega
  | succ k ih =>
    intro r h1 h2
    have hp := D_pos (k + 1) (by omega)
    have hk := D_nonneg k
    have hD : D (k + 1) = 2 * D k + 1 := rfl
    cases r with
    | nil =>
      rw [List.sum_nil, gd_zero]
      exact ⟨rfl, by omega, by omega⟩
    | cons x r =>
      have hx := h2 x (by simp)
      rcases form_le h1.1 hx with e | e
      · -- the greatest one
        have key : (∀ y ∈ r, y ≤ D k) → (x :: r) = gd (k + 1) (x :: r).sum ∧ (x :: r).sum ≤ 2 * D (k + 1) ∧ 0 ≤ (x :: r).sum := by
          intro hr
          obtain ⟨i1, i2, i3⟩ := ih r h1.2.2 hr
          rw [List.sum_cons]
          refine ⟨?_, by omega, by omega⟩
          simp only [gd]
          rw [if_pos (by omega), if_neg (by omega)]
          have : x + r.sum - D (k + 1) = r.sum := by omega
          rw [this, ← i1, e]
        obtain ⟨_, h3, h4⟩ := h1
        cases r with
        | nil => exact key (by simp)
        | cons y r =>
          cases r with
          | nil =>
            rcases form_le (k := k) h4.1 (by have : y ≤ x := h3; omega) with e2 | e2
            · simp only [List.sum_cons, List.sum_nil]
              refine ⟨?_, by omega, by omega⟩
              simp only [gd]
              rw [if_pos (by omega), if_pos (by omega), e, e2]
            · exact key (by simpa using e2)
          | cons z r =>
            have h5 : y < x := h3
            rcases form_le (k := k) h4.1 (by omega) with e2 | e2
            · omega
            · refine key fun t ht => ?_
              rcases List.mem_cons.1 ht with rfl | ht
              · exact e2
              · exact Int.le_trans (vd_le _ _ h4 t ht) e2
      · have hall : ∀ y ∈ x :: r, y ≤ D k := by
          intro y hy
          rcases List.mem_cons.1 hy with rfl | hy
          · exact e
          · exact Int.le_trans (vd_le _ _ h1 y hy) e
        obtain ⟨i1, i2, i3⟩ := ih _ h1 hall
        refine ⟨?_, by omega, i3⟩
        simp only [gd]
        rw [if_neg (by omega)]
        exact i1

theorem gd_ok (k : Nat) : ∀ n, k ≤ 40 → 0 ≤ n → n ≤ 2 * D k → vd (gd k n) ∧ (gd k n).sum = n ∧ (∀ x ∈ gd k n, x ≤ D k) ∧ (gd k n).length ≤ k + 1 := by
  induction k with
  | zero => intro n _ h1 h2; simp only [D] at h2; simp [gd, vd]; omega
  | succ k ih =>
    intro n hk h1 h2
    have hf : Form (D (k + 1)) := ⟨k + 1, by omega, hk, rfl⟩
    have hp := D_pos (k + 1) (by omega)
    have hD : D (k + 1) = 2 * D k + 1 := rfl
    have hkn := D_nonneg k
    simp only [gd]
    by_cases e : D (k + 1) ≤ n
    · rw [if_pos e]
      by_cases e2 : D (k + 1) ≤ n - D (k + 1)
      · rw [if_pos e2]
        refine ⟨⟨hf, Int.le_refl _, hf, trivial, trivial⟩, by simp; omega, by simp, by simp⟩
      · rw [if_neg e2]
        obtain ⟨i1, i2, i3, i4⟩ := ih (n - D (k + 1)) (by omega) (by omega) (by omega)
        refine ⟨⟨hf, ?_, i1⟩, by rw [List.sum_cons, i2]; omega, ?_, by simp only [List.length_cons]; omega⟩
        · have : ∀ y ∈ gd k (n - D (k + 1)), y < D (k + 1) := fun y hy => by have := i3 y hy; omega
          revert this
          generalize gd k (n - D (k + 1)) = r
          intro this
          match r with
          | [] => trivial
          | [y] => exact Int.le_of_lt (this y (by simp))
          | y :: z :: r => exact this y (by simp)
        · intro x hx
          rcases List.mem_cons.1 hx with rfl | hx
          · exact Int.le_refl _
          · have := i3 x hx; omega
    · rw [if_neg e]
      obtain ⟨i1, i2, i3, i4⟩ := ih n (by omega) h1 (by omega)
      exact ⟨i1, i2, fun x hx => by have := i3 x hx; omega, by omega⟩

/-- Is a digit right where it stands? -/
def okAt (l : List Int) (i : Nat) : Prop := Form (l[i]?.getD 0) ∧ (0 < i → l[i - 1]?.getD 0 ≤ l[i]?.getD 0) ∧ (1 < i → l[i - 1]?.getD 0 ≠ l[i]?.getD 0)
def valid (l : List Int) : Prop := ∀ i, i < l.length → okAt l i

theorem getD_left (l : List Int) (x : Int) (i : Nat) (h : i < l.length) : (l ++ [x])[i]?.getD 0 = l[i]?.getD 0 := by rw [List.getElem?_append_left h]
theorem getD_last (l : List Int) (x : Int) : (l ++ [x])[l.length]?.getD 0 = x := by simp
theorem valid_snoc (l : List Int) (x : Int) : valid (l ++ [x]) ↔ valid l ∧ okAt (l ++ [x]) l.length := by
  constructor
  · intro h
    refine ⟨fun i hi => ?_, h _ (by simp)⟩
    have := h i (by simp; omega)
    unfold okAt at this ⊢
    rw [getD_left _ _ _ hi, getD_left _ _ _ (by omega)] at this
    exact this
  · rintro ⟨h1, h2⟩ i hi
    rcases Nat.lt_or_ge i l.length with h | h
    · have := h1 i h
      unfold okAt at this ⊢
      rw [getD_left _ _ _ h, getD_left _ _ _ (by omega)]
      exact this
    · have : i = l.length := by simp at hi; omega
      subst this
      exact h2
theorem snoc_ind {P : List Int → Prop} (h0 : P []) (hs : ∀ l x, P l → P (l ++ [x])) (l : List Int) : P l := by
  have : ∀ l : List Int, P l.reverse := by
    intro l
    induction l with
    | nil => exact h0
    | cons x l ih => rw [List.reverse_cons]; exact hs _ _ ih
  simpa using this l.reverse
theorem valid_vd (l : List Int) : valid l ↔ vd l.reverse := by
  induction l using snoc_ind with
  | h0 => simp [valid, vd]
  | hs l x ih =>
    rw [valid_snoc, List.reverse_append, List.reverse_singleton, List.singleton_append, ih]
    unfold okAt
    rw [getD_last]
    show _ ↔ Form x ∧ _ ∧ vd l.reverse
    have : ((0 < l.length → (l ++ [x])[l.length - 1]?.getD 0 ≤ x) ∧ (1 < l.length → (l ++ [x])[l.length - 1]?.getD 0 ≠ x)) ↔ (match l.reverse with | [] => True | [y] => y ≤ x | y :: _ => y < x) := by
      rcases List.eq_nil_or_concat l with rfl | ⟨l', y, rfl⟩
      · simp
      · rw [List.concat_eq_append]
        have hlen : (l' ++ [y]).length - 1 = l'.length := by simp
        rw [hlen, getD_left _ _ _ (by simp), getD_last, List.reverse_append, List.reverse_singleton, List.singleton_append]
        cases hr : l'.reverse with
        | nil =>
          have : l' = [] := by simpa using hr
          subst this
          simp
        | cons z r =>
          have hl : 0 < l'.length := by
            have : l'.reverse.length = (z :: r).length := by rw [hr]
            simp at this; omega
          simp only [List.length_append, List.length_singleton]
          constructor
          · rintro ⟨a, b⟩
            have := a (by omega)
            have := b (by omega)
            omega
          · intro a
            exact ⟨fun _ => by omega, fun _ => by omega⟩
    rw [← this]
    constructor
    · rintro ⟨a, b, c, d⟩; exact ⟨b, ⟨c, d⟩, a⟩
    · rintro ⟨b, ⟨c, d⟩, a⟩; exact ⟨a, b, c, d⟩

theorem valid_top {l : List Int} (h : valid l) : ∀ x ∈ l, Form x := by
  intro x hx
  obtain ⟨i, hi, rfl⟩ := List.getElem_of_mem hx
  have := (h i hi).1
  rw [List.getElem?_eq_getElem hi] at this
  exact this
theorem sum_reverse (l : List Int) : l.reverse.sum = l.sum := by
  induction l with
  | nil => rfl
  | cons x l ih => rw [List.reverse_cons, List.sum_append, ih, List.sum_cons, List.sum_cons, List.sum_nil]; omega
/-- MYERS: one number, one form. -/
theorem valid_uniq {l : List Int} (h : valid l) : l.reverse = gd 40 l.sum ∧ l.sum ≤ 2199023255550 ∧ 0 ≤ l.sum := by
  have := uniq 40 l.reverse ((valid_vd l).1 h) (fun x hx => by rw [D40]; exact form_top (valid_top h x (by simpa using hx)))
  rw [sum_reverse, D40] at this
  exact this
theorem valid_eq {l m : List Int} (h : valid l) (k : valid m) (e : l.sum = m.sum) : l = m := by
  have h1 := (valid_uniq h).1
  have h2 := (valid_uniq k).1
  rw [e, ← h2] at h1
  exact List.reverse_inj.1 h1
theorem gd_valid {n : Int} (h0 : 0 ≤ n) (h1 : n ≤ 2199023255550) : valid (gd 40 n).reverse ∧ (gd 40 n).reverse.sum = n ∧ (gd 40 n).reverse.length ≤ 41 := by
  obtain ⟨a, b, _, d⟩ := gd_ok 40 n (Nat.le_refl _) h0 (by rw [D40]; omega)
  exact ⟨(valid_vd _).2 (by rw [List.reverse_reverse]; exact a), by rw [sum_reverse]; exact b, by rw [List.length_reverse]; exact d⟩
theorem valid_length {l : List Int} (h : valid l) : l.length ≤ 41 := by
  have h1 := valid_uniq h
  have := gd_ok 40 l.sum (Nat.le_refl _) h1.2.2 (by rw [D40]; omega)
  rw [← h1.1] at this
  simpa using this.2.2.2
end SK
end Go.Proofs.YtbmapjbljgpfkaaDoor
