/-
  Skew digits, as plain lists. Conditions: none.
  Skew digits: one more and one less. Conditions: none.
  Lists of trees as plain lists: what is pushed, taken, set; the trees' sizes. No program. Conditions: none.
-/
import Derived.Test.YtpkfakndlbngbaaBase
namespace Go.Proofs.Ytpkfakndlbngbaa
namespace SK

/-- The digit of so many ones. -/
def D : Nat → Int
  | 0 => 0
  | k + 1 => 2 * D k + 1
def Form (d : Int) : Prop := ∃ k, 1 ≤ k ∧ k ≤ 40 ∧ d = D k

theorem D_nonneg (k : Nat) : 0 ≤ D k := by
  induction k with
  | zero => simp [D]
  | succ k ih => simp only [D]; omega
theorem D_pos (k : Nat) (h : 1 ≤ k) : 1 ≤ D k := by
  cases k with
  | zero => omega
  | succ k => have := D_nonneg k; simp only [D]; omega
theorem D_mono {a b : Nat} (h : a ≤ b) : D a ≤ D b := by
  induction b with
  | zero => have : a = 0 := by omega
            subst this; exact Int.le_refl _
  | succ b ih =>
    by_cases e : a = b + 1
    · subst e; exact Int.le_refl _
    · have := ih (by omega)
      have := D_nonneg b
      simp only [D]; omega
theorem D_lt {a b : Nat} (h : a < b) : D a < D b := by
  have h1 : D (a + 1) ≤ D b := D_mono h
  have := D_nonneg a
  simp only [D] at h1
  omega
theorem D_inj {a b : Nat} (h : D a = D b) : a = b := by
  rcases Nat.lt_trichotomy a b with h1 | h1 | h1
  · have := D_lt h1; omega
  · exact h1
  · have := D_lt h1; omega
theorem D40 : D 40 = 1099511627775 := by decide

/-- Digits, the greatest first. -/
def vd : List Int → Prop
  | [] => True
  | x :: r => Form x ∧ (match r with | [] => True | [y] => y ≤ x | y :: _ => y < x) ∧ vd r
theorem vd_le : ∀ (r : List Int) (x : Int), vd (x :: r) → ∀ y ∈ r, y ≤ x := by
  intro r
  induction r with
  | nil => intro x _ y h; cases h
  | cons z r ih =>
    intro x h y hy
    obtain ⟨_, h2, h3⟩ := h
    have hz : z ≤ x := by
      cases r with
      | nil => exact h2
      | cons => exact Int.le_of_lt h2
    rcases List.mem_cons.1 hy with rfl | hy
    · exact hz
    · exact Int.le_trans (ih z h3 y hy) hz

/-- The greedy digits. -/
def gd : Nat → Int → List Int
  | 0, _ => []
  | k + 1, n => if D (k + 1) ≤ n then D (k + 1) :: (if D (k + 1) ≤ n - D (k + 1) then [D (k + 1)] else gd k (n - D (k + 1))) else gd k n
theorem gd_zero (k : Nat) : gd k 0 = [] := by
  induction k with
  | zero => rfl
  | succ k ih =>
    have := D_pos (k + 1) (by omega)
    simp only [gd]
    rw [if_neg (by omega), ih]

theorem form_le {x : Int} {k : Nat} (h : Form x) (hx : x ≤ D (k + 1)) : x = D (k + 1) ∨ x ≤ D k := by
  obtain ⟨j, _, _, rfl⟩ := h
  rcases Nat.lt_or_ge j (k + 1) with h1 | h1
  · right; exact D_mono (by omega)
  · left
    have := D_mono h1
    omega
theorem form_pos {x : Int} (h : Form x) : 1 ≤ x := by
  obtain ⟨j, h1, _, rfl⟩ := h
  exact D_pos j h1
theorem form_top {x : Int} (h : Form x) : x ≤ 1099511627775 := by
  obtain ⟨j, _, h2, rfl⟩ := h
  rw [← D40]
  exact D_mono h2

theorem uniq (k : Nat) : ∀ r : List Int, vd r → (∀ x ∈ r, x ≤ D k) → r = gd k r.sum ∧ r.sum ≤ 2 * D k ∧ 0 ≤ r.sum := by
  induction k with
  | zero =>
    intro r h1 h2
    cases r with
    | nil => simp [gd, D]
    | cons x r =>
      have := form_pos h1.1
      have := h2 x (by simp)
      simp only [D] at this
      omega
  | succ k ih =>
    intro r h1 h2
    have hp := D_pos (k + 1) (by omega)
    have hk := D_nonneg k
    have hD : D (k + 1) = 2 * D k + 1 := rfl
    cases r with
    | nil =>
      rw [List.sum_nil, gd_zero]
      exact ⟨rfl, by omega, by omega⟩
    | cons x r =>
      have hx := h2 x (by simp)
      rcases form_le h1.1 hx with e | e
      · -- the greatest one
        have key : (∀ y ∈ r, y ≤ D k) → (x :: r) = gd (k + 1) (x :: r).sum ∧ (x :: r).sum ≤ 2 * D (k + 1) ∧ 0 ≤ (x :: r).sum := by
          intro hr
          obtain ⟨i1, i2, i3⟩ := ih r h1.2.2 hr
          rw [List.sum_cons]
          refine ⟨?_, by omega, by omega⟩
          simp only [gd]
          rw [if_pos (by omega), if_neg (by omega)]
          have : x + r.sum - D (k + 1) = r.sum := by omega
          rw [this, ← i1, e]
        obtain ⟨_, h3, h4⟩ := h1
        cases r with
        | nil => exact key (by simp)
        | cons y r =>
          cases r with
          | nil =>
            rcases form_le (k := k) h4.1 (by have : y ≤ x := h3; omega) with e2 | e2
            · simp only [List.sum_cons, List.sum_nil]
              refine ⟨?_, by omega, by omega⟩
              simp only [gd]
              rw [if_pos (by omega), if_pos (by omega), e, e2]
            · exact key (by simpa using e2)
          | cons z r =>
            have h5 : y < x := h3
            rcases form_le (k := k) h4.1 (by omega) with e2 | e2
            · omega
            · refine key fun t ht => ?_
              rcases List.mem_cons.1 ht with rfl | ht
              · exact e2
              · exact Int.le_trans (vd_le _ _ h4 t ht) e2
      · have hall : ∀ y ∈ x :: r, y ≤ D k := by
          intro y hy
          rcases List.mem_cons.1 hy with rfl | hy
          · exact e
          · exact Int.le_trans (vd_le _ _ h1 y hy) e
        obtain ⟨i1, i2, i3⟩ := ih _ h1 hall
        refine ⟨?_, by omega, i3⟩
        simp only [gd]
        rw [if_neg (by omega)]
        exact i1

theorem gd_ok (k : Nat) : ∀ n, k ≤ 40 → 0 ≤ n → n ≤ 2 * D k → vd (gd k n) ∧ (gd k n).sum = n ∧ (∀ x ∈ gd k n, x ≤ D k) ∧ (gd k n).length ≤ k + 1 := by
  induction k with
  | zero => intro n _ h1 h2; simp only [D] at h2; simp [gd, vd]; omega
  | succ k ih =>
    intro n hk h1 h2
    have hf : Form (D (k + 1)) := ⟨k + 1, by omega, hk, rfl⟩
    have hp := D_pos (k + 1) (by omega)
    have hD : D (k + 1) = 2 * D k + 1 := rfl
    have hkn := D_nonneg k
    simp only [gd]
    by_cases e : D (k + 1) ≤ n
    · rw [if_pos e]
      by_cases e2 : D (k + 1) ≤ n - D (k + 1)
      · rw [if_pos e2]
        refine ⟨⟨hf, Int.le_refl _, hf, trivial, trivial⟩, by simp; omega, by simp, by simp⟩
      · rw [if_neg e2]
        obtain ⟨i1, i2, i3, i4⟩ := ih (n - D (k + 1)) (by omega) (by omega) (by omega)
        refine ⟨⟨hf, ?_, i1⟩, by rw [List.sum_cons, i2]; omega, ?_, by simp only [List.length_cons]; omega⟩
        · have : ∀ y ∈ gd k (n - D (k + 1)), y < D (k + 1) := fun y hy => by have := i3 y hy; omega
          revert this
          generalize gd k (n - D (k + 1)) = r
          intro this
          match r with
          | [] => trivial
          | [y] => exact Int.le_of_lt (this y (by simp))
          | y :: z :: r => exact this y (by simp)
        · intro x hx
          rcases List.mem_cons.1 hx with rfl | hx
          · exact Int.le_refl _
          · have := i3 x hx; omega
    · rw [if_neg e]
      obtain ⟨i1, i2, i3, i4⟩ := ih n (by omega) h1 (by omega)
      exact ⟨i1, i2, fun x hx => by have := i3 x hx; omega, by omega⟩

/-- Is a digit right where it stands? -/
def okAt (l : List Int) (i : Nat) : Prop := Form (l[i]?.getD 0) ∧ (0 < i → l[i - 1]?.getD 0 ≤ l[i]?.getD 0) ∧ (1 < i → l[i - 1]?.getD 0 ≠ l[i]?.getD 0)
def valid (l : List Int) : Prop := ∀ i, i < l.length → okAt l i

theorem getD_left (l : List Int) (x : Int) (i : Nat) (h : i < l.length) : (l ++ [x])[i]?.getD 0 = l[i]?.getD 0 := by rw [List.getElem?_append_left h]
theorem getD_last (l : List Int) (x : Int) : (l ++ [x])[l.length]?.getD 0 = x := by simp
theorem valid_snoc (l : List Int) (x : Int) : valid (l ++ [x]) ↔ valid l ∧ okAt (l ++ [x]) l.length := by
  constructor
  · intro h
    refine ⟨fun i hi => ?_, h _ (by simp)⟩
    have := h i (by simp; omega)
    unfold okAt at this ⊢
    rw [getD_left _ _ _ hi, getD_left _ _ _ (by omega)] at this
    exact this
  · rintro ⟨h1, h2⟩ i hi
    rcases Nat.lt_or_ge i l.length with h | h
    · have := h1 i h
      unfold okAt at this ⊢
      rw [getD_left _ _ _ h, getD_left _ _ _ (by omega)]
      exact this
    · have : i = l.length := by simp at hi; omega
      subst this
      exact h2
theorem snoc_ind {P : List Int → Prop} (h0 : P []) (hs : ∀ l x, P l → P (l ++ [x])) (l : List Int) : P l := by
  have : ∀ l : List Int, P l.reverse := by
    intro l
    induction l with
    | nil => exact h0
    | cons x l ih => rw [List.reverse_cons]; exact hs _ _ ih
  simpa using this l.reverse
theorem valid_vd (l : List Int) : valid l ↔ vd l.reverse := by
  induction l using snoc_ind with
  | h0 => simp [valid, vd]
  | hs l x ih =>
    rw [valid_snoc, List.reverse_append, List.reverse_singleton, List.singleton_append, ih]
    unfold okAt
    rw [getD_last]
    show _ ↔ Form x ∧ _ ∧ vd l.reverse
    have : ((0 < l.length → (l ++ [x])[l.length - 1]?.getD 0 ≤ x) ∧ (1 < l.length → (l ++ [x])[l.length - 1]?.getD 0 ≠ x)) ↔ (match l.reverse with | [] => True | [y] => y ≤ x | y :: _ => y < x) := by
      rcases List.eq_nil_or_concat l with rfl | ⟨l', y, rfl⟩
      · simp
      · rw [List.concat_eq_append]
        have hlen : (l' ++ [y]).length - 1 = l'.length := by simp
        rw [hlen, getD_left _ _ _ (by simp), getD_last, List.reverse_append, List.reverse_singleton, List.singleton_append]
        cases hr : l'.reverse with
        | nil =>
          have : l' = [] := by simpa using hr
          subst this
          simp
        | cons z r =>
          have hl : 0 < l'.length := by
            have : l'.reverse.length = (z :: r).length := by rw [hr]
            simp at this; omega
          simp only [List.length_append, List.length_singleton]
          constructor
          · rintro ⟨a, b⟩
            have := a (by omega)
            have := b (by omega)
            omega
          · intro a
            exact ⟨fun _ => by omega, fun _ => by omega⟩
    rw [← this]
    constructor
    · rintro ⟨a, b, c, d⟩; exact ⟨b, ⟨c, d⟩, a⟩
    · rintro ⟨b, ⟨c, d⟩, a⟩; exact ⟨a, b, c, d⟩

theorem valid_top {l : List Int} (h : valid l) : ∀ x ∈ l, Form x := by
  intro x hx
  obtain ⟨i, hi, rfl⟩ := List.getElem_of_mem hx
  have := (h i hi).1
  rw [List.getElem?_eq_getElem hi] at this
  exact this
theorem sum_reverse (l : List Int) : l.reverse.sum = l.sum := by
  induction l with
  | nil => rfl
  | cons x l ih => rw [List.reverse_cons, List.sum_append, ih, List.sum_cons, List.sum_cons, List.sum_nil]; omega
/-- MYERS: one number, one form. -/
theorem valid_uniq {l : List Int} (h : valid l) : l.reverse = gd 40 l.sum ∧ l.sum ≤ 2199023255550 ∧ 0 ≤ l.sum := by
  have := uniq 40 l.reverse ((valid_vd l).1 h) (fun x hx => by rw [D40]; exact form_top (valid_top h x (by simpa using hx)))
  rw [sum_reverse, D40] at this
  exact this
theorem valid_eq {l m : List Int} (h : valid l) (k : valid m) (e : l.sum = m.sum) : l = m := by
  have h1 := (valid_uniq h).1
  have h2 := (valid_uniq k).1
  rw [e, ← h2] at h1
  exact List.reverse_inj.1 h1
theorem gd_valid {n : Int} (h0 : 0 ≤ n) (h1 : n ≤ 2199023255550) : valid (gd 40 n).reverse ∧ (gd 40 n).reverse.sum = n ∧ (gd 40 n).reverse.length ≤ 41 := by
  obtain ⟨a, b, _, d⟩ := gd_ok 40 n (Nat.le_refl _) h0 (by rw [D40]; omega)
  exact ⟨(valid_vd _).2 (by rw [List.reverse_reverse]; exact a), by rw [sum_reverse]; exact b, by rw [List.length_reverse]; exact d⟩
theorem valid_length {l : List Int} (h : valid l) : l.length ≤ 41 := by
  have h1 := valid_uniq h
  have := gd_ok 40 l.sum (Nat.le_refl _) h1.2.2 (by rw [D40]; omega)
  rw [← h1.1] at this
  simpa using this.2.2.2
end SK
end Go.Proofs.Ytpkfakndlbngbaa

namespace Go.Proofs.Ytpkfakndlbngbaa
namespace SK

theorem okAt_cons_succ (x : Int) (l : List Int) (i : Nat) (hi : 0 < i) (h : okAt l i) (h1 : i = 1 → l[0]?.getD 0 ≠ l[1]?.getD 0) : okAt (x :: l) (i + 1) := by
  obtain ⟨a, b, c⟩ := h
  refine ⟨by simpa using a, fun _ => ?_, fun _ => ?_⟩
  · have := b hi
    have e : i + 1 - 1 = (i - 1) + 1 := by omega
    rw [e]
    simpa using this
  · have e : i + 1 - 1 = (i - 1) + 1 := by omega
    rw [e]
    by_cases h2 : i = 1
    · subst h2; simpa using h1 rfl
    · simpa using c (by omega)
/-- A digit ahead of the others. -/
theorem valid_cons {x : Int} {l : List Int} (hx : Form x) (h : valid l) (h0 : 0 < l.length → x ≤ l[0]?.getD 0) (h1 : 1 < l.length → l[0]?.getD 0 ≠ l[1]?.getD 0) : valid (x :: l) := by
  intro i hi
  match i, hi with
  | 0, _ => exact ⟨by simpa using hx, fun h => by omega, fun h => by omega⟩
  | 1, hi =>
    have hl : 0 < l.length := by simpa using hi
    exact ⟨by simpa using (h 0 hl).1, fun _ => by simpa using h0 hl, fun h => by omega⟩
  | i + 2, hi =>
    have hl : i + 1 < l.length := by simp at hi; omega
    exact okAt_cons_succ x l (i + 1) (by omega) (h (i + 1) hl) (fun e => h1 (by omega))
theorem valid_tail {x : Int} {l : List Int} (h : valid (x :: l)) : valid l ∧ (0 < l.length → x ≤ l[0]?.getD 0) ∧ (1 < l.length → l[0]?.getD 0 ≠ l[1]?.getD 0) ∧ (1 < l.length → l[0]?.getD 0 < l[1]?.getD 0) := by
  refine ⟨fun i hi => ?_, fun hl => ?_, fun hl => ?_, fun hl => ?_⟩
  · obtain ⟨a, b, c⟩ := h (i + 1) (by simpa using hi)
    refine ⟨by simpa using a, fun h0 => ?_, fun h0 => ?_⟩
    · have := b (by omega)
      have e : i + 1 - 1 = (i - 1) + 1 := by omega
      rw [e] at this
      simpa using this
    · have := c (by omega)
      have e : i + 1 - 1 = (i - 1) + 1 := by omega
      rw [e] at this
      simpa using this
  · have := (h 1 (by simpa using hl)).2.1 (by omega)
    simpa using this
  · have := (h 2 (by simp; omega)).2.2 (by omega)
    simpa using this
  · have h1 := (h 2 (by simp; omega)).2.1 (by omega)
    have h2 := (h 2 (by simp; omega)).2.2 (by omega)
    simp at h1 h2
    omega

theorem form_one : Form 1 := ⟨1, by omega, by omega, rfl⟩
theorem form_next {x y : Int} (h : Form x) (k : Form y) (e : x < y) : 2 * x + 1 ≤ y := by
  obtain ⟨i, _, _, rfl⟩ := h
  obtain ⟨j, _, _, rfl⟩ := k
  have : i < j := by
    rcases Nat.lt_or_ge i j with h | h
    · exact h
    · have := D_mono h; omega
  have := D_mono (show i + 1 ≤ j from this)
  simpa only [D] using this
theorem form_up {x : Int} (h : Form x) (e : 2 * x < 1099511627776) : Form (2 * x + 1) := by
  obtain ⟨i, h1, h2, rfl⟩ := h
  refine ⟨i + 1, by omega, ?_, rfl⟩
  rcases Nat.lt_or_ge i 40 with h | h
  · exact h
  · have := D_mono h
    rw [D40] at this
    omega
theorem form_half {x : Int} (h : Form x) (e : x ≠ 1) : Form (x / 2) ∧ 2 * (x / 2) + 1 = x ∧ x / 2 < x := by
  obtain ⟨i, h1, h2, rfl⟩ := h
  match i, h1, e with
  | 1, _, e => exact absurd rfl e
  | i + 2, _, _ =>
    have h3 := D_pos (i + 1) (by omega)
    have e1 : D (i + 2) = 2 * D (i + 1) + 1 := rfl
    have e2 : D (i + 2) / 2 = D (i + 1) := by omega
    rw [e2]
    exact ⟨⟨i + 1, by omega, by omega, rfl⟩, by omega, by omega⟩

theorem valid_nil : valid [] := fun i h => by simp at h
theorem valid_single {x : Int} (h : Form x) : valid [x] := valid_cons h valid_nil (fun h => by simp at h) (fun h => by simp at h)

/-- One more: the first two are alike. -/
theorem inc_low {x : Int} {l : List Int} (h : valid (x :: x :: l)) (hs : (x :: x :: l).sum < 1099511627776) : valid ((2 * x + 1) :: l) ∧ ((2 * x + 1) :: l).sum = (x :: x :: l).sum + 1 := by
  obtain ⟨h1, _, _, _⟩ := valid_tail h
  obtain ⟨h2, h3, h4, h5⟩ := valid_tail h1
  have hf : Form x := valid_top h x (by simp)
  have hs0 := (valid_uniq h2).2.2
  refine ⟨valid_cons (form_up hf ?_) h2 (fun hl => ?_) h4, ?_⟩
  · simp only [List.sum_cons] at hs; omega
  · have a : x ≤ l[0]?.getD 0 := h3 hl
    have b : x ≠ l[0]?.getD 0 := by
      have := (h 2 (by simp; omega)).2.2 (by omega)
      simpa using this
    exact form_next hf (h2 0 hl).1 (by omega)
  · simp only [List.sum_cons]; omega
theorem inc_high {l : List Int} (h : valid l) (hn : 1 < l.length → l[0]?.getD 0 ≠ l[1]?.getD 0) : valid (1 :: l) ∧ (1 :: l).sum = l.sum + 1 := by
  refine ⟨valid_cons form_one h (fun hl => ?_) hn, ?_⟩
  · exact form_pos (h 0 hl).1
  · simp only [List.sum_cons]; omega
theorem dec_one {l : List Int} (h : valid (1 :: l)) : valid l ∧ l.sum = (1 :: l).sum - 1 := by
  refine ⟨(valid_tail h).1, by simp only [List.sum_cons]; omega⟩
theorem dec_more {x : Int} {l : List Int} (h : valid (x :: l)) (e : x ≠ 1) : valid (x / 2 :: x / 2 :: l) ∧ (x / 2 :: x / 2 :: l).sum = (x :: l).sum - 1 := by
  have hf : Form x := valid_top h x (by simp)
  obtain ⟨f1, f2, f3⟩ := form_half hf e
  obtain ⟨h1, h2, h3, h4⟩ := valid_tail h
  refine ⟨valid_cons f1 (valid_cons f1 h1 (fun hl => by have := h2 hl; omega) h3) (fun _ => by simp) (fun hl => ?_), by simp only [List.sum_cons]; omega⟩
  have hl' : 0 < l.length := by simpa using hl
  have := h2 hl'
  simp
  have e0 : l[0]?.getD 0 = l[0] := by rw [List.getElem?_eq_getElem hl']; rfl
  omega
end SK
end Go.Proofs.Ytpkfakndlbngbaa

namespace Go.Proofs.Ytpkfakndlbngbaa
set_option linter.unusedVariables false
open SK
inductive RT where
  | nil
  | node (x : Int) (l r : RT)
namespace RT
def pre : RT → List Int
  | nil => []
  | node x l r => x :: (l.pre ++ r.pre)
def Perf : Nat → RT → Prop
  | 0, t => t = nil
  | k + 1, t => ∃ x l r, t = node x l r ∧ Perf k l ∧ Perf k r
theorem perf_len : ∀ {k : Nat} {t : RT}, Perf k t → (t.pre.length : Int) = D k := by
  intro k
  induction k with
  | zero => rintro t rfl; rfl
  | succ k ih =>
    rintro t ⟨x, l, r, rfl, hl, hr⟩
    have a := ih hl
    have b := ih hr
    simp only [pre, List.length_cons, List.length_append, D]
    omega
/-- With another number at a place. -/
def put : RT → Nat → Int → RT
  | nil, _, _ => nil
  | node x l r, 0, y => node y l r
  | node x l r, i + 1, y => if i < l.pre.length then node x (l.put i y) r else node x l (r.put (i - l.pre.length) y)
theorem put_length : ∀ (t : RT) (i : Nat) (y : Int), (t.put i y).pre.length = t.pre.length := by
  intro t
  induction t with
  | nil => intro i y; rfl
  | node x l r ihl ihr =>
    intro i y
    cases i with
    | zero => simp [put, pre]
    | succ i =>
      simp only [put]
      split
      · simp [pre, ihl]
      · simp [pre, ihr]
theorem put_pre : ∀ (t : RT) (i : Nat) (y : Int), (t.put i y).pre = t.pre.set i y := by
  intro t
  induction t with
  | nil => intro i y; simp [put, pre]
  | node x l r ihl ihr =>
    intro i y
    cases i with
    | zero => simp [put, pre]
    | succ i =>
      simp only [put, pre, List.set_cons_succ]
      split
      · rename_i h
        simp only [pre, ihl, List.set_append, if_pos h]
      · rename_i h
        simp only [pre, ihr, List.set_append, if_neg h]
theorem put_perf : ∀ {k : Nat} {t : RT} (i : Nat) (y : Int), Perf k t → Perf k (t.put i y) := by
  intro k
  induction k with
  | zero => rintro t i y rfl; rfl
  | succ k ih =>
    rintro t i y ⟨x, l, r, rfl, hl, hr⟩
    cases i with
    | zero => exact ⟨y, l, r, rfl, hl, hr⟩
    | succ i =>
      simp only [put]
      split
      · exact ⟨x, _, r, rfl, ih _ _ hl, hr⟩
      · exact ⟨x, l, _, rfl, hl, ih _ _ hr⟩
end RT
/-- A spot: its tree's rank, its tree. -/
abbrev Sp := Nat × RT
def allS (l : List Sp) : List Int := l.flatMap fun s => s.2.pre
theorem allS_cons (s : Sp) (l : List Sp) : allS (s :: l) = s.2.pre ++ allS l := rfl
/-- All but the first one rise, and the first one is not above. -/
def canon : List Nat → Prop
  | [] => True
  | a :: r => r.Pairwise (· < ·) ∧ ∀ b ∈ r, a ≤ b
structure GoodS (l : List Sp) : Prop where
  perf : ∀ s ∈ l, 1 ≤ s.1 ∧ RT.Perf s.1 s.2
  can : canon (l.map (·.1))
theorem goodS_nil : GoodS [] := ⟨by simp, trivial⟩
theorem GoodS.tail {s : Sp} {l : List Sp} (h : GoodS (s :: l)) : GoodS l := by
  refine ⟨fun t ht => h.perf t (List.mem_cons_of_mem _ ht), ?_⟩
  have h1 := h.can.1
  cases l with
  | nil => trivial
  | cons t l =>
    rw [List.map_cons] at h1
    exact ⟨(List.pairwise_cons.1 h1).2, fun b hb => Nat.le_of_lt ((List.pairwise_cons.1 h1).1 b hb)⟩
/-- What is pushed. -/
def pushS (x : Int) : List Sp → List Sp
  | a :: b :: r => if a.1 = b.1 then (a.1 + 1, .node x a.2 b.2) :: r else (1, .node x .nil .nil) :: a :: b :: r
  | l => (1, .node x .nil .nil) :: l
theorem perf_one (x : Int) : RT.Perf 1 (.node x .nil .nil) := ⟨x, .nil, .nil, rfl, rfl, rfl⟩
theorem pushS_all (x : Int) (l : List Sp) : allS (pushS x l) = x :: allS l := by
  unfold pushS
  split
  · rename_i a b r
    split
    · simp only [allS_cons, RT.pre, List.cons_append, List.append_assoc]
    · simp [allS_cons, RT.pre]
  · simp [allS_cons, RT.pre]
theorem pushS_good (x : Int) {l : List Sp} (h : GoodS l) : GoodS (pushS x l) := by
  have one : 1 ≤ 1 ∧ RT.Perf 1 (.node x .nil .nil) := ⟨Nat.le_refl _, perf_one x⟩
  unfold pushS
  split
  · rename_i a b r
    have ha := h.perf a (List.mem_cons_self ..)
    have hb := h.perf b (List.mem_cons_of_mem _ (List.mem_cons_self ..))
    have hc := h.can
    simp only [List.map_cons] at hc
    obtain ⟨h1, h2⟩ := hc
    obtain ⟨h3, h4⟩ := List.pairwise_cons.1 h1
    split
    · rename_i e
      refine ⟨fun s hs => ?_, ?_⟩
      · rcases List.mem_cons.1 hs with rfl | hs
        · exact ⟨by simp, x, a.2, b.2, rfl, ha.2, by rw [e]; exact hb.2⟩
        · exact h.perf s (List.mem_cons_of_mem _ (List.mem_cons_of_mem _ hs))
      · rw [List.map_cons]
        exact ⟨h4, fun c hc => by have := h3 c hc; simp only; omega⟩
    · rename_i e
      refine ⟨fun s hs => ?_, ?_⟩
      · rcases List.mem_cons.1 hs with rfl | hs
        · exact one
        · exact h.perf s hs
      · rw [List.map_cons, List.map_cons, List.map_cons]
        have hab := h2 b.1 (List.mem_cons_self ..)
        refine ⟨List.pairwise_cons.2 ⟨fun c hc => ?_, h1⟩, fun c hc => ?_⟩
        · rcases List.mem_cons.1 hc with rfl | hc
          · omega
          · have := h3 c hc; omega
        · rcases List.mem_cons.1 hc with rfl | hc
          · exact ha.1
          · have := h2 c hc; simp only; omega
  · rename_i hne
    cases l with
    | nil => exact ⟨fun s hs => by rw [List.mem_singleton] at hs; subst hs; exact one, List.Pairwise.nil, by simp⟩
    | cons a l =>
      cases l with
      | nil =>
        have ha := h.perf a (List.mem_cons_self ..)
        refine ⟨fun s hs => ?_, List.pairwise_singleton _ _, fun c hc => ?_⟩
        · rcases List.mem_cons.1 hs with rfl | hs
          · exact one
          · exact h.perf s hs
        · have : c = a.1 := by simpa using hc
          rw [this]
          exact ha.1
      | cons b r => exact absurd rfl (hne a b r)
/-- What is left when the first one goes. -/
def popS : List Sp → List Sp
  | (k, .node _ l r) :: rest => if 1 < k then (k - 1, l) :: (k - 1, r) :: rest else rest
  | _ => []
theorem popS_good {l : List Sp} (h : GoodS l) : GoodS (popS l) := by
  cases l with
  | nil => exact goodS_nil
  | cons s rest =>
    obtain ⟨k, t⟩ := s
    obtain ⟨hk, hp⟩ := h.perf (k, t) (List.mem_cons_self ..)
    simp only at hk hp
    obtain ⟨k, rfl⟩ : ∃ j, k = j + 1 := ⟨k - 1, by omega⟩
    obtain ⟨x, l, r, rfl, hl, hr⟩ := hp
    simp only [popS]
    split
    · rename_i h1
      obtain ⟨c1, c2⟩ := h.can
      refine ⟨fun s hs => ?_, ?_⟩
      · rcases List.mem_cons.1 hs with rfl | hs
        · exact ⟨by simp; omega, hl⟩
        · rcases List.mem_cons.1 hs with rfl | hs
          · exact ⟨by simp; omega, hr⟩
          · exact h.perf s (List.mem_cons_of_mem _ hs)
      · simp only [List.map_cons]
        refine ⟨List.pairwise_cons.2 ⟨fun c hc => by have := c2 c hc; simp only at this; omega, c1⟩, fun c hc => ?_⟩
        rcases List.mem_cons.1 hc with rfl | hc
        · exact Nat.le_refl _
        · have := c2 c hc; simp only at this; omega
    · exact h.tail
theorem popS_all {l : List Sp} {x : Int} {xs : List Int} (h : GoodS l) (e : allS l = x :: xs) : allS (popS l) = xs ∧ ∃ k a b rest, l = (k + 1, .node x a b) :: rest ∧ RT.Perf k a ∧ RT.Perf k b := by
  cases l with
  | nil => cases e
  | cons s rest =>
    obtain ⟨k, t⟩ := s
    obtain ⟨hk, hp⟩ := h.perf (k, t) (List.mem_cons_self ..)
    simp only at hk hp
    obtain ⟨k, rfl⟩ : ∃ j, k = j + 1 := ⟨k - 1, by omega⟩
    obtain ⟨y, l, r, rfl, hl, hr⟩ := hp
    rw [allS_cons] at e
    simp only [RT.pre, List.cons_append] at e
    injection e with e1 e2
    subst e1
    refine ⟨?_, k, l, r, rest, rfl, hl, hr⟩
    rw [← e2]
    simp only [popS]
    split
    · simp [allS_cons, List.append_assoc]
    · rename_i h1
      have : k = 0 := by omega
      subst this
      obtain rfl : l = .nil := hl
      obtain rfl : r = .nil := hr
      simp [RT.pre]
/-- With another number at a place. -/
def putS : List Sp → Nat → Int → List Sp
  | [], _, _ => []
  | s :: r, i, y => if i < s.2.pre.length then (s.1, s.2.put i y) :: r else s :: putS r (i - s.2.pre.length) y
theorem putS_all : ∀ (l : List Sp) (i : Nat) (y : Int), allS (putS l i y) = (allS l).set i y := by
  intro l
  induction l with
  | nil => intro i y; simp [putS, allS]
  | cons s r ih =>
    intro i y
    simp only [putS]
    split
    · rename_i h
      simp only [allS_cons, RT.put_pre, List.set_append, if_pos h]
    · rename_i h
      simp only [allS_cons, ih, List.set_append, if_neg h]
theorem putS_ranks : ∀ (l : List Sp) (i : Nat) (y : Int), (putS l i y).map (·.1) = l.map (·.1) := by
  intro l
  induction l with
  | nil => intro i y; rfl
  | cons s r ih =>
    intro i y
    simp only [putS]
    split
    · rfl
    · simp [ih]
theorem putS_perf : ∀ (l : List Sp) (i : Nat) (y : Int), (∀ s ∈ l, 1 ≤ s.1 ∧ RT.Perf s.1 s.2) → ∀ s ∈ putS l i y, 1 ≤ s.1 ∧ RT.Perf s.1 s.2 := by
  intro l
  induction l with
  | nil => intro i y _ s hs; simp [putS] at hs
  | cons t r ih =>
    intro i y h s hs
    simp only [putS] at hs
    split at hs
    · rcases List.mem_cons.1 hs with rfl | hs
      · have := h t (List.mem_cons_self ..)
        exact ⟨this.1, RT.put_perf _ _ this.2⟩
      · exact h s (List.mem_cons_of_mem _ hs)
    · rcases List.mem_cons.1 hs with rfl | hs
      · exact h s (List.mem_cons_self ..)
      · exact ih _ _ (fun u hu => h u (List.mem_cons_of_mem _ hu)) s hs
theorem putS_good {l : List Sp} (h : GoodS l) (i : Nat) (y : Int) : GoodS (putS l i y) := ⟨putS_perf l i y h.perf, by rw [putS_ranks]; exact h.can⟩

/-- The trees' sizes. -/
def sizesS (l : List Sp) : List Int := l.map fun s => D s.1
theorem sizes_sum : ∀ {l : List Sp}, (∀ s ∈ l, 1 ≤ s.1 ∧ RT.Perf s.1 s.2) → (sizesS l).sum = ((allS l).length : Int) := by
  intro l
  induction l with
  | nil => intro _; rfl
  | cons s r ih =>
    intro h
    have a := ih fun t ht => h t (List.mem_cons_of_mem _ ht)
    have b := RT.perf_len (h s (List.mem_cons_self ..)).2
    rw [allS_cons, List.length_append]
    simp only [sizesS, List.map_cons, List.sum_cons] at a ⊢
    omega
theorem strict_valid : ∀ (l : List Nat), (∀ k ∈ l, 1 ≤ k ∧ k ≤ 40) → l.Pairwise (· < ·) → valid (l.map D) := by
  intro l
  induction l with
  | nil => intro _ _; exact valid_nil
  | cons a r ih =>
    intro h hp
    obtain ⟨h1, h2⟩ := List.pairwise_cons.1 hp
    have hr := ih (fun k hk => h k (List.mem_cons_of_mem _ hk)) h2
    have ha := h a (List.mem_cons_self ..)
    rw [List.map_cons]
    refine valid_cons ⟨a, ha.1, ha.2, rfl⟩ hr (fun hl => ?_) (fun hl => ?_)
    · cases r with
      | nil => simp at hl
      | cons b r => simpa using D_mono (Nat.le_of_lt (h1 b (List.mem_cons_self ..)))
    · cases r with
      | nil => simp at hl
      | cons b r =>
        cases r with
        | nil => simp at hl
        | cons c r =>
          have := D_lt ((List.pairwise_cons.1 h2).1 c (List.mem_cons_self ..))
          simp only [List.map_cons, List.getElem?_cons_zero, List.getElem?_cons_succ, Option.getD_some]
          omega
theorem sizes_valid {l : List Sp} (h : GoodS l) (hs : (allS l).length ≤ 1099511627776) : valid (sizesS l) := by
  have hk : ∀ k ∈ l.map (·.1), 1 ≤ k ∧ k ≤ 40 := by
    intro k hk
    obtain ⟨s, hsm, rfl⟩ := List.mem_map.1 hk
    have hp := h.perf s hsm
    refine ⟨hp.1, ?_⟩
    have hlen := RT.perf_len hp.2
    have : s.2.pre.length ≤ (allS l).length := by
      obtain ⟨a, b, rfl⟩ := List.append_of_mem hsm
      simp only [allS, List.flatMap_append, List.flatMap_cons, List.length_append]
      omega
    rcases Nat.lt_or_ge 40 s.1 with h41 | h41
    · have d := D_mono (show 41 ≤ s.1 by omega)
      have e : D 41 = 2199023255551 := by decide
      omega
    · exact h41
  have hc := h.can
  have e : sizesS l = (l.map (·.1)).map D := by simp [sizesS]
  rw [e]
  revert hk hc
  cases l.map (·.1) with
  | nil => intro _ _; exact valid_nil
  | cons a r =>
    intro hk hc
    have ha := hk a (List.mem_cons_self ..)
    rw [List.map_cons]
    refine valid_cons ⟨a, ha.1, ha.2, rfl⟩ (strict_valid r (fun k hk' => hk k (List.mem_cons_of_mem _ hk')) hc.1) (fun hl => ?_) (fun hl => ?_)
    · cases r with
      | nil => simp at hl
      | cons b r => simpa using D_mono (hc.2 b (List.mem_cons_self ..))
    · cases r with
      | nil => simp at hl
      | cons b r =>
        cases r with
        | nil => simp at hl
        | cons c r =>
          have := D_lt ((List.pairwise_cons.1 hc.1).1 c (List.mem_cons_self ..))
          simp only [List.map_cons, List.getElem?_cons_zero, List.getElem?_cons_succ, Option.getD_some]
          omega
end Go.Proofs.Ytpkfakndlbngbaa
