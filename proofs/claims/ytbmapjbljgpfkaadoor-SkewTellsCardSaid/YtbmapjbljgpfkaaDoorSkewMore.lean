/-
  Skew digits: one more and one less. Conditions: none.
-/
import Derived.Test.YtbmapjbljgpfkaaDoorSkewPlain
namespace Go.Proofs.YtbmapjbljgpfkaaDoor
namespace SK

theorem okAt_cons_succ (x : Int) (l : List Int) (i : Nat) (hi : 0 < i) (h : okAt l i) (h1 : i = 1 → l[0]?.getD 0 ≠ l[1]?.getD 0) : okAt (x :: l) (i + 1) := by
  obtain ⟨a, b, c⟩ := h
  refine ⟨by simpa using a, fun _ => ?_, fun _ => ?_⟩
  · have := b hi
    have e : i + 1 - 1 = (i - 1) + 1 := by omega
    rw [e]
    simpa using this
  · have e : i + 1 - 1 = (i - 1) + 1 := by omega
    rw [e]
    by_cases h2 : i = 1
    · subst h2; simpa using h1 rfl
    · simpa using c (by omega)
/-- A digit ahead of the others. -/
theorem valid_cons {x : Int} {l : List Int} (hx : Form x) (h : valid l) (h0 : 0 < l.length → x ≤ l[0]?.getD 0) (h1 : 1 < l.length → l[0]?.getD 0 ≠ l[1]?.getD 0) : valid (x :: l) := by
  intro i hi
  match i, hi with
  | 0, _ => exact ⟨by simpa using hx, fun h => by omega, fun h => by omega⟩
  | 1, hi =>
    have hl : 0 < l.length := by simpa using hi
    exact ⟨by simpa using (h 0 hl).1, fun _ => by simpa using h0 hl, fun h => by omega⟩
  | i + 2, hi =>
    have hl : i + 1 < l.length := by simp at hi; omega
    exact okAt_cons_succ x l (i + 1) (by omega) (h (i + 1) hl) (fun e => h1 (by omega))
theorem valid_tail {x : Int} {l : List Int} (h : valid (x :: l)) : valid l ∧ (0 < l.length → x ≤ l[0]?.getD 0) ∧ (1 < l.length → l[0]?.getD 0 ≠ l[1]?.getD 0) ∧ (1 < l.length → l[0]?.getD 0 < l[1]?.getD 0) := by
  refine ⟨fun i hi => ?_, fun hl => ?_, fun hl => ?_, fun hl => ?_⟩
  · obtain ⟨a, b, c⟩ := h (i + 1) (by simpa using hi)
    refine ⟨by simpa using a, fun h0 => ?_, fun h0 => ?_⟩
    · have := b (by omega)
      have e : i + 1 - 1 = (i - 1) + 1 := by omega
      rw [e] at this
      simpa using this
    · have := c (by omega)
      have e : i + 1 - 1 = (i - 1) + 1 := by omega
      rw [e] at this
      simpa using this
  · have := (h 1 (by simpa using hl)).2.1 (by omega)
    simpa using this
  · have := (h 2 (by simp; omega)).2.2 (by omega)
    simpa using this
  · have h1 := (h 2 (by simp; omega)).2.1 (by omega)
    have h2 := (h 2 (by simp; omega)).2.2 (by omega)
    simp at h1 h2
    omega

theorem form_one : Form 1 := ⟨1, by omega, by omega, rfl⟩
theorem form_next {x y : Int} (h : Form x) (k : Form y) (e : x < y) : 2 * x + 1 ≤ y := by
  obtain ⟨i, _, _, rfl⟩ := h
  obtain ⟨j, _, _, rfl⟩ := k
  have : i < j := by
    rcases Nat.lt_or_ge i j with h | h
    · exact h
    · have := D_mono h; omega
  have := D_mono (show i + 1 ≤ j from this)
  simpa only [D] using this
theorem form_up {x : Int} (h : Form x) (e : 2 * x < 1099511627776) : Form (2 * x + 1) := by
  obtain ⟨i, h1, h2, rfl⟩ := h
  refine ⟨i + 1, by omega, ?_, rfl⟩
  rcases Nat.lt_or_ge i 40 with h | h
  · exact h
  · have := D_mono h
    rw [D40] at this
    omega
theorem form_half {x : Int} (h : Form x) (e : x ≠ 1) : Form (x / 2) ∧ 2 * (x / 2) + 1 = x ∧ x / 2 < x := by
  obtain ⟨i, h1, h2, rfl⟩ := h
  match i, h1, e with
  | 1, _, e => exact absurd rfl e
  | i + 2, _, _ =>
    have h3 := D_pos (i + 1) (by omega)
    have e1 : D (i + 2) = 2 * D (i + 1) + 1 := rfl
    have e2 : D (i + 2) / 2 = D (i + 1) := by omega
    rw [e2]
    exact ⟨⟨i + 1, by omega, by omega, rfl⟩, by omega, by omega⟩

theorem valid_nil : valid [] := fun i h => by simp at h
theorem valid_single {x : Int} (h : Form x) : valid [x] := valid_cons h valid_nil (fun h => by simp at h) (fun h => by simp at h)

/-- One more: the first two are alike. -/
theorem inc_low {x : Int} {l : List Int} (h : valid (x :: x :: l)) (hs : (x :: x :: l).sum < 1099511627776) : valid ((2 * x + 1) :: l) ∧ ((2 * x + 1) :: l).sum = (x :: x :: l).sum + 1 := by
  obtain ⟨h1, _, _, _⟩ := valid_tail h
  obtain ⟨h2, h3, h4, h5⟩ := valid_tail h1
  have hf : Form x := valid_top h x (by simp)
  have hs0 := (valid_uniq h2).2.2
  refine ⟨valid_cons (form_up hf ?_) h2 (fun hl => ?_) h4, ?_⟩
  · simp only [List.sum_cons] at hs; omega
  · have a : x ≤ l[0]?.getD 0 := h3 hl
    have b : x ≠ l[0]?.getD 0 := by
      have := (h 2 (by simp; omega)).2.2 (by omega)
      simpa using this
    exact form_next hf (h2 0 hl).1 (by omega)
  · simp only [List.sum_cons]; omega
theorem inc_high {l : List Int} (h : valid l) (hn : 1 < l.length → l[0]?.getD 0 ≠ l[1]?.getD 0) : valid (1 :: l) ∧ (1 :: l).sum = l.sum + 1 := by
  refine ⟨valid_cons form_one h (fun hl => ?_) hn, ?_⟩
  · exact form_pos (h 0 hl).1
  · simp only [List.sum_cons]; omega
theorem dec_one {l : List Int} (h : valid (1 :: l)) : valid l ∧ l.sum = (1 :: l).sum - 1 := by
  refine ⟨(valid_tail h).1, by simp only [List.sum_cons]; omega⟩
theorem dec_more {x : Int} {l : List Int} (h : valid (x :: l)) (e : x ≠ 1) : valid (x / 2 :: x / 2 :: l) ∧ (x / 2 :: x / 2 :: l).sum = (x :: l).sum - 1 := by
  have hf : Form x := valid_top h x (by simp)
  obtain ⟨f1, f2, f3⟩ := form_half hf e
  obtain ⟨h1, h2, h3, h4⟩ := valid_tail h
  refine ⟨valid_cons f1 (valid_cons f1 h1 (fun hl => by have := h2 hl; omega) h3) (fun _ => by simp) (fun hl => ?_), by simp only [List.sum_cons]; omega⟩
  have hl' : 0 < l.length := by simpa using hl
  have := h2 hl'
  simp
  have e0 : l[0]?.getD 0 = l[0] := by rw [List.getElem?_eq_getElem hl']; rfl
  omega
end SK
end Go.Proofs.YtbmapjbljgpfkaaDoor
