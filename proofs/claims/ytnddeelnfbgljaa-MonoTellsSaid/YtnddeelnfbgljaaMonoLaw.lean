/-
  Measures of lists: the laws. Conditions: none.
-/
import Derived.Test.YtnddeelnfbgljaaMonoPlain
namespace Go.Proofs.Ytnddeelnfbgljaa
open Go.ChangeShapes Go.WideShapes Go.ChangeAt Go.RowKit Go.Deep
namespace MN

theorem of_snoc (l : List Int) (x : Int) : of (l ++ [x]) = join (of l) (one x) := by simp [of]
theorem of_h (l : List Int) : 0 ≤ (of l).h ∧ (of l).h < 2147483647 := by
  rcases List.eq_nil_or_concat l with rfl | ⟨l', x, rfl⟩
  · simp [of, zero]
  · rw [List.concat_eq_append, of_snoc]
    simp only [join]
    omega
theorem snoc_ind {P : List Int → Prop} (h0 : P []) (hs : ∀ l x, P l → P (l ++ [x])) (l : List Int) : P l := by
  have : ∀ l : List Int, P l.reverse := by
    intro l
    induction l with
    | nil => exact h0
    | cons x l ih => rw [List.reverse_cons]; exact hs _ _ ih
  simpa using this l.reverse
theorem of_n (l : List Int) (h : l.length ≤ 9223372036854775807) : (of l).n = l.length := by
  revert h
  induction l using snoc_ind with
  | h0 => intro _; rfl
  | hs l x ih =>
    intro h
    rw [of_snoc]
    simp only [join, one, List.length_append, List.length_singleton] at h ⊢
    rw [ih (by omega)]
    unfold wrap64
    omega
theorem of_i64 (l : List Int) : I64 (of l).n := by
  rcases List.eq_nil_or_concat l with rfl | ⟨l', x, rfl⟩
  · unfold I64; simp [of, zero]
  · rw [List.concat_eq_append, of_snoc]; exact i64_wrap _

theorem of_s (l : List Int) : I64 (of l).s := by
  rcases List.eq_nil_or_concat l with rfl | ⟨l', x, rfl⟩
  · unfold I64; simp [of, zero]
  · rw [List.concat_eq_append, of_snoc]; exact i64_wrap _
theorem of_lo (l : List Int) : (of l).lo ≤ 9223372036854775807 := by
  induction l using snoc_ind with
  | h0 => simp [of, zero]
  | hs l x ih => rw [of_snoc]; simp only [join]; omega
theorem of_hi (l : List Int) : -9223372036854775808 ≤ (of l).hi := by
  induction l using snoc_ind with
  | h0 => simp [of, zero]
  | hs l x ih => rw [of_snoc]; simp only [join]; omega

theorem pw_add (a b : Int) (ha : 0 ≤ a) (hb : 0 ≤ b) : pw (a + b) = (pw a * pw b) % 2147483647 := by
  unfold pw
  rw [Int.toNat_add ha hb, Int.pow_add, mul_emod_l, mul_emod_r]

theorem wrap_l (a b : Int) : wrap64 (wrap64 a + b) = wrap64 (a + b) := by unfold wrap64; omega
theorem wrap_r (a b : Int) : wrap64 (a + wrap64 b) = wrap64 (a + b) := by unfold wrap64; omega
theorem add_emod_l (a b : Int) : (a % 2147483647 + b) % 2147483647 = (a + b) % 2147483647 := by omega
theorem add_emod_r (a b : Int) : (a + b % 2147483647) % 2147483647 = (a + b) % 2147483647 := by omega

theorem join_assoc (a b c : Ms) (hb : 0 ≤ b.n) (hc : 0 ≤ c.n) (hbc : b.n + c.n ≤ 9223372036854775807) : join (join a b) c = join a (join b c) := by
  have hw : wrap64 (b.n + c.n) = b.n + c.n := by unfold wrap64; omega
  refine Ms.ext' ?_ ?_ ?_ ?_ ?_
  · simp only [join, wrap_l, wrap_r, Int.add_assoc]
  · simp only [join, wrap_l, wrap_r, Int.add_assoc]
  · simp only [join]; omega
  · simp only [join]; omega
  · simp only [join, hw, pw_add _ _ hb hc]
    have e1 : (a.h % 2147483647 * pw b.n + b.h % 2147483647) % 2147483647 % 2147483647 * pw c.n = (a.h % 2147483647 * pw b.n + b.h % 2147483647) % 2147483647 * pw c.n := by rw [Int.emod_emod_of_dvd _ (Int.dvd_refl _)]
    rw [e1, ← add_emod_l (_ * pw c.n), mul_emod_l, add_emod_l, Int.add_mul, ← add_emod_l (a.h % 2147483647 * _), mul_emod_r, add_emod_l, Int.emod_emod_of_dvd (b.h % 2147483647 * pw c.n + c.h % 2147483647) (Int.dvd_refl _), add_emod_r, Int.add_assoc, Int.mul_assoc]
    omega

theorem join_zero_r (l : List Int) (h : l.length ≤ 9223372036854775807) : join (of l) zero = of l := by
  have h1 := of_h l
  have h2 := of_n l h
  have h3 := of_s l
  have h4 := of_lo l
  have h5 := of_hi l
  refine Ms.ext' ?_ ?_ ?_ ?_ ?_
  · simp only [join, zero]; rw [h2]; unfold wrap64; omega
  · simp only [join, zero]; unfold I64 at h3; unfold wrap64; omega
  · simp only [join, zero]; omega
  · simp only [join, zero]; omega
  · simp only [join, zero, pw_zero]; omega
theorem join_zero_l (l : List Int) (h : l.length ≤ 9223372036854775807) : join zero (of l) = of l := by
  have h1 := of_h l
  have h2 := of_n l h
  have h3 := of_s l
  have h4 := of_lo l
  have h5 := of_hi l
  refine Ms.ext' ?_ ?_ ?_ ?_ ?_
  · simp only [join, zero]; rw [h2]; unfold wrap64; omega
  · simp only [join, zero]; unfold I64 at h3; unfold wrap64; omega
  · simp only [join, zero]; omega
  · simp only [join, zero]; omega
  · simp only [join, zero]; omega
theorem join_one (m : Ms) (x : Int) : join m (one x) = ⟨wrap64 (m.n + 1), wrap64 (m.s + x), min m.lo x, max m.hi x, (131 * m.h + x % 2147483647 + 1) % 2147483647⟩ := by
  simp only [join, one, pw_one]
  refine Ms.ext' rfl rfl rfl rfl ?_
  simp only
  omega
theorem of_append (a b : List Int) (h : a.length + b.length ≤ 9223372036854775807) : of (a ++ b) = join (of a) (of b) := by
  revert h
  induction b using snoc_ind with
  | h0 => intro h; rw [List.append_nil]; exact (join_zero_r a (by simpa using h)).symm
  | hs b x ih =>
    intro h
    simp only [List.length_append, List.length_singleton] at h
    rw [← List.append_assoc, of_snoc, ih (by omega), of_snoc, join_assoc _ _ _ (by rw [of_n b (by omega)]; omega) (by simp [one]) (by rw [of_n b (by omega)]; simp only [one]; omega)]
end MN
end Go.Proofs.Ytnddeelnfbgljaa
