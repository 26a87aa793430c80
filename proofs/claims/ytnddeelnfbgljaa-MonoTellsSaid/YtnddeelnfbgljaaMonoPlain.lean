/-
  Measures of lists, as plain numbers. Conditions: none.
-/
import Derived.Test.YtnddeelnfbgljaaBase
namespace Go.Proofs.Ytnddeelnfbgljaa
open Go.ChangeShapes Go.WideShapes Go.ChangeAt Go.RowKit Go.Deep
namespace MN

/-- A measure. -/
structure Ms where
  n : Int
  s : Int
  lo : Int
  hi : Int
  h : Int
@[ext] theorem Ms.ext' {a b : Ms} (h1 : a.n = b.n) (h2 : a.s = b.s) (h3 : a.lo = b.lo) (h4 : a.hi = b.hi) (h5 : a.h = b.h) : a = b := by cases a; cases b; simp_all
def pw (n : Int) : Int := 131 ^ n.toNat % 2147483647
def zero : Ms := ⟨0, 0, 9223372036854775807, -9223372036854775808, 0⟩
def one (x : Int) : Ms := ⟨1, x, x, x, (x % 2147483647 + 1) % 2147483647⟩
def join (a b : Ms) : Ms := ⟨wrap64 (a.n + b.n), wrap64 (a.s + b.s), min a.lo b.lo, max a.hi b.hi, (a.h % 2147483647 * pw b.n + b.h % 2147483647) % 2147483647⟩
def of (l : List Int) : Ms := l.foldl (fun m x => join m (one x)) zero

theorem pow_emod (a : Int) (k : Nat) : (a % 2147483647) ^ k % 2147483647 = a ^ k % 2147483647 := by
  induction k with
  | zero => simp
  | succ k ih => rw [Int.pow_succ, Int.pow_succ, Int.mul_emod, ih, Int.emod_emod_of_dvd _ (Int.dvd_refl _), ← Int.mul_emod]

theorem mul_emod_l (a b : Int) : (a % 2147483647 * b) % 2147483647 = (a * b) % 2147483647 := by
  rw [Int.mul_emod, Int.emod_emod_of_dvd _ (Int.dvd_refl _), ← Int.mul_emod]
theorem mul_emod_r (a b : Int) : (a * (b % 2147483647)) % 2147483647 = (a * b) % 2147483647 := by
  rw [Int.mul_emod, Int.emod_emod_of_dvd _ (Int.dvd_refl _), ← Int.mul_emod]

/-- One round of the power's loop. -/
theorem pow_step (n out b : Int) (hn : 0 < n) : ((if n % 2 = 1 then out * b % 2147483647 else out) * (b * b % 2147483647) ^ (n / 2).toNat) % 2147483647 = (out * b ^ n.toNat) % 2147483647 := by
  have h2 : (b * b % 2147483647) ^ (n / 2).toNat % 2147483647 = b ^ (2 * (n / 2).toNat) % 2147483647 := by
    rw [pow_emod, Int.pow_mul]
    congr 2
    rw [Int.pow_succ, Int.pow_succ, Int.pow_zero, Int.one_mul]
  by_cases h : n % 2 = 1
  · have : n.toNat = 2 * (n / 2).toNat + 1 := by omega
    rw [if_pos h, this, mul_emod_l, ← mul_emod_r, h2, mul_emod_r, Int.pow_succ]
    congr 1
    ac_rfl
  · have : n.toNat = 2 * (n / 2).toNat := by omega
    rw [if_neg h, this, ← mul_emod_r, h2, mul_emod_r]

theorem pw_range (n : Int) : 0 ≤ pw n ∧ pw n < 2147483647 := by
  unfold pw
  omega
theorem pw_zero : pw 0 = 1 := by decide
theorem pw_one : pw 1 = 131 := by decide

end MN
end Go.Proofs.Ytnddeelnfbgljaa
