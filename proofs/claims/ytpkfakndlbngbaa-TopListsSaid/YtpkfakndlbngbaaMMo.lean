/-
  Measures of lists, as plain numbers. Conditions: none.
  Measures: what each function of the package makes. Conditions: none.
-/
import Derived.Test.YtpkfakndlbngbaaBase
import Derived.Test.YtpkfakndlbngbaaWords
namespace Go.Proofs.Ytpkfakndlbngbaa
open Go.ChangeShapes Go.WideShapes Go.ChangeAt Go.RowKit Go.Deep
namespace MN

/-- A measure. -/
structure Ms where
  n : Int
  s : Int
  lo : Int
  hi : Int
  h : Int
@[ext] theorem Ms.ext' {a b : Ms} (h1 : a.n = b.n) (h2 : a.s = b.s) (h3 : a.lo = b.lo) (h4 : a.hi = b.hi) (h5 : a.h = b.h) : a = b := by cases a; cases b; simp_all
def pw (n : Int) : Int := 131 ^ n.toNat % 2147483647
def zero : Ms := ⟨0, 0, 9223372036854775807, -9223372036854775808, 0⟩
def one (x : Int) : Ms := ⟨1, x, x, x, (x % 2147483647 + 1) % 2147483647⟩
def join (a b : Ms) : Ms := ⟨wrap64 (a.n + b.n), wrap64 (a.s + b.s), min a.lo b.lo, max a.hi b.hi, (a.h % 2147483647 * pw b.n + b.h % 2147483647) % 2147483647⟩
def of (l : List Int) : Ms := l.foldl (fun m x => join m (one x)) zero

theorem pow_emod (a : Int) (k : Nat) : (a % 2147483647) ^ k % 2147483647 = a ^ k % 2147483647 := by
  induction k with
  | zero => simp
  | succ k ih => rw [Int.pow_succ, Int.pow_succ, Int.mul_emod, ih, Int.emod_emod_of_dvd _ (Int.dvd_refl _), ← Int.mul_emod]

theorem mul_emod_l (a b : Int) : (a % 2147483647 * b) % 2147483647 = (a * b) % 2147483647 := by
  rw [Int.mul_emod, Int.emod_emod_of_dvd _ (Int.dvd_refl _), ← Int.mul_emod]
theorem mul_emod_r (a b : Int) : (a * (b % 2147483647)) % 2147483647 = (a * b) % 2147483647 := by
  rw [Int.mul_emod, Int.emod_emod_of_dvd _ (Int.dvd_refl _), ← Int.mul_emod]

/-- One round of the power's loop. -/
theorem pow_step (n out b : Int) (hn : 0 < n) : ((if n % 2 = 1 then out * b % 2147483647 else out) * (b * b % 2147483647) ^ (n / 2).toNat) % 2147483647 = (out * b ^ n.toNat) % 2147483647 := by
  have h2 : (b * b % 2147483647) ^ (n / 2).toNat % 2147483647 = b ^ (2 * (n / 2).toNat) % 2147483647 := by
    rw [pow_emod, Int.pow_mul]
    congr 2
    rw [Int.pow_succ, Int.pow_succ, Int.pow_zero, Int.one_mul]
  by_cases h : n % 2 = 1
  · have : n.toNat = 2 * (n / 2).toNat + 1 := by omega
    rw [if_pos h, this, mul_emod_l, ← mul_emod_r, h2, mul_emod_r, Int.pow_succ]
    congr 1
    ac_rfl
  · have : n.toNat = 2 * (n / 2).toNat := by omega
    rw [if_neg h, this, ← mul_emod_r, h2, mul_emod_r]

theorem pw_range (n : Int) : 0 ≤ pw n ∧ pw n < 2147483647 := by
  unfold pw
  omega
theorem pw_zero : pw 0 = 1 := by decide
theorem pw_one : pw 1 = 131 := by decide

end MN
end Go.Proofs.Ytpkfakndlbngbaa

namespace Go.Proofs.Ytpkfakndlbngbaa
open Go.RowKit Go.Deep
set_option linter.unusedVariables false
namespace MN
abbrev Ms.val (m : Ms) : Value := .agg #[.int .i64 m.n, .int .i64 m.s, .int .i64 m.lo, .int .i64 m.hi, .int .i64 m.h]

theorem tmod_two (n : Int) : n.tmod 2147483647 = n % 2147483647 ∨ n.tmod 2147483647 = n % 2147483647 - 2147483647 := by
  rw [Int.tmod_eq_emod]
  have : ((2147483647 : Int).natAbs : Int) = 2147483647 := rfl
  split
  · left; omega
  · right; omega

theorem mod_any (n : Int) (w : World) :
    Calls Try.prog 67 #[.int .i64 n] w fun e w' => e = .returned (.int .i64 (n % 2147483647)) ∧ w = w' := by
  have hb := Int.lt_tmod_of_pos n (b := 2147483647) (by decide)
  have e0 := tmod_two n
  by_cases h : n.tmod 2147483647 < 0
  · have e : n % 2147483647 = n.tmod 2147483647 + 2147483647 := by omega
    rw [e]
    clear e e0
    have hw : IntKind.i64.wrap (n.tmod 2147483647 + 2147483647) = n.tmod 2147483647 + 2147483647 := IntWalk.i64_in _ (by omega)
    go_enter Try.func67, Try.ntmps67
    go_wp2
    go_ret
    exact ⟨rfl, rfl⟩
  · have e : n % 2147483647 = n.tmod 2147483647 := by omega
    rw [e]
    clear e e0
    go_enter Try.func67, Try.ntmps67
    go_wp2
    go_ret
    exact ⟨rfl, rfl⟩

theorem none_any (w : World) : Calls Try.prog 50 #[] w fun e w' => e = .returned zero.val ∧ Below w.heap.size w w' := by
  go_enter Try.func50, Try.ntmps50
  go_wp2
  refine bodyPost_ret (v := zero.val) (by simp [results, Try.results50, go_sem, zero]) rfl ⟨rfl, ?_⟩
  exact (Below.refl _ _).alloc (Nat.le_refl _) _

theorem one_any (x : Int) (w : World) : Calls Try.prog 57 #[.int .i64 x] w fun e w' => e = .returned (one x).val ∧ Below w.heap.size w w' := by
  have hw : IntKind.i64.wrap (x % 2147483647 + 1) = x % 2147483647 + 1 := IntWalk.i64_in _ (by omega)
  go_enter Try.func57, Try.ntmps57
  go_wp2_with fail
  refine (mod_any x _).mono ?_
  rintro e w' ⟨rfl, rfl⟩
  go_wp2_with fail
  refine (mod_any _ _).mono ?_
  rintro e w' ⟨rfl, rfl⟩
  go_wp2_with fail
  refine bodyPost_ret (v := (one x).val) (by simp [results, Try.results57, go_sem, one]) rfl ⟨rfl, (Below.refl _ _).alloc (Nat.le_refl _) _⟩

theorem bits_and_i64_nat (a b : Nat) (ha : a < 9223372036854775808) (hb : b < 9223372036854775808) :
    bits .and .i64 (a : Int) (b : Int) = ((a &&& b : Nat) : Int) := by
  have hx : a &&& b < 2 ^ 63 := Nat.and_lt_two_pow _ (by omega)
  have h1 : (BitVec.ofInt 64 (a : Int)).toNat = a := by
    rw [BitVec.ofInt_natCast, BitVec.toNat_ofNat]; exact Nat.mod_eq_of_lt (by omega)
  have h2 : (BitVec.ofInt 64 (b : Int)).toNat = b := by
    rw [BitVec.ofInt_natCast, BitVec.toNat_ofNat]; exact Nat.mod_eq_of_lt (by omega)
  show IntKind.i64.wrap ((BitVec.ofInt 64 (a : Int) &&& BitVec.ofInt 64 (b : Int)).toNat : Int) = _
  rw [BitVec.toNat_and, h1, h2]
  exact IntWalk.i64_in _ (by omega)

/-- 'k & 1' of a number from 0 on. -/
theorem and_one (k : Int) (h0 : 0 ≤ k) (h1 : k ≤ 9223372036854775807) : bits BinOp.and IntKind.i64 k 1 = k % 2 := by
  have h := bits_and_i64_nat k.toNat 1 (by omega) (by omega)
  rw [Nat.and_one_is_mod, Int.toNat_of_nonneg h0] at h
  have h2 : ((k.toNat % 2 : Nat) : Int) = k % 2 := by omega
  exact h.trans h2

theorem power_any (n : Int) (w : World) (hn : I64 n) : Calls Try.prog 70 #[.int .i64 n] w fun e w' => e = .returned (.int .i64 (pw n)) ∧ w = w' := by
  go_enter Try.func70, Try.ntmps70
  go_wp2
  go_loop [0, 3, 4] (fun n' o b => ∃ k r c : Int, n' = .int .i64 k ∧ o = .int .i64 r ∧ b = .int .i64 c ∧ 0 ≤ r ∧ r < 2147483647 ∧ 0 ≤ c ∧ c < 2147483647 ∧ k ≤ 9223372036854775807 ∧ (r * c ^ k.toNat) % 2147483647 = pw n) (fun n' _ _ => (intOf n').toNat)
  case atStart => exact ⟨n, 1, 131, rfl, rfl, rfl, by omega, by omega, by omega, by omega, hn.2, by rw [Int.one_mul]; rfl⟩
  case round =>
    obtain ⟨k, r, c, rfl, rfl, rfl, h1, h2, h3, h4, h5, h6⟩ := hrel
    by_cases hk : 0 < k
    · have hs := pow_step k r c hk
      rw [h6] at hs
      have HS := Lib.hid hs
      clear hs h6
      have q1 := Int.mul_nonneg h3 h3
      have q2 : c * c ≤ 2147483646 * 2147483646 := Int.mul_le_mul (by omega) (by omega) h3 (by omega)
      have q3 := Int.mul_nonneg h1 h3
      have q4 : r * c ≤ 2147483646 * 2147483646 := Int.mul_le_mul (by omega) (by omega) h3 (by omega)
      have w1 : wrap64 (c * c) = c * c := by unfold wrap64; omega
      have w2 : wrap64 (r * c) = r * c := by unfold wrap64; omega
      have t1 : (c * c).tmod 2147483647 = c * c % 2147483647 := Int.tmod_eq_emod_of_nonneg q1
      have t2 : (r * c).tmod 2147483647 = r * c % 2147483647 := Int.tmod_eq_emod_of_nonneg q3
      have u1 := Int.emod_nonneg (c * c) (b := 2147483647) (by decide)
      have u2 := Int.emod_lt_of_pos (c * c) (b := 2147483647) (by decide)
      have v1 := Int.emod_nonneg (r * c) (b := 2147483647) (by decide)
      have v2 := Int.emod_lt_of_pos (r * c) (b := 2147483647) (by decide)
      have hb0 := and_one k (by omega) h5
      by_cases ho : k % 2 = 1
      · have hb : bits BinOp.and IntKind.i64 k 1 = 1 := hb0.trans ho
        have hs := HS.out
        rw [if_pos ho] at hs
        have HS2 := Lib.hid hs
        clear hb0 HS hs q1 q2 q3 q4
        go_wp2
        go_round
        case rel => exact ⟨_, _, _, rfl, rfl, rfl, v1, v2, u1, u2, by omega, HS2.out⟩
        case measure => simp [intOf]; omega
      · have hb : bits BinOp.and IntKind.i64 k 1 = 0 := hb0.trans (by omega)
        have hs := HS.out
        rw [if_neg ho] at hs
        have HS2 := Lib.hid hs
        clear hb0 HS hs q1 q2 q3 q4 t2 w2
        go_wp2
        go_round
        case rel => exact ⟨_, _, _, rfl, rfl, rfl, h1, h2, u1, u2, by omega, HS2.out⟩
        case measure => simp [intOf]; omega
    · have hk' : k.toNat = 0 := by omega
      rw [hk', Int.pow_zero, Int.mul_one, Int.emod_eq_of_lt h1 h2] at h6
      go_wp2
      go_ret
      exact ⟨rfl, rfl⟩

end MN
end Go.Proofs.Ytpkfakndlbngbaa
