/-
  How many bits a number has, and the plain logarithm. Conditions: a number of 64 bits without a sign.
-/
import Derived.Test.YthokmfonedfmfaaWords
import Derived.Test.YthokmfonedfmfaaBits64
namespace Go.Proofs.Ythokmfonedfmfaa
open Go.RowKit Go.Deep

theorem bitLen_log (n : Nat) (h : 0 < n) (hn : n < 2 ^ 64) : Lib.bitLen n = Nat.log2 n + 1 := by
  induction n using Nat.strongRecOn with
  | _ n ih =>
    rw [Lib.bitLen_half n (by omega) hn]
    by_cases h2 : n < 2
    · obtain rfl : n = 1 := by omega
      decide +kernel
    · rw [ih (n / 2) (by omega) (by omega) (by omega)]
      rw [Nat.log2_def n, if_pos (by omega)]
      omega
theorem len_any (n : Nat) (w : World) (h : 0 < n) (hn : n < 2 ^ 64) :
    Calls Try.prog 59 #[.int .u64 (n : Int)] w fun e w' => e = .returned (.int .i64 ((Nat.log2 n : Int) + 1)) ∧ w = w' := by
  have L : Calls Try.prog 99 #[.int .u64 (n : Int)] w fun e w' => e = .returned (.int .i64 (Lib.bitLen (n : Int).toNat)) ∧ w = w' :=
    (len64_any (n : Int) w (by omega) (by omega)).mono fun _ _ ⟨a, b⟩ => ⟨a, b.symm⟩
  rw [Int.toNat_natCast, bitLen_log n h hn] at L
  rw [show (((Nat.log2 n + 1 : Nat) : Int)) = (Nat.log2 n : Int) + 1 by omega] at L
  have LH := Lib.hid L
  clear L
  go_enter Try.func59, Try.ntmps59
  go_wp2_with (go_at_call 99; refine LH.out.mono ?_; rintro e w' ⟨rfl, rfl⟩)
  go_ret
  exact ⟨rfl, rfl⟩
end Go.Proofs.Ythokmfonedfmfaa
