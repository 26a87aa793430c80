/-
  Skew digits: what is a digit, in bits. Conditions: none.
-/
import Derived.Test.YtbmapjbljgpfkaaDoorSkewMore
import Derived.Test.YtbmapjbljgpfkaaDoorWords
namespace Go.Proofs.YtbmapjbljgpfkaaDoor
open Go.RowKit Go.Deep
set_option linter.unusedVariables false
namespace SK
theorem bits_and_i64_nat (a b : Nat) (ha : a < 9223372036854775808) (hb : b < 9223372036854775808) :
    bits .and .i64 (a : Int) (b : Int) = ((a &&& b : Nat) : Int) := by
  have hx : a &&& b < 2 ^ 63 := Nat.and_lt_two_pow _ (by omega)
  have h1 : (BitVec.ofInt 64 (a : Int)).toNat = a := by
    rw [BitVec.ofInt_natCast, BitVec.toNat_ofNat]; exact Nat.mod_eq_of_lt (by omega)
  have h2 : (BitVec.ofInt 64 (b : Int)).toNat = b := by
    rw [BitVec.ofInt_natCast, BitVec.toNat_ofNat]; exact Nat.mod_eq_of_lt (by omega)
  show IntKind.i64.wrap ((BitVec.ofInt 64 (a : Int) &&& BitVec.ofInt 64 (b : Int)).toNat : Int) = _
  rw [BitVec.toNat_and, h1, h2]
  exact IntWalk.i64_in _ (by omega)

theorem and_odd (a : Nat) : (2 * a + 1) &&& (2 * a + 2) = 2 * (a &&& (a + 1)) := by
  apply Nat.eq_of_testBit_eq
  intro i
  cases i with
  | zero => simp
  | succ i =>
    have e1 : (2 * a + 1) / 2 = a := by omega
    have e2 : (2 * a + 2) / 2 = a + 1 := by omega
    have e3 : 2 * (a &&& (a + 1)) / 2 = a &&& (a + 1) := by omega
    rw [Nat.testBit_and, Nat.testBit_succ (2 * a + 1), Nat.testBit_succ (2 * a + 2), Nat.testBit_succ (2 * (a &&& (a + 1))), e1, e2, e3, Nat.testBit_and]
theorem and_even (a : Nat) : (2 * a) &&& (2 * a + 1) = 2 * a := by
  apply Nat.eq_of_testBit_eq
  intro i
  cases i with
  | zero => simp
  | succ i =>
    have e1 : (2 * a) / 2 = a := by omega
    have e2 : (2 * a + 1) / 2 = a := by omega
    rw [Nat.testBit_and, Nat.testBit_succ (2 * a), Nat.testBit_succ (2 * a + 1), e1, e2, Bool.and_self]
theorem and_form : ∀ d : Nat, 0 < d → ((d &&& (d + 1)) = 0 ↔ ∃ k, 1 ≤ k ∧ (d : Int) = D k) := by
  intro d
  induction d using Nat.strongRecOn with
  | _ d ih =>
    intro hd
    rcases Nat.mod_two_eq_zero_or_one d with h | h
    · have e : d = 2 * (d / 2) := by omega
      rw [e, and_even]
      constructor
      · intro h; omega
      · rintro ⟨k, h1, h2⟩
        cases k with
        | zero => omega
        | succ k => simp only [D] at h2; omega
    · have e : d = 2 * (d / 2) + 1 := by omega
      obtain ⟨a, ha⟩ : ∃ a, d / 2 = a := ⟨_, rfl⟩
      rw [ha] at e
      have e' : d + 1 = 2 * a + 2 := by omega
      rw [e', e, and_odd]
      by_cases h0 : a = 0
      · subst h0
        constructor
        · intro _; exact ⟨1, by omega, rfl⟩
        · intro _; rfl
      · have := ih a (by omega) (by omega)
        constructor
        · intro hz
          obtain ⟨k, h1, h2⟩ := this.1 (by omega)
          exact ⟨k + 1, by omega, by simp only [D]; omega⟩
        · rintro ⟨k, h1, h2⟩
          cases k with
          | zero => omega
          | succ k =>
            have hk : 1 ≤ k := by
              cases k with
              | zero => simp [D] at h2; omega
              | succ k => omega
            have := this.2 ⟨k, hk, by simp only [D] at h2; omega⟩
            omega
theorem form_iff (d : Int) (h0 : 0 < d) (h1 : d < 1099511627776) : bits BinOp.and IntKind.i64 d (d + 1) = 0 ↔ Form d := by
  have hn : ((d.toNat : Nat) : Int) = d := by omega
  have hb : bits BinOp.and IntKind.i64 d (d + 1) = ((d.toNat &&& (d.toNat + 1) : Nat) : Int) := by
    have := SK.bits_and_i64_nat d.toNat (d.toNat + 1) (by omega) (by omega)
    rw [← this]
    congr 1 <;> omega
  rw [hb]
  have := and_form d.toNat (by omega)
  rw [hn] at this
  constructor
  · intro h
    obtain ⟨k, k1, k2⟩ := this.1 (by omega)
    refine ⟨k, k1, ?_, k2⟩
    rcases Nat.lt_or_ge 40 k with h | h
    · have := D_mono (show 41 ≤ k from h)
      have e41 : D 41 = 2199023255551 := by decide
      omega
    · exact h
  · rintro ⟨k, k1, k2, k3⟩
    have := this.2 ⟨k, k1, k3⟩
    omega
noncomputable instance (d : Int) : Decidable (Form d) := Classical.propDecidable _

theorem form_any (d : Int) (w : World) :
    Calls Tryd.prog 16 #[.int .i64 d] w fun e w' => e = .returned (.bool (decide (Form d))) ∧ w = w' := by
  by_cases h0 : 0 < d
  · by_cases h1 : d < 1099511627776
    · have hw : wrap64 (d + 1) = d + 1 := by unfold wrap64; omega
      have hf := form_iff d h0 h1
      by_cases hz : bits BinOp.and IntKind.i64 d (d + 1) = 0
      · have hd : decide (Form d) = true := by simp [hf.1 hz]
        rw [hd]
        clear hf hd
        go_enter Tryd.func16, Tryd.ntmps16
        go_wp2
        go_ret
        exact ⟨rfl, rfl⟩
      · have hd : decide (Form d) = false := by
          rw [decide_eq_false_iff_not]
          exact fun h => hz (hf.2 h)
        rw [hd]
        have hzb : (bits BinOp.and IntKind.i64 d (d + 1) == 0) = false := by simp [hz]
        clear hf hd
        go_enter Tryd.func16, Tryd.ntmps16
        go_wp2
        go_ret
        exact ⟨rfl, rfl⟩
    · have hd : decide (Form d) = false := by
        rw [decide_eq_false_iff_not]
        exact fun h => by have := form_top h; omega
      rw [hd]
      clear hd
      go_enter Tryd.func16, Tryd.ntmps16
      go_wp2
      go_ret
      exact ⟨rfl, rfl⟩
  · have hd : decide (Form d) = false := by
      rw [decide_eq_false_iff_not]
      exact fun h => by have := form_pos h; omega
    rw [hd]
    clear hd
    go_enter Tryd.func16, Tryd.ntmps16
    go_wp2
    go_ret
    exact ⟨rfl, rfl⟩
end SK
end Go.Proofs.YtbmapjbljgpfkaaDoor
