/-
  The document's two measures joined. Conditions: the second one of no more than 300.
-/
import Derived.Test.YtnddeelnfbgljaaMonoMod
import Derived.Test.YtnddeelnfbgljaaMonoLaw
import Derived.Test.YtnddeelnfbgljaaSame
namespace Go.Proofs.Ytnddeelnfbgljaa
open Go.RowKit Go.Deep
set_option linter.unusedVariables false
namespace MN

/-- What the loop of the definition has after some rounds. -/
def hk (h : Int) (k : Nat) : Int := (h * 131 ^ k) % 2147483647
theorem hk_zero (h : Int) : hk h 0 = h % 2147483647 := by simp [hk]
theorem hk_succ (h : Int) (k : Nat) : (131 * hk h k) % 2147483647 = hk h (k + 1) := by
  unfold hk
  rw [mul_emod_r, Int.pow_succ]
  congr 1
  ac_rfl
theorem hk_range (h : Int) (k : Nat) : 0 ≤ hk h k ∧ hk h k < 2147483647 := by unfold hk; omega

set_option maxHeartbeats 8000000 in
theorem Joined_any (x y : Ms) (w : World) (hn : y.n ≤ 300) :
    Calls Try.prog 14 #[x.val, y.val] w fun e w' => e = .returned (join x y).val ∧ Below w.heap.size w w' := by
  obtain ⟨x0, x1, x2, x3, x4⟩ := x
  obtain ⟨y0, y1, y2, y3, y4⟩ := y
  simp only at hn
  obtain ⟨lo, hlo⟩ : ∃ m, (if y2 < x2 then y2 else x2) = m := ⟨_, rfl⟩
  obtain ⟨hi, hhi⟩ : ∃ m, (if x3 < y3 then y3 else x3) = m := ⟨_, rfl⟩
  have h0 := hk_zero x4
  go_enter Try.func14, Try.ntmps14
  go_wp2_with fail
  refine (Mod_any _ _).mono ?_
  rintro e w' ⟨rfl, rfl⟩
  go_wp2_with fail
  go_loop [5, 6] (fun h i => ∃ k : Nat, k ≤ y0.toNat ∧ i = .int .i64 k ∧ h = .int .i64 (hk x4 k)) (fun _ i => y0.toNat - (intOf i).toNat)
  case atStart => exact ⟨0, Nat.zero_le _, rfl, by rw [h0]⟩
  case round =>
    obtain ⟨k, hk', rfl, rfl⟩ := hrel
    have hr := hk_range x4 k
    by_cases hlt : (k : Int) < y0
    · have hs := hk_succ x4 k
      have w1 : wrap64 (131 * hk x4 k) = 131 * hk x4 k := by unfold wrap64; omega
      have w2 : IntKind.i64.wrap (131 * hk x4 k) = 131 * hk x4 k := IntWalk.i64_in _ (by omega)
      go_wp2_with fail
      refine (Mod_any _ _).mono ?_
      rintro e w' ⟨rfl, rfl⟩
      go_wp2_with fail
      go_round
      case rel => exact ⟨k + 1, by omega, by go_num, by first | rfl | rw [hs]⟩
      case measure => simp [intOf]; omega
    · have hk2 : k = y0.toNat := by omega
      have e1 : hk x4 k = (x4 % 2147483647 * pw y0) % 2147483647 := by
        rw [hk2]
        unfold hk pw
        rw [mul_emod_r, mul_emod_l]
      obtain ⟨r, hr0⟩ : ∃ r, hk x4 k = r := ⟨_, rfl⟩
      rw [hr0] at e1 hr ⊢
      have E1 := Lib.hid e1
      clear hr0 e1 h0 hk2
      have v1 := Int.emod_nonneg y4 (b := 2147483647) (by decide)
      have v2 := Int.emod_lt_of_pos y4 (b := 2147483647) (by decide)
      have w1 : IntKind.i64.wrap (r + y4 % 2147483647) = r + y4 % 2147483647 := IntWalk.i64_in _ (by omega)
      clear v1 v2
      go_wp2_with fail
      have hv : (join ⟨x0, x1, x2, x3, x4⟩ ⟨y0, y1, y2, y3, y4⟩).val = .agg #[.int .i64 (IntKind.i64.wrap (x0 + y0)), .int .i64 (IntKind.i64.wrap (x1 + y1)), .int .i64 lo, .int .i64 hi, .int .i64 ((r + y4 % 2147483647) % 2147483647)] := by
        have k1 : min x2 y2 = lo := by rw [← hlo]; split <;> omega
        have k2 : max x3 y3 = hi := by rw [← hhi]; split <;> omega
        have k3 : (x4 % 2147483647 * pw y0 + y4 % 2147483647) % 2147483647 = (r + y4 % 2147483647) % 2147483647 := by rw [E1.out, add_emod_l]
        simp only [Ms.val, join, IntWalk.i64_left, k1, k2, k3]
      have HV := Lib.hid hv
      clear hv
      go_region_held3 (fun w' => w'.cell? ⟨w.heap.size, 0, none⟩ = some (.int .i64 x0) ∧ w'.cell? ⟨w.heap.size, 1, none⟩ = some (.int .i64 x1) ∧ w'.cell? ⟨w.heap.size, 2, none⟩ = some (.int .i64 x2) ∧ w'.cell? ⟨w.heap.size, 3, none⟩ = some (.int .i64 x3) ∧ w'.cell? ⟨w.heap.size + 1, 0, none⟩ = some (.int .i64 y0) ∧ w'.cell? ⟨w.heap.size + 1, 1, none⟩ = some (.int .i64 y1) ∧ w'.cell? ⟨w.heap.size + 1, 2, none⟩ = some (.int .i64 y2) ∧ w'.cell? ⟨w.heap.size + 1, 3, none⟩ = some (.int .i64 y3) ∧ w'.cell? ⟨w.heap.size + 1, 4, none⟩ = some (.int .i64 y4)) (go_keep) (first
        | (go_at_call 16; refine (Mod_any _ _).mono ?_; rintro e w' ⟨rfl, rfl⟩))
      all_goals
        go_wp2_with fail
        rw [HV.out]
        refine bodyPost_ret (v := .agg #[.int .i64 (IntKind.i64.wrap (x0 + y0)), .int .i64 (IntKind.i64.wrap (x1 + y1)), .int .i64 lo, .int .i64 hi, .int .i64 ((r + y4 % 2147483647) % 2147483647)]) (by simp [results, Try.results14, go_sem]) rfl ⟨rfl, ?_⟩
        first
          | exact ((((Below.refl _ _).alloc (Nat.le_refl _) _).alloc (by simp) _).alloc (by simp; omega) _).drew
          | exact (((Below.refl _ _).alloc (Nat.le_refl _) _).alloc (by simp) _).alloc (by simp; omega) _
end MN
end Go.Proofs.Ytnddeelnfbgljaa
