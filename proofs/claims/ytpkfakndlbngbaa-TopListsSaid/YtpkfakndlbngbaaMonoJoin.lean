/-
  Measures: two of them, joined. Conditions: none.
-/
import Derived.Test.YtpkfakndlbngbaaMMo
namespace Go.Proofs.Ytpkfakndlbngbaa
open Go.RowKit Go.Deep
set_option linter.unusedVariables false
namespace MN
set_option maxHeartbeats 8000000 in
theorem join_any (x y : Ms) (w : World) (hn : I64 y.n) :
    Calls Try.prog 62 #[x.val, y.val] w fun e w' => e = .returned (join x y).val ∧ Below w.heap.size w w' := by
  obtain ⟨x0, x1, x2, x3, x4⟩ := x
  obtain ⟨y0, y1, y2, y3, y4⟩ := y
  have p1 := pw_range y0
  have u1 := Int.emod_nonneg x4 (b := 2147483647) (by decide)
  have u2 := Int.emod_lt_of_pos x4 (b := 2147483647) (by decide)
  have v1 := Int.emod_nonneg y4 (b := 2147483647) (by decide)
  have v2 := Int.emod_lt_of_pos y4 (b := 2147483647) (by decide)
  have q1 := Int.mul_nonneg u1 p1.1
  have q2 : x4 % 2147483647 * pw y0 ≤ 2147483646 * 2147483646 := Int.mul_le_mul (by omega) (by omega) p1.1 (by omega)
  have w1 : IntKind.i64.wrap (x4 % 2147483647 * pw y0) = x4 % 2147483647 * pw y0 := IntWalk.i64_in _ (by omega)
  have w2 : IntKind.i64.wrap (x4 % 2147483647 * pw y0 + y4 % 2147483647) = x4 % 2147483647 * pw y0 + y4 % 2147483647 := IntWalk.i64_in _ (by omega)
  have t1 : (x4 % 2147483647 * pw y0 + y4 % 2147483647).tmod 2147483647 = (x4 % 2147483647 * pw y0 + y4 % 2147483647) % 2147483647 := Int.tmod_eq_emod_of_nonneg (by omega)
  clear q1 q2 p1 u1 u2 v1 v2
  obtain ⟨lo, hlo⟩ : ∃ m, (if y2 < x2 then y2 else x2) = m := ⟨_, rfl⟩
  obtain ⟨hi, hhi⟩ : ∃ m, (if x3 < y3 then y3 else x3) = m := ⟨_, rfl⟩
  go_enter Try.func62, Try.ntmps62
  go_wp2_with fail
  go_region_held3 (fun w' => w'.cell? ⟨w.heap.size, 0, none⟩ = some (.int .i64 x0) ∧ w'.cell? ⟨w.heap.size, 1, none⟩ = some (.int .i64 x1) ∧ w'.cell? ⟨w.heap.size, 2, none⟩ = some (.int .i64 x2) ∧ w'.cell? ⟨w.heap.size, 3, none⟩ = some (.int .i64 x3) ∧ w'.cell? ⟨w.heap.size, 4, none⟩ = some (.int .i64 x4) ∧ w'.cell? ⟨w.heap.size + 1, 0, none⟩ = some (.int .i64 y0) ∧ w'.cell? ⟨w.heap.size + 1, 1, none⟩ = some (.int .i64 y1) ∧ w'.cell? ⟨w.heap.size + 1, 2, none⟩ = some (.int .i64 y2) ∧ w'.cell? ⟨w.heap.size + 1, 3, none⟩ = some (.int .i64 y3) ∧ w'.cell? ⟨w.heap.size + 1, 4, none⟩ = some (.int .i64 y4)) (go_keep) (first
      | (go_at_call 70; refine (power_any _ _ hn).mono ?_; rintro e w' ⟨rfl, rfl⟩)
      | (go_at_call 67; refine (mod_any _ _).mono ?_; rintro e w' ⟨rfl, rfl⟩))
  all_goals
    go_wp2_with fail
    have hv : (join ⟨x0, x1, x2, x3, x4⟩ ⟨y0, y1, y2, y3, y4⟩).val = .agg #[.int .i64 (IntKind.i64.wrap (x0 + y0)), .int .i64 (IntKind.i64.wrap (x1 + y1)), .int .i64 lo, .int .i64 hi, .int .i64 ((x4 % 2147483647 * pw y0 + y4) % 2147483647)] := by
      have k1 : min x2 y2 = lo := by rw [← hlo]; split <;> omega
      have k2 : max x3 y3 = hi := by rw [← hhi]; split <;> omega
      simp only [Ms.val, join, IntWalk.i64_left, k1, k2, Int.add_emod_emod]
    rw [hv]
    refine bodyPost_ret (v := .agg #[.int .i64 (IntKind.i64.wrap (x0 + y0)), .int .i64 (IntKind.i64.wrap (x1 + y1)), .int .i64 lo, .int .i64 hi, .int .i64 ((x4 % 2147483647 * pw y0 + y4) % 2147483647)]) (by simp [results, Try.results62, go_sem]) rfl ⟨rfl, ?_⟩
    first
      | exact ((((Below.refl _ _).alloc (Nat.le_refl _) _).alloc (by simp) _).alloc (by simp; omega) _).drew
      | exact (((Below.refl _ _).alloc (Nat.le_refl _) _).alloc (by simp) _).alloc (by simp; omega) _
end MN
end Go.Proofs.Ytpkfakndlbngbaa
