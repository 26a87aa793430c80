/-
  The walk of the law MonoOrder. Conditions: none.
-/
import Derived.Test.YtnddeelnfbgljaaMonoOf
import Derived.Test.YtnddeelnfbgljaaMonoMod
namespace Go.Proofs.Ytnddeelnfbgljaa
open Go.RowKit Go.Deep
set_option linter.unusedVariables false
open MN
theorem Sl.two' (w : World) (k : Nat) (hk : k = w.heap.size) (x y : Int) (T : TypeId) : Sl (w.alloc (.cells #[.int .i64 x, .int .i64 y] T)) (some ⟨k, 0, none⟩) 2 2 [x, y] := by
  subst hk
  exact Sl.two w x y T
theorem of_two_h (a b : Int) : (of [a, b]).h = (131 * ((a % 2147483647 + 1) % 2147483647) + b % 2147483647 + 1) % 2147483647 := by
  have e : of [a, b] = join (of [a]) (one b) := of_snoc [a] b
  have e2 : of [a] = join (of []) (one a) := of_snoc [] a
  rw [e, join_one, e2, join_one]
  simp [of, zero]
theorem of_two (a b : Int) : of [a, b] = ⟨(of [b, a]).n, (of [b, a]).s, (of [b, a]).lo, (of [b, a]).hi, (of [a, b]).h⟩ := by
  have e : of [a, b] = join (of [a]) (one b) := of_snoc [a] b
  have e2 : of [a] = join (of []) (one a) := of_snoc [] a
  have e' : of [b, a] = join (of [b]) (one a) := of_snoc [b] a
  have e2' : of [b] = join (of []) (one b) := of_snoc [] b
  refine Ms.ext' ?_ ?_ ?_ ?_ rfl <;> rw [e, join_one, e2, join_one, e', join_one, e2', join_one] <;> simp [of, zero, wrap_l] <;> (try unfold wrap64) <;> omega

set_option maxHeartbeats 2000000 in
theorem MonoOrder_walk (a b : Int) (w : World) (ha : I64 a) (hb : I64 b) :
    Calls Try.prog 6 #[.int .i64 a, .int .i64 b] w fun e w' => e = .returned (.bool true) ∧ Below w.heap.size w w' := by
  have e1 := of_two a b
  have eh := of_two_h a b
  have eh' := of_two_h b a
  have C1 := fun p w' => of_any p 2 2 [a, b] w'
  have C2 := fun p w' => of_any p 2 2 [b, a] w'
  have en : (of [b, a]).n = 2 := of_n [b, a] (by simp)
  obtain ⟨y, hy⟩ : ∃ y, of [b, a] = y := ⟨_, rfl⟩
  obtain ⟨x, hx⟩ : ∃ x, of [a, b] = x := ⟨_, rfl⟩
  rw [hx, hy] at e1
  rw [hx] at eh
  rw [hy] at eh' en
  rw [hx] at C1
  rw [hy] at C2
  clear hx hy
  obtain ⟨yn, ys, ylo, yhi, yh⟩ := y
  obtain ⟨xn, xs, xlo, xhi, xh⟩ := x
  simp only [Ms.mk.injEq] at e1
  obtain ⟨rfl, rfl, rfl, rfl, _⟩ := e1
  simp only at eh eh' en
  subst en
  have hab : (xh == yh) = (a % 2147483647 == b % 2147483647) := by
    rw [Bool.eq_iff_iff, beq_iff_eq, beq_iff_eq]
    omega
  clear eh eh'
  go_enter Try.func6, Try.ntmps6
  go_wp2_with fail
  refine (C1 _ _ (Sl.two' _ _ rfl a b _)).mono ?_
  rintro e w1 ⟨rfl, hb1⟩
  obtain ⟨hb1, x1⟩ := hold1 hb1 ⟨rfl, rfl, rfl, rfl⟩
  clear x1
  go_wp2_with fail
  refine (C2 _ _ (Sl.two' _ _ (by simp) b a _)).mono ?_
  rintro e w2 ⟨rfl, hb2⟩
  obtain ⟨hb2, x2, x3⟩ := hold2 hb2 ⟨rfl, rfl, rfl, rfl⟩
  clear x3
  obtain ⟨c0, c1, c2⟩ := blk x2
  have p0 := c0 0
  have p1 := c0 1
  have p2 := c0 2
  have p3 := c0 3
  have p4 := c0 4
  clear x2 c0
  go_wp2_with fail
  go_region_held3 (fun w' => w'.cell? ⟨w1.heap.size, 0, none⟩ = some (.int .i64 2) ∧ w'.cell? ⟨w1.heap.size, 4, none⟩ = some (.int .i64 xh) ∧ w'.cell? ⟨w2.heap.size, 0, none⟩ = some (.int .i64 2) ∧ w'.cell? ⟨w2.heap.size, 1, none⟩ = some (.int .i64 xs) ∧ w'.cell? ⟨w2.heap.size, 2, none⟩ = some (.int .i64 xlo) ∧ w'.cell? ⟨w2.heap.size, 3, none⟩ = some (.int .i64 xhi) ∧ w'.cell? ⟨w2.heap.size, 4, none⟩ = some (.int .i64 yh) ∧ w'.cell? ⟨w2.heap.size + 1, 0, none⟩ = some (.int .i64 2) ∧ w'.cell? ⟨w2.heap.size + 1, 1, none⟩ = some (.int .i64 xs) ∧ w'.cell? ⟨w2.heap.size + 1, 2, none⟩ = some (.int .i64 xlo) ∧ w'.cell? ⟨w2.heap.size + 1, 3, none⟩ = some (.int .i64 xhi) ∧ w'.cell? ⟨w2.heap.size + 1, 4, none⟩ = some (.int .i64 yh)) (go_keep) (first
      | (go_at_call 16; refine (Mod_any _ _).mono ?_; rintro e w' ⟨rfl, rfl⟩))
  all_goals
    go_wp2_with fail
    go_ret
    refine ⟨rfl, ?_⟩
    have t := ((below_then hb1 hb2).alloc (o := .cells #[.int .i64 2, .int .i64 xs, .int .i64 xlo, .int .i64 xhi, .int .i64 yh] 24) (Nat.le_trans hb1.size hb2.size)).alloc (o := .cells #[.int .i64 2, .int .i64 xs, .int .i64 xlo, .int .i64 xhi, .int .i64 yh] 24) (by simp; have := hb1.size; omega)
    first | exact t | exact t.drew
end Go.Proofs.Ytnddeelnfbgljaa
