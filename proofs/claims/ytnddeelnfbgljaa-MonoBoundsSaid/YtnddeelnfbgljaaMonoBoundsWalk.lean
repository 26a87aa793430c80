/-
  The walk of the law MonoBounds. Conditions: none.
-/
import Derived.Test.YtnddeelnfbgljaaMonoOf
namespace Go.Proofs.Ytnddeelnfbgljaa
open Go.RowKit Go.Deep
set_option linter.unusedVariables false
open MN
theorem MN.lo_le (xs : List Int) : ∀ x ∈ xs, (of xs).lo ≤ x ∧ x ≤ (of xs).hi := by
  induction xs using snoc_ind with
  | h0 => intro x h; cases h
  | hs l y ih =>
    intro x h
    rw [of_snoc, join_one]
    simp only [List.mem_append, List.mem_singleton] at h
    rcases h with h | rfl
    · have := ih x h; simp only; omega
    · simp only; omega
theorem MN.lo_mem (xs : List Int) : (∀ x ∈ xs, I64 x) → xs ≠ [] → (of xs).lo ∈ xs ∧ (of xs).hi ∈ xs := by
  induction xs using snoc_ind with
  | h0 => intro _ h; exact absurd rfl h
  | hs l y ih =>
    intro h _
    rw [of_snoc, join_one]
    simp only [List.mem_append, List.mem_singleton]
    have hy := h y (by simp)
    by_cases hl : l = []
    · subst hl
      unfold I64 at hy
      simp [of, zero]
      omega
    · obtain ⟨h1, h2⟩ := ih (fun x hx => h x (by simp [hx])) hl
      constructor
      · rcases Int.le_total (of l).lo y with c | c
        · left; rw [Int.min_eq_left c]; exact h1
        · right; exact Int.min_eq_right c
      · rcases Int.le_total (of l).hi y with c | c
        · right; exact Int.max_eq_right c
        · left; rw [Int.max_eq_left c]; exact h2

set_option maxHeartbeats 2000000 in
theorem MonoBounds_walk (a : Option Addr) (n c : Nat) (xs : List Int) (w : World) (h : Sl w a n c xs) (hi : ∀ x ∈ xs, I64 x) (hn : n ≤ 17592186043904) :
    Calls Try.prog 5 #[.slice a n c] w fun e w' => e = .returned (.bool true) ∧ Below w.heap.size w w' := by
  have hm := h.hmax
  have hm2 := h.hcap
  unfold maxLen at hm
  have HL := Lib.hid h.hlen
  have HH := Lib.hid h
  clear h
  have C1 := fun p w' => of_any p 2 2 [5, 3] w'
  have en : (of [5, 3]).n = 2 := of_n [5, 3] (by simp)
  obtain ⟨y, hy⟩ : ∃ y, of [5, 3] = y := ⟨_, rfl⟩
  rw [hy] at C1 en
  clear hy
  obtain ⟨yn, ys, ylo, yhi, yh⟩ := y
  simp only at en
  subst en
  have C2 := fun w' => of_any a n c xs w'
  have M1 := Lib.hid (lo_le xs)
  have M2 := Lib.hid (lo_mem xs hi)
  have xn := of_n xs (by have := HL.out; omega)
  have xh := of_h xs
  rw [HL.out] at xn
  obtain ⟨m, hm0⟩ : ∃ m, of xs = m := ⟨_, rfl⟩
  have M0 := Lib.hid hm0
  rw [hm0] at C2 M1 M2 xn xh
  clear hm0 hi
  obtain ⟨mn, ms, mlo, mhi, mh⟩ := m
  simp only at xn xh M1 M2
  subst xn
  go_enter Try.func5, Try.ntmps5
  go_wp2_with fail
  refine (C1 _ _ (Sl.two' _ _ rfl 5 3 _)).mono ?_
  rintro e w1 ⟨rfl, hb1⟩
  obtain ⟨hb1, x1⟩ := hold1 hb1 ⟨rfl, rfl, rfl, rfl⟩
  clear x1
  go_wp2_with fail
  refine (C2 _ ((HH.out.below hb1).below ((Below.refl _ _).alloc (Nat.le_refl _) _))).mono ?_
  rintro e w2 ⟨rfl, hb2⟩
  obtain ⟨hb2, x2⟩ := hold1 hb2 ⟨rfl, rfl, rfl, rfl⟩
  clear x2
  go_wp2_with fail
  have hb := (below_then hb1 hb2).alloc (o := .cells #[.int .i64 (n : Int), .int .i64 ms, .int .i64 mlo, .int .i64 mhi, .int .i64 mh] 24) (Nat.le_trans hb1.size hb2.size)
  have HB := Lib.hid hb
  have hz1 := hb1.size
  have hz2 := hb2.size
  clear hb hb1 hb2
  go_loopw [5, 6, 7] (fun lo hi i wr => ∃ k : Nat, k ≤ n ∧ i = .int .i64 k ∧ lo = .bool ((xs.take k).any (· == mlo)) ∧ hi = .bool ((xs.take k).any (· == mhi)) ∧ wr.heap[w2.heap.size]? = some (.cells #[.int .i64 (n : Int), .int .i64 ms, .int .i64 mlo, .int .i64 mhi, .int .i64 mh] 24) ∧ Below w.heap.size w wr) (fun _ _ i _ => n - (intOf i).toNat)
  case atStart => exact ⟨0, Nat.zero_le _, rfl, rfl, rfl, heap_alloc_new _ _, HB.out⟩
  case round =>
    obtain ⟨k, hk, rfl, rfl, rfl, y0, hb⟩ := hrel
    obtain ⟨c0, c1, c2⟩ := blk y0
    have Y0 := Lib.hid y0
    have o0 : wr.cell? ⟨w2.heap.size, 0, none⟩ = some (.int .i64 (n : Int)) := c0 0
    have o2 : wr.cell? ⟨w2.heap.size, 2, none⟩ = some (.int .i64 mlo) := c0 2
    have o3 : wr.cell? ⟨w2.heap.size, 3, none⟩ = some (.int .i64 mhi) := c0 3
    have o4 : wr.cell? ⟨w2.heap.size, 4, none⟩ = some (.int .i64 mh) := c0 4
    clear c0 y0
    by_cases hlt : k < n
    · obtain ⟨b, off, rfl, hbl, hc⟩ := HH.out.hat (by omega)
      have g := (hb.cell (p := ⟨b, off + k, none⟩) hbl).trans (hc k hlt)
      clear hc
      have hlti : (k : Int) < (n : Int) := by omega
      have t1 := take_snoc' xs k (by have := HL.out; omega)
      have hmem : xs[k]?.getD 0 ∈ xs := by
        rw [List.getElem?_eq_getElem (by have := HL.out; omega)]
        exact List.getElem_mem _
      obtain ⟨x, hx⟩ : ∃ x, xs[k]?.getD 0 = x := ⟨_, rfl⟩
      rw [hx] at t1 g hmem
      obtain ⟨l1, l2⟩ := M1.out x hmem
      have T := Lib.hid t1
      clear hx t1 hmem
      have f1 : decide (x < mlo) = false := by simp; omega
      have f2 : decide (mhi < x) = false := by simp; omega
      have n1 : ¬ x < mlo := by omega
      have n2 : ¬ mhi < x := by omega
      obtain ⟨p, hp⟩ : ∃ p, (xs.take k).any (· == mlo) = p := ⟨_, rfl⟩
      obtain ⟨q, hq⟩ : ∃ q, (xs.take k).any (· == mhi) = q := ⟨_, rfl⟩
      have P1 : (xs.take (k + 1)).any (· == mlo) = (p || x == mlo) := by rw [T.out, List.any_append, hp]; simp
      have P2 : (xs.take (k + 1)).any (· == mhi) = (q || x == mhi) := by rw [T.out, List.any_append, hq]; simp
      replace P1 := Lib.hid P1
      replace P2 := Lib.hid P2
      rw [hp, hq]
      clear hp hq l1 l2
      cases p <;> cases q
      all_goals
        go_wp2_with fail
        go_quiet (fail)
        go_wp2_with fail
        go_quiet (fail)
        go_wp2_with fail
        go_quiet (fail)
        go_wp2_with fail
        go_roundw
      all_goals first
        | exact ⟨k + 1, by omega, by go_num, by simp [P1.out], by simp [P2.out], Y0.out, below_drewN hb _⟩
        | (simp [intOf]; omega)
    · have hxs : xs.take k = xs := List.take_of_length_le (by have := HL.out; omega)
      rw [hxs]
      obtain ⟨h1, h2⟩ := xh
      by_cases h0 : n = 0
      · subst h0
        generalize xs.any (· == mlo) = p
        generalize xs.any (· == mhi) = q
        clear hxs
        go_wp2_with fail
        go_ret
        exact ⟨rfl, hb⟩
      · have hne : xs ≠ [] := by
          intro e
          have := HL.out
          rw [e] at this
          exact h0 this.symm
        obtain ⟨i1, i2⟩ := M2.out hne
        have hp : xs.any (· == mlo) = true := by rw [List.any_eq_true]; exact ⟨_, i1, by simp⟩
        have hq : xs.any (· == mhi) = true := by rw [List.any_eq_true]; exact ⟨_, i2, by simp⟩
        rw [hp, hq]
        have h0i : ((n : Int) == 0) = false := by simp; omega
        clear hxs hp hq hne i1 i2
        go_wp2_with fail
        go_ret
        exact ⟨rfl, hb⟩
end Go.Proofs.Ytnddeelnfbgljaa
