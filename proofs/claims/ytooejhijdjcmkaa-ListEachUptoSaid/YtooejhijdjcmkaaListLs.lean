/-
  Lists with their numbers: what each function tells, in one form. Conditions: no more than 2^44 numbers.
-/
import Derived.Test.YtooejhijdjcmkaaListOf
import Derived.Test.YtooejhijdjcmkaaListJoin
import Derived.Test.YtooejhijdjcmkaaListApp
import Derived.Test.YtooejhijdjcmkaaSame
namespace Go.Proofs.Ytooejhijdjcmkaa
open Go.RowKit Go.Deep Go.Shelf
set_option linter.unusedVariables false
namespace LI
def Ls (w : World) (p : Option Addr) (m : Int) (xs : List Int) : Prop := In w p xs ∧ m = (xs.length : Int)
theorem Ls.below {w w' : World} {p : Option Addr} {m : Int} {xs : List Int} (h : Ls w p m xs) (hb : Below w.heap.size w w') : Ls w' p m xs := ⟨h.1.below hb, h.2⟩
theorem Ls.alloc {w : World} {p : Option Addr} {m : Int} {xs : List Int} (h : Ls w p m xs) (o : Obj) : Ls (w.alloc o) p m xs := h.below ((Below.refl _ _).alloc (Nat.le_refl _) _)
theorem Ls.nil (w : World) : Ls w none 0 [] := ⟨rfl, rfl⟩
abbrev lv (q : Option Addr) (m : Int) : Value := .agg #[.pointer q, .int .i64 m]
theorem of_ls (a : Option Addr) (n c : Nat) (xs : List Int) (w : World) (h : Sl w a n c xs) (hs : n ≤ 17592186044416) : Calls Try.prog 12 #[.slice a n c] w fun e w' =>
    ∃ q m, e = .returned (.agg #[.pointer q, .int .i64 m]) ∧ Ls w' q m xs ∧ Below w.heap.size w w' :=
  (of_any a n c xs w h hs).mono fun e w' ⟨q, h1, h2, h3⟩ => ⟨q, _, h1, ⟨h2, rfl⟩, h3⟩
theorem rev_ls (p : Option Addr) (m : Int) (xs : List Int) (w : World) (h : Ls w p m xs) (hs : xs.length ≤ 1152921504606846976) : Calls Try.prog 29 #[.agg #[.pointer p, .int .i64 m]] w fun e w' =>
    ∃ q k, e = .returned (.agg #[.pointer q, .int .i64 k]) ∧ Ls w' q k xs.reverse ∧ Below w.heap.size w w' :=
  (rev_any p m xs w h.1 hs).mono fun e w' ⟨q, h1, h2, h3⟩ => ⟨q, _, h1, ⟨h2, by rw [List.length_reverse]⟩, h3⟩
theorem join_ls (p : Option Addr) (m : Int) (xs : List Int) (q : Option Addr) (k : Int) (ys : List Int) (w : World) (h : Ls w p m xs) (h' : Ls w q k ys) (hs : xs.length + ys.length ≤ 1152921504606846976) : Calls Try.prog 25 #[.agg #[.pointer p, .int .i64 m], .agg #[.pointer q, .int .i64 k]] w fun e w' =>
    ∃ r j, e = .returned (.agg #[.pointer r, .int .i64 j]) ∧ Ls w' r j (xs ++ ys) ∧ Below w.heap.size w w' := by
  rw [h'.2]
  exact (join_any p m xs q ys w h.1 h'.1 hs).mono fun e w' ⟨q, h1, h2, h3⟩ => ⟨q, _, h1, ⟨h2, rfl⟩, h3⟩
theorem push_ls (x : Int) (p : Option Addr) (m : Int) (xs : List Int) (w : World) (h : Ls w p m xs) (hs : xs.length ≤ 1152921504606846976) : Calls Try.prog 26 #[.agg #[.pointer p, .int .i64 m], .int .i64 x] w fun e w' =>
    ∃ q k, e = .returned (.agg #[.pointer q, .int .i64 k]) ∧ Ls w' q k (x :: xs) ∧ Below w.heap.size w w' :=
  (push_any x xs p m w h.1).mono fun e w' ⟨q, h1, h2, h3⟩ => ⟨q, _, h1, ⟨h2, by rw [h.2]; unfold wrap64; simp only [List.length_cons]; omega⟩, h3⟩
theorem ints_ls (p : Option Addr) (m : Int) (xs : List Int) (w : World) (h : Ls w p m xs) (hs : xs.length ≤ 17592186044416) :
    Calls Try.prog 18 #[.agg #[.pointer p, .int .i64 m]] w fun e w' => ∃ a n c, e = .returned (.slice a n c) ∧ Sl w' a n c xs ∧ Below w.heap.size w w' :=
  (ints_any p m xs w h.1 hs).mono fun e w' ⟨v, h1, h2, h3⟩ => by
    obtain ⟨a, c, rfl, hs⟩ := Sl.of_own h2
    exact ⟨a, _, c, h1, hs, h3⟩
theorem len_ls (p : Option Addr) (m : Int) (xs : List Int) (w : World) (h : Ls w p m xs) : Calls Try.prog 21 #[.agg #[.pointer p, .int .i64 m]] w fun e w' => e = .returned (.int .i64 (xs.length : Int)) ∧ Below w.heap.size w w' := by
  rw [← h.2]
  exact len_any p m w
theorem len_is (p : Option Addr) (m : Int) (xs : List Int) (N : Nat) (w : World) (h : Ls w p m xs) (e : xs.length = N) : Calls Try.prog 21 #[.agg #[.pointer p, .int .i64 m]] w fun e w' => e = .returned (.int .i64 (N : Int)) ∧ Below w.heap.size w w' := by
  rw [← e]
  exact len_ls p m xs w h
theorem pop_nil (p : Option Addr) (m : Int) (w : World) (h : Ls w p m []) : Calls Try.prog 28 #[.agg #[.pointer p, .int .i64 m]] w fun e w' =>
    e = .returned (.tuple #[.int .i64 0, .agg #[.pointer none, .int .i64 0], .bool false]) ∧ Below w.heap.size w w' :=
  (pop_any [] p m w h.1).mono fun e w' ⟨h1, h2⟩ => by
    rcases h1 with ⟨_, h1⟩ | ⟨x, r, q, h1, _⟩
    · exact ⟨h1, h2⟩
    · cases h1
theorem pop_cons (x : Int) (r : List Int) (p : Option Addr) (m : Int) (w : World) (h : Ls w p m (x :: r)) (hs : r.length ≤ 1152921504606846976) : Calls Try.prog 28 #[.agg #[.pointer p, .int .i64 m]] w fun e w' =>
    ∃ q k, e = .returned (.tuple #[.int .i64 x, .agg #[.pointer q, .int .i64 k], .bool true]) ∧ Ls w' q k r ∧ Below w.heap.size w w' :=
  (pop_any (x :: r) p m w h.1).mono fun e w' ⟨h1, h2⟩ => by
    rcases h1 with ⟨h1, _⟩ | ⟨x', r', q, h1, h3, h4⟩
    · cases h1
    · cases h1
      refine ⟨q, _, h3, ⟨h4, ?_⟩, h2⟩
      rw [h.2]
      unfold wrap64
      simp only [List.length_cons]
      omega

theorem pop_tail (p : Option Addr) (m : Int) (xs : List Int) (w : World) (h : Ls w p m xs) (hs : xs.length ≤ 1152921504606846976) : Calls Try.prog 28 #[.agg #[.pointer p, .int .i64 m]] w fun e w' =>
    ∃ (v : Int) (b : Bool) (q : Option Addr) (k : Int), e = .returned (.tuple #[.int .i64 v, .agg #[.pointer q, .int .i64 k], .bool b]) ∧ Ls w' q k (xs.drop 1) ∧ Below w.heap.size w w' := by
  cases xs with
  | nil => exact (pop_nil p m w h).mono fun e w' ⟨h1, h2⟩ => ⟨0, false, none, 0, h1, Ls.nil _, h2⟩
  | cons x r => exact (pop_cons x r p m w h (by simp only [List.length_cons] at hs; omega)).mono fun e w' ⟨q, k, h1, h2, h3⟩ => ⟨x, true, q, k, h1, h2, h3⟩

set_option maxHeartbeats 800000 in
theorem listed_any (w : World) : Calls Try.prog 11 #[] w fun e w' => e = .returned (.bool true) ∧ Below w.heap.size w w' := by
  go_enter Try.func11, Try.ntmps11
  go_wp2_with fail
  refine (of_ls _ _ _ [5, 3] _ (Sl.two _ _ _ _) (by decide)).mono ?_
  rintro e w1 ⟨q1, m1, rfl, h1, b1⟩
  obtain ⟨b1, _⟩ := hold1 b1 ⟨rfl, rfl, rfl, rfl⟩
  go_wp2_with fail
  refine (pop_cons 5 [3] q1 m1 _ (h1.alloc _) (by decide)).mono ?_
  rintro e w2 ⟨q2, m2, rfl, h2, b2⟩
  obtain ⟨b2, A2⟩ := hold1 b2 ⟨rfl, rfl, rfl, rfl⟩
  obtain ⟨u0, u1, u2⟩ := blk A2
  replace h1 := h1.below b2
  replace b2 := below_then b1 b2
  go_wp2_with fail
  refine (len_ls q1 m1 [5, 3] _ (h1.alloc _)).mono ?_
  rintro e w3 ⟨rfl, b3⟩
  obtain ⟨b3, A3⟩ := hold1 b3 ⟨rfl, rfl, rfl, rfl⟩
  obtain ⟨v0, v1, v2⟩ := blk A3
  replace h2 := h2.below b3
  replace b3 := below_then b2 b3
  go_wp2_with fail
  refine (len_ls q2 m2 [3] _ h2).mono ?_
  rintro e w4 ⟨rfl, b4⟩
  replace b4 := below_then b3 b4
  go_wp2_with fail
  go_ret
  exact ⟨rfl, b4⟩

set_option maxHeartbeats 800000 in
theorem at_in (n : Nat) (p : Option Addr) (m : Int) (xs : List Int) (w : World) (h : Ls w p m xs) (hs : xs.length ≤ 17592186044416) (hn : n < xs.length) : Calls Try.prog 27 #[.agg #[.pointer p, .int .i64 m], .int .i64 (n : Int)] w fun e w' =>
    e = .returned (.tuple #[.int .i64 (xs[n]?.getD 0), .bool true]) ∧ Below w.heap.size w w' := by
  have hnm : (n : Int) < m := by rw [h.2]; omega
  have hn0 : (0 : Int) ≤ (n : Int) := by omega
  have hi := Lib.hid (h.1.alloc (.cells #[.pointer p, .int .i64 m] 28))
  clear h
  go_enter Try.func27, Try.ntmps27
  go_wp2_with fail
  go_loop [1, 6] (fun i c => ∃ (t : Nat) (q : Option Addr), t ≤ n ∧ i = .int .i64 ((n - t : Nat) : Int) ∧ c = .pointer q ∧ In (w.alloc (.cells #[.pointer p, .int .i64 m] 28)) q (xs.drop t)) (fun i _ => (intOf i).toNat)
  case atStart => exact ⟨0, p, Nat.zero_le _, rfl, rfl, hi.out⟩
  case round =>
    obtain ⟨t, q, ht, rfl, rfl, hin⟩ := hrel
    have hd : xs.drop t = (xs[t]?.getD 0) :: xs.drop (t + 1) := by
      rw [List.drop_eq_getElem_cons (by omega), List.getElem?_eq_getElem (by omega)]
      rfl
    rw [hd] at hin
    obtain ⟨b, q', rfl, hb, hr⟩ := hin
    obtain ⟨c0, c1, c2⟩ := blk hb
    have e0 := c0 0
    have e1 := c0 1
    have HR := Lib.hid hr
    clear c0 hb hd hr
    by_cases hz : t = n
    · subst hz
      have h0 : t - t = 0 := by omega
      rw [h0]
      go_wp2_with fail
      go_ret2
      exact ⟨rfl, (Below.refl _ _).alloc (Nat.le_refl _) _⟩
    · obtain ⟨d, hd⟩ : ∃ d, n - t = d + 1 := ⟨n - t - 1, by omega⟩
      rw [hd]
      have hdp : (0 : Int) < ((d + 1 : Nat) : Int) := by omega
      have hw : wrap64 (((d + 1 : Nat) : Int) - 1) = (d : Int) := by unfold wrap64; omega
      have HD := Lib.hid hd
      clear hd
      obtain ⟨D, hD⟩ : ∃ D : Int, ((d + 1 : Nat) : Int) = D := ⟨_, rfl⟩
      rw [hD] at hdp hw ⊢
      have HDD := Lib.hid hD
      clear hD
      go_wp2_with fail
      go_round
      case rel => exact ⟨t + 1, q', by omega, by congr 1; have := HD.out; omega, rfl, HR.out⟩
      case measure => have := HDD.out; simp [intOf]; omega

set_option maxHeartbeats 800000 in
theorem at_out (i : Int) (p : Option Addr) (m : Int) (xs : List Int) (w : World) (h : Ls w p m xs) (hn : ¬ (0 ≤ i ∧ i < (xs.length : Int))) : Calls Try.prog 27 #[.agg #[.pointer p, .int .i64 m], .int .i64 i] w fun e w' =>
    e = .returned (.tuple #[.int .i64 0, .bool false]) ∧ Below w.heap.size w w' := by
  rw [← h.2] at hn
  by_cases h0 : i < 0
  · go_enter Try.func27, Try.ntmps27
    go_wp2_with fail
    go_ret2
    exact ⟨rfl, (Below.refl _ _).alloc (Nat.le_refl _) _⟩
  · have h0' : (0 : Int) ≤ i := by omega
    have h1 : m ≤ i := by omega
    clear hn
    go_enter Try.func27, Try.ntmps27
    go_wp2_with fail
    go_ret2
    exact ⟨rfl, (Below.refl _ _).alloc (Nat.le_refl _) _⟩
end LI
end Go.Proofs.Ytooejhijdjcmkaa
