/-
  Lists with their numbers: the list of a slice's numbers; the number at a place. Conditions: no more than 2^44 numbers.
-/
import Derived.Test.YtpkfakndlbngbaaListOf
import Derived.Test.YtpkfakndlbngbaaQueLs
namespace Go.Proofs.Ytpkfakndlbngbaa
open Go.RowKit Go.Deep Go.Shelf
set_option linter.unusedVariables false
namespace LI
theorem of_ls (a : Option Addr) (n c : Nat) (xs : List Int) (w : World) (h : Sl w a n c xs) (hs : n ≤ 17592186044416) : Calls Try.prog 4 #[.slice a n c] w fun e w' =>
    ∃ q m, e = .returned (.agg #[.pointer q, .int .i64 m]) ∧ Ls w' q m xs ∧ Below w.heap.size w w' :=
  (of_any a n c xs w h hs).mono fun e w' ⟨q, h1, h2, h3⟩ => ⟨q, _, h1, ⟨h2, rfl⟩, h3⟩
set_option maxHeartbeats 800000 in
theorem at_in (n : Nat) (p : Option Addr) (m : Int) (xs : List Int) (w : World) (h : Ls w p m xs) (hs : xs.length ≤ 17592186044416) (hn : n < xs.length) : Calls Try.prog 16 #[.agg #[.pointer p, .int .i64 m], .int .i64 (n : Int)] w fun e w' =>
    e = .returned (.tuple #[.int .i64 (xs[n]?.getD 0), .bool true]) ∧ Below w.heap.size w w' := by
  have hnm : (n : Int) < m := by rw [h.2]; omega
  have hn0 : (0 : Int) ≤ (n : Int) := by omega
  have hi := Lib.hid (h.1.alloc (.cells #[.pointer p, .int .i64 m] 25))
  clear h
  go_enter Try.func16, Try.ntmps16
  go_wp2_with fail
  go_loop [1, 6] (fun i c => ∃ (t : Nat) (q : Option Addr), t ≤ n ∧ i = .int .i64 ((n - t : Nat) : Int) ∧ c = .pointer q ∧ In (w.alloc (.cells #[.pointer p, .int .i64 m] 25)) q (xs.drop t)) (fun i _ => (intOf i).toNat)
  case atStart => exact ⟨0, p, Nat.zero_le _, rfl, rfl, hi.out⟩
  case round =>
    obtain ⟨t, q, ht, rfl, rfl, hin⟩ := hrel
    have hd : xs.drop t = (xs[t]?.getD 0) :: xs.drop (t + 1) := by
      rw [List.drop_eq_getElem_cons (by omega), List.getElem?_eq_getElem (by omega)]
      rfl
    rw [hd] at hin
    obtain ⟨b, q', rfl, hb, hr⟩ := hin
    obtain ⟨c0, c1, c2⟩ := blk hb
    have e0 := c0 0
    have e1 := c0 1
    have HR := Lib.hid hr
    clear c0 hb hd hr
    by_cases hz : t = n
    · subst hz
      have h0 : t - t = 0 := by omega
      rw [h0]
      go_wp2_with fail
      go_ret2
      exact ⟨rfl, (Below.refl _ _).alloc (Nat.le_refl _) _⟩
    · obtain ⟨d, hd⟩ : ∃ d, n - t = d + 1 := ⟨n - t - 1, by omega⟩
      rw [hd]
      have hdp : (0 : Int) < ((d + 1 : Nat) : Int) := by omega
      have hw : wrap64 (((d + 1 : Nat) : Int) - 1) = (d : Int) := by unfold wrap64; omega
      have HD := Lib.hid hd
      clear hd
      obtain ⟨D, hD⟩ : ∃ D : Int, ((d + 1 : Nat) : Int) = D := ⟨_, rfl⟩
      rw [hD] at hdp hw ⊢
      have HDD := Lib.hid hD
      clear hD
      go_wp2_with fail
      go_round
      case rel => exact ⟨t + 1, q', by omega, by congr 1; have := HD.out; omega, rfl, HR.out⟩
      case measure => have := HDD.out; simp [intOf]; omega

set_option maxHeartbeats 800000 in
theorem at_out (i : Int) (p : Option Addr) (m : Int) (xs : List Int) (w : World) (h : Ls w p m xs) (hn : ¬ (0 ≤ i ∧ i < (xs.length : Int))) : Calls Try.prog 16 #[.agg #[.pointer p, .int .i64 m], .int .i64 i] w fun e w' =>
    e = .returned (.tuple #[.int .i64 0, .bool false]) ∧ Below w.heap.size w w' := by
  rw [← h.2] at hn
  by_cases h0 : i < 0
  · go_enter Try.func16, Try.ntmps16
    go_wp2_with fail
    go_ret2
    exact ⟨rfl, (Below.refl _ _).alloc (Nat.le_refl _) _⟩
  · have h0' : (0 : Int) ≤ i := by omega
    have h1 : m ≤ i := by omega
    clear hn
    go_enter Try.func16, Try.ntmps16
    go_wp2_with fail
    go_ret2
    exact ⟨rfl, (Below.refl _ _).alloc (Nat.le_refl _) _⟩
end LI
end Go.Proofs.Ytpkfakndlbngbaa
