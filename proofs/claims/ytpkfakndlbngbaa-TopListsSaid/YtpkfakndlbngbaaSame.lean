/-
  Two lists held against each other, number by number. Conditions: none.
-/
import Derived.Test.YtpkfakndlbngbaaBase
namespace Go.Proofs.Ytpkfakndlbngbaa
open Go.RowKit Go.Deep

theorem take_snoc' (xs : List Int) (k : Nat) (hk : k < xs.length) : xs.take (k + 1) = xs.take k ++ [xs[k]?.getD 0] := by
  rw [List.take_add_one, List.getElem?_eq_getElem hk]
  rfl
theorem drewN_zero (w : World) : w.drewN 0 = w := rfl

set_option maxHeartbeats 400000 in
theorem same_ints (a a' : Option Addr) (n n' c c' : Nat) (xs ys : List Int) (w : World) (h : Sl w a n c xs) (h' : Sl w a' n' c' ys) :
    Calls Try.prog 9 #[.slice a n c, .slice a' n' c'] w fun e w' => e = .returned (.bool (decide (xs = ys))) ∧ ∃ k, w' = w.drewN k := by
  have hx := h.hlen
  have hy := h'.hlen
  have hm := h.hmax
  have hm2 := h.hcap
  unfold maxLen at hm
  by_cases hn : n = n'
  · subst hn
    have HX := Lib.hid hx
    have HY := Lib.hid hy
    have HH := Lib.hid h
    have HH' := Lib.hid h'
    clear hx hy h h'
    go_enter Try.func9, Try.ntmps9
    go_wp2
    go_loopw [5] (fun i wr => ∃ k d : Nat, k ≤ n ∧ i = .int .i64 k ∧ xs.take k = ys.take k ∧ wr = w.drewN d) (fun i _ => n - (intOf i).toNat)
    case atStart => exact ⟨0, 0, Nat.zero_le _, rfl, rfl, rfl⟩
    case round =>
      obtain ⟨k, d, hk, rfl, ht, rfl⟩ := hrel
      have HT := Lib.hid ht
      clear ht
      by_cases hlt : k < n
      · obtain ⟨b, off, rfl, hb, hc⟩ := HH.out.hat (by omega)
        obtain ⟨b', off', rfl, hb', hc'⟩ := HH'.out.hat (by omega)
        have g := hc k hlt
        have g' := hc' k hlt
        clear hc hc'
        have hlti : (k : Int) < (n : Int) := by omega
        have t1 := take_snoc' xs k (by have := HX.out; omega)
        have t2 := take_snoc' ys k (by have := HY.out; omega)
        have T1 := Lib.hid t1
        have T2 := Lib.hid t2
        clear t1 t2
        by_cases hv : xs[k]?.getD 0 = ys[k]?.getD 0
        · have hvb : (xs[k]?.getD 0 != ys[k]?.getD 0) = false := by simp [hv]
          have HV := Lib.hid hv
          clear hv
          go_wp2
          go_quiet (fail)
          go_wp2
          go_roundw
          case rel => exact ⟨k + 1, d + nq, by omega, by go_num, by rw [T1.out, T2.out, HT.out, HV.out], by simp⟩
          case measure => simp [intOf]; omega
        · have hvb : (xs[k]?.getD 0 != ys[k]?.getD 0) = true := by simp [hv]
          go_wp2
          go_quiet (fail)
          go_wp2
          go_ret
          refine ⟨?_, d + nq, by simp⟩
          have hne : xs ≠ ys := fun e => hv (by rw [e])
          simp [hne]
      · have he : k = n := by omega
        have hxy : xs = ys := by
          have := HT.out
          rw [List.take_of_length_le (by have := HX.out; omega), List.take_of_length_le (by have := HY.out; omega)] at this
          exact this
        have HXY := Lib.hid hxy
        clear hxy he
        go_wp2
        go_ret
        refine ⟨?_, _, rfl⟩
        simp [HXY.out]
  · have hne : xs ≠ ys := fun e => hn (by rw [← hx, ← hy, e])
    have hnb : ((n : Int) != (n' : Int)) = true := by simp; omega
    have HN := Lib.hid hne
    clear hx hy hne hn
    go_enter Try.func9, Try.ntmps9
    go_wp2
    go_ret
    exact ⟨by simp [HN.out], 0, rfl⟩
theorem same_yes (a a' : Option Addr) (n n' c c' : Nat) (xs ys : List Int) (w : World) (h : Sl w a n c xs) (h' : Sl w a' n' c' ys) (e : xs = ys) :
    Calls Try.prog 9 #[.slice a n c, .slice a' n' c'] w fun e w' => e = .returned (.bool true) ∧ Below w.heap.size w w' := by
  refine (same_ints a a' n n' c c' xs ys w h h').mono ?_
  rintro e w' ⟨rfl, k, rfl⟩
  exact ⟨by simp [e], below_drewN (Below.refl _ _) k⟩
end Go.Proofs.Ytpkfakndlbngbaa
