/-
  Treap: a new node; who stands above. Conditions: sizes below 2^62.
-/
import Derived.Test.YthokmfonedfmfaaTreapIn
import Derived.Test.YthokmfonedfmfaaQuiet
namespace Go.Proofs.Ythokmfonedfmfaa.TRP
open Go.RowKit Go.Deep
open Go.Proofs.Ythokmfonedfmfaa Go.Proofs.Ythokmfonedfmfaa.ST
open Go.Proofs.Ythokmfonedfmfaa.TRP0 (mk split Tp Hp Plain)

set_option maxHeartbeats 400000 in
theorem made_any (tl tr : ST) (x : Int) (pl pr : Option Addr) (w : World) (hl : In w pl tl) (hr : In w pr tr) (hs : tl.size + tr.size ≤ 4611686018427387904) :
    Calls Try.prog 102 #[.pointer pl, .int .i64 x, .int .i64 (prioI x), .pointer pr] w fun e w' => ∃ p, e = .returned (.pointer p) ∧ In w' p (mk tl x tr) ∧ Below w.heap.size w w' := by
  have fin : ∀ (n : Int), n = ((mk tl x tr).size : Int) → In (w.alloc (.cells #[.int .i64 x, .int .i64 (prioI x), .int .i64 n, .pointer pl, .pointer pr] 129)) (some ⟨w.heap.size, 0, none⟩) (mk tl x tr) :=
    fun n a => In.new hl hr a rfl
  have FIN := Lib.hid fin
  clear fin
  obtain ⟨P, hP⟩ : ∃ P, prioI x = P := ⟨_, rfl⟩
  rw [hP] at FIN ⊢
  clear hP
  go_enter Try.func102, Try.ntmps102
  go_wp2_with fail
  refine (size_any tl pl _ hl).mono ?_
  rintro e w' ⟨rfl, rfl⟩
  go_wp2_with fail
  refine (size_any tr pr _ hr).mono ?_
  rintro e w' ⟨rfl, rfl⟩
  go_wp2_with fail
  go_ret
  exact ⟨_, rfl, FIN.out _ (by simp [mk, size]), (Below.refl _ _).alloc (Nat.le_refl _) _⟩

set_option maxHeartbeats 800000 in
theorem above_any (c : Bool) (y x : Int) (l r : ST) (p : Option Addr) (w : World) (h : In w p (.node c y l r)) :
    Calls Try.prog 103 #[.pointer p, .int .i64 x, .int .i64 (prioI x)] w fun e w' => e = .returned (.bool (ab y x)) ∧ w = w' := by
  obtain ⟨b, pl, pr, rfl, klt, k0, k1, k2, k3, k4, _, _⟩ := h.open
  have e : ab y x = (decide (prioI x < prioI y) || (decide (prioI y = prioI x) && decide (y < x))) := rfl
  obtain ⟨P, hP⟩ : ∃ P, prioI x = P := ⟨_, rfl⟩
  obtain ⟨Q, hQ⟩ : ∃ Q, prioI y = Q := ⟨_, rfl⟩
  rw [hP, hQ] at e
  rw [hQ] at k1
  rw [hP]
  have E := Lib.hid e
  clear hP hQ e
  by_cases h1 : P < Q
  · have d1 : decide (P < Q) = true := by simp [h1]
    have E' : ab y x = true := by rw [E.out, d1]; rfl
    have EH := Lib.hid E'
    clear E E'
    go_enter Try.func103, Try.ntmps103
    go_wp2
    go_ret
    exact ⟨by rw [EH.out]; rfl, rfl⟩
  · have d1 : decide (P < Q) = false := by simp; omega
    by_cases h2 : Q = P
    · subst h2
      by_cases h3 : y < x
      · have d3 : decide (y < x) = true := by simp [h3]
        have E' : ab y x = true := by rw [E.out, d1, d3]; simp
        have EH := Lib.hid E'
        clear E E'
        go_enter Try.func103, Try.ntmps103
        go_wp2
        go_ret
        exact ⟨by rw [EH.out]; rfl, rfl⟩
      · have d3 : decide (y < x) = false := by simp; omega
        have E' : ab y x = false := by rw [E.out, d1, d3]; simp
        have EH := Lib.hid E'
        clear E E'
        go_enter Try.func103, Try.ntmps103
        go_wp2
        go_ret
        exact ⟨by rw [EH.out]; rfl, rfl⟩
    · have d2 : (Q == P) = false := by simp [h2]
      have E' : ab y x = false := by rw [E.out, d1, decide_eq_false h2]; rfl
      have EH := Lib.hid E'
      clear E E'
      go_enter Try.func103, Try.ntmps103
      go_wp2
      go_ret
      exact ⟨by rw [EH.out]; rfl, rfl⟩
end Go.Proofs.Ythokmfonedfmfaa.TRP
