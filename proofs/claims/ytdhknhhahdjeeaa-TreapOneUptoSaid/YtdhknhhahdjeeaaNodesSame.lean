/-
  Two told shapes that are one are found to be the same. Conditions: none.
-/
import Derived.Test.YtdhknhhahdjeeaaNodes
namespace Go.Proofs.Ytdhknhhahdjeeaa
open Go.RowKit Go.Deep
set_option maxHeartbeats 800000 in
theorem nodes_yes (a a' : Option Addr) (n n' c c' : Nat) (S T : List Nd) (w : World) (h : Nl w a n c S) (h' : Nl w a' n' c' T) (hST : S = T) :
    Calls Try.prog 36 #[.slice a n c, .slice a' n' c'] w fun e w' => e = .returned (.bool true) ∧ Below w.heap.size w w' := by
  subst hST
  have e1 := h.hlen
  have e2 := h'.hlen
  obtain rfl : n = n' := by omega
  have hm := h.hmax
  have hm2 := h.hcap
  unfold maxLen at hm
  have HX := Lib.hid e1
  have HH := Lib.hid h
  have HH' := Lib.hid h'
  clear e1 e2 h h'
  go_enter Try.func36, Try.ntmps36
  go_wp2
  go_loopw [5] (fun i wr => ∃ k d : Nat, k ≤ n ∧ i = .int .i64 k ∧ wr = w.drewN d) (fun i _ => n - (intOf i).toNat)
  case atStart => exact ⟨0, 0, Nat.zero_le _, rfl, rfl⟩
  case round =>
    obtain ⟨k, d, hk, rfl, rfl⟩ := hrel
    by_cases hlt : k < n
    · obtain ⟨b, off, rfl, hb, hc⟩ := HH.out.hat (by omega)
      obtain ⟨b', off', rfl, hb', hc'⟩ := HH'.out.hat (by omega)
      have hs : S[k]? = some (S[k]'(by have := HX.out; omega)) := List.getElem?_eq_getElem _
      obtain ⟨g0, g1, g2, g3⟩ := hc k _ hs
      obtain ⟨f0, f1, f2, f3⟩ := hc' k _ hs
      obtain ⟨q, hq⟩ : ∃ q, S[k]'(by have := HX.out; omega) = q := ⟨_, rfl⟩
      rw [hq] at g0 g1 g2 g3 f0 f1 f2 f3
      obtain ⟨q0, q1, q2, q3⟩ := q
      simp only at g0 g1 g2 g3 f0 f1 f2 f3
      clear hc hc' hs hq
      have hlti : (k : Int) < (n : Int) := by omega
      go_wp2
      go_quiet (fail)
      go_wp2
      go_roundw
      case rel => exact ⟨k + 1, d + nq, by omega, by go_num, by simp⟩
      case measure => simp [intOf]; omega
    · have he : k = n := by omega
      subst he
      go_wp2
      go_ret
      exact ⟨by simp, below_drewN (Below.refl _ _) _⟩
end Go.Proofs.Ytdhknhhahdjeeaa
