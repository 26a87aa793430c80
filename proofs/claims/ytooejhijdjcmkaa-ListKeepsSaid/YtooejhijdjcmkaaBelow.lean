/-
  The document's plain lists: how many are below. Conditions: none.
-/
import Derived.Test.YtooejhijdjcmkaaWords
import Derived.Test.YtooejhijdjcmkaaSame
import Derived.Test.YtooejhijdjcmkaaSort
namespace Go.Proofs.Ytooejhijdjcmkaa
open Go.RowKit Go.Deep

theorem below_any (a : Option Addr) (n c : Nat) (xs : List Int) (x : Int) (w : World) (h : Sl w a n c xs) :
    Calls Try.prog 22 #[.slice a n c, .int .i64 x] w fun e w' => e = .returned (.int .i64 (belowN xs x : Int)) ∧ w = w' := by
  have hm := h.hmax
  have hm2 := h.hcap
  unfold maxLen at hm
  have HL := Lib.hid h.hlen
  have HH := Lib.hid h
  clear h
  go_enter Try.func22, Try.ntmps22
  go_wp2
  go_loop [5, 6] (fun m i => ∃ k : Nat, k ≤ n ∧ i = .int .i64 k ∧ m = .int .i64 (belowN (xs.take k) x : Int)) (fun _ i => n - (intOf i).toNat)
  case atStart => exact ⟨0, Nat.zero_le _, rfl, rfl⟩
  case round =>
    obtain ⟨k, hk, rfl, rfl⟩ := hrel
    by_cases hlt : k < n
    · obtain ⟨b, off, rfl, hbl, hc⟩ := HH.out.hat (by omega)
      have g := hc k hlt
      clear hc
      have hlti : (k : Int) < (n : Int) := by omega
      have hb1 := belowN_le (xs.take k) x
      have hb2 : (xs.take k).length ≤ k := List.length_take_le _ _
      have hb3 : (belowN (xs.take k) x : Int) + 1 ≤ 9223372036854775807 := by omega
      have t1 := take_snoc' xs k (by have := HL.out; omega)
      have t2 := belowN_snoc (xs[k]?.getD 0) (xs.take k) x
      rw [← t1] at t2
      have T2 := Lib.hid t2
      clear t1 t2
      by_cases hv : xs[k]?.getD 0 < x
      · go_wp2
        go_round
        case rel => exact ⟨k + 1, by omega, by go_num, by rw [T2.out, if_pos hv]; go_num⟩
        case measure => simp [intOf]; omega
      · go_wp2
        go_round
        case rel => exact ⟨k + 1, by omega, by go_num, by rw [T2.out, if_neg hv]; go_num⟩
        case measure => simp [intOf]; omega
    · have hxs : xs.take k = xs := List.take_of_length_le (by have := HL.out; omega)
      rw [hxs]
      have HX := Lib.hid hxs
      clear hxs
      go_wp2
      go_ret
      exact ⟨rfl, rfl⟩

end Go.Proofs.Ytooejhijdjcmkaa
