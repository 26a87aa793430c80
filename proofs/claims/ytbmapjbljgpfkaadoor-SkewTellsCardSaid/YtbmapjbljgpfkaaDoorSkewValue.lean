/-
  Skew digits: their value. Conditions: none.
-/
import Derived.Test.YtbmapjbljgpfkaaDoorSkewCheck
namespace Go.Proofs.YtbmapjbljgpfkaaDoor
open Go.RowKit Go.Deep
set_option linter.unusedVariables false
namespace SK
theorem valid_take {l : List Int} (h : valid l) (k : Nat) : valid (l.take k) := by
  intro i hi
  rw [List.length_take] at hi
  have := h i (by omega)
  unfold okAt at this ⊢
  rw [List.getElem?_take, List.getElem?_take, if_pos (by omega), if_pos (by omega)]
  exact this
set_option maxHeartbeats 1000000 in
theorem Value_any (a : Option Addr) (n c : Nat) (xs : List Int) (w : World) (h : Sl w a n c xs) :
    Calls Tryd.prog 9 #[.slice a n c] w fun e w' => ((valid xs ∧ e = .returned (.tuple #[.int .i64 xs.sum, .nilIface])) ∨ (¬ valid xs ∧ e = .returned (.tuple #[.int .i64 0, bad]))) ∧ w = w' := by
  have hm := h.hmax
  have hm2 := h.hcap
  unfold maxLen at hm
  have HL := Lib.hid h.hlen
  have HH := Lib.hid h
  clear h
  go_enter Tryd.func9, Tryd.ntmps9
  go_wp2_with fail
  refine (Check_any _ _ _ xs _ HH.out).mono ?_
  rintro e w' ⟨⟨hv, rfl⟩ | ⟨hv, rfl⟩, rfl⟩
  · have HV := Lib.hid hv
    clear hv
    go_wp2_with fail
    go_loop [5, 15] (fun m i => ∃ k : Nat, k ≤ n ∧ i = .int .i64 k ∧ m = .int .i64 (xs.take k).sum) (fun _ i => n - (intOf i).toNat)
    case atStart => exact ⟨0, Nat.zero_le _, rfl, rfl⟩
    case round =>
      obtain ⟨k, hk, rfl, rfl⟩ := hrel
      by_cases hlt : k < n
      · obtain ⟨b, off, rfl, hbl, hc⟩ := HH.out.hat (by omega)
        have g := hc k hlt
        clear hc
        have hlti : (k : Int) < (n : Int) := by omega
        have t1 := take_snoc' xs k (by have := HL.out; omega)
        have t2 := valid_uniq (valid_take HV.out (k + 1))
        have t3 : (xs.take (k + 1)).sum = (xs.take k).sum + xs[k]?.getD 0 := by rw [t1, List.sum_append, List.sum_cons, List.sum_nil]; omega
        have hw : wrap64 ((xs.take k).sum + xs[k]?.getD 0) = (xs.take k).sum + xs[k]?.getD 0 := by rw [← t3]; unfold wrap64; omega
        have T3 := Lib.hid t3
        clear t1 t2 t3
        go_wp2_with fail
        go_round
        case rel => exact ⟨k + 1, by omega, by go_num, by rw [T3.out, hw]⟩
        case measure => simp [intOf]; omega
      · have hxs : xs.take k = xs := List.take_of_length_le (by have := HL.out; omega)
        rw [hxs]
        clear hxs
        go_wp2_with fail
        go_ret2
        exact ⟨.inl ⟨HV.out, rfl⟩, rfl⟩
  · have HV := Lib.hid hv
    clear hv
    go_wp2_with fail
    go_ret2
    exact ⟨.inr ⟨HV.out, rfl⟩, rfl⟩
end SK
end Go.Proofs.YtbmapjbljgpfkaaDoor
