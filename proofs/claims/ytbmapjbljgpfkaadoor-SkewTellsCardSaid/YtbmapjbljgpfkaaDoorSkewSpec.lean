/-
  What each call of SkewTells says, told apart: valid or not, within or not. Conditions: each theorem's own.
-/
import Derived.Test.YtbmapjbljgpfkaaDoorSkewErr
import Derived.Test.YtbmapjbljgpfkaaDoorSkewRef
import Derived.Test.YtbmapjbljgpfkaaDoorSkewFault
import Derived.Test.YtbmapjbljgpfkaaDoorSkewed
namespace Go.Proofs.YtbmapjbljgpfkaaDoor
open Go.RowKit Go.Deep
set_option linter.unusedVariables false
namespace SK
theorem fault_no (a : Option Addr) (n c : Nat) (xs : List Int) (w : World) (h : Sl w a n c xs) (hv : valid xs) : Calls Tryd.prog 5 #[.slice a n c] w fun e w' => e = .returned (.bool false) ∧ Below w.heap.size w w' := by
  refine (fault_any a n c xs w h).mono ?_
  rintro e w' ⟨⟨_, rfl⟩ | ⟨hn, _⟩, d, rfl⟩
  · exact ⟨rfl, below_drewN (Below.refl _ _) d⟩
  · exact absurd hv hn
theorem fault_yes (a : Option Addr) (n c : Nat) (xs : List Int) (w : World) (h : Sl w a n c xs) (hv : ¬ valid xs) : Calls Tryd.prog 5 #[.slice a n c] w fun e w' => e = .returned (.bool true) ∧ Below w.heap.size w w' := by
  refine (fault_any a n c xs w h).mono ?_
  rintro e w' ⟨⟨hn, _⟩ | ⟨_, rfl⟩, d, rfl⟩
  · exact absurd hn hv
  · exact ⟨rfl, below_drewN (Below.refl _ _) d⟩
theorem check_yes (a : Option Addr) (n c : Nat) (xs : List Int) (w : World) (h : Sl w a n c xs) (hv : valid xs) : Calls Tryd.prog 7 #[.slice a n c] w fun e w' => e = .returned (.nilIface) ∧ Below w.heap.size w w' := by
  refine (Check_any a n c xs w h).mono ?_
  rintro e w' ⟨⟨_, rfl⟩ | ⟨hn, _⟩, rfl⟩
  · exact ⟨rfl, Below.refl _ _⟩
  · exact absurd hv hn
theorem check_no (a : Option Addr) (n c : Nat) (xs : List Int) (w : World) (h : Sl w a n c xs) (hv : ¬ valid xs) : Calls Tryd.prog 7 #[.slice a n c] w fun e w' => e = .returned (bad) ∧ Below w.heap.size w w' := by
  refine (Check_any a n c xs w h).mono ?_
  rintro e w' ⟨⟨hn, _⟩ | ⟨_, rfl⟩, rfl⟩
  · exact absurd hn hv
  · exact ⟨rfl, Below.refl _ _⟩
theorem value_yes (a : Option Addr) (n c : Nat) (xs : List Int) (w : World) (h : Sl w a n c xs) (s : Int) (hv : valid xs) (hs : xs.sum = s) : Calls Tryd.prog 9 #[.slice a n c] w fun e w' => e = .returned (.tuple #[.int .i64 s, .nilIface]) ∧ Below w.heap.size w w' := by
  subst hs
  refine (Value_any a n c xs w h).mono ?_
  rintro e w' ⟨⟨_, rfl⟩ | ⟨hn, _⟩, rfl⟩
  · exact ⟨rfl, Below.refl _ _⟩
  · exact absurd hv hn
theorem value_no (a : Option Addr) (n c : Nat) (xs : List Int) (w : World) (h : Sl w a n c xs) (hv : ¬ valid xs) : Calls Tryd.prog 9 #[.slice a n c] w fun e w' => e = .returned (.tuple #[.int .i64 0, bad]) ∧ Below w.heap.size w w' := by
  refine (Value_any a n c xs w h).mono ?_
  rintro e w' ⟨⟨hn, _⟩ | ⟨_, rfl⟩, rfl⟩
  · exact absurd hn hv
  · exact ⟨rfl, Below.refl _ _⟩
theorem sum_yes (a : Option Addr) (n c : Nat) (xs : List Int) (w : World) (h : Sl w a n c xs) (s : Int) (hv : valid xs) (hs : xs.sum = s) : Calls Tryd.prog 8 #[.slice a n c] w fun e w' => e = .returned (.int .i64 s) ∧ Below w.heap.size w w' := by
  subst hs
  refine (sum_any a n c xs w h hv).mono ?_
  rintro e w' ⟨rfl, rfl⟩
  exact ⟨rfl, Below.refl _ _⟩
theorem inc_no (a : Option Addr) (n c : Nat) (xs : List Int) (w : World) (h : Sl w a n c xs) (hv : ¬ valid xs) : Calls Tryd.prog 11 #[.slice a n c] w fun e w' => e = .returned (.tuple #[.slice none 0 0, bad]) ∧ Below w.heap.size w w' := by
  refine (Inc_any a n c xs w h).mono ?_
  rintro e w' ⟨b, ⟨_, rfl⟩ | ⟨hn, _⟩ | ⟨hn, _⟩⟩
  · exact ⟨rfl, b⟩
  · exact absurd hn hv
  · exact absurd hn hv
theorem inc_far (a : Option Addr) (n c : Nat) (xs : List Int) (w : World) (h : Sl w a n c xs) (s : Int) (hv : valid xs) (hs : xs.sum = s) (h1 : 1099511627776 ≤ s) : Calls Tryd.prog 11 #[.slice a n c] w fun e w' => e = .returned (.tuple #[.slice none 0 0, far]) ∧ Below w.heap.size w w' := by
  subst hs
  refine (Inc_any a n c xs w h).mono ?_
  rintro e w' ⟨b, ⟨hn, _⟩ | ⟨_, _, rfl⟩ | ⟨_, hn, _⟩⟩
  · exact absurd hv hn
  · exact ⟨rfl, b⟩
  · omega
theorem inc_in (a : Option Addr) (n c : Nat) (xs : List Int) (w : World) (h : Sl w a n c xs) (s : Int) (hv : valid xs) (hs : xs.sum = s) (h1 : s < 1099511627776) : Calls Tryd.prog 11 #[.slice a n c] w fun e w' => ∃ a len cap, e = .returned (.tuple #[.slice a len cap, .nilIface]) ∧ Sl w' a len cap ((gd 40 (s + 1)).reverse) ∧ Below w.heap.size w w' := by
  subst hs
  refine (Inc_any a n c xs w h).mono ?_
  rintro e w' ⟨b, ⟨hn, _⟩ | ⟨_, hn, _⟩ | ⟨_, _, a', l, k, rfl, hs⟩⟩
  · exact absurd hv hn
  · omega
  · exact ⟨a', l, k, rfl, by rw [← inc_eq hv h1]; exact hs, b⟩
theorem dec_no (a : Option Addr) (n c : Nat) (xs : List Int) (w : World) (h : Sl w a n c xs) (hv : ¬ valid xs) : Calls Tryd.prog 13 #[.slice a n c] w fun e w' => e = .returned (.tuple #[.slice none 0 0, bad]) ∧ Below w.heap.size w w' := by
  refine (Dec_any a n c xs w h).mono ?_
  rintro e w' ⟨b, ⟨_, rfl⟩ | ⟨hn, _⟩ | ⟨hn, _⟩⟩
  · exact ⟨rfl, b⟩
  · exact absurd hn hv
  · exact absurd hn hv
theorem dec_far (a : Option Addr) (n c : Nat) (xs : List Int) (w : World) (h : Sl w a n c xs) (s : Int) (hv : valid xs) (hs : xs.sum = s) (h1 : 1099511627777 < s ∨ s = 0) : Calls Tryd.prog 13 #[.slice a n c] w fun e w' => e = .returned (.tuple #[.slice none 0 0, far]) ∧ Below w.heap.size w w' := by
  subst hs
  refine (Dec_any a n c xs w h).mono ?_
  rintro e w' ⟨b, ⟨hn, _⟩ | ⟨_, _, rfl⟩ | ⟨_, hn, hn2, _⟩⟩
  · exact absurd hv hn
  · exact ⟨rfl, b⟩
  · omega
theorem dec_in (a : Option Addr) (n c : Nat) (xs : List Int) (w : World) (h : Sl w a n c xs) (s : Int) (hv : valid xs) (hs : xs.sum = s) (h0 : 0 < s) (h1 : s ≤ 1099511627777) : Calls Tryd.prog 13 #[.slice a n c] w fun e w' => ∃ a len cap, e = .returned (.tuple #[.slice a len cap, .nilIface]) ∧ Sl w' a len cap ((gd 40 (s - 1)).reverse) ∧ Below w.heap.size w w' := by
  subst hs
  refine (Dec_any a n c xs w h).mono ?_
  rintro e w' ⟨b, ⟨hn, _⟩ | ⟨_, hn, _⟩ | ⟨_, _, _, a', l, k, rfl, hs⟩⟩
  · exact absurd hv hn
  · omega
  · exact ⟨a', l, k, rfl, by rw [← dec_eq hv h0]; exact hs, b⟩
theorem digits_far (x : Int) (w : World) (h : x < 0 ∨ 1099511627776 < x) : Calls Tryd.prog 14 #[.int .i64 x] w fun e w' => e = .returned (.tuple #[.slice none 0 0, far]) ∧ Below w.heap.size w w' := by
  refine (Digits_bad x w h).mono ?_
  rintro e w' ⟨rfl, rfl⟩
  exact ⟨rfl, Below.refl _ _⟩
theorem err_nil (w : World) (h : Hdl w) : Calls Tryd.prog 6 #[.nilIface, .int .i64 0] w fun e w' => e = .returned (.bool true) ∧ Below w.heap.size w w' := error_yes none 0 w h rfl
theorem err_bad (w : World) (h : Hdl w) : Calls Tryd.prog 6 #[bad, .int .i64 3] w fun e w' => e = .returned (.bool true) ∧ Below w.heap.size w w' := error_yes (some 3) 3 w h rfl
theorem err_far (w : World) (h : Hdl w) : Calls Tryd.prog 6 #[far, .int .i64 1] w fun e w' => e = .returned (.bool true) ∧ Below w.heap.size w w' := error_yes (some 1) 1 w h rfl
end SK
end Go.Proofs.YtbmapjbljgpfkaaDoor
