/-
  Red: how many; is it there. Conditions: sizes below 2^60.
-/
import Derived.Test.YthokmfonedfmfaaRedWalks
namespace Go.Proofs.Ythokmfonedfmfaa.RED
open Go.RowKit Go.Deep
open Go.Proofs.Ythokmfonedfmfaa Go.Proofs.Ythokmfonedfmfaa.ST

set_option linter.unusedVariables false
set_option maxRecDepth 100000 in
set_option maxHeartbeats 1600000 in
theorem has_any (t : ST) (x : Int) (bb : Bool) (p : Option Addr) (w : World) (h : In w p t) (hb : hasT t x = bb) :
    Calls Try.prog 37 #[.agg #[.pointer p], .int .i64 x] w fun e w' => e = .returned (.bool bb) ∧ Below w.heap.size w w' := by
  have B0 := Lib.hid hb
  clear hb
  go_enter Try.func37, Try.ntmps37
  go_wp2_with fail
  go_loopg [5] t.size (fun m v wr => ∃ (s : ST) (q : Option Addr), s.size ≤ m ∧ v = .pointer q ∧ In wr q s ∧ Hid (hasT s x = bb) ∧ wr = w.alloc (.cells #[.pointer p] 56))
  case atStart =>
    exact ⟨t, p, Nat.le_refl _, rfl, h.alloc _, B0, rfl⟩
  case round =>
    obtain ⟨s, q, hm, rfl, hi, HM, rfl⟩ := hrel
    cases s with
    | nil =>
      obtain rfl : q = none := hi
      have hno : bb = false := HM.out.symm
      have HN := Lib.hid hno
      clear hno
      go_wp2_with fail
      go_ret
      exact ⟨by rw [HN.out]; rfl, (Below.refl _ _).alloc (Nat.le_refl _) _⟩
    | node c y l r =>
      have hio := hi
      obtain ⟨b, pl, pr, rfl, klt, k0, k1, k2, k3, k4, hl, hr⟩ := hio.open
      simp only [size] at hm
      by_cases hxy : y = x
      · have hyes : bb = true := by rw [← HM.out, hasT, if_pos hxy]
        have HN := Lib.hid hyes
        have hd : (y != x) = false := by simp [hxy]
        have HX := Lib.hid hxy
        clear hyes hxy
        go_wp2_with fail
        go_ret
        exact ⟨by rw [HN.out]; rfl, (Below.refl _ _).alloc (Nat.le_refl _) _⟩
      · have hd : (y != x) = true := by simp [hxy]
        by_cases hlt : x < y
        · have hd2 : decide (x < y) = true := by simp [hlt]
          have e1 : hasT l x = bb := by rw [← HM.out, hasT, if_neg hxy, if_pos hlt]
          have E1 := Lib.hid e1
          clear e1 hxy
          go_wp2_with fail
          go_roundg l.size
          case measure => omega
          case rel => exact ⟨l, pl, Nat.le_refl _, rfl, hl, E1, rfl⟩
        · have hd2 : decide (x < y) = false := by simp [hlt]
          have e1 : hasT r x = bb := by rw [← HM.out, hasT, if_neg hxy, if_neg hlt]
          have E1 := Lib.hid e1
          clear e1 hxy
          go_wp2_with fail
          go_roundg r.size
          case measure => omega
          case rel => exact ⟨r, pr, Nat.le_refl _, rfl, hr, E1, rfl⟩
theorem has_set (t : ST) (x : Int) (p : Option Addr) (w : World) (h : In w p t) (hb : t.Bst) :
    Calls Try.prog 37 #[.agg #[.pointer p], .int .i64 x] w fun e w' => e = .returned (.bool (decide (x ∈ t.toL))) ∧ Below w.heap.size w w' := has_any t x _ p w h (hasT_iff hb x)
end Go.Proofs.Ythokmfonedfmfaa.RED
