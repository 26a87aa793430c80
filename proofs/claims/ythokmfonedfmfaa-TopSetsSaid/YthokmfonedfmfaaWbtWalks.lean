/-
  Wbt: weights; a new node. Conditions: sizes below 2^60.
-/
import Derived.Test.YthokmfonedfmfaaWbtIn
import Derived.Test.YthokmfonedfmfaaQuiet
namespace Go.Proofs.Ythokmfonedfmfaa.WBT
open Go.RowKit Go.Deep
open Go.Proofs.Ythokmfonedfmfaa Go.Proofs.Ythokmfonedfmfaa.ST

theorem weight_any (t : ST) (p : Option Addr) (w : World) (h : In w p t) (hs : t.size ≤ 4611686018427387904) :
    Calls Try.prog 113 #[.pointer p] w fun e w' => e = .returned (.int .i64 (wt t : Int)) ∧ w = w' := by
  have e : ((wt t : Nat) : Int) = (t.size : Int) + 1 := by simp [wt]
  rw [e]
  clear e
  go_enter Try.func113, Try.ntmps113
  go_wp2_with fail
  refine (size_any t p _ h).mono ?_
  rintro e w' ⟨rfl, rfl⟩
  go_wp2_with fail
  go_ret
  exact ⟨rfl, rfl⟩

set_option maxHeartbeats 400000 in
theorem heavy_b (ta tb : ST) (bb : Bool) (pa pb : Option Addr) (w : World) (ha : In w pa ta) (hb : In w pb tb) (hs : ta.size + tb.size ≤ 1152921504606846977) (h : decide (3 * wt tb < wt ta) = bb) :
    Calls Try.prog 109 #[.pointer pa, .pointer pb] w fun e w' => e = .returned (.bool bb) ∧ w = w' := by
  have A := weight_any ta pa w ha (by omega)
  have B := weight_any tb pb w hb (by omega)
  have wa : wt ta = ta.size + 1 := rfl
  have wb : wt tb = tb.size + 1 := rfl
  obtain ⟨x, hx⟩ : ∃ x, wt ta = x := ⟨_, rfl⟩
  obtain ⟨y, hy⟩ : ∃ y, wt tb = y := ⟨_, rfl⟩
  rw [hx] at A wa h
  rw [hy] at B wb h
  have bx : x ≤ 1152921504606846978 := by omega
  have by_ : y ≤ 1152921504606846978 := by omega
  have AH := Lib.hid A
  have BH := Lib.hid B
  clear A B wa wb hx hy ha hb hs
  cases bb with
  | true =>
    have d1 : decide (3 * (y : Int) < (x : Int)) = true := by simp only [decide_eq_true_eq] at h ⊢; omega
    have d2 : 3 * (y : Int) < (x : Int) := of_decide_eq_true d1
    clear h
    go_enter Try.func109, Try.ntmps109
    go_wp2_with fail
    refine (AH.out).mono ?_
    rintro e w' ⟨rfl, rfl⟩
    go_wp2_with fail
    refine (BH.out).mono ?_
    rintro e w' ⟨rfl, rfl⟩
    go_wp2_with fail
    go_ret
    exact ⟨by simp, rfl⟩
  | false =>
    have d1 : decide (3 * (y : Int) < (x : Int)) = false := by simp only [decide_eq_false_iff_not] at h ⊢; omega
    have d2 : ¬ 3 * (y : Int) < (x : Int) := of_decide_eq_false d1
    clear h
    go_enter Try.func109, Try.ntmps109
    go_wp2_with fail
    refine (AH.out).mono ?_
    rintro e w' ⟨rfl, rfl⟩
    go_wp2_with fail
    refine (BH.out).mono ?_
    rintro e w' ⟨rfl, rfl⟩
    go_wp2_with fail
    go_ret
    exact ⟨by simp, rfl⟩

set_option maxHeartbeats 400000 in
theorem made_any (tl tr : ST) (x : Int) (pl pr : Option Addr) (w : World) (hl : In w pl tl) (hr : In w pr tr) (hs : tl.size + tr.size ≤ 4611686018427387904) :
    Calls Try.prog 111 #[.pointer pl, .int .i64 x, .pointer pr] w fun e w' => ∃ q, e = .returned (.pointer q) ∧ In w' q (mk tl x tr) ∧ Below w.heap.size w w' := by
  have fin : ∀ (n : Int), n = ((mk tl x tr).size : Int) → In (w.alloc (.cells #[.int .i64 x, .int .i64 n, .pointer pl, .pointer pr] 163)) (some ⟨w.heap.size, 0, none⟩) (mk tl x tr) :=
    fun n a => In.new hl hr a
  have FIN := Lib.hid fin
  clear fin
  go_enter Try.func111, Try.ntmps111
  go_wp2_with fail
  refine (size_any tl pl _ hl).mono ?_
  rintro e w' ⟨rfl, rfl⟩
  go_wp2_with fail
  refine (size_any tr pr _ hr).mono ?_
  rintro e w' ⟨rfl, rfl⟩
  go_wp2_with fail
  go_ret
  exact ⟨_, rfl, FIN.out _ (by simp [mk, size]), (Below.refl _ _).alloc (Nat.le_refl _) _⟩
theorem size_mk (l : ST) (x : Int) (r : ST) : (mk l x r).size = 1 + l.size + r.size := rfl
end Go.Proofs.Ythokmfonedfmfaa.WBT
