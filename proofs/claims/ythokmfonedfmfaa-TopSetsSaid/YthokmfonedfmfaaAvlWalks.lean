/-
  Trees of nearly even heights: what a new node and a turn make in memory. Conditions: sizes below 2^62.
-/
import Derived.Test.YthokmfonedfmfaaAvlIn
namespace Go.Proofs.Ythokmfonedfmfaa.AVL
open Go.RowKit Go.Deep
open Go.Proofs.Ythokmfonedfmfaa Go.Proofs.Ythokmfonedfmfaa.ST

set_option maxHeartbeats 400000 in
theorem made_any (tl tr : ST) (x : Int) (pl pr : Option Addr) (w : World) (hl : In w pl tl) (hr : In w pr tr) (hs : tl.size + tr.size ≤ 4611686018427387904) :
    Calls Try.prog 107 #[.pointer pl, .int .i64 x, .pointer pr] w fun e w' => ∃ p, e = .returned (.pointer p) ∧ In w' p (mk tl x tr) ∧ Below w.heap.size w w' := by
  have h1 := height_le tl
  have h2 := height_le tr
  have fin : ∀ (hh n : Int), n = ((mk tl x tr).size : Int) → hh = ((mk tl x tr).height : Int) → In (w.alloc (.cells #[.int .i64 x, .int .i64 hh, .int .i64 n, .pointer pl, .pointer pr] 125)) (some ⟨w.heap.size, 0, none⟩) (mk tl x tr) :=
    fun hh n a b => In.new hl hr a b
  have FIN := Lib.hid fin
  clear fin
  by_cases hlt : tl.height < tr.height
  · have hd : ((tl.height : Int) < (tr.height : Int)) := by omega
    have hdn : max (tl.height : Int) (tr.height : Int) = (tr.height : Int) := by omega
    go_enter Try.func107, Try.ntmps107
    go_wp2_with fail
    refine (height_any tl pl _ hl).mono ?_
    rintro e w' ⟨rfl, rfl⟩
    go_wp2_with fail
    refine (height_any tr pr _ hr).mono ?_
    rintro e w' ⟨rfl, rfl⟩
    go_wp2_with fail
    refine (size_any tl pl _ hl).mono ?_
    rintro e w' ⟨rfl, rfl⟩
    go_wp2_with fail
    refine (size_any tr pr _ hr).mono ?_
    rintro e w' ⟨rfl, rfl⟩
    go_wp2_with fail
    go_ret
    exact ⟨_, rfl, FIN.out _ _ (by simp [mk, size]) (by simp [mk, height]; omega), (Below.refl _ _).alloc (Nat.le_refl _) _⟩
  · have hd : ¬ ((tl.height : Int) < (tr.height : Int)) := by omega
    have hdn : max (tl.height : Int) (tr.height : Int) = (tl.height : Int) := by omega
    go_enter Try.func107, Try.ntmps107
    go_wp2_with fail
    refine (height_any tl pl _ hl).mono ?_
    rintro e w' ⟨rfl, rfl⟩
    go_wp2_with fail
    refine (height_any tr pr _ hr).mono ?_
    rintro e w' ⟨rfl, rfl⟩
    go_wp2_with fail
    refine (size_any tl pl _ hl).mono ?_
    rintro e w' ⟨rfl, rfl⟩
    go_wp2_with fail
    refine (size_any tr pr _ hr).mono ?_
    rintro e w' ⟨rfl, rfl⟩
    go_wp2_with fail
    go_ret
    exact ⟨_, rfl, FIN.out _ _ (by simp [mk, size]) (by simp [mk, height]; omega), (Below.refl _ _).alloc (Nat.le_refl _) _⟩
end Go.Proofs.Ythokmfonedfmfaa.AVL
