/-
  Red: colours; a new node; three of a kind. Conditions: sizes below 2^60.
-/
import Derived.Test.YthokmfonedfmfaaRedIn
import Derived.Test.YthokmfonedfmfaaQuiet
namespace Go.Proofs.Ythokmfonedfmfaa.RED
open Go.RowKit Go.Deep
open Go.Proofs.Ythokmfonedfmfaa Go.Proofs.Ythokmfonedfmfaa.ST

theorem isRed_node (c : Bool) (x : Int) (l r : ST) : isRed (.node c x l r) = c := rfl
theorem isred_b (t : ST) (b : Bool) (p : Option Addr) (w : World) (h : In w p t) (hb : isRed t = b) :
    Calls Try.prog 132 #[.pointer p] w fun e w' => e = .returned (.bool b) ∧ w = w' := by
  subst hb
  cases t with
  | nil =>
    obtain rfl : p = none := h
    rw [show isRed .nil = false from rfl]
    go_enter Try.func132, Try.ntmps132
    go_wp2
    go_ret
    exact ⟨rfl, rfl⟩
  | node c x l r =>
    rw [show isRed (.node c x l r) = c from rfl]
    obtain ⟨b, pl, pr, rfl, klt, k0, k1, k2, k3, k4, hl, hr⟩ := h.open
    go_enter Try.func132, Try.ntmps132
    go_wp2
    go_ret
    exact ⟨rfl, rfl⟩

set_option maxHeartbeats 400000 in
theorem made_any (c : Bool) (tl tr : ST) (x : Int) (pl pr : Option Addr) (w : World) (hl : In w pl tl) (hr : In w pr tr) (hs : tl.size + tr.size ≤ 4611686018427387904) :
    Calls Try.prog 100 #[.bool c, .pointer pl, .int .i64 x, .pointer pr] w fun e w' => ∃ q, e = .returned (.pointer q) ∧ In w' q (.node c x tl tr) ∧ Below w.heap.size w w' := by
  have fin : ∀ (n : Int), n = ((ST.node c x tl tr).size : Int) → In (w.alloc (.cells #[.bool c, .int .i64 x, .int .i64 n, .pointer pl, .pointer pr] 118)) (some ⟨w.heap.size, 0, none⟩) (.node c x tl tr) :=
    fun n a => In.new hl hr a
  have FIN := Lib.hid fin
  clear fin
  go_enter Try.func100, Try.ntmps100
  go_wp2_with fail
  refine (size_any tl pl _ hl).mono ?_
  rintro e w' ⟨rfl, rfl⟩
  go_wp2_with fail
  refine (size_any tr pr _ hr).mono ?_
  rintro e w' ⟨rfl, rfl⟩
  go_wp2_with fail
  go_ret
  exact ⟨_, rfl, FIN.out _ (by simp [size]), (Below.refl _ _).alloc (Nat.le_refl _) _⟩

set_option maxHeartbeats 800000 in
theorem three_any (a b c d : ST) (x y z : Int) (pa pb pc pd : Option Addr) (w : World) (ha : In w pa a) (hb : In w pb b) (hc : In w pc c) (hd : In w pd d) (hs : a.size + b.size + c.size + d.size ≤ 1152921504606846976) :
    Calls Try.prog 133 #[.pointer pa, .int .i64 x, .pointer pb, .int .i64 y, .pointer pc, .int .i64 z, .pointer pd] w fun e w' => ∃ q, e = .returned (.pointer q) ∧ In w' q (three a x b y c z d) ∧ Below w.heap.size w w' := by
  go_enter Try.func133, Try.ntmps133
  go_wp2_with fail
  refine (made_any false a b x pa pb _ ha hb (by omega)).mono ?_
  rintro e w1 ⟨p1, rfl, h1, b1⟩
  go_wp2_with fail
  refine (made_any false c d z pc pd _ (hc.below b1) (hd.below b1) (by omega)).mono ?_
  rintro e w2 ⟨p2, rfl, h2, b2⟩
  go_wp2_with fail
  refine (made_any true (.node false x a b) (.node false z c d) y p1 p2 _ (h1.below b2) h2 (by simp only [size]; omega)).mono ?_
  rintro e w3 ⟨p3, rfl, h3, b3⟩
  go_wp2_with fail
  go_ret
  exact ⟨_, rfl, h3, below_then b1 (below_then b2 b3)⟩
end Go.Proofs.Ythokmfonedfmfaa.RED
