/-
  The five sets in their boxes, by the numbers that they have. Conditions: none.
-/
import Derived.Test.YthokmfonedfmfaaMAvlD
import Derived.Test.YthokmfonedfmfaaMRedC
import Derived.Test.YthokmfonedfmfaaMWbB
import Derived.Test.YthokmfonedfmfaaMTrB
import Derived.Test.YthokmfonedfmfaaMSplD
namespace Go.Proofs.Ythokmfonedfmfaa
open Go.RowKit Go.Deep
set_option linter.unusedVariables false
def dropL (xs : List Int) (x : Int) : List Int := xs.filter fun z => decide (z ≠ x)
theorem dropL_length (xs : List Int) (x : Int) : (dropL xs x).length ≤ xs.length := List.length_filter_le _ _
namespace AVL
open Go.Proofs.Ythokmfonedfmfaa.ST
/-- A set in its box. -/
def Bx (w : World) (B : Nat) (xs : List Int) : Prop := ∃ (t : ST) (q : Option Addr), Fit t ∧ t.toL = xs ∧ In w q t ∧ w.heap[B]? = some (.cells #[.pointer q] 53 (0, 0))
theorem Bx.below {w w' : World} {B : Nat} {xs : List Int} (h : Bx w B xs) (hb : Below w.heap.size w w') : Bx w' B xs := by
  obtain ⟨t, q, h1, h2, h3, h4⟩ := h
  exact ⟨t, q, h1, h2, h3.below hb, blk_below h4 hb⟩
theorem Bx.far {w : World} {B G : Nat} {xs : List Int} {c : Array Value} {T : TypeId} {v : Value} (h : Bx w B xs) (hG : w.heap[G]? = some (.cells c T (0, 0))) (hT : T ≠ 125) (hne : B ≠ G) : Bx (w.setCell ⟨G, 0, none⟩ v) B xs := by
  obtain ⟨t, q, h1, h2, h3, h4⟩ := h
  exact ⟨t, q, h1, h2, h3.keep (.setCell hG hT), blk_far h4 hne⟩
theorem put_list {t : ST} (h : Fit t) (x : Int) : (put t x).toL = onceL (t.toL ++ [x]) :=
  once_unique (put_good h x).bst fun z => by rw [put_mem h]; simp [or_comm]
theorem drop_list {t : ST} (h : Fit t) (x : Int) : (drop t x).toL = dropL t.toL x :=
  srise_unique (drop_good h x).bst (List.Pairwise.filter _ h.bst) fun z => by rw [drop_mem h]; simp [dropL, and_comm]
end AVL
namespace RED
open Go.Proofs.Ythokmfonedfmfaa.ST
/-- A set in its box. -/
def Bx (w : World) (B : Nat) (xs : List Int) : Prop := ∃ (t : ST) (q : Option Addr), Fit t ∧ t.toL = xs ∧ In w q t ∧ w.heap[B]? = some (.cells #[.pointer q] 56 (0, 0))
theorem Bx.below {w w' : World} {B : Nat} {xs : List Int} (h : Bx w B xs) (hb : Below w.heap.size w w') : Bx w' B xs := by
  obtain ⟨t, q, h1, h2, h3, h4⟩ := h
  exact ⟨t, q, h1, h2, h3.below hb, blk_below h4 hb⟩
theorem Bx.far {w : World} {B G : Nat} {xs : List Int} {c : Array Value} {T : TypeId} {v : Value} (h : Bx w B xs) (hG : w.heap[G]? = some (.cells c T (0, 0))) (hT : T ≠ 118) (hne : B ≠ G) : Bx (w.setCell ⟨G, 0, none⟩ v) B xs := by
  obtain ⟨t, q, h1, h2, h3, h4⟩ := h
  exact ⟨t, q, h1, h2, h3.keep (.setCell hG hT), blk_far h4 hne⟩
theorem put_list {t : ST} (h : Fit t) (x : Int) : (put t x).toL = onceL (t.toL ++ [x]) :=
  once_unique (put_good h x).bst fun z => by rw [put_mem h]; simp [or_comm]
theorem drop_list {t : ST} (h : Fit t) (x : Int) : (drop t x).toL = dropL t.toL x :=
  srise_unique (drop_good h x).bst (List.Pairwise.filter _ h.bst) fun z => by rw [drop_mem h]; simp [dropL, and_comm]
end RED
namespace WBT
open Go.Proofs.Ythokmfonedfmfaa.ST
/-- A set in its box. -/
def Bx (w : World) (B : Nat) (xs : List Int) : Prop := ∃ (t : ST) (q : Option Addr), Fit t ∧ t.toL = xs ∧ In w q t ∧ w.heap[B]? = some (.cells #[.pointer q] 59 (0, 0))
theorem Bx.below {w w' : World} {B : Nat} {xs : List Int} (h : Bx w B xs) (hb : Below w.heap.size w w') : Bx w' B xs := by
  obtain ⟨t, q, h1, h2, h3, h4⟩ := h
  exact ⟨t, q, h1, h2, h3.below hb, blk_below h4 hb⟩
theorem Bx.far {w : World} {B G : Nat} {xs : List Int} {c : Array Value} {T : TypeId} {v : Value} (h : Bx w B xs) (hG : w.heap[G]? = some (.cells c T (0, 0))) (hT : T ≠ 163) (hne : B ≠ G) : Bx (w.setCell ⟨G, 0, none⟩ v) B xs := by
  obtain ⟨t, q, h1, h2, h3, h4⟩ := h
  exact ⟨t, q, h1, h2, h3.keep (.setCell hG hT), blk_far h4 hne⟩
theorem put_list {t : ST} (h : Fit t) (x : Int) : (put t x).toL = onceL (t.toL ++ [x]) :=
  once_unique (put_good h x).bst fun z => by rw [put_mem h]; simp [or_comm]
theorem drop_list {t : ST} (h : Fit t) (x : Int) : (drop t x).toL = dropL t.toL x :=
  srise_unique (drop_good h x).bst (List.Pairwise.filter _ h.bst) fun z => by rw [drop_mem h]; simp [dropL, and_comm]
end WBT
namespace TRP
open Go.Proofs.Ythokmfonedfmfaa.ST
/-- A set in its box. -/
def Bx (w : World) (B : Nat) (xs : List Int) : Prop := ∃ (t : ST) (q : Option Addr), Fit t ∧ t.toL = xs ∧ In w q t ∧ w.heap[B]? = some (.cells #[.pointer q] 62 (0, 0))
theorem Bx.below {w w' : World} {B : Nat} {xs : List Int} (h : Bx w B xs) (hb : Below w.heap.size w w') : Bx w' B xs := by
  obtain ⟨t, q, h1, h2, h3, h4⟩ := h
  exact ⟨t, q, h1, h2, h3.below hb, blk_below h4 hb⟩
theorem Bx.far {w : World} {B G : Nat} {xs : List Int} {c : Array Value} {T : TypeId} {v : Value} (h : Bx w B xs) (hG : w.heap[G]? = some (.cells c T (0, 0))) (hT : T ≠ 129) (hne : B ≠ G) : Bx (w.setCell ⟨G, 0, none⟩ v) B xs := by
  obtain ⟨t, q, h1, h2, h3, h4⟩ := h
  exact ⟨t, q, h1, h2, h3.keep (.setCell hG hT), blk_far h4 hne⟩
theorem put_list {t : ST} (h : Fit t) (x : Int) : (put t x).toL = onceL (t.toL ++ [x]) :=
  once_unique (put_good h x).bst fun z => by rw [put_mem h]; simp [or_comm]
theorem drop_list {t : ST} (h : Fit t) (x : Int) : (drop t x).toL = dropL t.toL x :=
  srise_unique (drop_good h x).bst (List.Pairwise.filter _ h.bst) fun z => by rw [drop_mem h]; simp [dropL, and_comm]
end TRP
namespace SPL
open Go.Proofs.Ythokmfonedfmfaa.ST
/-- A set in its box. -/
def Bx (w : World) (B : Nat) (xs : List Int) : Prop := ∃ (t : ST) (q : Option Addr), Fit t ∧ t.toL = xs ∧ In w q t ∧ w.heap[B]? = some (.cells #[.pointer q] 65 (0, 0))
theorem Bx.below {w w' : World} {B : Nat} {xs : List Int} (h : Bx w B xs) (hb : Below w.heap.size w w') : Bx w' B xs := by
  obtain ⟨t, q, h1, h2, h3, h4⟩ := h
  exact ⟨t, q, h1, h2, h3.below hb, blk_below h4 hb⟩
theorem Bx.far {w : World} {B G : Nat} {xs : List Int} {c : Array Value} {T : TypeId} {v : Value} (h : Bx w B xs) (hG : w.heap[G]? = some (.cells c T (0, 0))) (hT : T ≠ 115) (hne : B ≠ G) : Bx (w.setCell ⟨G, 0, none⟩ v) B xs := by
  obtain ⟨t, q, h1, h2, h3, h4⟩ := h
  exact ⟨t, q, h1, h2, h3.keep (.setCell hG hT), blk_far h4 hne⟩
theorem put_list {t : ST} (h : Fit t) (x : Int) : (put t x).toL = onceL (t.toL ++ [x]) :=
  once_unique (put_good h x).bst fun z => by rw [put_mem h]; simp [or_comm]
theorem drop_list {t : ST} (h : Fit t) (x : Int) : (drop t x).toL = dropL t.toL x :=
  srise_unique (drop_good h x).bst (List.Pairwise.filter _ h.bst) fun z => by rw [drop_mem h]; simp [dropL, and_comm]
end SPL
end Go.Proofs.Ythokmfonedfmfaa
