/-
  Red: the words that the laws use. Conditions: sizes below 2^44.
-/
import Derived.Test.YtchglmgbnmdffaaRedInts
import Derived.Test.YtchglmgbnmdffaaRedOps
import Derived.Test.YtchglmgbnmdffaaTreeLaw
namespace Go.Proofs.Ytchglmgbnmdffaa.RED
open Go.RowKit Go.Deep
open Go.Proofs.Ytchglmgbnmdffaa Go.Proofs.Ytchglmgbnmdffaa.ST

def Fit (t : ST) : Prop := t.Bst ∧ Fine t
theorem Fit.bst {t : ST} (h : Fit t) : t.Bst := h.1
theorem good_nil : Fit .nil := ⟨bst_nil, trivial, rfl⟩
theorem put_good {t : ST} (h : Fit t) (x : Int) : Fit (put t x) := ⟨(put_spec t x h.1).1, put_fine x h.2⟩
theorem drop_good {t : ST} (h : Fit t) (x : Int) : Fit (drop t x) := ⟨(drop_spec t x h.1).1, drop_fine x h.2⟩
theorem put_mem {t : ST} (h : Fit t) (x : Int) : ∀ y, y ∈ (put t x).toL ↔ y = x ∨ y ∈ t.toL := (put_spec t x h.1).2
theorem drop_mem {t : ST} (h : Fit t) (x : Int) : ∀ y, y ∈ (drop t x).toL ↔ y ≠ x ∧ y ∈ t.toL := (drop_spec t x h.1).2
theorem ofL_good (l : List Int) : Fit (ofL l) := ⟨(ofL_spec l).1, (ofL_spec l).2.1⟩
theorem ofL_mem (l : List Int) : ∀ y, y ∈ (ofL l).toL ↔ y ∈ l := (ofL_spec l).2.2

theorem ints_sl (t : ST) (p : Option Addr) (w : World) (h : In w p t) (hs : t.size ≤ 17592186044416) :
    Calls Try.prog 39 #[.agg #[.pointer p]] w fun e w' => ∃ a m c, e = .returned (.slice a m c) ∧ Sl w' a m c t.toL ∧ Below w.heap.size w w' :=
  (ints_any t p w h hs).mono fun e w' ⟨v, he, ho, hb⟩ => by
    obtain ⟨a, c, hv, hs⟩ := Sl.of_own ho
    exact ⟨a, _, c, by rw [he, hv], hs, hb⟩
theorem has_b (t : ST) (x : Int) (b : Bool) (p : Option Addr) (w : World) (h : In w p t) (hg : Fit t) (_hs : t.size ≤ 17592186044417) (hb : decide (x ∈ t.toL) = b) :
    Calls Try.prog 42 #[.agg #[.pointer p], .int .i64 x] w fun e w' => e = .returned (.bool b) ∧ Below w.heap.size w w' :=
  (has_set t x p w h hg.bst).mono fun e w' ⟨he, hw⟩ => ⟨by rw [he, hb], hw⟩
theorem ofL_once (l : List Int) : (ofL l).toL = onceL l := once_unique (ofL_good l).bst (ofL_mem l)
end Go.Proofs.Ytchglmgbnmdffaa.RED
