/-
  Treap: the words that the laws use. Conditions: sizes below 2^44.
-/
import Derived.Test.YtdhknhhahdjeeaaTreapInts
import Derived.Test.YtdhknhhahdjeeaaTreapOps
import Derived.Test.YtdhknhhahdjeeaaTreeLaw
namespace Go.Proofs.Ytdhknhhahdjeeaa.TRP
open Go.RowKit Go.Deep
open Go.Proofs.Ytdhknhhahdjeeaa Go.Proofs.Ytdhknhhahdjeeaa.ST

def Fit (t : ST) : Prop := TRP0.Tp prioI t
theorem Fit.bst {t : ST} (h : Fit t) : t.Bst := TRP0.Tp.bst h
theorem good_nil : Fit .nil := TRP0.tp_nil _
theorem put_good {t : ST} (h : Fit t) (x : Int) : Fit (put t x) := (TRP0.put_tp h x).1
theorem drop_good {t : ST} (h : Fit t) (x : Int) : Fit (drop t x) := (TRP0.drop_tp h x).1
theorem put_mem {t : ST} (h : Fit t) (x : Int) : ∀ y, y ∈ (put t x).toL ↔ y = x ∨ y ∈ t.toL := (TRP0.put_tp h x).2
theorem drop_mem {t : ST} (h : Fit t) (x : Int) : ∀ y, y ∈ (drop t x).toL ↔ y ≠ x ∧ y ∈ t.toL := (TRP0.drop_tp h x).2
theorem ofL_good (l : List Int) : Fit (ofL l) := (TRP0.ofL_tp _ l).1
theorem ofL_mem (l : List Int) : ∀ y, y ∈ (ofL l).toL ↔ y ∈ l := (TRP0.ofL_tp _ l).2

theorem ints_sl (t : ST) (p : Option Addr) (w : World) (h : In w p t) (hs : t.size ≤ 17592186044416) :
    Calls Try.prog 28 #[.agg #[.pointer p]] w fun e w' => ∃ a m c, e = .returned (.slice a m c) ∧ Sl w' a m c t.toL ∧ Below w.heap.size w w' :=
  (ints_any t p w h hs).mono fun e w' ⟨v, he, ho, hb⟩ => by
    obtain ⟨a, c, hv, hs⟩ := Sl.of_own ho
    exact ⟨a, _, c, by rw [he, hv], hs, hb⟩
theorem has_b (t : ST) (x : Int) (b : Bool) (p : Option Addr) (w : World) (h : In w p t) (hg : Fit t) (hs : t.size ≤ 17592186044417) (hb : decide (x ∈ t.toL) = b) :
    Calls Try.prog 31 #[.agg #[.pointer p], .int .i64 x] w fun e w' => e = .returned (.bool b) ∧ Below w.heap.size w w' :=
  (has_set t x p w h hg.bst (by omega)).mono fun e w' ⟨he, hw⟩ => ⟨by rw [he, hb], hw⟩
theorem ofL_once (l : List Int) : (ofL l).toL = onceL l := once_unique (ofL_good l).bst (ofL_mem l)
end Go.Proofs.Ytdhknhhahdjeeaa.TRP
