/-
  Treap: the union. Conditions: sizes below 2^62.
-/
import Derived.Test.YtdhknhhahdjeeaaTreapUnion
namespace Go.Proofs.Ytdhknhhahdjeeaa.TRP
open Go.RowKit Go.Deep
open Go.Proofs.Ytdhknhhahdjeeaa Go.Proofs.Ytdhknhhahdjeeaa.ST
open Go.Proofs.Ytdhknhhahdjeeaa.TRP0 (mk split Tp Hp Plain)

set_option maxHeartbeats 800000 in
theorem union_set (t u : ST) (p q : Option Addr) (w : World) (h : In w p t) (h' : In w q u) (hs : t.size + u.size ≤ 1152921504606846976) :
    Calls Try.prog 35 #[.agg #[.pointer p], .agg #[.pointer q]] w fun e w' => ∃ r, e = .returned (.agg #[.pointer r]) ∧ In w' r (union t u) ∧ Below w.heap.size w w' := by
  go_enter Try.func35, Try.ntmps35
  go_wp2_with fail
  refine (union_any t u p q _ (((h.alloc _).alloc _).alloc _) (((h'.alloc _).alloc _).alloc _) (by omega)).mono ?_
  rintro e w1 ⟨p1, rfl, hi1, hb1⟩
  obtain ⟨hb1, x0, x1, x2⟩ := hold3 hb1 ⟨rfl, rfl, rfl, rfl⟩
  obtain ⟨c0, c1, c2⟩ := blk x2
  have c0' := c0 0
  have f0' := c1 0
  clear c0 c1
  go_wp2_with fail
  refine bodyPost_ret (v := .agg #[.pointer p1]) (by simp [results, Try.results35, go_sem, c0']) rfl ⟨_, rfl, hi1.keep (.setCell x2 (by decide)), hb1.setCell (p := ⟨w.heap.size + 1 + 1, 0, none⟩) (by simp; omega) _⟩
end Go.Proofs.Ytdhknhhahdjeeaa.TRP
