/-
  Queues: the fact that each law asks first. Conditions: none.
-/
import Derived.Test.YthjghbifcnfcmaaQueueOps
namespace Go.Proofs.Ythjghbifcnfcmaa
open Go.RowKit Go.Deep Go.BigFrame
set_option linter.unusedVariables false
namespace QU
open LI
theorem In.drew {w : World} {p q : Option Addr} {m k : Int} {zs : List Int} (h : In w p m q k zs) : In w.drew p m q k zs := h.below (Below.refl _ _).drew
theorem In.drewN {w : World} {p q : Option Addr} {m k : Int} {zs : List Int} (h : In w p m q k zs) (n : Nat) : In (w.drewN n) p m q k zs := h.below (below_drewN (Below.refl _ _) n)
theorem Box.below {w w' : World} {G : Nat} {p q : Option Addr} {m k : Int} (h : Box w G p m q k) (hb : Below w.heap.size w w') : Box w' G p m q k := blk_below h hb
theorem Box.new (w : World) (p q : Option Addr) (m k : Int) : Box (w.alloc (.cells #[.pointer p, .int .i64 m, .pointer q, .int .i64 k] 28)) w.heap.size p m q k := heap_alloc_new _ _
set_option maxHeartbeats 2000000 in
theorem queued_any (w : World) : Calls Try.prog 9 #[] w fun e w' => e = .returned (.bool true) ∧ Below w.heap.size w w' := by
  go_enter Try.func9, Try.ntmps9
  go_wp2_with fail
  refine (push_any 5 none 0 none 0 [] _ (In.nil _) (by decide)).mono ?_
  rintro e w1 ⟨p1, m1, q1, k1, rfl, h1, b1⟩
  obtain ⟨b1, _⟩ := hold1 b1 ⟨rfl, rfl, rfl, rfl⟩
  go_wp2_with fail
  refine (push_any 3 p1 m1 q1 k1 _ _ h1 (by decide)).mono ?_
  rintro e w2 ⟨p2, m2, q2, k2, rfl, h2, b2⟩
  replace b2 := below_then b1 b2
  go_wp2_with fail
  refine (pop_cons 5 p2 m2 q2 k2 [3] _ h2 (by decide)).mono ?_
  rintro e w3 ⟨p3, m3, q3, k3, rfl, h3, b3⟩
  replace b3 := below_then b2 b3
  go_wp2_with fail
  refine (len_any p3 m3 q3 k3 [3] _ (h3.alloc _) (by decide)).mono ?_
  rintro e w4 ⟨rfl, b4⟩
  obtain ⟨b4, _⟩ := hold1 b4 ⟨rfl, rfl, rfl, rfl⟩
  go_wp2_with fail
  go_ret
  exact ⟨rfl, below_then b3 b4⟩
end QU
end Go.Proofs.Ythjghbifcnfcmaa
