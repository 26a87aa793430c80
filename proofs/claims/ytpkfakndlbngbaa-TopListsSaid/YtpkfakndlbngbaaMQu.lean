/-
  Quiet calls, and quiet calls behind a quiet region. Conditions: none.
  What an append to a row of the call's own leaves as it was. Conditions: none.
-/
import Derived.Test.YtpkfakndlbngbaaBase
import Derived.Test.YtpkfakndlbngbaaWords
import Derived.Deep.RegionLaw
import Derived.Laws.EntriesVeiled
namespace Go.Proofs.Ytpkfakndlbngbaa
open Go.RowKit Go.Deep
theorem quiet_left {P : Program} {f : FuncId} {args : Array Value} {w : World} {n : Nat} {v : Value}
    (h : Calls P f args (w.drewN n) fun e w' => e = .returned v ∧ w.drewN n = w') : Calls P f args (w.drewN n) fun e w'' => e = .returned v ∧ ∃ m, w'' = w.drewN m :=
  h.mono fun _ _ ⟨he, hm⟩ => ⟨he, n, hm.symm⟩
theorem quiet_add_left {P : Program} {f : FuncId} {args : Array Value} {w : World} {a n : Nat} {v : Value}
    (h : Calls P f args (w.drewN (a + n)) fun e w' => e = .returned v ∧ w.drewN (a + n) = w') :
    Calls P f args (w.drewN (a + n)) fun e w'' => e = .returned v ∧ ∃ m, w'' = w.drewN (a + m) :=
  h.mono fun _ _ ⟨he, hm⟩ => ⟨he, n, hm.symm⟩
end Go.Proofs.Ytpkfakndlbngbaa

namespace Go.Proofs.Ytpkfakndlbngbaa
open Go.RowKit Go.Deep
theorem app_keeps {w1 W w2 : World} {o : Obj} {base : Nat} {e : TypeId} {size n : Nat} {v : Value} {xs : List Value} (ho : w1.ownsRow base e size v n xs) (hg : W.grownBy w2 v.ownBlock) (hb : base ≤ w1.heap.size) (s : Same W (w1.alloc o)) :
    (∀ T, e ≠ T → KeepT T w1 w2) ∧ Below base w1 w2 := by
  have hg' : (w1.alloc o).grownBy w2 v.ownBlock := by
    obtain ⟨g1, g2, g3, g4, g5⟩ := hg
    refine ⟨g1.trans s.os, g2.trans s.tape, g3.trans s.output, by rw [← s.heap]; exact g4, fun k hk hne => ?_⟩
    rw [← s.heap] at hk ⊢
    exact g5 k hk hne
  refine ⟨fun T hT => (((KeepT.refl T w1).alloc o).trans (.of_grown (ho.alloc o) hg' hT)), below_grown ((Below.refl base w1).alloc hb o) (ho.alloc o) hg' (Nat.le_refl _) (by simp; omega)⟩
/-- A variable that holds a slice of the call's own numbers. -/
structure Rw (w : World) (B base : Nat) (v : Value) (xs : List Int) : Prop where
  blk : w.heap[B]? = some (.cells #[v] 22 (0, 0))
  own : w.ownsRow base 3 1 v xs.length (xs.map (Value.int .i64))
theorem same_refl (w : World) : Same w w := ⟨rfl, rfl, rfl, rfl⟩
theorem Rw.same {w W : World} {B base : Nat} {v : Value} {xs : List Int} (h : Rw w B base v xs) (s : Same W w) : Rw W B base v xs := by
  refine ⟨by rw [s.heap]; exact h.blk, h.own.1, ?_⟩
  rw [s.heap]
  exact h.own.2
theorem below_same {B : Nat} {X Y w1 : World} (h : Below B X w1) (s : Same X Y) : Below B Y w1 :=
  ⟨h.os.trans s.os, h.tape.trans s.tape, h.output.trans s.output, by rw [← s.heap]; exact h.size, fun k hk => by rw [← s.heap]; exact h.block k hk⟩
theorem keep_same {T : TypeId} {X Y w1 : World} (h : KeepT T X w1) (s : Same X Y) : KeepT T Y w1 := fun k c hk => h k c (by rw [s.heap]; exact hk)
theorem own_succ {W : World} {base : Nat} {e : TypeId} {size : Nat} {v : Value} {k : Nat} {xs : List Value} (h : W.ownsRow base e size v (k + 1) xs) : ∃ g cap, v = .slice (some ⟨g, 0, none⟩) (k + 1) cap := by
  rcases h.2 with ⟨h1, h0⟩ | ⟨g, cap, cur, rfl, h1⟩
  · omega
  · exact ⟨g, cap, rfl⟩
theorem own_same {w W : World} {base : Nat} {e : TypeId} {size : Nat} {v : Value} {n : Nat} {xs : List Value} (h : w.ownsRow base e size v n xs) (s : Same W w) : W.ownsRow base e size v n xs := by
  refine ⟨h.1, ?_⟩
  rw [s.heap]
  exact h.2
theorem three_3 (w : World) (o1 o2 o3 : Obj) : (((w.alloc o1).alloc o2).alloc o3).heap[w.heap.size + 1 + 1]? = some o3 := by
  have := heap_alloc_new ((w.alloc o1).alloc o2) o3
  rwa [World.size_alloc, World.size_alloc] at this
theorem three_2 (w : World) (o1 o2 o3 : Obj) : (((w.alloc o1).alloc o2).alloc o3).heap[w.heap.size + 1]? = some o2 := by
  refine (Below.heap_alloc _ _ _ (by simp)).trans ?_
  have := heap_alloc_new (w.alloc o1) o2
  rwa [World.size_alloc] at this
theorem three_b (w : World) (o1 o2 o3 : Obj) : Below w.heap.size w (((w.alloc o1).alloc o2).alloc o3) :=
  (((Below.refl _ _).alloc (Nat.le_refl _) _).alloc (by simp) _).alloc (by simp; omega) _
end Go.Proofs.Ytpkfakndlbngbaa
