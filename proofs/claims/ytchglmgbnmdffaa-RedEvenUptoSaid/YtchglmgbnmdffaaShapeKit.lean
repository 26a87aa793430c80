/-
  A variable that holds a slice of the call's own nodes. Conditions: none.
-/
import Derived.Test.YtchglmgbnmdffaaApp
import Derived.Test.YtchglmgbnmdffaaNodes
namespace Go.Proofs.Ytchglmgbnmdffaa
open Go.RowKit Go.Deep

structure Rn (w : World) (B base : Nat) (v : Value) (S : List Nd) : Prop where
  blk : w.heap[B]? = some (.cells #[v] 43 (0, 0))
  own : w.ownsRow base 54 4 v S.length (nodesCells S)
theorem Rn.same {w W : World} {B base : Nat} {v : Value} {S : List Nd} (h : Rn w B base v S) (s : Same W w) : Rn W B base v S := by
  refine ⟨by rw [s.heap]; exact h.blk, h.own.1, ?_⟩
  rw [s.heap]
  exact h.own.2
theorem own_slice {w : World} {base : Nat} {e : TypeId} {size : Nat} {v : Value} {n : Nat} {xs : List Value} (h : w.ownsRow base e size v n xs) : ∃ a c, v = .slice a n c := by
  rcases h.2 with ⟨rfl, rfl⟩ | ⟨g, cap, cur, rfl, _⟩
  · exact ⟨_, _, rfl⟩
  · exact ⟨_, _, rfl⟩
theorem own_pos {w : World} {base : Nat} {e : TypeId} {size : Nat} {v : Value} {n : Nat} {xs : List Value} (h : w.ownsRow base e size v n xs) (hn : 0 < n) : ∃ g cap, v = .slice (some ⟨g, 0, none⟩) n cap := by
  rcases h.2 with ⟨h1, h0⟩ | ⟨g, cap, cur, rfl, h1⟩
  · omega
  · exact ⟨g, cap, rfl⟩
theorem nodes_cons_length (S : List Nd) (d : Nd) (T : List Nd) : (nodesCells (S ++ d :: T)).length = S.length * 4 + 4 + T.length * 4 := by
  rw [nodesCells_length, List.length_append, List.length_cons]
  omega
theorem nodes_set (S T : List Nd) (x a b m : Int) (n : Nat) (hn : S.length = n) :
    ((nodesCells (S ++ ⟨x, 0, 0, m⟩ :: T)).set (n * 4 + 1) (.int .i64 a)).set (n * 4 + 2) (.int .i64 b) = nodesCells (S ++ ⟨x, a, b, m⟩ :: T) := by
  subst hn
  have e : ∀ d : Nd, nodesCells (S ++ d :: T) = nodesCells S ++ (nodeCells d ++ nodesCells T) := fun d => by rw [nodesCells_append]; rfl
  rw [e, e, ← nodesCells_length S, List.set_append_right _ _ (by omega), List.set_append_right _ _ (by omega)]
  congr 1
  rw [show (nodesCells S).length + 1 - (nodesCells S).length = 1 by omega, show (nodesCells S).length + 2 - (nodesCells S).length = 2 by omega]
  rfl
theorem nodes_set' (S T : List Nd) (x a b m : Int) (n : Nat) (hn : S.length = n) :
    ((nodesCells (S ++ ⟨x, 0, 0, m⟩ :: T)).set (n * 4 + 2) (.int .i64 b)).set (n * 4 + 1) (.int .i64 a) = nodesCells (S ++ ⟨x, a, b, m⟩ :: T) := by
  rw [List.set_comm _ _ (by omega)]
  exact nodes_set S T x a b m n hn
theorem node_cells_snoc (S : List Nd) (x m : Int) : nodesCells (S ++ [⟨x, 0, 0, m⟩]) = nodesCells S ++ [.int .i64 x, .int .i64 0, .int .i64 0, .int .i64 m] := by
  rw [nodesCells_append]
  rfl
theorem Try.infoNode : (Try.prog.info? 54).map (fun i => (i.zero, i.size, i.bytes)) = some (some (.agg #[.int .i64 0, .int .i64 0, .int .i64 0, .int .i64 0]), 4, 32) := by kernel_rfl
/-- Both places of a node are written, in either order. -/
theorem Rn.places {w : World} {B base g n N cap : Nat} {S T : List Nd} {x a b m : Int} (h : Rn w B base (.slice (some ⟨g, 0, none⟩) N cap) (S ++ ⟨x, 0, 0, m⟩ :: T)) (hn : S.length = n) (hB : B ≠ g)  :
    Rn ((w.setCell ⟨g, n * 4 + 1, none⟩ (.int .i64 a)).setCell ⟨g, n * 4 + 2, none⟩ (.int .i64 b)) B base (.slice (some ⟨g, 0, none⟩) N cap) (S ++ ⟨x, a, b, m⟩ :: T) ∧
      Rn ((w.setCell ⟨g, n * 4 + 2, none⟩ (.int .i64 b)).setCell ⟨g, n * 4 + 1, none⟩ (.int .i64 a)) B base (.slice (some ⟨g, 0, none⟩) N cap) (S ++ ⟨x, a, b, m⟩ :: T) := by
  have hl : (S ++ (⟨x, 0, 0, m⟩ : Nd) :: T).length = (S ++ (⟨x, a, b, m⟩ : Nd) :: T).length := by simp
  have ho := h.own
  have hN : N = (S ++ (⟨x, 0, 0, m⟩ : Nd) :: T).length := by
    rcases ho.2 with ⟨h1, _⟩ | ⟨g', cap', cur, h1, _⟩
    · cases h1
    · injection h1
  subst hN
  refine ⟨⟨blk_far (blk_far h.blk hB) hB, ?_⟩, ⟨blk_far (blk_far h.blk hB) hB, ?_⟩⟩
  · have := ((ho.stored (n * 4 + 1) (.int .i64 a)).1.stored (n * 4 + 2) (.int .i64 b)).1
    rw [nodes_set S T x a b m n hn, hl] at this
    rw [hl]
    exact this
  · have := ((ho.stored (n * 4 + 2) (.int .i64 b)).1.stored (n * 4 + 1) (.int .i64 a)).1
    rw [nodes_set' S T x a b m n hn, hl] at this
    rw [hl]
    exact this
theorem own_type {w : World} {base : Nat} {e : TypeId} {size N cap g : Nat} {xs : List Value} (h : w.ownsRow base e size (.slice (some ⟨g, 0, none⟩) N cap) N xs) : base ≤ g ∧ ∃ cur, w.heap[g]? = some (.cells cur e (0, 0)) := by
  rcases h.2 with ⟨h1, _⟩ | ⟨g', cap', cur, h1, h2, h3, _⟩
  · cases h1
  · injection h1 with h1
    injection h1 with h1
    injection h1 with h1
    subst h1
    exact ⟨h2, cur, h3⟩
end Go.Proofs.Ytchglmgbnmdffaa
