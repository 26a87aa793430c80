/-
  Slices of told nodes; how high a told tree is, and how many it has. Conditions: none.
-/
import Derived.Test.YtchglmgbnmdffaaWords
import Derived.Test.YtchglmgbnmdffaaQuiet
import Derived.Test.YtchglmgbnmdffaaShapePlain
import Derived.Deep.QuietTactic
import Derived.BigQuiet
namespace Go.Proofs.Ytchglmgbnmdffaa
open Go.RowKit Go.Deep

/-- A slice of nodes reads as a list. -/
structure Nl (w : World) (a : Option Addr) (len cap : Nat) (S : List Nd) : Prop where
  hlen : S.length = len
  hcap : len ≤ cap
  hmax : cap ≤ maxLen
  hat : 0 < len → ∃ b off, a = some ⟨b, off, none⟩ ∧ b < w.heap.size ∧ ∀ (j : Nat) (d : Nd), S[j]? = some d →
    w.cell? ⟨b, off + j * 4, none⟩ = some (.int .i64 d.key) ∧ w.cell? ⟨b, off + j * 4 + 1, none⟩ = some (.int .i64 d.left) ∧ w.cell? ⟨b, off + j * 4 + 2, none⟩ = some (.int .i64 d.right) ∧ w.cell? ⟨b, off + j * 4 + 3, none⟩ = some (.int .i64 d.mark)
theorem Nl.below {w w' : World} {a : Option Addr} {len cap : Nat} {S : List Nd} (h : Nl w a len cap S) (hb : Below w.heap.size w w') : Nl w' a len cap S :=
  ⟨h.hlen, h.hcap, h.hmax, fun hl => by
    obtain ⟨b, off, e, hlt, hc⟩ := h.hat hl
    refine ⟨b, off, e, Nat.lt_of_lt_of_le hlt hb.size, fun j d hj => ?_⟩
    obtain ⟨c0, c1, c2, c3⟩ := hc j d hj
    exact ⟨(hb.cell (p := ⟨b, _, none⟩) hlt).trans c0, (hb.cell (p := ⟨b, _, none⟩) hlt).trans c1, (hb.cell (p := ⟨b, _, none⟩) hlt).trans c2, (hb.cell (p := ⟨b, _, none⟩) hlt).trans c3⟩⟩
theorem Nl.drew {w : World} {a : Option Addr} {n c : Nat} {S : List Nd} (h : Nl w a n c S) : Nl w.drew a n c S := h.below (Below.refl _ _).drew
theorem Nl.drewN {w : World} {a : Option Addr} {n c : Nat} {S : List Nd} (h : Nl w a n c S) (k : Nat) : Nl (w.drewN k) a n c S := h.below (below_drewN (Below.refl _ _) k)
theorem Nl.alloc {w : World} {a : Option Addr} {n c : Nat} {S : List Nd} (h : Nl w a n c S) (o : Obj) : Nl (w.alloc o) a n c S := h.below ((Below.refl _ _).alloc (Nat.le_refl _) _)
theorem Nl.nil (w : World) : Nl w none 0 0 [] := ⟨rfl, Nat.le_refl _, Nat.zero_le _, fun h => absurd h (Nat.lt_irrefl _)⟩
def nodeCells (d : Nd) : List Value := [.int .i64 d.key, .int .i64 d.left, .int .i64 d.right, .int .i64 d.mark]
def nodesCells (S : List Nd) : List Value := S.flatMap nodeCells
theorem nodesCells_length (S : List Nd) : (nodesCells S).length = S.length * 4 := by
  induction S with
  | nil => rfl
  | cons d S ih => simp only [nodesCells, List.flatMap_cons, List.length_append, List.length_cons] at *; rw [ih]; simp [nodeCells]; omega
theorem nodesCells_append (S T : List Nd) : nodesCells (S ++ T) = nodesCells S ++ nodesCells T := List.flatMap_append
theorem nodesCells_get (S : List Nd) : ∀ (j : Nat) (d : Nd), S[j]? = some d → ∀ i, i < 4 → (nodesCells S)[j * 4 + i]? = (nodeCells d)[i]? := by
  induction S with
  | nil => intro j d h; simp at h
  | cons x S ih =>
    intro j d h i hi
    have e : nodesCells (x :: S) = nodeCells x ++ nodesCells S := rfl
    have el : (nodeCells x).length = 4 := rfl
    cases j with
    | zero =>
      simp at h
      subst h
      rw [e, List.getElem?_append_left (by rw [el]; omega)]
      congr 1
      omega
    | succ j =>
      simp at h
      rw [e, List.getElem?_append_right (by rw [el]; omega), el, ← ih j d h i hi]
      congr 1
      omega
/-- What the call itself has built. -/
theorem Nl.of_own {w : World} {base : Nat} {e : TypeId} {v : Value} {n : Nat} {S : List Nd} (h : w.ownsRow base e 4 v n (nodesCells S)) :
    ∃ a cap, v = .slice a n cap ∧ Nl w a n cap S := by
  have hlen : S.length = n := by have := h.1; rw [nodesCells_length] at this; omega
  have h2 := h.2
  rcases h2 with ⟨rfl, h0⟩ | ⟨g, cap, cur, rfl, hg, hh, hn, hcap, hsz, htake⟩
  · have : S = [] := List.eq_nil_of_length_eq_zero (by omega)
    subst this
    subst h0
    exact ⟨none, 0, rfl, Nl.nil w⟩
  · refine ⟨_, cap, rfl, hlen, hn, hcap, fun hl => ⟨g, 0, rfl, (Array.getElem?_eq_some_iff.1 hh).1, fun j d hj => ?_⟩⟩
    have key : ∀ i, i < 4 → ∀ u, (nodeCells d)[i]? = some u → w.cell? ⟨g, 0 + j * 4 + i, none⟩ = some u := fun i hi u hu => by
      have hu' : (nodesCells S)[j * 4 + i]? = some u := (nodesCells_get S j d hj i hi).trans hu
      have := h.cells (g := g) rfl (j * 4 + i) _ hu'
      have hadd : (⟨g, 0, none⟩ : Addr).add (j * 4 + i) = ⟨g, 0 + j * 4 + i, none⟩ := by
        unfold Addr.add
        split <;> simp_all <;> omega
      rw [hadd] at this
      exact this
    exact ⟨key 0 (by omega) _ rfl, key 1 (by omega) _ rfl, key 2 (by omega) _ rfl, key 3 (by omega) _ rfl⟩

theorem Try.bytesNode : (Try.prog.info? 54).map (fun i => (i.size, i.bytes)) = some (4, 32) := by kernel_rfl
end Go.Proofs.Ytchglmgbnmdffaa
