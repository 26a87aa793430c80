/-
  Slices of whatever one-cell values: what they read as. Conditions: none.
-/
import Derived.Test.YtajbmikicbddiaaBase
namespace Go.Proofs.Ytajbmikicbddiaa
open Go.RowKit

/-- A slice of one-cell values reads as a list. -/
structure Vl (w : World) (a : Option Addr) (len cap : Nat) (vs : List Value) : Prop where
  hlen : vs.length = len
  hcap : len ≤ cap
  hmax : cap ≤ maxLen
  hat : 0 < len → ∃ b off, a = some ⟨b, off, none⟩ ∧ b < w.heap.size ∧ ∀ j, j < len → w.cell? ⟨b, off + j, none⟩ = vs[j]?
theorem Vl.below {w w' : World} {a : Option Addr} {len cap : Nat} {vs : List Value} (h : Vl w a len cap vs) (hb : Below w.heap.size w w') : Vl w' a len cap vs :=
  ⟨h.hlen, h.hcap, h.hmax, fun hl => by
    obtain ⟨b, off, e, hlt, hc⟩ := h.hat hl
    exact ⟨b, off, e, Nat.lt_of_lt_of_le hlt hb.size, fun j hj => (hb.cell (p := ⟨b, off + j, none⟩) hlt).trans (hc j hj)⟩⟩
theorem Vl.drew {w : World} {a : Option Addr} {n c : Nat} {vs : List Value} (h : Vl w a n c vs) : Vl w.drew a n c vs := h.below (Below.refl _ _).drew
theorem Vl.drewN {w : World} {a : Option Addr} {n c : Nat} {vs : List Value} (h : Vl w a n c vs) (k : Nat) : Vl (w.drewN k) a n c vs := h.below (below_drewN (Below.refl _ _) k)
theorem Vl.alloc {w : World} {a : Option Addr} {n c : Nat} {vs : List Value} (h : Vl w a n c vs) (o : Obj) : Vl (w.alloc o) a n c vs := h.below ((Below.refl _ _).alloc (Nat.le_refl _) _)
theorem Vl.nil (w : World) : Vl w none 0 0 [] := ⟨rfl, Nat.le_refl _, Nat.zero_le _, fun h => absurd h (Nat.lt_irrefl _)⟩
theorem Vl.of_own {w : World} {base : Nat} {e : TypeId} {v : Value} {n : Nat} {vs : List Value} (h : w.ownsRow base e 1 v n vs) : ∃ a cap, v = .slice a n cap ∧ Vl w a n cap vs := by
  have hlen : vs.length = n := by have := h.1; simpa using this
  rcases h.2 with ⟨rfl, rfl⟩ | ⟨g, cap, cur, rfl, hg, hh, hn, hcap, hsz, htake⟩
  · have : vs = [] := List.eq_nil_of_length_eq_zero hlen
    subst this
    exact ⟨none, 0, rfl, Vl.nil w⟩
  · refine ⟨_, cap, rfl, hlen, hn, hcap, fun hl => ⟨g, 0, rfl, (Array.getElem?_eq_some_iff.1 hh).1, fun j hj => ?_⟩⟩
    have hu : vs[j]? = some vs[j] := List.getElem?_eq_getElem (by omega)
    have := h.cells (g := g) rfl j _ hu
    have hadd : (⟨g, 0, none⟩ : Addr).add j = ⟨g, 0 + j, none⟩ := by
      unfold Addr.add
      split <;> simp_all
    rw [hadd] at this
    rw [this, hu]
theorem Vl.front {w : World} {a : Option Addr} {n c : Nat} {vs : List Value} (h : Vl w a n c vs) {k : Nat} (hk : k ≤ n) : Vl w a k c (vs.take k) :=
  ⟨by rw [List.length_take, h.hlen]; omega, by have := h.hcap; omega, h.hmax, fun h0 => by
    obtain ⟨b, off, e, hb, hc⟩ := h.hat (by omega)
    refine ⟨b, off, e, hb, fun j hj => ?_⟩
    rw [hc j (by omega), List.getElem?_take, if_pos hj]⟩
/-- Pointers that lead to things, one by one. -/
def Each {T : Type} (R : Option Addr → T → Prop) : List (Option Addr) → List T → Prop
  | [], [] => True
  | p :: ps, t :: ts => R p t ∧ Each R ps ts
  | _, _ => False
theorem Each.length {T : Type} {R : Option Addr → T → Prop} : ∀ {ps : List (Option Addr)} {ts : List T}, Each R ps ts → ps.length = ts.length := by
  intro ps
  induction ps with
  | nil =>
    intro ts h
    cases ts with
    | nil => rfl
    | cons t ts => exact h.elim
  | cons p ps ih =>
    intro ts h
    cases ts with
    | nil => exact h.elim
    | cons t ts => simp only [List.length_cons]; rw [ih h.2]
theorem Each.imp {T : Type} {R S : Option Addr → T → Prop} (hRS : ∀ p t, R p t → S p t) : ∀ {ps : List (Option Addr)} {ts : List T}, Each R ps ts → Each S ps ts := by
  intro ps
  induction ps with
  | nil =>
    intro ts h
    cases ts with
    | nil => exact trivial
    | cons t ts => exact h.elim
  | cons p ps ih =>
    intro ts h
    cases ts with
    | nil => exact h.elim
    | cons t ts => exact ⟨hRS _ _ h.1, ih h.2⟩
theorem Each.append {T : Type} {R : Option Addr → T → Prop} : ∀ {ps : List (Option Addr)} {ts : List T} {qs : List (Option Addr)} {us : List T}, Each R ps ts → Each R qs us → Each R (ps ++ qs) (ts ++ us) := by
  intro ps
  induction ps with
  | nil =>
    intro ts qs us h k
    cases ts with
    | nil => exact k
    | cons t ts => exact h.elim
  | cons p ps ih =>
    intro ts qs us h k
    cases ts with
    | nil => exact h.elim
    | cons t ts => exact ⟨h.1, ih h.2 k⟩
theorem Each.snoc {T : Type} {R : Option Addr → T → Prop} {ps : List (Option Addr)} {ts : List T} {p : Option Addr} {t : T} (h : Each R ps ts) (k : R p t) : Each R (ps ++ [p]) (ts ++ [t]) := h.append ⟨k, trivial⟩
theorem Each.get {T : Type} {R : Option Addr → T → Prop} : ∀ {ps : List (Option Addr)} {ts : List T} {i : Nat} {t : T}, Each R ps ts → ts[i]? = some t → ∃ p, ps[i]? = some p ∧ R p t := by
  intro ps
  induction ps with
  | nil =>
    intro ts i t h k
    cases ts with
    | nil => simp at k
    | cons t ts => exact h.elim
  | cons p ps ih =>
    intro ts i t h k
    cases ts with
    | nil => exact h.elim
    | cons u ts =>
      cases i with
      | zero => simp at k; subst k; exact ⟨p, rfl, h.1⟩
      | succ i => simp at k; simpa using ih h.2 k
theorem Each.take {T : Type} {R : Option Addr → T → Prop} : ∀ {ps : List (Option Addr)} {ts : List T} (i : Nat), Each R ps ts → Each R (ps.take i) (ts.take i) := by
  intro ps
  induction ps with
  | nil =>
    intro ts i h
    cases ts with
    | nil => simp; exact trivial
    | cons t ts => exact h.elim
  | cons p ps ih =>
    intro ts i h
    cases ts with
    | nil => exact h.elim
    | cons u ts =>
      cases i with
      | zero => exact trivial
      | succ i => exact ⟨h.1, ih i h.2⟩
theorem Each.drop {T : Type} {R : Option Addr → T → Prop} : ∀ {ps : List (Option Addr)} {ts : List T} (i : Nat), Each R ps ts → Each R (ps.drop i) (ts.drop i) := by
  intro ps
  induction ps with
  | nil =>
    intro ts i h
    cases ts with
    | nil => simp; exact trivial
    | cons t ts => exact h.elim
  | cons p ps ih =>
    intro ts i h
    cases ts with
    | nil => exact h.elim
    | cons u ts =>
      cases i with
      | zero => exact h
      | succ i => exact ih i h.2
theorem Each.reverse {T : Type} {R : Option Addr → T → Prop} : ∀ {ps : List (Option Addr)} {ts : List T}, Each R ps ts → Each R ps.reverse ts.reverse := by
  intro ps
  induction ps with
  | nil =>
    intro ts h
    cases ts with
    | nil => exact trivial
    | cons t ts => exact h.elim
  | cons p ps ih =>
    intro ts h
    cases ts with
    | nil => exact h.elim
    | cons u ts =>
      rw [List.reverse_cons, List.reverse_cons]
      exact (ih h.2).snoc h.1
end Go.Proofs.Ytajbmikicbddiaa
