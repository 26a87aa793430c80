/-
  Binomial heaps: trees and lists of trees that lie in memory. Conditions: none.
-/
import Derived.Test.YtdeffgaghmghoaaWords
import Derived.Test.YtdeffgaghmghoaaBinoPlain
namespace Go.Proofs.Ytdeffgaghmghoaa
open Go.RowKit Go.Deep
set_option linter.unusedVariables false
namespace BN

/-- A slice of pointers to trees, by its whole block. -/
structure Pl (w : World) (a : Option Addr) (n c : Nat) (ps : List (Option Addr)) : Prop where
  hlen : ps.length = n
  hcap : n ≤ c
  hmax : c ≤ maxLen
  hat : 0 < n → ∃ b off cur, a = some ⟨b, off, none⟩ ∧ w.heap[b]? = some (.cells cur 42 (0, 0)) ∧ ∀ j, j < n → cur[off + j]? = some (.pointer (ps[j]?.getD none))
theorem Pl.nil (w : World) : Pl w none 0 0 [] := ⟨rfl, Nat.le_refl _, Nat.zero_le _, fun h => absurd h (Nat.lt_irrefl _)⟩
theorem Pl.keep {w w' : World} {a : Option Addr} {n c : Nat} {ps : List (Option Addr)} (h : Pl w a n c ps) (hk : KeepT 42 w w') : Pl w' a n c ps :=
  ⟨h.hlen, h.hcap, h.hmax, fun h0 => by
    obtain ⟨b, off, cur, e, hb, hc⟩ := h.hat h0
    exact ⟨b, off, cur, e, hk _ _ hb, hc⟩⟩
theorem Pl.below {w w' : World} {a : Option Addr} {n c : Nat} {ps : List (Option Addr)} (h : Pl w a n c ps) (hb : Below w.heap.size w w') : Pl w' a n c ps := h.keep (.of_below hb)
theorem Pl.cell {w : World} {a : Option Addr} {n c : Nat} {ps : List (Option Addr)} (h : Pl w a n c ps) (h0 : 0 < n) : ∃ b off, a = some ⟨b, off, none⟩ ∧ b < w.heap.size ∧ ∀ j, j < n → w.cell? ⟨b, off + j, none⟩ = some (.pointer (ps[j]?.getD none)) := by
  obtain ⟨b, off, cur, e, hb, hc⟩ := h.hat h0
  obtain ⟨c1, _, c3⟩ := blk hb
  exact ⟨b, off, e, c3, fun j hj => (c1 _).trans (hc j hj)⟩
theorem Pl.of_own {w : World} {base : Nat} {v : Value} {n : Nat} {ps : List (Option Addr)} (h : w.ownsRow base 42 1 v n (ps.map Value.pointer)) : ∃ a c, v = .slice a n c ∧ Pl w a n c ps := by
  have hlen : ps.length = n := by have := h.1; simpa using this
  rcases h.2 with ⟨rfl, rfl⟩ | ⟨g, cap, cur, rfl, hg, hh, hn, hcap, hsz, htake⟩
  · have : ps = [] := List.eq_nil_of_length_eq_zero hlen
    subst this
    exact ⟨none, 0, rfl, Pl.nil w⟩
  · refine ⟨_, cap, rfl, hlen, hn, hcap, fun _ => ⟨g, 0, cur, rfl, hh, fun j hj => ?_⟩⟩
    have h1 : (cur.toList.take (n * 1))[j]? = some (Value.pointer (ps[j]?.getD none)) := by
      rw [htake, List.getElem?_map, List.getElem?_eq_getElem (by omega)]
      rfl
    rw [List.getElem?_take, if_pos (by omega)] at h1
    rw [Nat.zero_add]
    simpa using h1
theorem Pl.reads {w : World} {a : Option Addr} {n c : Nat} {ps : List (Option Addr)} (h : Pl w a n c ps) : Reads w w.heap.size 1 a n (ps.map Value.pointer) := by
  refine ⟨by simpa using h.hlen, fun h0 => ?_⟩
  obtain ⟨b, off, e, hb, hc⟩ := h.cell h0
  refine ⟨_, e, hb, fun j u hu => ?_⟩
  have hj : j < n := by
    rcases Nat.lt_or_ge j n with h' | h'
    · exact h'
    · rw [List.getElem?_eq_none (by simp [h.hlen]; omega)] at hu; cases hu
  rw [List.getElem?_map, List.getElem?_eq_getElem (by have := h.hlen; omega)] at hu
  have := hc j hj
  rw [List.getElem?_eq_getElem (by have := h.hlen; omega)] at this
  have hadd : (⟨b, off, none⟩ : Addr).add j = ⟨b, off + j, none⟩ := by
    unfold Addr.add
    split <;> simp_all
  rw [hadd, this]
  simpa using hu
theorem ptr_cells (ps : List (Option Addr)) : ∀ u ∈ ps.map Value.pointer, u.oneCell' = true := by
  intro u hu
  obtain ⟨p, _, rfl⟩ := List.mem_map.1 hu
  rfl
theorem Pl.front {w : World} {a : Option Addr} {n c : Nat} {ps : List (Option Addr)} (h : Pl w a n c ps) {k : Nat} (hk : k ≤ n) : Pl w a k c (ps.take k) := by
  refine ⟨by rw [List.length_take, h.hlen]; omega, Nat.le_trans hk h.hcap, h.hmax, fun h0 => ?_⟩
  obtain ⟨b, off, cur, e, hb, hc⟩ := h.hat (by omega)
  refine ⟨b, off, cur, e, hb, fun j hj => ?_⟩
  rw [hc j (by omega), List.getElem?_take, if_pos hj]
theorem Pl.rest {w : World} {a : Option Addr} {n c : Nat} {ps : List (Option Addr)} (h : Pl w a n c ps) {k : Nat} (hk : k ≤ n) : Pl w (cutAt a c k) (n - k) (c - k) (ps.drop k) := by
  refine ⟨by rw [List.length_drop, h.hlen], by have := h.hcap; omega, by have := h.hmax; omega, fun h0 => ?_⟩
  obtain ⟨b, off, cur, e, hb, hc⟩ := h.hat (by omega)
  subst e
  have hne : ¬ c = k := by have := h.hcap; omega
  refine ⟨b, off + k, cur, ?_, hb, fun j hj => ?_⟩
  · unfold cutAt
    rw [if_neg hne]
    simp only [Option.map_some, Option.some.injEq]
    unfold Addr.add
    split <;> simp_all
  · rw [List.getElem?_drop, Nat.add_assoc]
    exact hc (k + j) (by omega)

/-- Trees in memory. -/
def InB (w : World) : List (Option Addr) → BF → Prop
  | ps, .nil => ps = []
  | ps, .cons x r k n => ∃ b qs rest a m c, ps = some ⟨b, 0, none⟩ :: rest ∧
      w.heap[b]? = some (.cells #[.int .i64 x, .int .i64 (r : Int), .slice a m c] 45 (0, 0)) ∧ Pl w a m c qs ∧ InB w qs k ∧ InB w rest n
theorem InB.keep {w w' : World} (h1 : KeepT 45 w w') (h2 : KeepT 42 w w') : ∀ {f : BF} {ps : List (Option Addr)}, InB w ps f → InB w' ps f := by
  intro f
  induction f with
  | nil => intro ps h; exact h
  | cons x r k n ihk ihn =>
    rintro ps ⟨b, qs, rest, a, m, c, e, hb, hp, hk, hn⟩
    exact ⟨b, qs, rest, a, m, c, e, h1 _ _ hb, hp.keep h2, ihk hk, ihn hn⟩
theorem InB.below {w w' : World} {f : BF} {ps : List (Option Addr)} (h : InB w ps f) (hb : Below w.heap.size w w') : InB w' ps f := h.keep (.of_below hb) (.of_below hb)
def InT (w : World) (p : Option Addr) (t : Tr) : Prop := ∃ b qs a m c, p = some ⟨b, 0, none⟩ ∧
      w.heap[b]? = some (.cells #[.int .i64 t.1, .int .i64 (t.2.1 : Int), .slice a m c] 45 (0, 0)) ∧ Pl w a m c qs ∧ InB w qs t.2.2
def InL (w : World) : List (Option Addr) → List Tr → Prop
  | [], [] => True
  | p :: ps, t :: ts => InT w p t ∧ InL w ps ts
  | _, _ => False
theorem InT.below {w w' : World} {t : Tr} {p : Option Addr} (h : InT w p t) (hb : Below w.heap.size w w') : InT w' p t := by
  obtain ⟨b, qs, a, m, c, e, h1, h2, h3⟩ := h
  exact ⟨b, qs, a, m, c, e, blk_below h1 hb, h2.below hb, h3.below hb⟩
theorem InL.below {w w' : World} : ∀ {ps : List (Option Addr)} {ts : List Tr}, InL w ps ts → Below w.heap.size w w' → InL w' ps ts
  | [], [], _, _ => trivial
  | p :: ps, t :: ts, h, hb => ⟨h.1.below hb, InL.below h.2 hb⟩
  | [], _ :: _, h, _ => h.elim
  | _ :: _, [], h, _ => h.elim
theorem InL.length {w : World} : ∀ {ps : List (Option Addr)} {ts : List Tr}, InL w ps ts → ps.length = ts.length
  | [], [], _ => rfl
  | p :: ps, t :: ts, h => by simp [InL.length h.2]
  | [], _ :: _, h => h.elim
  | _ :: _, [], h => h.elim
theorem inB_inL {w : World} : ∀ {f : BF} {ps : List (Option Addr)}, InB w ps f ↔ InL w ps f.trees := by
  intro f
  induction f with
  | nil =>
    intro ps
    cases ps <;> simp [InB, InL, BF.trees]
  | cons x r k n _ ih =>
    intro ps
    constructor
    · rintro ⟨b, qs, rest, a, m, c, rfl, h1, h2, h3, h4⟩
      exact ⟨⟨b, qs, a, m, c, rfl, h1, h2, h3⟩, ih.1 h4⟩
    · intro h
      cases ps with
      | nil => exact h.elim
      | cons p ps =>
        obtain ⟨⟨b, qs, a, m, c, rfl, h1, h2, h3⟩, h4⟩ := h
        exact ⟨b, qs, ps, a, m, c, rfl, h1, h2, h3, ih.2 h4⟩
end BN
end Go.Proofs.Ytdeffgaghmghoaa
