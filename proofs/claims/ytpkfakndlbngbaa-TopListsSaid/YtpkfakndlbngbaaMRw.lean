/-
  Lists of trees: a tree with another number at a place. Conditions: at most 2^60 numbers.
  Lists of trees: a list with another number at a place. Conditions: at most 2^60 numbers.
-/
import Derived.Test.YtpkfakndlbngbaaMRl
namespace Go.Proofs.Ytpkfakndlbngbaa
open Go.RowKit Go.Deep Go.BigFrame
open SK
set_option linter.unusedVariables false
namespace RA
/-- A tree in memory, its blocks all of a kind. -/
def InA (S : Nat → Prop) (w : World) : Option Addr → RT → Prop
  | p, .nil => p = none
  | p, .node x l r => ∃ b pl pr, p = some ⟨b, 0, none⟩ ∧ S b ∧ w.heap[b]? = some (.cells #[.int .i64 x, .pointer pl, .pointer pr] 69 (0, 0)) ∧ InA S w pl l ∧ InA S w pr r
theorem InA.of {S : Nat → Prop} {w : World} (hS : ∀ b, b < w.heap.size → S b) : ∀ {t : RT} {p : Option Addr}, InT w p t → InA S w p t := by
  intro t
  induction t with
  | nil => intro p h; exact h
  | node x l r ihl ihr =>
    rintro p ⟨b, pl, pr, e, hb, hl, hr⟩
    exact ⟨b, pl, pr, e, hS b (blk hb).2.2, hb, ihl hl, ihr hr⟩
theorem InA.to {S : Nat → Prop} {w : World} : ∀ {t : RT} {p : Option Addr}, InA S w p t → InT w p t := by
  intro t
  induction t with
  | nil => intro p h; exact h
  | node x l r ihl ihr =>
    rintro p ⟨b, pl, pr, e, _, hb, hl, hr⟩
    exact ⟨b, pl, pr, e, hb, ihl hl, ihr hr⟩
theorem InA.turn {S S' : Nat → Prop} {w w' : World} (hk : ∀ b c, S b → w.heap[b]? = some (.cells c 69 (0, 0)) → S' b ∧ w'.heap[b]? = some (.cells c 69 (0, 0))) : ∀ {t : RT} {p : Option Addr}, InA S w p t → InA S' w' p t := by
  intro t
  induction t with
  | nil => intro p h; exact h
  | node x l r ihl ihr =>
    rintro p ⟨b, pl, pr, e, hs, hb, hl, hr⟩
    obtain ⟨h1, h2⟩ := hk b _ hs hb
    exact ⟨b, pl, pr, e, h1, h2, ihl hl, ihr hr⟩
theorem InA.below {S S' : Nat → Prop} {w w' : World} (hb : Below w.heap.size w w') (hS : ∀ b, S b → b < w.heap.size → S' b) {t : RT} {p : Option Addr} (h : InA S w p t) : InA S' w' p t :=
  h.turn fun b c hs hc => ⟨hS b hs (blk hc).2.2, blk_below hc hb⟩
theorem InA.set {S : Nat → Prop} {w : World} {G o : Nat} {v : Value} {t : RT} {p : Option Addr} (h : InA (fun b => S b ∧ b ≠ G) w p t) : InA S (w.setCell ⟨G, o, none⟩ v) p t :=
  h.turn fun b c hs hc => ⟨hs.1, blk_far hc hs.2⟩
end RA
end Go.Proofs.Ytpkfakndlbngbaa

namespace Go.Proofs.Ytpkfakndlbngbaa
open Go.RowKit Go.Deep Go.BigFrame
open SK
set_option linter.unusedVariables false
namespace RA
/-- The spots, their blocks all of a kind. -/
def InZ (S : Nat → Prop) (w : World) : Option Addr → List Sp → Prop
  | p, [] => p = none
  | p, s :: r => ∃ b pt q, p = some ⟨b, 0, none⟩ ∧ S b ∧ w.heap[b]? = some (.cells #[.int .i64 (D s.1), .pointer pt, .pointer q] 67 (0, 0)) ∧ InT w pt s.2 ∧ InZ S w q r
theorem InZ.of {S : Nat → Prop} {w : World} (hS : ∀ b, b < w.heap.size → S b) : ∀ {l : List Sp} {p : Option Addr}, InS w p l → InZ S w p l
  | [], _, h => h
  | _ :: _, _, ⟨b, pt, q, e, hb, ht, hr⟩ => ⟨b, pt, q, e, hS b (blk hb).2.2, hb, ht, InZ.of hS hr⟩
theorem InZ.to {S : Nat → Prop} {w : World} : ∀ {l : List Sp} {p : Option Addr}, InZ S w p l → InS w p l
  | [], _, h => h
  | _ :: _, _, ⟨b, pt, q, e, _, hb, ht, hr⟩ => ⟨b, pt, q, e, hb, ht, InZ.to hr⟩
theorem InZ.turn {S S' : Nat → Prop} {w w' : World} (hT : KeepT 69 w w') (hk : ∀ b c, S b → w.heap[b]? = some (.cells c 67 (0, 0)) → S' b ∧ w'.heap[b]? = some (.cells c 67 (0, 0))) : ∀ {l : List Sp} {p : Option Addr}, InZ S w p l → InZ S' w' p l
  | [], _, h => h
  | _ :: _, _, ⟨b, pt, q, e, hs, hb, ht, hr⟩ => ⟨b, pt, q, e, (hk b _ hs hb).1, (hk b _ hs hb).2, ht.keep hT, InZ.turn hT hk hr⟩
theorem InZ.below {S S' : Nat → Prop} {w w' : World} (hb : Below w.heap.size w w') (hS : ∀ b, S b → b < w.heap.size → S' b) {l : List Sp} {p : Option Addr} (h : InZ S w p l) : InZ S' w' p l :=
  h.turn (.of_below hb) fun b c hs hc => ⟨hS b hs (blk hc).2.2, blk_below hc hb⟩
theorem InZ.set {S : Nat → Prop} {w : World} {G o : Nat} {v : Value} {c : Array Value} {l : List Sp} {p : Option Addr} (hX : w.heap[G]? = some (.cells c 67 (0, 0))) (h : InZ (fun b => S b ∧ b ≠ G) w p l) : InZ S (w.setCell ⟨G, o, none⟩ v) p l :=
  h.turn (.setCell hX (by decide)) fun b c hs hc => ⟨hs.1, blk_far hc hs.2⟩
end RA
end Go.Proofs.Ytpkfakndlbngbaa
