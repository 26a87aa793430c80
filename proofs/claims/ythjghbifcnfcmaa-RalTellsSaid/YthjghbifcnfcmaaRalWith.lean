/-
  Lists of trees: a tree with another number at a place. Conditions: at most 2^60 numbers.
-/
import Derived.Test.YthjghbifcnfcmaaRalAtIn
namespace Go.Proofs.Ythjghbifcnfcmaa
open Go.RowKit Go.Deep Go.BigFrame
open SK
set_option linter.unusedVariables false
namespace RA
/-- A tree in memory, its blocks all of a kind. -/
def InA (S : Nat → Prop) (w : World) : Option Addr → RT → Prop
  | p, .nil => p = none
  | p, .node x l r => ∃ b pl pr, p = some ⟨b, 0, none⟩ ∧ S b ∧ w.heap[b]? = some (.cells #[.int .i64 x, .pointer pl, .pointer pr] 73 (0, 0)) ∧ InA S w pl l ∧ InA S w pr r
theorem InA.of {S : Nat → Prop} {w : World} (hS : ∀ b, b < w.heap.size → S b) : ∀ {t : RT} {p : Option Addr}, InT w p t → InA S w p t := by
  intro t
  induction t with
  | nil => intro p h; exact h
  | node x l r ihl ihr =>
    rintro p ⟨b, pl, pr, e, hb, hl, hr⟩
    exact ⟨b, pl, pr, e, hS b (blk hb).2.2, hb, ihl hl, ihr hr⟩
theorem InA.to {S : Nat → Prop} {w : World} : ∀ {t : RT} {p : Option Addr}, InA S w p t → InT w p t := by
  intro t
  induction t with
  | nil => intro p h; exact h
  | node x l r ihl ihr =>
    rintro p ⟨b, pl, pr, e, _, hb, hl, hr⟩
    exact ⟨b, pl, pr, e, hb, ihl hl, ihr hr⟩
theorem InA.turn {S S' : Nat → Prop} {w w' : World} (hk : ∀ b c, S b → w.heap[b]? = some (.cells c 73 (0, 0)) → S' b ∧ w'.heap[b]? = some (.cells c 73 (0, 0))) : ∀ {t : RT} {p : Option Addr}, InA S w p t → InA S' w' p t := by
  intro t
  induction t with
  | nil => intro p h; exact h
  | node x l r ihl ihr =>
    rintro p ⟨b, pl, pr, e, hs, hb, hl, hr⟩
    obtain ⟨h1, h2⟩ := hk b _ hs hb
    exact ⟨b, pl, pr, e, h1, h2, ihl hl, ihr hr⟩
theorem InA.below {S S' : Nat → Prop} {w w' : World} (hb : Below w.heap.size w w') (hS : ∀ b, S b → b < w.heap.size → S' b) {t : RT} {p : Option Addr} (h : InA S w p t) : InA S' w' p t :=
  h.turn fun b c hs hc => ⟨hS b hs (blk hc).2.2, blk_below hc hb⟩
theorem InA.set {S : Nat → Prop} {w : World} {G o : Nat} {v : Value} {t : RT} {p : Option Addr} (h : InA (fun b => S b ∧ b ≠ G) w p t) : InA S (w.setCell ⟨G, o, none⟩ v) p t :=
  h.turn fun b c hs hc => ⟨hs.1, blk_far hc hs.2⟩
set_option maxHeartbeats 2000000 in
set_option maxRecDepth 100000 in
theorem with_tree (y : Int) : ∀ (t : RT) (k i : Nat) (p : Option Addr) (w : World) (S : Nat → Prop), (∀ b, w.heap.size ≤ b → S b) → InA S w p t → RT.Perf k t → i < t.pre.length → t.pre.length ≤ 1152921504606846976 →
    Calls Try.prog 45 #[.pointer p, .int .i64 (D k), .int .i64 (i : Int), .int .i64 y] w fun e w' => ∃ q, e = .returned (.pointer q) ∧ InA S w' q (t.put i y) ∧ Below w.heap.size w w' := by
  intro t
  induction t with
  | nil => intro k i p w S _ _ _ hi; simp [RT.pre] at hi
  | node x l r ihl ihr =>
    intro k i p w S hS h hp hi hs
    cases k with
    | zero => cases hp
    | succ k =>
    obtain ⟨x', l', r', e, hpl, hpr⟩ := hp
    cases e
    obtain ⟨b, pl, pr, rfl, hSb, hb, hl, hr⟩ := h
    obtain ⟨z, _, hlt⟩ := blk hb
    have z0 : w.cell? ⟨b, 0, none⟩ = some (.int .i64 x) := z 0
    have z1 : w.cell? ⟨b, 1, none⟩ = some (.pointer pl) := z 1
    have z2 : w.cell? ⟨b, 2, none⟩ = some (.pointer pr) := z 2
    clear z
    have hll := RT.perf_len hpl
    have hrl := RT.perf_len hpr
    have hd0 := D_nonneg k
    have hdk : D (k + 1) = 2 * D k + 1 := rfl
    simp only [RT.pre, List.length_cons, List.length_append] at hi hs
    obtain ⟨nb, hnb⟩ : ∃ nb, D k = nb := ⟨_, rfl⟩
    obtain ⟨na, hna⟩ : ∃ na, D (k + 1) = na := ⟨_, rfl⟩
    rw [hna, hnb] at hdk
    rw [hnb] at hll hrl hd0
    rw [hna]
    have hdiv : na / 2 = nb := by omega
    have na0 : 0 ≤ na := by omega
    have na1 : na ≤ 2305843009213693953 := by omega
    have nb1 : nb ≤ 1152921504606846976 := by omega
    have HNB := Lib.hid hnb
    have HLL := Lib.hid hll
    have HRL := Lib.hid hrl
    have HPL := Lib.hid hpl
    have HPR := Lib.hid hpr
    have HL := Lib.hid hl
    have HR := Lib.hid hr
    have HB := Lib.hid hb
    have HS := Lib.hid hS
    have IHL := Lib.hid ihl
    have IHR := Lib.hid ihr
    clear hnb hna hdk hpl hpr hl hr ihl ihr hll hrl hb hS
    cases i with
    | zero =>
      go_enter Try.func45, Try.ntmps45
      go_wp2_with fail
      have HPUT : Hid ((RT.node x l r).put 0 y = .node y l r) := Lib.hid rfl
      go_ret
      rw [HPUT.out]
      have bb : Below w.heap.size w (w.alloc (.cells #[.int .i64 y, .pointer pl, .pointer pr] 73)) := (Below.refl _ _).alloc (Nat.le_refl _) _
      exact ⟨_, rfl, ⟨w.heap.size, pl, pr, rfl, HS.out _ (Nat.le_refl _), heap_alloc_new _ _, HL.out.below bb (fun b h _ => h), HR.out.below bb (fun b h _ => h)⟩, bb⟩
    | succ i =>
      obtain ⟨I, hI⟩ : ∃ I : Int, ((i + 1 : Nat) : Int) = I := ⟨_, rfl⟩
      have HII := Lib.hid hI
      have hI0 : (I == 0) = false := by rw [beq_eq_false_iff_ne]; omega
      have hI1 : 1 ≤ I := by omega
      have hI2 : I ≤ 1152921504606846976 := by omega
      rw [hI]
      clear hI
      by_cases hc : I ≤ nb
      · have hc2 : I ≤ na / 2 := by omega
        have HPUT : Hid ((RT.node x l r).put (i + 1) y = .node x (l.put i y) r) := Lib.hid (by simp only [RT.put]; rw [if_pos (by have := HII.out; have := HLL.out; omega)])
        have hi2 : l.pre.length ≤ 1152921504606846976 := by omega
        have C : Hid (Calls Try.prog 45 #[.pointer pl, .int .i64 (na / 2), .int .i64 (I - 1), .int .i64 y] (w.alloc (.cells #[.int .i64 x, .pointer pl, .pointer pr] 73)) fun e w' => ∃ q, e = .returned (.pointer q) ∧ InA (fun b => S b ∧ b ≠ w.heap.size) w' q (l.put i y) ∧ Below (w.alloc (.cells #[.int .i64 x, .pointer pl, .pointer pr] 73)).heap.size (w.alloc (.cells #[.int .i64 x, .pointer pl, .pointer pr] 73)) w') := by
          have h := IHL.out k (i) pl (w.alloc (.cells #[.int .i64 x, .pointer pl, .pointer pr] 73)) (fun b => S b ∧ b ≠ w.heap.size) (fun b hb => by rw [World.size_alloc] at hb; exact ⟨HS.out b (by omega), by omega⟩) (HL.out.below ((Below.refl _ _).alloc (Nat.le_refl _) _) (fun b h1 h2 => ⟨h1, by omega⟩)) HPL.out (by have := HII.out; have := HLL.out; have := HRL.out; omega) hi2
          rw [HNB.out, ← hdiv] at h
          rw [show (((i : Nat)) : Int) = I - 1 by have := HII.out; have := HLL.out; omega] at h
          exact Lib.hid h
        clear hdiv
        go_enter Try.func45, Try.ntmps45
        go_wp2_with fail
        refine C.out.mono ?_
        rintro e w2 ⟨q2, rfl, hq, b2⟩
        obtain ⟨b2, X2⟩ := hold1 b2 ⟨rfl, rfl, rfl, rfl⟩
        obtain ⟨u2, v2, l2⟩ := blk X2
        have uc := u2 1
        have vc := v2 1
        have X2' := Lib.hid X2
        clear u2 v2 X2
        go_wp2_with fail
        go_ret
        rw [HPUT.out]
        exact ⟨_, rfl, ⟨w.heap.size, q2, pr, rfl, HS.out _ (Nat.le_refl _), blk_set (i := 1) X2'.out, hq.set, (HR.out.below b2 (fun b h1 h2 => (⟨h1, by omega⟩ : S b ∧ b ≠ w.heap.size))).set⟩, b2.setCell (p := ⟨w.heap.size, 1, none⟩) (Nat.le_refl _) _⟩
      · have hc2 : ¬ I ≤ na / 2 := by omega
        have HPUT : Hid ((RT.node x l r).put (i + 1) y = .node x l (r.put (i - l.pre.length) y)) := Lib.hid (by simp only [RT.put]; rw [if_neg (by have := HII.out; have := HLL.out; omega)])
        have hi2 : r.pre.length ≤ 1152921504606846976 := by omega
        have C : Hid (Calls Try.prog 45 #[.pointer pr, .int .i64 (na / 2), .int .i64 (I - 1 - na / 2), .int .i64 y] (w.alloc (.cells #[.int .i64 x, .pointer pl, .pointer pr] 73)) fun e w' => ∃ q, e = .returned (.pointer q) ∧ InA (fun b => S b ∧ b ≠ w.heap.size) w' q (r.put (i - l.pre.length) y) ∧ Below (w.alloc (.cells #[.int .i64 x, .pointer pl, .pointer pr] 73)).heap.size (w.alloc (.cells #[.int .i64 x, .pointer pl, .pointer pr] 73)) w') := by
          have h := IHR.out k (i - l.pre.length) pr (w.alloc (.cells #[.int .i64 x, .pointer pl, .pointer pr] 73)) (fun b => S b ∧ b ≠ w.heap.size) (fun b hb => by rw [World.size_alloc] at hb; exact ⟨HS.out b (by omega), by omega⟩) (HR.out.below ((Below.refl _ _).alloc (Nat.le_refl _) _) (fun b h1 h2 => ⟨h1, by omega⟩)) HPR.out (by have := HII.out; have := HLL.out; have := HRL.out; omega) hi2
          rw [HNB.out, ← hdiv] at h
          rw [show (((i - l.pre.length : Nat)) : Int) = I - 1 - na / 2 by have := HII.out; have := HLL.out; omega] at h
          exact Lib.hid h
        clear hdiv
        go_enter Try.func45, Try.ntmps45
        go_wp2_with fail
        refine C.out.mono ?_
        rintro e w2 ⟨q2, rfl, hq, b2⟩
        obtain ⟨b2, X2⟩ := hold1 b2 ⟨rfl, rfl, rfl, rfl⟩
        obtain ⟨u2, v2, l2⟩ := blk X2
        have uc := u2 2
        have vc := v2 2
        have X2' := Lib.hid X2
        clear u2 v2 X2
        go_wp2_with fail
        go_ret
        rw [HPUT.out]
        exact ⟨_, rfl, ⟨w.heap.size, pl, q2, rfl, HS.out _ (Nat.le_refl _), blk_set (i := 2) X2'.out, (HL.out.below b2 (fun b h1 h2 => (⟨h1, by omega⟩ : S b ∧ b ≠ w.heap.size))).set, hq.set⟩, b2.setCell (p := ⟨w.heap.size, 2, none⟩) (Nat.le_refl _) _⟩
end RA
end Go.Proofs.Ythjghbifcnfcmaa
