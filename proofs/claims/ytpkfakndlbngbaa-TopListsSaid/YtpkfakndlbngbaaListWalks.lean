/-
  Lists that lie in memory; a list's own loop, as a contract for whatever body. Conditions: none.
-/
import Derived.Test.YtpkfakndlbngbaaWords
import Derived.RangeFuncNested
import Derived.RangeFuncBound
import Derived.RangeFuncCalls
import Derived.RangeFuncLeaves
import Derived.RangeFuncBox
import Derived.Shelf.Abstract
import Derived.Shelf.RegionOpen
import Derived.WalkKit
import Derived.OwnWalkIn
import Derived.TacticsInMore
import Derived.LoopNIn
import Derived.LoopIn
import Derived.Maps.AppendAt
namespace Go.Proofs.Ytpkfakndlbngbaa
open Go.RowKit Go.Deep Go.Shelf
set_option linter.unusedVariables false
attribute [local go_sem] Oper.semAt_some
namespace LI

/-- A list in memory, cell by cell. -/
def In (w : World) : Option Addr → List Int → Prop
  | p, [] => p = none
  | p, x :: xs => ∃ b q, p = some ⟨b, 0, none⟩ ∧ w.heap[b]? = some (.cells #[.int .i64 x, .pointer q] 60 (0, 0)) ∧ In w q xs
theorem In.keep {w w' : World} (hk : KeepT 60 w w') : ∀ {xs : List Int} {p : Option Addr}, In w p xs → In w' p xs
  | [], _, h => h
  | _ :: _, _, ⟨b, q, e, hb, hr⟩ => ⟨b, q, e, hk _ _ hb, In.keep hk hr⟩
theorem In.below {w w' : World} {xs : List Int} {p : Option Addr} (h : In w p xs) (hb : Below w.heap.size w w') : In w' p xs := h.keep (.of_below hb)
theorem In.alloc {w : World} {xs : List Int} {p : Option Addr} (h : In w p xs) (o : Obj) : In (w.alloc o) p xs := h.below ((Below.refl _ _).alloc (Nat.le_refl _) _)
theorem In.unique {w : World} : ∀ {xs ys : List Int} {p : Option Addr}, In w p xs → In w p ys → xs = ys
  | [], [], _, _, _ => rfl
  | [], _ :: _, _, h, ⟨_, _, e, _⟩ => by rw [show _ = none from h] at e; cases e
  | _ :: _, [], _, ⟨_, _, e, _⟩, h => by rw [show _ = none from h] at e; cases e
  | x :: xs, y :: ys, _, ⟨b, q, e, hb, hr⟩, ⟨b', q', e', hb', hr'⟩ => by
    rw [e] at e'
    cases e'
    rw [hb] at hb'
    cases hb'
    rw [In.unique hr hr']
/-- It abides the turns of whatever blocks are no cells. -/
theorem In.kept {w w' : World} {row : Option Nat} (hg : w.grownBy w' row) (hr : ∀ r, row = some r → ∃ o : Obj, w.heap[r]? = some o ∧ o.isCells = false) {xs : List Int} {p : Option Addr} (h : In w p xs) : In w' p xs :=
  h.keep fun b cur hb => (grownBy_keeps_cells hg hr hb rfl).trans hb
/-- Whatever cells of a list lay in a world stay. -/
def KeepW (w0 W W' : World) : Prop := ∀ (b : Nat) (cur : Array Value), w0.heap[b]? = some (.cells cur 60 (0, 0)) → W.heap[b]? = some (.cells cur 60 (0, 0)) → W'.heap[b]? = some (.cells cur 60 (0, 0))
theorem KeepW.of_keepT {w0 W W' : World} (h : KeepT 60 W W') : KeepW w0 W W' := fun b cur _ hb => h _ _ hb
theorem KeepW.of_below {w0 W W' : World} (h : Below w0.heap.size W W') : KeepW w0 W W' := fun b cur h0 hb => (h.block b (Array.getElem?_eq_some_iff.1 h0).1).trans hb
theorem KeepW.trans {w0 A B C : World} (h : KeepW w0 A B) (k : KeepW w0 B C) : KeepW w0 A C := fun b cur h0 hb => k _ _ h0 (h _ _ h0 hb)
theorem keepW_b {w0 : World} (W : World) (l : Nat) (o o' : Obj) (h : W.heap[l]? = some o) (hc : o.isCells = false) : KeepW w0 W (W.putObj l o') := fun b cur _ hb => by
  have hne : l ≠ b := by
    rintro rfl
    rw [h] at hb
    cases hb
    cases hc
  exact (World.putObj_heap_other (fun e => hne e.symm)).trans hb
open Classical in
/-- How many are still to come. -/
noncomputable def left (w : World) (v : Value) : Nat := if h : ∃ r : Option Addr × List Int, v = .pointer r.1 ∧ In w r.1 r.2 then (Classical.choose h).2.length else 0
theorem left_eq {w : World} {q : Option Addr} {xs : List Int} (h : In w q xs) : left w (.pointer q) = xs.length := by
  have hex : ∃ r : Option Addr × List Int, Value.pointer q = .pointer r.1 ∧ In w r.1 r.2 := ⟨(q, xs), rfl, h⟩
  unfold left
  rw [dif_pos hex]
  obtain ⟨e, hl⟩ := Classical.choose_spec hex
  have e' : q = (Classical.choose hex).1 := by simpa using e
  rw [← e'] at hl
  rw [In.unique hl h]

set_option maxRecDepth 100000 in
set_option maxHeartbeats 1000000 in
theorem all1_in (F : Fence) (n : Nat) (h6 : F.fn 44) (hro : F.round = none) (hn : 1 ≤ n) (l Bn : Nat) (p0 : Option Addr) (k0 : Int) (xs : List Int) (w0 : World) (hL : In w0 p0 xs) (J Jx : List Int → World → Prop)
    (hY : ∀ pre x W, J pre W → pre.length < xs.length → YieldAt F (n - 1) Try.prog l #[.int .i64 x] W fun e W' =>
      (e = .returned (.bool true) ∧ J (pre ++ [x]) W' ∧ KeepW w0 W W') ∨ (e = .returned (.bool false) ∧ Jx (pre ++ [x]) W'))
    (W : World) (hW : KeepT 60 w0 W) (hBn : W.heap[Bn]? = some (.cells #[.pointer p0, .int .i64 k0] 25 (0, 0))) (h0 : J [] W) :
    CallsIn F n Try.prog 44 #[.func (.yield l) #[] #[], .pointer (some ⟨Bn, 0, none⟩)] W fun e W' => (∃ v, e = .returned v) ∧
      ((∃ ys, ys = xs ∧ J ys W') ∨ (∃ pre, pre <+: xs ∧ Jx pre W')) := by
  obtain ⟨c0, c1, c2⟩ := blk hBn
  have d0 := c0 0
  have d1 := c0 1
  clear c0
  refine callsIn_of_wp Try.func44 rfl h6 ?_ hro
  simp only [Try.ntmps44, List.size_toArray, List.length_cons, List.length_nil, Nat.reduceAdd, Nat.reduceSub, Array.replicate_succ, Array.replicate_zero, List.push_toArray, List.append_toArray, List.nil_append, List.cons_append]
  gi_wp2
  gi_loopw [3] (fun p wr => ∃ (pre rest : List Int) (q : Option Addr), p = .pointer q ∧ xs = pre ++ rest ∧ In w0 q rest ∧ KeepT 60 w0 wr ∧ J pre wr)
    (fun p wr => left w0 p)
  case atStart =>
    exact ⟨[], xs, p0, rfl, rfl, hL, hW, h0⟩
  case round =>
    obtain ⟨pre, rest, q, rfl, hx, hl, hwr, hJs⟩ := hrel
    clear d0 d1 hBn c1 c2
    cases rest with
    | nil =>
      obtain rfl : q = none := hl
      gi_wp2
      refine ⟨fun _ h => (by cases h), ?_⟩
      gi_wp2
      go_end0
      exact ⟨⟨_, rfl⟩, .inl ⟨pre, by simp [hx], hJs⟩⟩
    | cons x rest =>
      have hl' := hl
      obtain ⟨b, q', rfl, hb, hr⟩ := hl
      have hb2 := hwr _ _ hb
      obtain ⟨e0, e1, e2⟩ := blk hb2
      have e00 := e0 0
      have e01 := e0 1
      clear e0
      obtain ⟨fn, tmps, assign, body, hy, hR⟩ := hY pre x wr hJs (by rw [hx]; simp)
      gi_wp2
      refine hR.mono ?_
      rintro e W3 (⟨rfl, hJ3, hk3⟩ | ⟨rfl, hJx3⟩)
      · have hwr3 : KeepT 60 w0 W3 := fun b cur h => hk3 _ _ h (hwr _ _ h)
        have hb3 := hwr3 _ _ hb
        obtain ⟨f0, f1, f2⟩ := blk hb3
        have f00 := f0 0
        have f01 := f0 1
        clear f0
        gi_wp2
        go_roundw
        case rel => exact ⟨pre ++ [x], rest, q', rfl, by simp [hx], hr, hwr3, hJ3⟩
        case measure => rw [left_eq hr, left_eq hl']; simp
      · gi_wp2
        go_end0
        exact ⟨⟨_, rfl⟩, .inr ⟨pre ++ [x], ⟨rest, by simp [hx]⟩, hJx3⟩⟩
end LI
end Go.Proofs.Ytpkfakndlbngbaa
