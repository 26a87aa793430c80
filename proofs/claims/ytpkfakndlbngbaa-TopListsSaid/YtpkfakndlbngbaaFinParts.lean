/-
  Finger trees: what the question's cut of a level stands on: one thing of a digit, and the things ahead of it and behind it. Conditions: none.
-/
import Derived.Test.YtpkfakndlbngbaaMFa
namespace Go.Proofs.Ytpkfakndlbngbaa
open Go.RowKit Go.Deep
open Go.Proofs.Ytpkfakndlbngbaa.MN
set_option linter.unusedVariables false
namespace FG

open Lv
/-- What cut is to do at a level. -/
def CutsAt (i A : Nat) (v : Lv) : Prop := ∀ (so : Nat) (ms : Ms) (q : Option Addr) (d : Nat) (w : World), InV w q v → v ≠ .nil → v.Ok d → ms.n = (so : Int) → so ≤ i → i < so + v.size → w.cell? ⟨A, 0, none⟩ = some (.int .i64 (i : Int)) → so + v.size ≤ 17592186044416 →
    Calls Try.prog 51 #[.func (.func 39) #[] #[.pointer (some ⟨A, 0, none⟩)], ms.val, .pointer q] w fun e w' => ∃ p t r, e = .returned (.tuple #[.pointer p, .pointer t, .pointer r]) ∧ InV w' p (cut i so v).1 ∧ InT w' t (cut i so v).2.1 ∧ InV w' r (cut i so v).2.2 ∧ Below w.heap.size w w'
/-- The cell that the question reads. -/
def CA (w : World) (A i : Nat) : Prop := w.cell? ⟨A, 0, none⟩ = some (.int .i64 (i : Int)) ∧ A < w.heap.size
theorem CA.below {w w' : World} {A i : Nat} (h : CA w A i) (hb : Below w.heap.size w w') : CA w' A i := ⟨(hb.cell (p := ⟨A, 0, none⟩) h.2).trans h.1, Nat.lt_of_lt_of_le h.2 hb.size⟩
theorem tsN_drop_le (ts : List Th) (k : Nat) : tsN (ts.drop k) ≤ tsN ts := by
  conv => rhs; rw [← List.take_append_drop k ts]
  rw [tsN_append]
  omega
theorem Dg.at' {w : World} {b off n c k : Nat} {ts : List Th} (h : Dg w (some ⟨b, off, none⟩) n c ts) (hk : k < n) : ∃ q, b < w.heap.size ∧ w.cell? ⟨b, off + k, none⟩ = some (.pointer q) ∧ InT w q (ts[k]?.getD (.leaf 0)) := by
  have hl := h.len
  obtain ⟨pl, hpl, hil⟩ := h
  obtain ⟨ba, oa, e, hb, hcl⟩ := hpl.cell (by omega)
  obtain ⟨rfl, rfl⟩ : b = ba ∧ off = oa := by simpa using e
  exact ⟨_, hb, hcl k hk, hil.get k (by omega)⟩
theorem Dg.addr {w : World} {a : Option Addr} {n c : Nat} {ts : List Th} (h : Dg w a n c ts) (h0 : 0 < n) : ∃ b off, a = some ⟨b, off, none⟩ := by
  obtain ⟨psr, hpr, hir⟩ := h
  obtain ⟨b6, off6, e, _⟩ := hpr.cell h0
  exact ⟨b6, off6, e⟩
/-- The slices ahead of a thing and behind it. -/
theorem Dg.parts {w : World} {a : Option Addr} {n c K : Nat} {ts : List Th} (h : Dg w a n c ts) (hk : K < n) : ∃ (a2 : Option Addr) (n2 c2 J : Nat), Hid (J = K + 1) ∧ IntKind.i64.wrap ((K : Int) + 1) = (J : Int) ∧
    (∀ W : World, (Instr.slice 90 (.slice a n c) none (some (.int .i64 (K : Int))) none).run Try.prog W = .ok (.slice a K c) W) ∧
    (∀ W : World, (Instr.slice 90 (.slice a n c) (some (.int .i64 (J : Int))) none none).run Try.prog W = .ok (.slice a2 n2 c2) W) ∧
    Hid (∀ W : World, Dg W a n c ts → Dg W a K c (ts.take K)) ∧ Hid (∀ W : World, Dg W a n c ts → Dg W a2 n2 c2 (ts.drop (K + 1))) := by
  obtain ⟨ps, hp, _⟩ := h
  have h1 := hp.hcap
  have h2 := hp.hmax
  unfold maxLen at h2
  exact ⟨cutAt a c (K + 1), n - (K + 1), c - (K + 1), K + 1, Lib.hid rfl, by rw [IntWalk.i64_in _ (by omega)]; omega, fun W => Try.things_to a n c K (by omega) W, fun W => Try.things_from a n c (K + 1) (by omega) W,
    Lib.hid (fun W g => g.front (by omega)), Lib.hid (fun W g => g.rest (by omega))⟩
set_option maxHeartbeats 1000000 in
set_option maxRecDepth 100000 in
theorem cut_one (i A : Nat) (s : Th) : CutsAt i A (.one s) := by
  unfold CutsAt
  intro so ms q d w hv _ ok hm h0 h1 hA hs
  obtain ⟨b, mm, x, a, c, rfl, hn, hh, hp, hx⟩ := hv
  obtain ⟨c1, _, c3⟩ := blk hh
  obtain ⟨b5, off5, rfl, hb5, hcl⟩ := hp.cell (by omega)
  have ka : w.cell? ⟨b5, off5, none⟩ = some (.pointer x) := hcl 0 (by omega)
  have k5 : w.cell? ⟨b, 5, none⟩ = some (.slice (some ⟨b5, off5, none⟩) 1 c) := c1 5
  have k6 : w.cell? ⟨b, 6, none⟩ = some (.slice none 0 0) := c1 6
  have hq : ∀ W : World, (binOp .eql 90 (.slice none 0 0) (.slice none 0 0)).run Try.prog W = .ok (.bool true) W := fun W => eql_things_nil none 0 0 W
  have HX := Lib.hid hx
  have HM := Lib.hid hm
  have ne1 : ¬ w.heap.size = b := by omega
  have ne2 : ¬ w.heap.size = b5 := by omega
  clear hh c1 hp hcl hx hn hm hA hs h0 h1
  go_enter Try.func51, Try.ntmps51
  go_wp2_with fail
  go_region
  all_goals
    go_wp2_with fail
    refine bodyPost_ret (v := .tuple #[.pointer none, .pointer x, .pointer none]) (by simp [results, Try.results51, go_sem]) rfl ⟨none, x, none, rfl, rfl, ?_, rfl, ?_⟩
    · first
        | exact HX.out.below ((Below.refl _ _).alloc (Nat.le_refl _) _)
        | exact (HX.out.below ((Below.refl _ _).alloc (Nat.le_refl _) _)).below (Below.refl _ _).drew
    · first
        | exact (Below.refl _ _).alloc (Nat.le_refl _) _
        | exact ((Below.refl _ _).alloc (Nat.le_refl _) _).drew
end FG
end Go.Proofs.Ytpkfakndlbngbaa
