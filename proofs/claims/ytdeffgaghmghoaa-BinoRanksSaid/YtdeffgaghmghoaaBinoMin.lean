/-
  Binomial heaps: the least one. Conditions: none.
-/
import Derived.Test.YtdeffgaghmghoaaBinoOps
import Derived.Test.YtdeffgaghmghoaaCalm
namespace Go.Proofs.Ytdeffgaghmghoaa
open Go.RowKit Go.Deep Go.BigFrame
set_option linter.unusedVariables false
namespace BN
/-- The least one, and whether there is one. -/
def topB (ts : List Tr) : Int × Bool := if ts.length = 0 then (0, false) else ((ts[bestAt ts ts.length]?.getD (0, 0, .nil)).1, true)
set_option maxHeartbeats 800000 in
theorem min_any (a : Option Addr) (n c : Nat) (ts : List Tr) (w : World) (h : Hb w a n c ts) :
    Calls Try.prog 17 #[.agg #[.slice a n c]] w fun e w' => e = .returned (.tuple #[.int .i64 (topB ts).1, .bool (topB ts).2]) ∧ Below w.heap.size w w' := by
  have hl := h.len
  by_cases h0 : n = 0
  · subst h0
    have e : topB ts = (0, false) := by unfold topB; rw [if_pos hl.symm]
    rw [e]
    clear e hl h
    go_enter Try.func17, Try.ntmps17
    go_wp2_with fail
    go_ret2
    exact ⟨rfl, (Below.refl _ _).alloc (Nat.le_refl _) _⟩
  · have hbl := bestAt_lt ts n (by omega) (by omega)
    obtain ⟨b, off, bt, t, qs, ka, km, kc, rfl, hb, ht, g0, g1, _, _⟩ := h.at_ (bestAt ts n) (by omega)
    have e : topB ts = (t.1, true) := by unfold topB; rw [if_neg (by omega), ← hl, ht]; rfl
    rw [e]
    have LE := Lib.hid (fun W (hW : Hb W (some ⟨b, off, none⟩) n c ts) => least_any (some ⟨b, off, none⟩) n c ts W hW)
    have hm : n ≤ maxLen := by obtain ⟨⟨ps, h1, _⟩, _⟩ := h; exact Nat.le_trans h1.hcap h1.hmax
    unfold maxLen at hm
    obtain ⟨B, hB⟩ : ∃ B, bestAt ts n = B := ⟨_, rfl⟩
    rw [hB] at LE g0 hbl
    have hbi : (B : Int) < (n : Int) := by omega
    have h0b : ((n : Int) == 0) = false := by simp; omega
    have h0c : decide (n = 0) = false := by simp; omega
    have z0 : w.cell? ⟨bt, 0, none⟩ = some (.int .i64 t.1) := (blk g1).1 0
    have lt1 := (blk g1).2.2
    have HH := Lib.hid h
    clear e hB ht g1 h hl
    go_enter Try.func17, Try.ntmps17
    go_wp2_with fail
    obtain ⟨W, hW⟩ : ∃ W, w.alloc (.cells #[.slice (some ⟨b, off, none⟩) n c] 26) = W := ⟨_, rfl⟩
    have bW : Below w.heap.size w W := by rw [← hW]; exact (Below.refl _ _).alloc (Nat.le_refl _) _
    have X : W.heap[w.heap.size]? = some (.cells #[.slice (some ⟨b, off, none⟩) n c] 26 (0, 0)) := by rw [← hW]; exact heap_alloc_new _ _
    have cX : W.cell? ⟨w.heap.size, 0, none⟩ = some (.slice (some ⟨b, off, none⟩) n c) := (blk X).1 0
    have lX := (blk X).2.2
    have y0 := (bW.cell (p := ⟨b, off + B, none⟩) hb).trans g0
    have y1 := (bW.cell (p := ⟨bt, 0, none⟩) lt1).trans z0
    have lt2 : b < W.heap.size := Nat.lt_of_lt_of_le hb bW.size
    have lt3 : bt < W.heap.size := Nat.lt_of_lt_of_le lt1 bW.size
    have hh := HH.out.below bW
    rw [hW]
    clear hW g0 z0 X
    have calm0 : ∀ u : Grown W, _ := fun u => u.cell cX
    have calm1 : ∀ u : Grown W, _ := fun u => u.cell y0
    have calm2 : ∀ u : Grown W, _ := fun u => u.cell y1
    refine wp_region_calm (by kernel_rfl) (by kernel_rfl) ?_
    repeat (go_big_quiet_step ((first | (go_at_call 19; with_reducible exact calm_of (LE.out _ (hh.below (Grown.below _)))))))
    refine wpQuiet_nil ?_
    intro wq hw'
    have bc : Below W.heap.size W wq := by obtain ⟨u, rfl⟩ := hw'; exact u.below
    clear hw' calm0 calm1 calm2
    go_wp2_with fail
    go_ret2
    exact ⟨rfl, below_then bW bc⟩
end BN
end Go.Proofs.Ytdeffgaghmghoaa
