/-
  Binomial heaps: two trees linked. Conditions: ranks below 2^32, as many under a tree.
-/
import Derived.Test.YtdeffgaghmghoaaBinoWalks
import Derived.Deep.RegionLaw
namespace Go.Proofs.Ytdeffgaghmghoaa
open Go.RowKit Go.Deep
set_option linter.unusedVariables false
namespace BN
theorem Try.infoTree : (Try.prog.info? 42).map (fun i => (i.zero, i.size, i.bytes)) = some (some (.pointer none), 1, 8) := by kernel_rfl
theorem below_drewN {B : Nat} {a w : World} (h : Below B a w) (n : Nat) : Below B a (w.drewN n) := ⟨h.os, h.tape, h.output, h.size, h.block⟩
theorem link_low {a b : Tr} (h : b.1 < a.1) : link a b = (b.1, b.2.1 + 1, .cons a.1 a.2.1 a.2.2 b.2.2) := by unfold link; rw [if_pos h]
theorem link_high {a b : Tr} (h : ¬ b.1 < a.1) : link a b = (a.1, a.2.1 + 1, .cons b.1 b.2.1 b.2.2 a.2.2) := by unfold link; rw [if_neg h]

set_option maxHeartbeats 2000000 in
theorem link_any (ta tb : Tr) (pa pb : Option Addr) (w : World) (ha : InT w pa ta) (hb : InT w pb tb) (ra : ta.2.1 ≤ 1000) (rb : tb.2.1 ≤ 1000) (ka : ta.2.2.trees.length ≤ 1000) (kb : tb.2.2.trees.length ≤ 1000) :
    Calls Try.prog 25 #[.pointer pa, .pointer pb] w fun e w' => ∃ p, e = .returned (.pointer p) ∧ InT w' p (link ta tb) ∧ Below w.heap.size w w' := by
  obtain ⟨i0, hi0, hz0, hz1, hz2⟩ := info_parts Try.infoTree
  obtain ⟨b1, qs1, a1, m1, c1, rfl, h1, p1, k1⟩ := ha
  obtain ⟨b2, qs2, a2, m2, c2, rfl, h2, p2, k2⟩ := hb
  have l1 : m1 ≤ 1000 := by have := (inB_inL.1 k1).length; have := p1.hlen; omega
  have l2 : m2 ≤ 1000 := by have := (inB_inL.1 k2).length; have := p2.hlen; omega
  obtain ⟨x, r, k⟩ := ta
  obtain ⟨y, s, l⟩ := tb
  simp only at h1 h2 k1 k2 ra rb
  have c10 := (blk h1).1 0
  have c11 := (blk h1).1 1
  have c12 := (blk h1).1 2
  have c20 := (blk h2).1 0
  have c21 := (blk h2).1 1
  have c22 := (blk h2).1 2
  have d1 := (blk h1).2.2
  have d2 := (blk h2).2.2
  have e10 : ∀ (n : Nat) (o : Obj), ((w.drewN n).alloc o).cell? ⟨b1, 0, none⟩ = some (.int .i64 x) := fun n o => (World.cell?_alloc_lt (w.drewN n) o ⟨b1, 0, none⟩ d1).trans c10
  have e11 : ∀ (n : Nat) (o : Obj), ((w.drewN n).alloc o).cell? ⟨b1, 1, none⟩ = some (.int .i64 (r : Int)) := fun n o => (World.cell?_alloc_lt (w.drewN n) o ⟨b1, 1, none⟩ d1).trans c11
  have e12 : ∀ (n : Nat) (o : Obj), ((w.drewN n).alloc o).cell? ⟨b1, 2, none⟩ = some (.slice a1 m1 c1) := fun n o => (World.cell?_alloc_lt (w.drewN n) o ⟨b1, 2, none⟩ d1).trans c12
  have e20 : ∀ (n : Nat) (o : Obj), ((w.drewN n).alloc o).cell? ⟨b2, 0, none⟩ = some (.int .i64 y) := fun n o => (World.cell?_alloc_lt (w.drewN n) o ⟨b2, 0, none⟩ d2).trans c20
  have e21 : ∀ (n : Nat) (o : Obj), ((w.drewN n).alloc o).cell? ⟨b2, 1, none⟩ = some (.int .i64 (s : Int)) := fun n o => (World.cell?_alloc_lt (w.drewN n) o ⟨b2, 1, none⟩ d2).trans c21
  have e22 : ∀ (n : Nat) (o : Obj), ((w.drewN n).alloc o).cell? ⟨b2, 2, none⟩ = some (.slice a2 m2 c2) := fun n o => (World.cell?_alloc_lt (w.drewN n) o ⟨b2, 2, none⟩ d2).trans c22
  have H1 := Lib.hid h1
  have H2 := Lib.hid h2
  have P1 := Lib.hid p1
  have P2 := Lib.hid p2
  have K1 := Lib.hid k1
  have K2 := Lib.hid k2
  clear h1 h2 p1 p2 k1 k2 ka kb
  by_cases hlt : y < x
  · have hd : decide (y < x) = true := by simp [hlt]
    rw [link_low hlt]
    have hw : IntKind.i64.wrap ((s : Int) + 1) = (s : Int) + 1 := IntWalk.i64_in _ (by omega)
    have RD := Lib.hid P2.out.reads
    have o1 := Lib.hid (ptr_cells qs2)
    clear hlt
    go_enter Try.func25, Try.ntmps25
    go_wp2_with fail
    go_quiet (fail)
    go_wp2_with fail
    go_region_held3 (fun w' => w'.cell? ⟨b2, 0, none⟩ = some (.int .i64 y) ∧ w'.cell? ⟨b2, 1, none⟩ = some (.int .i64 (s : Int)) ∧ w'.cell? ⟨b2, 2, none⟩ = some (.slice a2 m2 c2)) (go_keep) (first
      | (refine step_append_any _ rfl (.tmp 26) (.tmp 30) 24 rfl w.heap.size 42 i0 (.pointer none) 1 8 Try.underlying24 hi0 hz0 hz1 hz2 rfl (by decide) (.slice (some ⟨w.heap.size, 0, none⟩) 1 1) 1 [.pointer (some ⟨b1, 0, none⟩)] rfl (by exact World.ownsRow_lit (base := w.heap.size) (e := 42) (size := 1) w #[.pointer (some ⟨b1, 0, none⟩)] 1 (Nat.le_refl _) (by decide) rfl) w.heap.size a2 m2 c2 _ rfl (by first | exact RD.out.alloc (Nat.le_refl _) _ | exact (RD.out.drewN _).alloc (Nat.le_refl _) _) o1.out (by simp only [maxLen]; omega) (by omega) (by simp) ?_; intro v2 w2 hown2 hg2 hat2; obtain ⟨a4, k4, rfl, P4⟩ := Pl.of_own (ps := some ⟨b1, 0, none⟩ :: qs2) (n := 1 + m2) (by simpa using hown2); have B4 : Below w.heap.size w w2 := (by refine below_grown (xs := [.pointer (some ⟨b1, 0, none⟩)]) (n := 1) (e := 42) (size := 1) (base := w.heap.size) ?_ ?_ hg2 (Nat.le_refl _) (by simp); (first | exact (Below.refl w.heap.size w).alloc (Nat.le_refl _) _ | exact (below_drewN (Below.refl w.heap.size w) _).alloc (Nat.le_refl _) _); exact World.ownsRow_lit (base := w.heap.size) (e := 42) (size := 1) w #[.pointer (some ⟨b1, 0, none⟩)] 1 (Nat.le_refl _) (by decide) rfl); have z20 := (blk (blk_below H2.out B4)).1 0; have z21 := (blk (blk_below H2.out B4)).1 1; have z22 := (blk (blk_below H2.out B4)).1 2))
    go_wp2_with fail
    go_ret
    exact ⟨_, rfl, ⟨w2.heap.size, _, a4, _, k4, rfl, heap_alloc_new _ _, P4.below ((Below.refl _ _).alloc (Nat.le_refl _) _), ⟨b1, qs1, qs2, a1, m1, c1, rfl, blk_below H1.out (B4.alloc B4.size _), P1.out.below (B4.alloc B4.size _), K1.out.below (B4.alloc B4.size _), K2.out.below (B4.alloc B4.size _)⟩⟩, B4.alloc B4.size _⟩
  · have hd : decide (y < x) = false := by simp [hlt]
    rw [link_high hlt]
    have hw : IntKind.i64.wrap ((r : Int) + 1) = (r : Int) + 1 := IntWalk.i64_in _ (by omega)
    have RD := Lib.hid P1.out.reads
    have o1 := Lib.hid (ptr_cells qs1)
    clear hlt
    go_enter Try.func25, Try.ntmps25
    go_wp2_with fail
    go_quiet (fail)
    go_wp2_with fail
    go_region_held3 (fun w' => w'.cell? ⟨b1, 0, none⟩ = some (.int .i64 x) ∧ w'.cell? ⟨b1, 1, none⟩ = some (.int .i64 (r : Int)) ∧ w'.cell? ⟨b1, 2, none⟩ = some (.slice a1 m1 c1)) (go_keep) (first
      | (refine step_append_any _ rfl (.tmp 26) (.tmp 30) 24 rfl w.heap.size 42 i0 (.pointer none) 1 8 Try.underlying24 hi0 hz0 hz1 hz2 rfl (by decide) (.slice (some ⟨w.heap.size, 0, none⟩) 1 1) 1 [.pointer (some ⟨b2, 0, none⟩)] rfl (by exact World.ownsRow_lit (base := w.heap.size) (e := 42) (size := 1) w #[.pointer (some ⟨b2, 0, none⟩)] 1 (Nat.le_refl _) (by decide) rfl) w.heap.size a1 m1 c1 _ rfl (by first | exact RD.out.alloc (Nat.le_refl _) _ | exact (RD.out.drewN _).alloc (Nat.le_refl _) _) o1.out (by simp only [maxLen]; omega) (by omega) (by simp) ?_; intro v2 w2 hown2 hg2 hat2; obtain ⟨a4, k4, rfl, P4⟩ := Pl.of_own (ps := some ⟨b2, 0, none⟩ :: qs1) (n := 1 + m1) (by simpa using hown2); have B4 : Below w.heap.size w w2 := (by refine below_grown (xs := [.pointer (some ⟨b2, 0, none⟩)]) (n := 1) (e := 42) (size := 1) (base := w.heap.size) ?_ ?_ hg2 (Nat.le_refl _) (by simp); (first | exact (Below.refl w.heap.size w).alloc (Nat.le_refl _) _ | exact (below_drewN (Below.refl w.heap.size w) _).alloc (Nat.le_refl _) _); exact World.ownsRow_lit (base := w.heap.size) (e := 42) (size := 1) w #[.pointer (some ⟨b2, 0, none⟩)] 1 (Nat.le_refl _) (by decide) rfl); have z10 := (blk (blk_below H1.out B4)).1 0; have z11 := (blk (blk_below H1.out B4)).1 1; have z12 := (blk (blk_below H1.out B4)).1 2))
    go_wp2_with fail
    go_ret
    exact ⟨_, rfl, ⟨w2.heap.size, _, a4, _, k4, rfl, heap_alloc_new _ _, P4.below ((Below.refl _ _).alloc (Nat.le_refl _) _), ⟨b2, qs2, qs1, a2, m2, c2, rfl, blk_below H2.out (B4.alloc B4.size _), P2.out.below (B4.alloc B4.size _), K2.out.below (B4.alloc B4.size _), K1.out.below (B4.alloc B4.size _)⟩⟩, B4.alloc B4.size _⟩
end BN
end Go.Proofs.Ytdeffgaghmghoaa
