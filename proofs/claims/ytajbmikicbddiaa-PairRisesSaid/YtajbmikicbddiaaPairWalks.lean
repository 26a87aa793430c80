/-
  Pairing heaps: what the package makes in memory, as plain forests. Conditions: sizes below 2^62.
-/
import Derived.Test.YtajbmikicbddiaaBase
import Derived.Test.YtajbmikicbddiaaPairPlain
namespace Go.Proofs.Ytajbmikicbddiaa
open Go.RowKit Go.Deep
namespace PF

/-- A forest that lies in memory. -/
def In (w : World) : Option Addr → PF → Prop
  | p, .nil => p = none
  | p, .cons x k n => ∃ b pk pn, p = some ⟨b, 0, none⟩ ∧ w.heap[b]? = some (.cells #[.int .i64 x, .pointer pk, .pointer pn] 65 (0, 0)) ∧ In w pk k ∧ In w pn n

theorem In.keep {w w' : World} (hk : KeepT 65 w w') : ∀ {t : PF} {p : Option Addr}, In w p t → In w' p t := by
  intro t
  induction t with
  | nil => intro p h; exact h
  | cons x k n ihk ihn =>
    rintro p ⟨b, pl, pr, h1, h2, h3, h4⟩
    exact ⟨b, pl, pr, h1, hk _ _ h2, ihk h3, ihn h4⟩
theorem In.below {w w' : World} {t : PF} {p : Option Addr} (h : In w p t) (hb : Below w.heap.size w w') : In w' p t := h.keep (.of_below hb)
theorem In.alloc {w : World} {t : PF} {p : Option Addr} (h : In w p t) (o : Obj) : In (w.alloc o) p t := h.below ((Below.refl _ _).alloc (Nat.le_refl _) _)
theorem In.drew {w : World} {t : PF} {p : Option Addr} (h : In w p t) : In w.drew p t := h.below (Below.refl _ _).drew
theorem In.drewN {w : World} {t : PF} {p : Option Addr} (h : In w p t) (n : Nat) : In (w.drewN n) p t := h.below (below_drewN (Below.refl _ _) n)
theorem In.open {w : World} {p : Option Addr} {x : Int} {k n : PF} (h : In w p (.cons x k n)) : ∃ b pk pn, p = some ⟨b, 0, none⟩ ∧ b < w.heap.size ∧ w.cell? ⟨b, 0, none⟩ = some (.int .i64 x) ∧ w.cell? ⟨b, 1, none⟩ = some (.pointer pk) ∧
      w.cell? ⟨b, 2, none⟩ = some (.pointer pn) ∧ In w pk k ∧ In w pn n := by
  obtain ⟨b, pl, pr, h1, h2, h3, h4⟩ := h
  obtain ⟨c, _, k⟩ := blk h2
  exact ⟨b, pl, pr, h1, k, c 0, c 1, c 2, h3, h4⟩
theorem In.new {w : World} {x : Int} {pk pn : Option Addr} {k n : PF} (hk : In w pk k) (hn : In w pn n) :
    In (w.alloc (.cells #[.int .i64 x, .pointer pk, .pointer pn] 65)) (some ⟨w.heap.size, 0, none⟩) (.cons x k n) :=
  ⟨w.heap.size, pk, pn, rfl, heap_alloc_new _ _, hk.alloc _, hn.alloc _⟩

set_option maxHeartbeats 800000 in
theorem met_any (ta tb : PF) (pa pb : Option Addr) (w : World) (ha : In w pa ta) (hb : In w pb tb) :
    Calls Try.prog 48 #[.pointer pa, .pointer pb] w fun e w' => ∃ p, e = .returned (.pointer p) ∧ In w' p (met ta tb) ∧ Below w.heap.size w w' := by
  cases ta with
  | nil =>
    obtain rfl : pa = none := ha
    go_enter Try.func48, Try.ntmps48
    go_wp2_with fail
    go_ret
    exact ⟨_, rfl, hb, Below.refl _ _⟩
  | cons x k n =>
    cases tb with
    | nil =>
      obtain ⟨b, pk, pn, rfl, h2, h3, h4, h5, h6, h7⟩ := ha.open
      obtain rfl : pb = none := hb
      rw [met_nil_right]
      go_enter Try.func48, Try.ntmps48
      go_wp2_with fail
      go_ret
      exact ⟨_, rfl, ha, Below.refl _ _⟩
    | cons y k' n' =>
      obtain ⟨b, pk, pn, rfl, h2, h3, h4, h5, h6, h7⟩ := ha.open
      obtain ⟨b', pk', pn', rfl, g2, g3, g4, g5, g6, g7⟩ := hb.open
      by_cases hy : y < x
      · have hyb : decide (y < x) = true := by simp [hy]
        rw [met_low hy]
        go_enter Try.func48, Try.ntmps48
        have ne1 := World.new_ne w ⟨b, 0, none⟩ h3
        have ne2 := World.new_ne w ⟨b', 0, none⟩ g3
        go_wp2_with fail
        go_quiet (fail)
        go_wp2_with fail
        go_region_held3 (fun w' => w'.cell? ⟨b', 0, none⟩ = some (.int .i64 y) ∧ w'.cell? ⟨b', 1, none⟩ = some (.pointer pk') ∧ w'.cell? ⟨b, 0, none⟩ = some (.int .i64 x) ∧ w'.cell? ⟨b, 1, none⟩ = some (.pointer pk)) (go_keep) (fail)
        go_wp2_with fail
        go_ret
        have hi := In.new (x := y) (In.new (x := x) (h6.drewN (nq + 1)) (g6.drewN (nq + 1))) (pn := none) (n := .nil) rfl
        rw [World.size_alloc] at hi
        exact ⟨_, rfl, hi, ((below_drewN (Below.refl _ _) _).alloc (Nat.le_refl _) _).alloc (by simp) _⟩
      · have hyb : decide (y < x) = false := by simp [hy]
        rw [met_high hy]
        go_enter Try.func48, Try.ntmps48
        have ne1 := World.new_ne w ⟨b, 0, none⟩ h3
        have ne2 := World.new_ne w ⟨b', 0, none⟩ g3
        go_wp2_with fail
        go_quiet (fail)
        go_wp2_with fail
        go_region_held3 (fun w' => w'.cell? ⟨b', 0, none⟩ = some (.int .i64 y) ∧ w'.cell? ⟨b', 1, none⟩ = some (.pointer pk') ∧ w'.cell? ⟨b, 0, none⟩ = some (.int .i64 x) ∧ w'.cell? ⟨b, 1, none⟩ = some (.pointer pk)) (go_keep) (fail)
        go_wp2_with fail
        go_ret
        have hi := In.new (x := x) (In.new (x := y) (g6.drewN (nq + 1)) (h6.drewN (nq + 1))) (pn := none) (n := .nil) rfl
        rw [World.size_alloc] at hi
        exact ⟨_, rfl, hi, ((below_drewN (Below.refl _ _) _).alloc (Nat.le_refl _) _).alloc (by simp) _⟩
end PF
end Go.Proofs.Ytajbmikicbddiaa
