/-
  Leftist heaps: what each function of the package makes in memory, as plain trees. Conditions: sizes below 2^62.
-/
import Derived.Test.YtajbmikicbddiaaBase
import Derived.Test.YtajbmikicbddiaaLeftPlain
namespace Go.Proofs.Ytajbmikicbddiaa
open Go.RowKit Go.Deep
namespace LT

/-- A heap that lies in memory. -/
def In (w : World) : Option Addr → LT → Prop
  | p, .nil => p = none
  | p, .node x l r => ∃ b pl pr, p = some ⟨b, 0, none⟩ ∧
      w.heap[b]? = some (.cells #[.int .i64 x, .int .i64 ((LT.node x l r).size : Int), .int .i64 ((LT.node x l r).spine : Int), .pointer pl, .pointer pr] 60 (0, 0)) ∧ In w pl l ∧ In w pr r

theorem In.keep {w w' : World} (hk : KeepT 60 w w') : ∀ {t : LT} {p : Option Addr}, In w p t → In w' p t := by
  intro t
  induction t with
  | nil => intro p h; exact h
  | node x l r ihl ihr =>
    rintro p ⟨b, pl, pr, h1, h2, h3, h4⟩
    exact ⟨b, pl, pr, h1, hk _ _ h2, ihl h3, ihr h4⟩
theorem In.below {w w' : World} {t : LT} {p : Option Addr} (h : In w p t) (hb : Below w.heap.size w w') : In w' p t := h.keep (.of_below hb)

/-- What the walk reads of a node. -/
theorem In.open {w : World} {p : Option Addr} {x : Int} {l r : LT} (h : In w p (.node x l r)) : ∃ b pl pr, p = some ⟨b, 0, none⟩ ∧ b < w.heap.size ∧ w.cell? ⟨b, 0, none⟩ = some (.int .i64 x) ∧ w.cell? ⟨b, 1, none⟩ = some (.int .i64 ((LT.node x l r).size : Int)) ∧
      w.cell? ⟨b, 2, none⟩ = some (.int .i64 ((LT.node x l r).spine : Int)) ∧ w.cell? ⟨b, 3, none⟩ = some (.pointer pl) ∧ w.cell? ⟨b, 4, none⟩ = some (.pointer pr) ∧ In w pl l ∧ In w pr r := by
  obtain ⟨b, pl, pr, h1, h2, h3, h4⟩ := h
  obtain ⟨c, _, k⟩ := blk h2
  exact ⟨b, pl, pr, h1, k, c 0, c 1, c 2, c 3, c 4, h3, h4⟩

theorem In.new {w : World} {x n s : Int} {pl pr : Option Addr} {l r : LT} (hl : In w pl l) (hr : In w pr r) (hn : n = ((LT.node x l r).size : Int)) (hs : s = ((LT.node x l r).spine : Int)) :
    In (w.alloc (.cells #[.int .i64 x, .int .i64 n, .int .i64 s, .pointer pl, .pointer pr] 60)) (some ⟨w.heap.size, 0, none⟩) (.node x l r) := by
  subst hn
  subst hs
  have hb : Below w.heap.size w (w.alloc (.cells #[.int .i64 x, .int .i64 ((LT.node x l r).size : Int), .int .i64 ((LT.node x l r).spine : Int), .pointer pl, .pointer pr] 60)) := (Below.refl _ _).alloc (Nat.le_refl _) _
  exact ⟨w.heap.size, pl, pr, rfl, heap_alloc_new _ _, hl.below hb, hr.below hb⟩

theorem far_any (t : LT) (p : Option Addr) (w : World) (h : In w p t) :
    Calls Try.prog 43 #[.pointer p] w fun e w' => e = .returned (.int .i64 (t.spine : Int)) ∧ w = w' := by
  cases t with
  | nil =>
    obtain rfl : p = none := h
    go_enter Try.func43, Try.ntmps43
    go_wp2
    go_ret
    exact ⟨rfl, rfl⟩
  | node x l r =>
    obtain ⟨b, pl, pr, rfl, h2, h3, h4, h5, h6, h7, h8, h9⟩ := h.open
    go_enter Try.func43, Try.ntmps43
    go_wp2
    go_ret
    exact ⟨rfl, rfl⟩

theorem size_any (t : LT) (p : Option Addr) (w : World) (h : In w p t) :
    Calls Try.prog 42 #[.pointer p] w fun e w' => e = .returned (.int .i64 (t.size : Int)) ∧ w = w' := by
  cases t with
  | nil =>
    obtain rfl : p = none := h
    go_enter Try.func42, Try.ntmps42
    go_wp2
    go_ret
    exact ⟨rfl, rfl⟩
  | node x l r =>
    obtain ⟨b, pl, pr, rfl, h2, h3, h4, h5, h6, h7, h8, h9⟩ := h.open
    go_enter Try.func42, Try.ntmps42
    go_wp2
    go_ret
    exact ⟨rfl, rfl⟩

theorem mk_low {x : Int} {a b : LT} (h : a.spine < b.spine) : mk x a b = node x b a := by unfold mk; rw [if_pos h]
theorem mk_high {x : Int} {a b : LT} (h : ¬ a.spine < b.spine) : mk x a b = node x a b := by unfold mk; rw [if_neg h]

set_option maxHeartbeats 400000 in
theorem made_any (x : Int) (ta tb : LT) (pa pb : Option Addr) (w : World) (ha : In w pa ta) (hb : In w pb tb) (hs : ta.size + tb.size ≤ 4611686018427387904) :
    Calls Try.prog 44 #[.int .i64 x, .pointer pa, .pointer pb] w fun e w' => ∃ p, e = .returned (.pointer p) ∧ In w' p (mk x ta tb) ∧ Below w.heap.size w w' := by
  have s1 := spine_le ta
  have s2 := spine_le tb
  by_cases hlt : ta.spine < tb.spine
  · have hd : decide ((ta.spine : Int) < (tb.spine : Int)) = true := by simp; omega
    have hl : (ta.spine : Int) < (tb.spine : Int) := by omega
    rw [mk_low hlt]
    clear hlt
    go_enter Try.func44, Try.ntmps44
    go_wp2_with fail
    refine (far_any ta pa _ ha).mono ?_
    rintro e w' ⟨rfl, rfl⟩
    go_wp2_with fail
    refine (far_any tb pb _ hb).mono ?_
    rintro e w' ⟨rfl, rfl⟩
    go_wp2_with fail
    refine (size_any tb pb _ hb).mono ?_
    rintro e w' ⟨rfl, rfl⟩
    go_wp2_with fail
    refine (size_any ta pa _ ha).mono ?_
    rintro e w' ⟨rfl, rfl⟩
    go_wp2_with fail
    refine (far_any ta pa _ ha).mono ?_
    rintro e w' ⟨rfl, rfl⟩
    go_wp2_with fail
    go_ret
    exact ⟨_, rfl, In.new hb ha (by simp [size]) (by simp [spine]), (Below.refl _ _).alloc (Nat.le_refl _) _⟩
  · have hd : decide ((ta.spine : Int) < (tb.spine : Int)) = false := by simp; omega
    have hl : ¬ (ta.spine : Int) < (tb.spine : Int) := by omega
    rw [mk_high hlt]
    clear hlt
    go_enter Try.func44, Try.ntmps44
    go_wp2_with fail
    refine (far_any ta pa _ ha).mono ?_
    rintro e w' ⟨rfl, rfl⟩
    go_wp2_with fail
    refine (far_any tb pb _ hb).mono ?_
    rintro e w' ⟨rfl, rfl⟩
    go_wp2_with fail
    refine (size_any ta pa _ ha).mono ?_
    rintro e w' ⟨rfl, rfl⟩
    go_wp2_with fail
    refine (size_any tb pb _ hb).mono ?_
    rintro e w' ⟨rfl, rfl⟩
    go_wp2_with fail
    refine (far_any tb pb _ hb).mono ?_
    rintro e w' ⟨rfl, rfl⟩
    go_wp2_with fail
    go_ret
    exact ⟨_, rfl, In.new ha hb (by simp [size]) (by simp [spine]), (Below.refl _ _).alloc (Nat.le_refl _) _⟩

theorem In.drew {w : World} {t : LT} {p : Option Addr} (h : In w p t) : In w.drew p t := h.below (Below.refl _ _).drew
theorem In.drewN {w : World} {t : LT} {p : Option Addr} (h : In w p t) (n : Nat) : In (w.drewN n) p t := h.below (below_drewN (Below.refl _ _) n)

end LT
end Go.Proofs.Ytajbmikicbddiaa
