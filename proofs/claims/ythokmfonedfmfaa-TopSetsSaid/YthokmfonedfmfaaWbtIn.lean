/-
  Wbt: trees that lie in memory, node by node. Conditions: none.
-/
import Derived.Test.YthokmfonedfmfaaWords
import Derived.Test.YthokmfonedfmfaaWbtPlain
namespace Go.Proofs.Ythokmfonedfmfaa.WBT
open Go.RowKit Go.Deep
open Go.Proofs.Ythokmfonedfmfaa Go.Proofs.Ythokmfonedfmfaa.ST

/-- A tree in memory. -/
def In (w : World) : Option Addr → ST → Prop
  | p, .nil => p = none
  | p, .node c x l r => ∃ b pl pr, p = some ⟨b, 0, none⟩ ∧ w.heap[b]? = some (.cells #[.int .i64 x, .int .i64 ((ST.node c x l r).size : Int), .pointer pl, .pointer pr] 163 (0, 0)) ∧ In w pl l ∧ In w pr r
theorem In.keep {w w' : World} (hk : KeepT 163 w w') : ∀ {t : ST} {p : Option Addr}, In w p t → In w' p t := by
  intro t
  induction t with
  | nil => intro p h; exact h
  | node c x l r ihl ihr =>
    rintro p ⟨b, pl, pr, h1, h2, h3, h4⟩
    exact ⟨b, pl, pr, h1, hk _ _ h2, ihl h3, ihr h4⟩
theorem In.below {w w' : World} {t : ST} {p : Option Addr} (h : In w p t) (hb : Below w.heap.size w w') : In w' p t := h.keep (.of_below hb)
theorem In.alloc {w : World} {t : ST} {p : Option Addr} (h : In w p t) (o : Obj) : In (w.alloc o) p t := h.below ((Below.refl _ _).alloc (Nat.le_refl _) _)
theorem In.drew {w : World} {t : ST} {p : Option Addr} (h : In w p t) : In w.drew p t := h.below (Below.refl _ _).drew
theorem In.drewN {w : World} {t : ST} {p : Option Addr} (h : In w p t) (n : Nat) : In (w.drewN n) p t := h.below (below_drewN (Below.refl _ _) n)
/-- What the walk reads of a node. -/
theorem In.open {w : World} {p : Option Addr} {c : Bool} {x : Int} {l r : ST} (h : In w p (.node c x l r)) : ∃ b pl pr, p = some ⟨b, 0, none⟩ ∧ b < w.heap.size ∧ w.cell? ⟨b, 0, none⟩ = some (.int .i64 x) ∧ w.cell? ⟨b, 1, none⟩ = some (.int .i64 ((ST.node c x l r).size : Int)) ∧ w.cell? ⟨b, 2, none⟩ = some (.pointer pl) ∧ w.cell? ⟨b, 3, none⟩ = some (.pointer pr) ∧ In w pl l ∧ In w pr r := by
  obtain ⟨b, pl, pr, h1, h2, h3, h4⟩ := h
  obtain ⟨c, _, k⟩ := blk h2
  exact ⟨b, pl, pr, h1, k, c 0, c 1, c 2, c 3, h3, h4⟩
theorem In.new {w : World} {c : Bool} {x n : Int} {pl pr : Option Addr} {l r : ST} (hl : In w pl l) (hr : In w pr r) (hn : n = ((ST.node c x l r).size : Int)) :
    In (w.alloc (.cells #[.int .i64 x, .int .i64 n, .pointer pl, .pointer pr] 163)) (some ⟨w.heap.size, 0, none⟩) (.node c x l r) := by
  subst hn
  skip
  have hb : Below w.heap.size w (w.alloc (.cells #[.int .i64 x, .int .i64 ((ST.node c x l r).size : Int), .pointer pl, .pointer pr] 163)) := (Below.refl _ _).alloc (Nat.le_refl _) _
  exact ⟨w.heap.size, pl, pr, rfl, heap_alloc_new _ _, hl.below hb, hr.below hb⟩
theorem In.nil_of {w : World} {t : ST} (h : In w none t) : t = .nil := by
  cases t with
  | nil => rfl
  | node c x l r => obtain ⟨b, pl, pr, h1, _⟩ := h; cases h1

theorem size_any (t : ST) (p : Option Addr) (w : World) (h : In w p t) :
    Calls Try.prog 112 #[.pointer p] w fun e w' => e = .returned (.int .i64 (t.size : Int)) ∧ w = w' := by
  cases t with
  | nil =>
    obtain rfl : p = none := h
    go_enter Try.func112, Try.ntmps112
    go_wp2
    go_ret
    exact ⟨rfl, rfl⟩
  | node c x l r =>
    obtain ⟨b, pl, pr, rfl, h2, k0, k1, k2, k3, hl, hr⟩ := h.open
    go_enter Try.func112, Try.ntmps112
    go_wp2
    go_ret
    exact ⟨rfl, rfl⟩
end Go.Proofs.Ythokmfonedfmfaa.WBT
