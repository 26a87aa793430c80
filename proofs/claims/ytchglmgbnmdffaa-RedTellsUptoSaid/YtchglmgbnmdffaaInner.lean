/-
  The numbers of a told tree from the left to the right, and its places from the top on. Conditions: at most 2^44 nodes.
-/
import Derived.Test.YtchglmgbnmdffaaNodes
import Derived.Test.YtchglmgbnmdffaaShapeKit
import Derived.Test.YtchglmgbnmdffaaRef
namespace Go.Proofs.Ytchglmgbnmdffaa
open Go.RowKit Go.Deep

theorem own_below {w w' : World} {base : Nat} {e : TypeId} {size : Nat} {v : Value} {n : Nat} {xs : List Value} (h : w.ownsRow base e size v n xs) (hb : Below w.heap.size w w') : w'.ownsRow base e size v n xs := own_keep h (.of_below hb)
theorem own_apart {w1 w2 : World} {base : Nat} {e e' : TypeId} {s s' : Nat} {v1 v2 : Value} {n m : Nat} {xs ys : List Value} (o1 : w1.ownsRow base e s v1 n xs) (o2 : w2.ownsRow w1.heap.size e' s' v2 m ys) : v2.ownBlock = none ∨ v2.ownBlock ≠ v1.ownBlock := by
  rcases h2 : v2.ownBlock with _ | g2
  · exact .inl rfl
  · refine .inr fun h => ?_
    have a := (o1.lt g2 h.symm).2
    have b := (o2.lt g2 h2).1
    omega
theorem ref_ge (t : ST) (k : Nat) : refOf t k = -1 ∨ refOf t k = (k : Int) := by
  rcases ref_cases t k with ⟨_, h⟩ | ⟨_, _, _, _, _, h⟩
  · exact .inl h
  · exact .inr h

set_option maxRecDepth 100000 in
set_option maxHeartbeats 3000000 in
theorem inner_any (m : ST → Int) (S : List Nd) (a : Option Addr) (n c : Nat) (hn : n ≤ 17592186044416) (t : ST) : ∀ (k : Nat) (w : World), Nl w a n c S → At m S t k →
    Calls Try.prog 53 #[.slice a n c, .int .i64 (refOf t k)] w fun e w' => ∃ v, e = .returned (.tuple #[v, .bool true]) ∧ w'.ownsRow w.heap.size 3 1 v t.size (t.toL.map (Value.int .i64)) ∧ Below w.heap.size w w' := by
  induction t with
  | nil =>
    intro k w h hat
    rw [ref_nil]
    go_enter Try.func53, Try.ntmps53
    go_wp2
    go_ret2
    exact ⟨_, rfl, World.ownsRow_nil _ _ _ _, Below.refl _ _⟩
  | node x0 x l r ihl ihr =>
    intro k w h hat
    rw [ref_node]
    obtain ⟨i0, hi0, hz0, hz1, hz2⟩ := info_parts Try.infoInt
    have hsz := at_size _ _ hat (by simp)
    have hk := at_lt hat
    rw [h.hlen] at hk hsz
    simp only [ST.size] at hsz
    have hm := h.hmax
    have hm2 := h.hcap
    unfold maxLen at hm
    obtain ⟨b, off, rfl, hb, hc⟩ := h.hat (by omega)
    obtain ⟨g0, g1, g2, g3⟩ := hc k _ hat.1
    obtain ⟨_, hl, hr⟩ := hat
    have hki : (0 : Int) ≤ (k : Int) := by omega
    have hkn : (k : Int) < (n : Int) := by omega
    have L1 := ref_ge l (k + 1)
    have R1 := ref_ge r (k + 1 + l.size)
    have CL := fun w h => ihl (k + 1) w h hl
    have CR := fun w h => ihr (k + 1 + l.size) w h hr
    obtain ⟨L, hL⟩ : ∃ L, refOf l (k + 1) = L := ⟨_, rfl⟩
    obtain ⟨R, hR⟩ : ∃ R, refOf r (k + 1 + l.size) = R := ⟨_, rfl⟩
    rw [hL] at L1 CL
    rw [hR] at R1 CR
    replace g1 : w.cell? ⟨b, off + k * 4 + 1, none⟩ = some (.int .i64 L) := by rw [← hL]; exact g1
    replace g2 : w.cell? ⟨b, off + k * 4 + 2, none⟩ = some (.int .i64 R) := by rw [← hR]; exact g2
    replace g0 : w.cell? ⟨b, off + k * 4, none⟩ = some (.int .i64 x) := g0
    have CLH := Lib.hid CL
    have CRH := Lib.hid CR
    have hLk : ¬ 0 ≤ L ∨ ¬ L ≤ (k : Int) := by omega
    have hRk : ¬ 0 ≤ R ∨ ¬ R ≤ (k : Int) := by omega
    clear hc g3 hL hR ihl ihr hl hr CL CR L1 R1
    have Lh := Lib.hid hLk
    have Rh := Lib.hid hRk
    clear hLk hRk
    by_cases h1 : 0 ≤ L <;> by_cases h2 : 0 ≤ R
    all_goals
      try (have h1' : ¬ L ≤ (k : Int) := by have := Lh.out; omega)
      try (have h2' : ¬ R ≤ (k : Int) := by have := Rh.out; omega)
      go_enter Try.func53, Try.ntmps53
      go_wp2_with fail
      refine (CLH.out _ h).mono ?_
      rintro e w1 ⟨v1, rfl, o1, b1⟩
      have g2' := (b1.cell (p := ⟨b, off + k * 4 + 2, none⟩) hb).trans g2
      go_wp2_with fail
      refine (CRH.out _ (h.below b1)).mono ?_
      rintro e w2 ⟨v2, rfl, o2, b2⟩
      have o1' := own_below o1 b2
      obtain ⟨a2, c2, rfl⟩ := own_slice o2
      have B2 := below_then b1 b2
      have hs2 := B2.size
      have g0' := (B2.cell (p := ⟨b, off + k * 4, none⟩) hb).trans g0
      have hne := own_apart o1 o2
      have O2 := Lib.hid (one_cells r.toL)
      go_wp2_with (first
        | (at_builtin; refine wpList_append_own _ rfl (.tmp 70) (.tmp 76) 22 rfl w.heap.size 3 i0 (.int .i64 0) 1 8 Try.underlying22 hi0 hz0 hz1 hz2 rfl (by decide) v1 l.size _ rfl (o1'.alloc _) ⟨w2.heap.size, 0, none⟩ 1 1 [.int .i64 x] rfl rfl (cell_one_new _ _ _) (by simp [Value.oneCell']) (by unfold maxLen; omega) (by omega) (by simp; omega) ?_; intro v3 w3 o3 hg3 _; have R3 := Reads.of_own ((o2.alloc _).kept hg3 hne); have B3 := below_grown (B2.alloc hs2 _) (o1'.alloc _) hg3 (Nat.le_refl _) (by simp; omega))
        | (at_builtin; refine wpList_append_any _ rfl (.tmp 77) (.tmp 78) _ rfl w.heap.size 3 i0 _ 1 8 Try.underlying22 hi0 hz0 hz1 hz2 rfl (by omega) v3 (l.size + 1) _ rfl o3 w3.heap.size a2 r.size c2 _ rfl R3 O2.out (by simp only [maxLen]; omega) (by omega) B3.size ?_; intro v4 w4 o4 hg4 hat4))
      go_ret2
      refine ⟨v4, rfl, ?_, below_grown B3 o3 hg4 (Nat.le_refl _) B3.size⟩
      rw [show (ST.node x0 x l r).size = l.size + 1 + r.size by simp only [ST.size]; omega]
      simpa [ST.toL] using o4
end Go.Proofs.Ytchglmgbnmdffaa
