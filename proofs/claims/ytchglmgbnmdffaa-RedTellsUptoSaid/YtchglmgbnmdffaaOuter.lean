/-
  The places of a told tree from the top on. Conditions: at most 2^44 nodes.
-/
import Derived.Test.YtchglmgbnmdffaaInner
namespace Go.Proofs.Ytchglmgbnmdffaa
open Go.RowKit Go.Deep

/-- So many numbers from one on. -/
def upFrom (k n : Nat) : List Int := (List.range' k n).map fun (i : Nat) => (i : Int)
theorem upFrom_node (k a b : Nat) : upFrom k (1 + a + b) = (k : Int) :: (upFrom (k + 1) a ++ upFrom (k + 1 + a) b) := by
  unfold upFrom
  rw [show 1 + a + b = (a + b) + 1 by omega, List.range'_succ, List.map_cons, ← List.map_append, ← List.range'_append_1]
theorem upFrom_length (k n : Nat) : (upFrom k n).length = n := by simp [upFrom]
theorem upFrom_get (n j : Nat) (h : j < n) : (upFrom 0 n)[j]?.getD 0 = (j : Int) := by
  simp [upFrom, h]
theorem apart_lit {w : World} {b : Nat} {e : TypeId} {s : Nat} {v : Value} {m n c : Nat} {ys : List Value} (o : w.ownsRow b e s v m ys) : v.ownBlock = none ∨ v.ownBlock ≠ (Value.slice (some ⟨w.heap.size, 0, none⟩) n c).ownBlock := by
  rcases h2 : v.ownBlock with _ | g2
  · exact .inl rfl
  · refine .inr fun h => ?_
    have a := (o.lt g2 h2).2
    simp [Value.ownBlock] at h
    omega

set_option linter.unusedVariables false
set_option maxRecDepth 100000 in
set_option maxHeartbeats 3000000 in
theorem outer_any (m : ST → Int) (S : List Nd) (a : Option Addr) (n c : Nat) (hn : n ≤ 17592186044416) (t : ST) : ∀ (k : Nat) (w : World), Nl w a n c S → At m S t k →
    Calls Try.prog 54 #[.slice a n c, .int .i64 (refOf t k)] w fun e w' => ∃ v, e = .returned v ∧ w'.ownsRow w.heap.size 3 1 v t.size ((upFrom k t.size).map (Value.int .i64)) ∧ Below w.heap.size w w' := by
  induction t with
  | nil =>
    intro k w h hat
    rw [ref_nil]
    go_enter Try.func54, Try.ntmps54
    go_wp2
    go_ret
    exact ⟨.slice none 0 0, rfl, World.ownsRow_nil _ _ _ _, Below.refl _ _⟩
  | node x0 x l r ihl ihr =>
    intro k w h hat
    rw [ref_node]
    obtain ⟨i0, hi0, hz0, hz1, hz2⟩ := info_parts Try.infoInt
    have hsz := at_size _ _ hat (by simp)
    have hk := at_lt hat
    rw [h.hlen] at hk hsz
    simp only [ST.size] at hsz
    have hm := h.hmax
    have hm2 := h.hcap
    unfold maxLen at hm
    obtain ⟨b, off, rfl, hb, hc⟩ := h.hat (by omega)
    obtain ⟨g0, g1, g2, g3⟩ := hc k _ hat.1
    obtain ⟨_, hl, hr⟩ := hat
    have hki : (0 : Int) ≤ (k : Int) := by omega
    have hkn : (k : Int) < (n : Int) := by omega
    have CL := fun w h => ihl (k + 1) w h hl
    have CR := fun w h => ihr (k + 1 + l.size) w h hr
    obtain ⟨L, hL⟩ : ∃ L, refOf l (k + 1) = L := ⟨_, rfl⟩
    obtain ⟨R, hR⟩ : ∃ R, refOf r (k + 1 + l.size) = R := ⟨_, rfl⟩
    rw [hL] at CL
    rw [hR] at CR
    replace g1 : w.cell? ⟨b, off + k * 4 + 1, none⟩ = some (.int .i64 L) := by rw [← hL]; exact g1
    replace g2 : w.cell? ⟨b, off + k * 4 + 2, none⟩ = some (.int .i64 R) := by rw [← hR]; exact g2
    have CLH := Lib.hid CL
    have CRH := Lib.hid CR
    have O1 := Lib.hid (one_cells (upFrom (k + 1) l.size))
    have O2 := Lib.hid (one_cells (upFrom (k + 1 + l.size) r.size))
    have LIT := fun (W : World) (hW : w.heap.size ≤ W.heap.size) => World.ownsRow_lit (base := w.heap.size) (e := 3) (size := 1) W #[.int .i64 (k : Int)] 1 hW (by decide) rfl
    have LITH := Lib.hid LIT
    clear hc g0 g3 hL hR ihl ihr hl hr CL CR LIT
    go_enter Try.func54, Try.ntmps54
    go_wp2_with fail
    go_region_held3 (fun w' => w'.cell? ⟨b, off + k * 4 + 1, none⟩ = some (.int .i64 L) ∧ w'.cell? ⟨b, off + k * 4 + 2, none⟩ = some (.int .i64 R)) (go_keep) (first
      | (refine step_append_any _ (by rfl) (.tmp 16) (.tmp 23) 22 (by rfl) w.heap.size 3 i0 (.int .i64 0) 1 8 Try.underlying22 hi0 hz0 hz1 hz2 rfl (by decide) vA (1 + l.size) _ (by rfl) oA _ a2 r.size c2 _ (by rfl) (Reads.of_own o2A) O2.out (by unfold maxLen; omega) (by omega) bA.size ?_; intro vZ wZ oZ hgZ hatZ; have bZ := below_grown bA oA hgZ (Nat.le_refl _) bA.size; have sZ_0 := (bZ.cell (p := ⟨b, off + k * 4 + 1, none⟩) hb).trans g1; have sZ_1 := (bZ.cell (p := ⟨b, off + k * 4 + 2, none⟩) hb).trans g2)
      | (refine step_append_any _ (by rfl) (.tmp 16) (.tmp 23) 22 (by rfl) w.heap.size 3 i0 (.int .i64 0) 1 8 Try.underlying22 hi0 hz0 hz1 hz2 rfl (by decide) vA (1 + l.size) _ (by rfl) oA2 _ a2 r.size c2 _ (by rfl) (Reads.of_own o2) O2.out (by unfold maxLen; omega) (by omega) bw2.size ?_; intro vZ wZ oZ hgZ hatZ; have bZ := below_grown bw2 oA2 hgZ (Nat.le_refl _) bw2.size; have sZ_0 := (bZ.cell (p := ⟨b, off + k * 4 + 1, none⟩) hb).trans g1; have sZ_1 := (bZ.cell (p := ⟨b, off + k * 4 + 2, none⟩) hb).trans g2)
      | (refine step_append_any _ (by rfl) (.tmp 8) (.tmp 15) 22 (by rfl) w.heap.size 3 i0 (.int .i64 0) 1 8 Try.underlying22 hi0 hz0 hz1 hz2 rfl (by decide) _ 1 _ (by rfl) ol2 _ a1 l.size c1 _ (by rfl) (Reads.of_own o12) O1.out (by unfold maxLen; omega) (by omega) bw2.size ?_; intro vA wA oA hgA hatA; have bA := below_grown bw2 ol2 hgA (Nat.le_refl _) bw2.size; have o2A := o2.kept hgA hne2; have sA_0 := (bA.cell (p := ⟨b, off + k * 4 + 1, none⟩) hb).trans g1; have sA_1 := (bA.cell (p := ⟨b, off + k * 4 + 2, none⟩) hb).trans g2)
      | (refine step_append_any _ (by rfl) (.tmp 8) (.tmp 15) 22 (by rfl) w.heap.size 3 i0 (.int .i64 0) 1 8 Try.underlying22 hi0 hz0 hz1 hz2 rfl (by decide) _ 1 _ (by rfl) (LITH.out w2 bw2.size) _ a1 l.size c1 _ (by rfl) (Reads.of_own (o12.alloc _)) O1.out (by unfold maxLen; omega) (by omega) (Nat.le_trans bw2.size (by simp)) ?_; intro vA wA oA hgA hatA; have bA := below_grown (bw2.alloc bw2.size _) (LITH.out w2 bw2.size) hgA (Nat.le_refl _) (Nat.le_trans bw2.size (by simp)); have o2A := (o2.alloc _).kept hgA (apart_lit o2); have sA_0 := (bA.cell (p := ⟨b, off + k * 4 + 1, none⟩) hb).trans g1; have sA_1 := (bA.cell (p := ⟨b, off + k * 4 + 2, none⟩) hb).trans g2)
      | (refine step_append_any _ (by rfl) (.tmp 8) (.tmp 15) 22 (by rfl) w.heap.size 3 i0 (.int .i64 0) 1 8 Try.underlying22 hi0 hz0 hz1 hz2 rfl (by decide) _ 1 _ (by rfl) ol _ a1 l.size c1 _ (by rfl) (Reads.of_own o1) O1.out (by unfold maxLen; omega) (by omega) bw1.size ?_; intro vA wA oA hgA hatA; have bA := below_grown bw1 ol hgA (Nat.le_refl _) bw1.size; have sA_0 := (bA.cell (p := ⟨b, off + k * 4 + 1, none⟩) hb).trans g1; have sA_1 := (bA.cell (p := ⟨b, off + k * 4 + 2, none⟩) hb).trans g2)
      | (refine step_append_any _ (by rfl) (.tmp 8) (.tmp 15) 22 (by rfl) w.heap.size 3 i0 (.int .i64 0) 1 8 Try.underlying22 hi0 hz0 hz1 hz2 rfl (by decide) _ 1 _ (by rfl) (LITH.out w1 bw1.size) _ a1 l.size c1 _ (by rfl) (Reads.of_own (o1.alloc _)) O1.out (by unfold maxLen; omega) (by omega) (Nat.le_trans bw1.size (by simp)) ?_; intro vA wA oA hgA hatA; have bA := below_grown (bw1.alloc bw1.size _) (LITH.out w1 bw1.size) hgA (Nat.le_refl _) (Nat.le_trans bw1.size (by simp)); have sA_0 := (bA.cell (p := ⟨b, off + k * 4 + 1, none⟩) hb).trans g1; have sA_1 := (bA.cell (p := ⟨b, off + k * 4 + 2, none⟩) hb).trans g2)
      | (have _t := oA; go_at_call 54; refine (CRH.out _ (h.below bA)).mono ?_; rintro e w2 ⟨v2, rfl, o2, b2⟩; obtain ⟨a2, c2, rfl⟩ := own_slice o2; have oA2 := own_below oA b2; have bw2 := below_then bA b2; have s2_0 := (bw2.cell (p := ⟨b, off + k * 4 + 1, none⟩) hb).trans g1; have s2_1 := (bw2.cell (p := ⟨b, off + k * 4 + 2, none⟩) hb).trans g2)
      | (have _t := o1; go_at_call 54; refine (CRH.out _ (h.below bw1)).mono ?_; rintro e w2 ⟨v2, rfl, o2, b2⟩; obtain ⟨a2, c2, rfl⟩ := own_slice o2; have o12 := own_below o1 b2; have bw2 := below_then bw1 b2; (try have ol2 := own_below ol b2); (try have hne2 := own_apart ol o2); have s2_0 := (bw2.cell (p := ⟨b, off + k * 4 + 1, none⟩) hb).trans g1; have s2_1 := (bw2.cell (p := ⟨b, off + k * 4 + 2, none⟩) hb).trans g2)
      | (have _t := o1; go_at_call 54; refine (CRH.out _ ((h.below bw1).alloc _)).mono ?_; rintro e w2 ⟨v2, rfl, o2, b2⟩; obtain ⟨a2, c2, rfl⟩ := own_slice o2; have o12 := own_below (o1.alloc _) b2; have bw2 := below_then (bw1.alloc bw1.size _) b2; have ol2 := own_below (LITH.out w1 bw1.size) b2; have hne2 := own_apart (LITH.out w1 bw1.size) o2; have s2_0 := (bw2.cell (p := ⟨b, off + k * 4 + 1, none⟩) hb).trans g1; have s2_1 := (bw2.cell (p := ⟨b, off + k * 4 + 2, none⟩) hb).trans g2)
      | (go_at_call 54; refine (CLH.out _ h.drew).mono ?_; rintro e w1 ⟨v1, rfl, o1, b1⟩; obtain ⟨a1, c1, rfl⟩ := own_slice o1; have bw1 : Below w.heap.size w w1 := below_of_drew b1; have s1_0 := (bw1.cell (p := ⟨b, off + k * 4 + 1, none⟩) hb).trans g1; have s1_1 := (bw1.cell (p := ⟨b, off + k * 4 + 2, none⟩) hb).trans g2)
      | (go_at_call 54; refine (CLH.out _ (h.drew.alloc _)).mono ?_; rintro e w1 ⟨v1, rfl, o1, b1⟩; obtain ⟨a1, c1, rfl⟩ := own_slice o1; have bw1 : Below w.heap.size w w1 := below_of_drew (below_then ((Below.refl _ _).alloc (Nat.le_refl _) _) b1); have ol := own_below (LITH.out w.drew (Nat.le_refl _)) b1; have s1_0 := (bw1.cell (p := ⟨b, off + k * 4 + 1, none⟩) hb).trans g1; have s1_1 := (bw1.cell (p := ⟨b, off + k * 4 + 2, none⟩) hb).trans g2))
    all_goals
      go_wp2_with fail
      go_ret
      refine ⟨vZ, rfl, ?_, bZ⟩
      rw [show (ST.node x0 x l r).size = 1 + l.size + r.size from rfl, upFrom_node]
      simpa using oZ
end Go.Proofs.Ytchglmgbnmdffaa
