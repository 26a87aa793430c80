/-
  Wbt: two sets are joined. Conditions: sizes below 2^60.
-/
import Derived.Test.YtchglmgbnmdffaaWbtSet
namespace Go.Proofs.Ytchglmgbnmdffaa.WBT
open Go.RowKit Go.Deep
open Go.Proofs.Ytchglmgbnmdffaa Go.Proofs.Ytchglmgbnmdffaa.ST

/-- Two sets, joined: as one if they lie over one another. -/
def join (t u : ST) : ST := if (atL t.toL ((t.size : Int) - 1)).2 = true ∧ (atL u.toL 0).2 = true ∧ (atL u.toL 0).1 ≤ (atL t.toL ((t.size : Int) - 1)).1 then union t u else joined t u
theorem last_mem {t : ST} (h : 0 < t.size) : atL t.toL ((t.size : Int) - 1) = (t.toL[t.size - 1]'(by rw [toL_length]; omega), true) := by
  rw [show ((t.size : Int) - 1) = ((t.size - 1 : Nat) : Int) by omega, atL_yes (by rw [toL_length]; omega), List.getElem?_eq_getElem (by rw [toL_length]; omega)]
  rfl
theorem first_mem {t : ST} (h : 0 < t.size) : atL t.toL 0 = (t.toL[0]'(by rw [toL_length]; omega), true) := by
  have := atL_yes (l := t.toL) (k := 0) (by rw [toL_length]; omega)
  rw [show ((0 : Nat) : Int) = 0 from rfl] at this
  rw [this, List.getElem?_eq_getElem (by rw [toL_length]; omega)]
  rfl
theorem nil_of_size {t : ST} (h : ¬ 0 < t.size) : t = .nil := by
  cases t with
  | nil => rfl
  | node c x l r => simp only [size] at h; omega
theorem three_b' (w : World) (o1 o2 o3 : Obj) : Below w.heap.size w (((w.alloc o1).alloc o2).alloc o3) :=
  (((Below.refl _ _).alloc (Nat.le_refl _) _).alloc (by simp) _).alloc (by simp; omega) _
theorem join_spec {t u : ST} (ht : t.Bst) (hu : u.Bst) : (join t u).Bst ∧ ∀ y, y ∈ (join t u).toL ↔ y ∈ t.toL ∨ y ∈ u.toL := by
  unfold join
  split
  · exact union_spec t u ht hu
  · rename_i hn
    refine joined_spec ht hu fun y hy z hz => ?_
    have h1 : 0 < t.size := by rw [← toL_length]; exact List.length_pos_of_mem hy
    have h2 : 0 < u.size := by rw [← toL_length]; exact List.length_pos_of_mem hz
    rw [last_mem h1, first_mem h2] at hn
    have hlt : ¬ u.toL[0]'(by rw [toL_length]; omega) ≤ t.toL[t.size - 1]'(by rw [toL_length]; omega) := fun e => hn ⟨rfl, rfl, e⟩
    obtain ⟨i, hi, ei⟩ := List.getElem_of_mem hy
    obtain ⟨j, hj, ej⟩ := List.getElem_of_mem hz
    have a1 : y ≤ t.toL[t.size - 1]'(by rw [toL_length]; omega) := by
      have hi' : i < t.size := by rw [← toL_length]; exact hi
      by_cases e : i = t.size - 1
      · subst e; omega
      · have := List.pairwise_iff_getElem.1 ht i (t.size - 1) hi (by rw [toL_length]; omega) (by omega)
        omega
    have a2 : u.toL[0]'(by rw [toL_length]; omega) ≤ z := by
      by_cases e : j = 0
      · subst e; omega
      · have := List.pairwise_iff_getElem.1 hu 0 j (by rw [toL_length]; omega) hj (by omega)
        omega
    omega
theorem join_wb {t u : ST} (ht : Wb t) (hu : Wb u) : Wb (join t u) := by
  unfold join
  split
  · exact union_wb t u ht hu
  · exact joined_wb ht hu
theorem join_size (t u : ST) : (join t u).size ≤ t.size + u.size := by
  unfold join
  split
  · exact union_size t u
  · rw [joined_size]; exact Nat.le_refl _

set_option linter.unusedVariables false
set_option maxRecDepth 100000 in
set_option maxHeartbeats 1600000 in
theorem join_set (t u : ST) (p q : Option Addr) (w : World) (h : In w p t) (h' : In w q u) (hs : t.size + u.size ≤ 576460752303423488) :
    Calls Try.prog 31 #[.agg #[.pointer p], .agg #[.pointer q]] w fun e w' => ∃ r, e = .returned (.agg #[.pointer r]) ∧ In w' r (join t u) ∧ Below w.heap.size w w' := by
  have HU := Lib.hid (fun p q W a b => union_set t u p q W a b hs)
  have HJ := Lib.hid (fun p q W a b => joined_any t u p q W a b (by omega))
  have HLt := Lib.hid (fun W a => len_set t p W a)
  have ej : join t u = if (atL t.toL ((t.size : Int) - 1)).2 = true ∧ (atL u.toL 0).2 = true ∧ (atL u.toL 0).1 ≤ (atL t.toL ((t.size : Int) - 1)).1 then union t u else joined t u := rfl
  obtain ⟨⟨y1, e1⟩, hy1⟩ : ∃ z, atL t.toL ((t.size : Int) - 1) = z := ⟨_, rfl⟩
  obtain ⟨⟨y2, e2⟩, hy2⟩ : ∃ z, atL u.toL 0 = z := ⟨_, rfl⟩
  have HA1 := Lib.hid (fun W a => at_any t ((t.size : Int) - 1) y1 e1 p W a (by omega) hy1)
  have HA2 := Lib.hid (fun W a => at_any u 0 y2 e2 q W a (by omega) hy2)
  rw [hy1, hy2] at ej
  simp only at ej
  rw [ej]
  have ew : IntKind.i64.wrap ((t.size : Int) - 1) = (t.size : Int) - 1 := IntWalk.i64_in _ (by omega)
  obtain ⟨zz, hzz⟩ : ∃ zz, decide (y2 ≤ y1) = zz := ⟨_, rfl⟩
  have ez : y2 ≤ y1 ↔ zz = true := by rw [← hzz]; simp
  simp only [ez]
  clear ej hy1 hy2 ez
  have ZH := Lib.hid hzz
  clear hzz
  go_enter Try.func31, Try.ntmps31
  go_wp2_with fail
  obtain ⟨W, hW⟩ : ∃ W, ((w.alloc (.cells #[.pointer p] 26)).alloc (.cells #[.pointer q] 26)).alloc (.cells #[.pointer none] 26) = W := ⟨_, rfl⟩
  have bW : Below w.heap.size w W := by rw [← hW]; exact three_b' w _ _ _
  have x0 : W.heap[w.heap.size]? = some (.cells #[.pointer p] 26 (0, 0)) := by
    rw [← hW]
    exact (Below.heap_alloc _ _ _ (by simp; omega)).trans ((Below.heap_alloc _ _ _ (by simp)).trans (heap_alloc_new _ _))
  have x1 : W.heap[w.heap.size + 1]? = some (.cells #[.pointer q] 26 (0, 0)) := by
    rw [← hW]
    refine (Below.heap_alloc _ _ _ (by simp)).trans ?_
    have := heap_alloc_new (w.alloc (.cells #[.pointer p] 26)) (.cells #[.pointer q] 26)
    rwa [World.size_alloc] at this
  have x2 : W.heap[w.heap.size + 1 + 1]? = some (.cells #[.pointer none] 26 (0, 0)) := by
    rw [← hW]
    have := heap_alloc_new ((w.alloc (.cells #[.pointer p] 26)).alloc (.cells #[.pointer q] 26)) (.cells #[.pointer none] 26)
    rwa [World.size_alloc, World.size_alloc] at this
  rw [hW]
  clear hW
  have h1 := h.below bW
  have h1' := h'.below bW
  have cX := (blk x0).1 0
  have HH := Lib.hid h1
  clear h1
  have calm0 : ∀ u : Grown W, _ := fun u => u.cell cX
  refine wp_region_calm (by kernel_rfl) (by kernel_rfl) ?_
  repeat (go_big_quiet_step ((first | (go_at_call 19; with_reducible exact calm_of (HLt.out _ (HH.out.below (Grown.below _)))) | (go_at_call 16; with_reducible exact calm_of (HA1.out _ (HH.out.below (Grown.below _)))))))
  refine wpQuiet_nil ?_
  intro wq hw'
  have bc : Below W.heap.size W wq := by obtain ⟨u, rfl⟩ := hw'; exact u.below
  clear hw' calm0
  have bq := below_then bW bc
  have z0 := blk_below x0 bc
  have z1 := blk_below x1 bc
  have z2 := blk_below x2 bc
  have g1 := HH.out.below bc
  have g2 := h1'.below bc
  clear bc cX h1' x0 x1 x2 ew
  have c1 := (blk z1).1 0
  go_wp2_with fail
  refine (HA2.out _ g2).mono ?_
  rintro e w2 ⟨rfl, b2⟩
  have bq2 := below_then bq b2
  replace z0 := blk_below z0 b2
  replace z1 := blk_below z1 b2
  replace z2 := blk_below z2 b2
  replace g1 := g1.below b2
  replace g2 := g2.below b2
  clear c1
  have c0 := (blk z0).1 0
  have c1 := (blk z1).1 0
  have dz := ZH.out
  cases e1 <;> cases e2 <;> cases zz
  all_goals
    go_wp2_with fail
    first
      | (refine (HU.out p q _ g1 g2).mono ?_
         rintro e w3 ⟨p3, rfl, hi3, b3⟩
         have y1' := blk_below z2 b3
         obtain ⟨d0, d1, d2⟩ := blk y1'
         have c0' := d0 0
         have f0' := d1 0
         clear d0 d1
         go_wp2_with fail
         refine bodyPost_ret (v := .agg #[.pointer p3]) (by simp [results, Try.results31, go_sem, c0']) rfl ⟨_, rfl, by first | exact hi3.keep (.setCell y1' (by decide)) | (rw [if_pos ⟨rfl, rfl, rfl⟩]; exact hi3.keep (.setCell y1' (by decide))), (below_then bq2 b3).setCell (p := ⟨w.heap.size + 1 + 1, 0, none⟩) (by simp; omega) _⟩)
      | (refine (HJ.out p q _ g1 g2).mono ?_
         rintro e w3 ⟨p3, rfl, hi3, b3⟩
         have y1' := blk_below z2 b3
         obtain ⟨d0, d1, d2⟩ := blk y1'
         have c0' := d0 0
         have f0' := d1 0
         clear d0 d1
         go_wp2_with fail
         refine bodyPost_ret (v := .agg #[.pointer p3]) (by simp [results, Try.results31, go_sem, c0']) rfl ⟨_, rfl, by first | exact hi3.keep (.setCell y1' (by decide)) | (rw [if_neg (by simp)]; exact hi3.keep (.setCell y1' (by decide))), (below_then bq2 b3).setCell (p := ⟨w.heap.size + 1 + 1, 0, none⟩) (by simp; omega) _⟩)
end Go.Proofs.Ytchglmgbnmdffaa.WBT
