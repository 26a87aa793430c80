/-
  Skew digits: the known fact. Conditions: none.
-/
import Derived.Test.YtbmapjbljgpfkaaDoorSkewDec
namespace Go.Proofs.YtbmapjbljgpfkaaDoor
open Go.RowKit Go.Deep
set_option linter.unusedVariables false
namespace SK
theorem form_three : Form 3 := ⟨2, by omega, by omega, rfl⟩
theorem gd_five : (gd 40 5).reverse = [1, 1, 3] := by
  have h : valid [1, 1, 3] := valid_cons form_one (valid_cons form_one (valid_single form_three) (fun _ => by simp) (fun h => by simp at h)) (fun _ => by simp) (fun _ => by simp)
  have h2 := (valid_uniq h).1
  have h3 : ([1, 1, 3] : List Int).sum = 5 := by decide
  rw [h3] at h2
  rw [← h2]
  rfl
theorem Sl.three' (w : World) (k : Nat) (hk : k = w.heap.size) (x y z : Int) (T : TypeId) : Sl (w.alloc (.cells #[.int .i64 x, .int .i64 y, .int .i64 z] T)) (some ⟨k, 0, none⟩) 3 3 [x, y, z] := by
  subst hk
  obtain ⟨c, _, hlt⟩ := blk (heap_alloc_new w (.cells #[.int .i64 x, .int .i64 y, .int .i64 z] T))
  refine ⟨rfl, Nat.le_refl _, by decide, fun _ => ⟨w.heap.size, 0, rfl, hlt, fun j hj => ?_⟩⟩
  match j, hj with
  | 0, _ => exact c 0
  | 1, _ => exact c 1
  | 2, _ => exact c 2
theorem skewed_any (w : World) : Calls Tryd.prog 4 #[] w fun e w' => e = .returned (.bool true) ∧ Below w.heap.size w w' := by
  have DG := Digits_good 5 w (by omega) (by omega)
  rw [gd_five] at DG
  go_enter Tryd.func4, Tryd.ntmps4
  go_wp2_with fail
  refine DG.mono ?_
  rintro e w1 ⟨a, l, c, rfl, hs, hb1⟩
  go_wp2_with fail
  refine (same_yes _ _ _ _ _ _ _ _ _ (hs.below ((Below.refl _ _).alloc (Nat.le_refl _) _)) (Sl.three' _ _ rfl 1 1 3 _) rfl).mono ?_
  rintro e w2 ⟨rfl, hb2⟩
  obtain ⟨hb2, _⟩ := hold1 hb2 ⟨rfl, rfl, rfl, rfl⟩
  have hend := below_then hb1 hb2
  go_wp2_with fail
  go_ret
  exact ⟨rfl, hend⟩
end SK
end Go.Proofs.YtbmapjbljgpfkaaDoor
