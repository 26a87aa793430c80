/-
  The document's plain lists: one behind the other. Conditions: fewer than 2^44 numbers.
-/
import Derived.Test.YthjghbifcnfcmaaWords
namespace Go.Proofs.Ythjghbifcnfcmaa
open Go.RowKit Go.Deep

set_option maxHeartbeats 400000 in
theorem cat_any (a b : Option Addr) (n m c d : Nat) (xs ys : List Int) (w : World) (h : Sl w a n c xs) (k : Sl w b m d ys) (hn : n + m ≤ 17592186044416) :
    Calls Try.prog 15 #[.slice a n c, .slice b m d] w fun e w' => ∃ v, e = .returned v ∧ w'.ownsRow w.heap.size 3 1 v (n + m) ((xs ++ ys).map (Value.int .i64)) ∧ Below w.heap.size w w' := by
  obtain ⟨i0, hi0, hz0, hz1, hz2⟩ := info_parts Try.infoInt
  have R1 := h.reads
  have R2 := k.reads
  have o1 := one_cells xs
  have o2 := one_cells ys
  have O1 := Lib.hid o1
  have O2 := Lib.hid o2
  clear o1 o2 h k
  go_enter Try.func15, Try.ntmps15
  go_wp2_with (first
    | (at_builtin; refine wpList_append_any _ rfl (.tmp 6) (.tmp 7) _ rfl w.heap.size 3 i0 _ 1 8 Try.underlying22 hi0 hz0 hz1 hz2 rfl (by omega) (.slice none 0 0) 0 [] rfl ⟨by simp, .inl ⟨rfl, rfl⟩⟩ w.heap.size a n c _ rfl R1 O1.out (by simp only [maxLen]; omega) (by omega) (Nat.le_refl _) ?_; intro v1 w1 hown1 hg1 hat1; have hbw1 : Below w.heap.size w w1 := (Below.refl _ _).grown hg1 (Nat.le_refl _) (by simp [Value.ownBlock]))
    | (at_builtin; refine wpList_append_any _ rfl (.tmp 9) (.tmp 10) _ rfl w.heap.size 3 i0 _ 1 8 Try.underlying22 hi0 hz0 hz1 hz2 rfl (by omega) v1 (0 + n) _ rfl hown1 w.heap.size b m d _ rfl (R2.below hbw1) O2.out (by simp only [maxLen]; omega) (by omega) hbw1.size ?_; intro v2 w2 hown2 hg2 hat2))
  go_ret
  refine ⟨v2, rfl, by simpa using hown2, below_grown hbw1 hown1 hg2 (Nat.le_refl _) hbw1.size⟩

end Go.Proofs.Ythjghbifcnfcmaa
