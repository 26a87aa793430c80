/-
  The document's plain lists: how many are below, one behind the other, a number put ahead of a place. Conditions: fewer than 2^44 numbers.
-/
import Derived.Test.YtdeffgaghmghoaaWords
import Derived.Test.YtdeffgaghmghoaaSame
import Derived.Test.YtdeffgaghmghoaaSort
namespace Go.Proofs.Ytdeffgaghmghoaa
open Go.RowKit Go.Deep

theorem below_any (a : Option Addr) (n c : Nat) (xs : List Int) (x : Int) (w : World) (h : Sl w a n c xs) :
    Calls Try.prog 24 #[.slice a n c, .int .i64 x] w fun e w' => e = .returned (.int .i64 (belowN xs x : Int)) ∧ w = w' := by
  have hm := h.hmax
  have hm2 := h.hcap
  unfold maxLen at hm
  have HL := Lib.hid h.hlen
  have HH := Lib.hid h
  clear h
  go_enter Try.func24, Try.ntmps24
  go_wp2
  go_loop [5, 6] (fun m i => ∃ k : Nat, k ≤ n ∧ i = .int .i64 k ∧ m = .int .i64 (belowN (xs.take k) x : Int)) (fun _ i => n - (intOf i).toNat)
  case atStart => exact ⟨0, Nat.zero_le _, rfl, rfl⟩
  case round =>
    obtain ⟨k, hk, rfl, rfl⟩ := hrel
    by_cases hlt : k < n
    · obtain ⟨b, off, rfl, hbl, hc⟩ := HH.out.hat (by omega)
      have g := hc k hlt
      clear hc
      have hlti : (k : Int) < (n : Int) := by omega
      have hb1 := belowN_le (xs.take k) x
      have hb2 : (xs.take k).length ≤ k := List.length_take_le _ _
      have hb3 : (belowN (xs.take k) x : Int) + 1 ≤ 9223372036854775807 := by omega
      have t1 := take_snoc' xs k (by have := HL.out; omega)
      have t2 := belowN_snoc (xs[k]?.getD 0) (xs.take k) x
      rw [← t1] at t2
      have T2 := Lib.hid t2
      clear t1 t2
      by_cases hv : xs[k]?.getD 0 < x
      · go_wp2
        go_round
        case rel => exact ⟨k + 1, by omega, by go_num, by rw [T2.out, if_pos hv]; go_num⟩
        case measure => simp [intOf]; omega
      · go_wp2
        go_round
        case rel => exact ⟨k + 1, by omega, by go_num, by rw [T2.out, if_neg hv]; go_num⟩
        case measure => simp [intOf]; omega
    · have hxs : xs.take k = xs := List.take_of_length_le (by have := HL.out; omega)
      rw [hxs]
      have HX := Lib.hid hxs
      clear hxs
      go_wp2
      go_ret
      exact ⟨rfl, rfl⟩

set_option maxHeartbeats 400000 in
theorem cat_any (a b : Option Addr) (n m c d : Nat) (xs ys : List Int) (w : World) (h : Sl w a n c xs) (k : Sl w b m d ys) (hn : n + m ≤ 17592186044416) :
    Calls Try.prog 15 #[.slice a n c, .slice b m d] w fun e w' => ∃ v, e = .returned v ∧ w'.ownsRow w.heap.size 3 1 v (n + m) ((xs ++ ys).map (Value.int .i64)) ∧ Below w.heap.size w w' := by
  obtain ⟨i0, hi0, hz0, hz1, hz2⟩ := info_parts Try.infoInt
  have R1 := h.reads
  have R2 := k.reads
  have o1 := one_cells xs
  have o2 := one_cells ys
  have O1 := Lib.hid o1
  have O2 := Lib.hid o2
  clear o1 o2 h k
  go_enter Try.func15, Try.ntmps15
  go_wp2_with (first
    | (at_builtin; refine wpList_append_any _ rfl (.tmp 6) (.tmp 7) _ rfl w.heap.size 3 i0 _ 1 8 Try.underlying22 hi0 hz0 hz1 hz2 rfl (by omega) (.slice none 0 0) 0 [] rfl ⟨by simp, .inl ⟨rfl, rfl⟩⟩ w.heap.size a n c _ rfl R1 O1.out (by simp only [maxLen]; omega) (by omega) (Nat.le_refl _) ?_; intro v1 w1 hown1 hg1 hat1; have hbw1 : Below w.heap.size w w1 := (Below.refl _ _).grown hg1 (Nat.le_refl _) (by simp [Value.ownBlock]))
    | (at_builtin; refine wpList_append_any _ rfl (.tmp 9) (.tmp 10) _ rfl w.heap.size 3 i0 _ 1 8 Try.underlying22 hi0 hz0 hz1 hz2 rfl (by omega) v1 (0 + n) _ rfl hown1 w.heap.size b m d _ rfl (R2.below hbw1) O2.out (by simp only [maxLen]; omega) (by omega) hbw1.size ?_; intro v2 w2 hown2 hg2 hat2))
  go_ret
  refine ⟨v2, rfl, by simpa using hown2, below_grown hbw1 hown1 hg2 (Nat.le_refl _) hbw1.size⟩

set_option maxHeartbeats 800000 in
theorem with_any (a : Option Addr) (n c k : Nat) (xs : List Int) (x : Int) (w : World) (h : Sl w a n c xs) (hk : k ≤ n) (hn : n + 1 ≤ 17592186044416) :
    Calls Try.prog 23 #[.slice a n c, .int .i64 (k : Int), .int .i64 x] w fun e w' => ∃ v, e = .returned v ∧ w'.ownsRow w.heap.size 3 1 v (n + 1) ((withL xs k x).map (Value.int .i64)) ∧ Below w.heap.size w w' := by
  obtain ⟨i0, hi0, hz0, hz1, hz2⟩ := info_parts Try.infoInt
  have hm := h.hmax
  have hm2 := h.hcap
  unfold maxLen at hm
  have R1 := (h.front hk).reads
  have R2 := (h.rest hk).reads
  have o1 := one_cells (xs.take k)
  have o2 := one_cells (xs.drop k)
  have O1 := Lib.hid o1
  have O2 := Lib.hid o2
  clear o1 o2 h
  have hs1 := Try.slice_to a n c k (by omega)
  have hs2 := Try.slice_from a n c k hk
  go_enter Try.func23, Try.ntmps23
  go_wp2_with (first
    | (at_builtin; refine wpList_append_any _ rfl (.tmp 8) (.tmp 11) _ rfl w.heap.size 3 i0 _ 1 8 Try.underlying22 hi0 hz0 hz1 hz2 rfl (by omega) (.slice none 0 0) 0 [] rfl ⟨by simp, .inl ⟨rfl, rfl⟩⟩ w.heap.size a k c _ rfl R1 O1.out (by simp only [maxLen]; omega) (by omega) (Nat.le_refl _) ?_; intro v1 w1 hown1 hg1 hat1; have hbw1 : Below w.heap.size w w1 := (Below.refl _ _).grown hg1 (Nat.le_refl _) (by simp [Value.ownBlock]); have hbs1 := hbw1.size)
    | (at_builtin; refine wpList_append_own _ rfl (.tmp 13) (.tmp 15) 22 rfl w.heap.size 3 i0 (.int .i64 0) 1 8 Try.underlying22 hi0 hz0 hz1 hz2 rfl (by decide) _ _ _ rfl (hown1.alloc _) ⟨w1.heap.size, 0, none⟩ 1 1 [.int .i64 x] rfl rfl (cell_one_new _ _ _) (by simp [Value.oneCell']) (by unfold maxLen; omega) (by omega) (by simp; omega) ?_; intro v2 w2 hown2 hg2 _; have hbw2 : Below w.heap.size w w2 := below_grown (hbw1.alloc hbs1 _) (hown1.alloc _) hg2 (Nat.le_refl _) (by simp; omega))
    | (at_builtin; refine wpList_append_any _ rfl (.tmp 17) (.tmp 20) _ rfl w.heap.size 3 i0 _ 1 8 Try.underlying22 hi0 hz0 hz1 hz2 rfl (by omega) v2 (0 + k + 1) _ rfl hown2 w.heap.size (cutAt a c k) (n - k) (c - k) _ rfl (R2.below hbw2) O2.out (by simp only [maxLen]; omega) (by omega) hbw2.size ?_; intro v3 w3 hown3 hg3 hat3))
  go_ret
  refine ⟨v3, rfl, ?_, below_grown hbw2 hown2 hg3 (Nat.le_refl _) hbw2.size⟩
  have e1 : 0 + k + 1 + (n - k) = n + 1 := by omega
  rw [e1] at hown3
  simpa [withL] using hown3
end Go.Proofs.Ytdeffgaghmghoaa
