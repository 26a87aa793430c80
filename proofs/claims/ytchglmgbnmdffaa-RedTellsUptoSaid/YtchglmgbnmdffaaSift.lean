/-
  The document's sifted list. Conditions: at most 2^44 numbers.
-/
import Derived.Test.YtchglmgbnmdffaaOnce
namespace Go.Proofs.Ytchglmgbnmdffaa
open Go.RowKit Go.Deep

theorem sift_snoc (l b : List Int) (want : Bool) (x : Int) : siftL (l ++ [x]) b want = siftL l b want ++ (if (decide (0 < oftenN b x) == want) = true then [x] else []) := by
  unfold siftL
  rw [List.filter_append, List.filter_cons]
  simp

set_option maxRecDepth 100000 in
set_option maxHeartbeats 1600000 in
theorem sift_any (want : Bool) (a b : Option Addr) (n c nb cb : Nat) (xs ys : List Int) (w : World) (h : Sl w a n c xs) (h' : Sl w b nb cb ys) (hn : n ≤ 17592186044416) :
    Calls Try.prog 24 #[.slice a n c, .slice b nb cb, .bool want] w fun e w' => ∃ v m, e = .returned v ∧ w'.ownsRow w.heap.size 3 1 v m ((siftL xs ys want).map (Value.int .i64)) ∧ m ≤ n ∧ Below w.heap.size w w' := by
  obtain ⟨i0, hi0, hz0, hz1, hz2⟩ := info_parts Try.infoInt
  have hm := h.hmax
  have hm2 := h.hcap
  unfold maxLen at hm
  have HL := Lib.hid h.hlen
  have HH := Lib.hid h
  clear h
  have HB := Lib.hid h'
  clear h'
  go_enter Try.func24, Try.ntmps24
  go_wp2_with fail
  go_loopw [7, 8] (fun v i wr => ∃ (k m : Nat), k ≤ n ∧ m ≤ k ∧ i = .int .i64 k ∧ (siftL (xs.take k) ys want).length = m ∧ wr.ownsRow w.heap.size 3 1 v m ((siftL (xs.take k) ys want).map (Value.int .i64)) ∧ Below w.heap.size w wr) (fun _ i _ => n - (intOf i).toNat)
  case atStart => exact ⟨0, 0, Nat.zero_le _, Nat.le_refl _, rfl, rfl, World.ownsRow_nil _ _ _ _, Below.refl _ _⟩
  case round =>
    obtain ⟨k, m, hk, hmk, rfl, hlm, hown, hbw⟩ := hrel
    have HLM := Lib.hid hlm
    clear hlm
    by_cases hlt : k < n
    · obtain ⟨bb, off, rfl, hbl, hc⟩ := HH.out.hat (by omega)
      have g := (hbw.cell (p := ⟨bb, off + k, none⟩) hbl).trans (hc k hlt)
      clear hc
      have hlti : (k : Int) < (n : Int) := by omega
      have hS := HB.out.below hbw
      have t1 := take_snoc' xs k (by have := HL.out; omega)
      have t2 := sift_snoc (xs.take k) ys want (xs[k]?.getD 0)
      rw [← t1] at t2
      have T2 := Lib.hid t2
      clear t1 t2
      obtain ⟨L, hL⟩ : ∃ L, siftL (xs.take k) ys want = L := ⟨_, rfl⟩
      rw [hL] at hown
      have HLL := Lib.hid hL
      clear hL
      have hbs : w.heap.size ≤ wr.heap.size := hbw.size
      by_cases hp : 0 < oftenN ys (xs[k]?.getD 0)
      · cases want
        · have hd : decide ((0 : Int) < (oftenN ys (xs[k]?.getD 0) : Int)) = true := by simp; omega
          have hd2 : decide (0 < oftenN ys (xs[k]?.getD 0)) = true := by simp; omega
          have HD2 := Lib.hid hd2
          clear hp
          go_wp2_with fail
          refine (often_any b nb cb ys (xs[k]?.getD 0) _ hS).mono ?_
          rintro e w1 ⟨rfl, rfl⟩
          go_wp2_with fail
          go_roundw
          case rel => exact ⟨k + 1, m, by omega, by omega, by go_num, by rw [T2.out, HD2.out, if_neg (by decide), List.append_nil, HLM.out], by rw [T2.out, HD2.out, if_neg (by decide), HLL.out, List.append_nil]; exact hown, hbw⟩
          case measure => simp [intOf]; omega
        · have hd : decide ((0 : Int) < (oftenN ys (xs[k]?.getD 0) : Int)) = true := by simp; omega
          have hd2 : decide (0 < oftenN ys (xs[k]?.getD 0)) = true := by simp; omega
          have HD2 := Lib.hid hd2
          clear hp
          go_wp2_with fail
          refine (often_any b nb cb ys (xs[k]?.getD 0) _ hS).mono ?_
          rintro e w1 ⟨rfl, rfl⟩
          go_wp2_with (at_builtin; refine wpList_append_own _ rfl (.tmp 24) (.tmp 29) 22 rfl w.heap.size 3 i0 (.int .i64 0) 1 8 Try.underlying22 hi0 hz0 hz1 hz2 rfl (by decide) _ _ _ rfl (hown.alloc _) ⟨wr.heap.size, 0, none⟩ 1 1 [.int .i64 (xs[k]?.getD 0)] rfl rfl (cell_one_new _ _ _) (by simp [Value.oneCell']) (by unfold maxLen; omega) (by omega) (by simp; omega) ?_; intro v2 w2 hown2 hg2 _; have hbw2 := below_grown (hbw.alloc hbs _) (hown.alloc _) hg2 (Nat.le_refl _) (by simp; omega))
          go_roundw
          case rel => exact ⟨k + 1, m + 1, by omega, by omega, by go_num, by rw [T2.out, HD2.out, if_pos (show (_ == _) = true from rfl), List.length_append, HLM.out]; rfl, by rw [T2.out, HD2.out, if_pos (show (_ == _) = true from rfl), HLL.out, List.map_append]; exact hown2, hbw2⟩
          case measure => simp [intOf]; omega
      · cases want
        · have hd : decide ((0 : Int) < (oftenN ys (xs[k]?.getD 0) : Int)) = false := by simp; omega
          have hd2 : decide (0 < oftenN ys (xs[k]?.getD 0)) = false := by simp; omega
          have HD2 := Lib.hid hd2
          clear hp
          go_wp2_with fail
          refine (often_any b nb cb ys (xs[k]?.getD 0) _ hS).mono ?_
          rintro e w1 ⟨rfl, rfl⟩
          go_wp2_with (at_builtin; refine wpList_append_own _ rfl (.tmp 24) (.tmp 29) 22 rfl w.heap.size 3 i0 (.int .i64 0) 1 8 Try.underlying22 hi0 hz0 hz1 hz2 rfl (by decide) _ _ _ rfl (hown.alloc _) ⟨wr.heap.size, 0, none⟩ 1 1 [.int .i64 (xs[k]?.getD 0)] rfl rfl (cell_one_new _ _ _) (by simp [Value.oneCell']) (by unfold maxLen; omega) (by omega) (by simp; omega) ?_; intro v2 w2 hown2 hg2 _; have hbw2 := below_grown (hbw.alloc hbs _) (hown.alloc _) hg2 (Nat.le_refl _) (by simp; omega))
          go_roundw
          case rel => exact ⟨k + 1, m + 1, by omega, by omega, by go_num, by rw [T2.out, HD2.out, if_pos (show (_ == _) = true from rfl), List.length_append, HLM.out]; rfl, by rw [T2.out, HD2.out, if_pos (show (_ == _) = true from rfl), HLL.out, List.map_append]; exact hown2, hbw2⟩
          case measure => simp [intOf]; omega
        · have hd : decide ((0 : Int) < (oftenN ys (xs[k]?.getD 0) : Int)) = false := by simp; omega
          have hd2 : decide (0 < oftenN ys (xs[k]?.getD 0)) = false := by simp; omega
          have HD2 := Lib.hid hd2
          clear hp
          go_wp2_with fail
          refine (often_any b nb cb ys (xs[k]?.getD 0) _ hS).mono ?_
          rintro e w1 ⟨rfl, rfl⟩
          go_wp2_with fail
          go_roundw
          case rel => exact ⟨k + 1, m, by omega, by omega, by go_num, by rw [T2.out, HD2.out, if_neg (by decide), List.append_nil, HLM.out], by rw [T2.out, HD2.out, if_neg (by decide), HLL.out, List.append_nil]; exact hown, hbw⟩
          case measure => simp [intOf]; omega
    · have he : k = n := by omega
      subst he
      have hxs : xs.take k = xs := List.take_of_length_le (by have := HL.out; omega)
      rw [hxs] at hown
      clear hxs
      go_wp2_with fail
      go_ret
      exact ⟨_, _, rfl, hown, hmk, hbw⟩
end Go.Proofs.Ytchglmgbnmdffaa
