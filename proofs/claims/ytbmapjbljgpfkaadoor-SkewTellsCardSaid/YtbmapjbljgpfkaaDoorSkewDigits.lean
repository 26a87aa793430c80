/-
  Skew digits: those of a number. Conditions: none.
-/
import Derived.Test.YtbmapjbljgpfkaaDoorSkewValue
import Derived.Test.YtbmapjbljgpfkaaDoorRev
namespace Go.Proofs.YtbmapjbljgpfkaaDoor
open Go.RowKit Go.Deep
set_option linter.unusedVariables false
namespace SK
/-- The error of what is too small or too great. -/
abbrev far : Value := .iface 24 (.int .i64 1)
theorem D_half (k : Nat) : D (k + 1) / 2 = D k := by simp only [D]; omega
theorem D_le40 {k : Nat} (h : k ≤ 40) : D k ≤ 1099511627775 := by rw [← D40]; exact D_mono h
/-- What the inner loop has still to lay: before and behind its first round. -/
def more (k : Nat) (fresh : Bool) (n : Int) : List Int := if fresh then gd (k + 1) n else if D (k + 1) ≤ n then [D (k + 1)] else gd k n
theorem more_out (k : Nat) (b : Bool) (n : Int) (h : ¬ D (k + 1) ≤ n) : more k b n = gd k n := by
  unfold more
  cases b
  · simp [h]
  · simp [gd, h]
theorem more_in (k : Nat) (b : Bool) (n : Int) (h : D (k + 1) ≤ n) (h2 : n ≤ (if b then 2 * D (k + 1) else D (k + 1))) : more k b n = D (k + 1) :: more k false (n - D (k + 1)) := by
  have hp := D_pos (k + 1) (by omega)
  unfold more
  cases b
  · simp only [Bool.false_eq_true, if_false] at h2 ⊢
    have : n - D (k + 1) = 0 := by omega
    rw [if_pos h, this, gd_zero, if_neg (by omega)]
  · simp [gd, h]

theorem reverse_none (w : World) :
    Calls Tryd.prog 18 #[.slice none 0 0] w fun e w' => e = .returned (.tuple #[]) ∧ w = w' := by
  go_enter Tryd.func18, Tryd.ntmps18
  go_wp2_with fail
  go_loop [2, 3] (fun i j => i = .int .i64 0 ∧ j = .int .i64 (-1)) (fun _ _ => 0)
  case atStart => exact ⟨rfl, rfl⟩
  case round =>
    obtain ⟨rfl, rfl⟩ := hrel
    go_wp2_with fail
    go_end0
    exact ⟨rfl, rfl⟩

set_option maxHeartbeats 2000000 in
theorem Digits_good (n : Int) (w : World) (h0 : 0 ≤ n) (h1 : n ≤ 1099511627776) :
    Calls Tryd.prog 14 #[.int .i64 n] w fun e w' => ∃ a len cap, e = .returned (.tuple #[.slice a len cap, .nilIface]) ∧ Sl w' a len cap (gd 40 n).reverse ∧ Below w.heap.size w w' := by
  obtain ⟨i0, hi0, hz0, hz1, hz2⟩ := info_parts Tryd.infoInt
  have hg := gd_ok 40 n (Nat.le_refl _) h0 (by rw [D40]; omega)
  have HG := Lib.hid hg.2.2.2
  clear hg
  have hd40 := D40
  have n1 : decide (n < 0) = false := by simp; omega
  have n2 : decide (1099511627776 < n) = false := by simp; omega
  go_enter Tryd.func14, Tryd.ntmps14
  go_wp2_with fail
  go_loopw [0, 4, 5] (fun m v d wr => ∃ (k : Nat) (r : Int) (ys : List Int) (l : Nat), k ≤ 40 ∧ m = .int .i64 r ∧ d = .int .i64 (D k) ∧ 0 ≤ r ∧ r ≤ 2 * D k ∧ ys ++ gd k r = gd 40 n ∧ wr.ownsRow w.heap.size 3 1 v l (ys.map (Value.int .i64)) ∧ Below w.heap.size w wr) (fun _ _ d _ => (intOf d).toNat)
  case atStart => exact ⟨40, n, [], 0, Nat.le_refl _, rfl, by rw [hd40], h0, by rw [hd40]; omega, rfl, ⟨rfl, .inl ⟨rfl, rfl⟩⟩, Below.refl _ _⟩
  case round =>
    obtain ⟨k, r, ys, l, hk, rfl, rfl, hr0, hr1, hys, hown, hb⟩ := hrel
    have HY := Lib.hid hys
    clear hys
    cases k with
    | zero =>
      have hd0 : D 0 = 0 := rfl
      have hy : ys = gd 40 n := by
        have := HY.out
        have e : gd 0 r = [] := rfl
        rw [e, List.append_nil] at this
        exact this
      have HY2 := Lib.hid hy
      clear hy
      rw [hd0]
      obtain ⟨a', c', rfl, hs⟩ := Sl.of_own hown
      rcases hown.2 with ⟨e1, e2⟩ | ⟨g, cap, cur, e1, hg, hh, _⟩
      · simp only [Value.slice.injEq] at e1
        obtain ⟨rfl, rfl, rfl⟩ := e1
        have hy0 : ys = [] := List.eq_nil_of_length_eq_zero hs.hlen
        have HY0 := Lib.hid hy0
        have HS := Lib.hid hs
        have HB := Lib.hid hb
        clear hy0 hs hb hown e2 hd0
        go_wp2_with fail
        refine (reverse_none _).mono ?_
        rintro e w' ⟨rfl, rfl⟩
        go_wp2_with fail
        go_ret2
        refine ⟨_, _, _, rfl, ?_, HB.out⟩
        have := HS.out
        rw [HY0.out] at this
        rw [← HY2.out, HY0.out]
        exact this
      · simp only [Value.slice.injEq] at e1
        obtain ⟨rfl, _, rfl⟩ := e1
        have HS := Lib.hid hs
        have HB := Lib.hid hb
        have HF := Lib.hid (blk hh).2.1
        clear hs hb hown hd0 hh
        go_wp2_with fail
        refine (reverse_any g l c' w.heap.size ys _ HS.out HF.out hg).mono ?_
        rintro e w' ⟨rfl, hs2, hb2⟩
        go_wp2_with fail
        go_ret2
        refine ⟨_, _, _, rfl, ?_, HB.out.trans hb2⟩
        rw [← HY2.out]
        exact hs2
    | succ k =>
      have hp := D_pos (k + 1) (by omega)
      have ht := D_le40 hk
      have hh := D_half k
      have hdd : D (k + 1) = 2 * D k + 1 := rfl
      have mo := more_out k
      have mi := more_in k
      have hm0 : more k true r = gd (k + 1) r := rfl
      have hY := HY.out
      rw [← hm0] at hY
      have HY3 := Lib.hid hY
      obtain ⟨d, hd⟩ : ∃ d, D (k + 1) = d := ⟨_, rfl⟩
      obtain ⟨d2, hd2⟩ : ∃ d, D k = d := ⟨_, rfl⟩
      rw [hd] at hp ht hh hr1 mo mi hdd ⊢
      rw [hd2] at hdd hh
      have MO := Lib.hid mo
      have MI := Lib.hid mi
      have HD2 := Lib.hid hd2
      have HB := Lib.hid hb
      clear hd hd2 mo mi hY HY hm0
      have hdp : 0 < d := by omega
      have HDD := Lib.hid hdd
      clear hdd
      have hz := hb.size
      clear hb
      go_wp2_with fail
      go_loopw [0, 4] (fun m v wx => ∃ (b : Bool) (r : Int) (ys : List Int) (l : Nat), m = .int .i64 r ∧ 0 ≤ r ∧ r ≤ (if b then 2 * d else d) ∧ ys ++ more k b r = gd 40 n ∧ wx.ownsRow w.heap.size 3 1 v l (ys.map (Value.int .i64)) ∧ Below w.heap.size w wx) (fun m _ _ => (intOf m).toNat)
      case atStart => exact ⟨true, r, ys, l, rfl, hr0, by simpa using hr1, HY3.out, hown, HB.out⟩
      case round =>
        clear hr0 hr1 HY3 hown HB hz
        obtain ⟨b, r, ys, l, rfl, hr0, hr1, hys, hown, hb⟩ := hrel
        have hl : l ≤ 41 := by
          have h1 := hown.1
          have h2 := congrArg List.length hys
          rw [List.length_append] at h2
          rw [List.length_map] at h1
          have := HG.out
          omega
        have HYS := Lib.hid hys
        clear hys
        have hz := hb.size
        by_cases hle : d ≤ r
        · have hrr : r ≤ 2 * d := by cases b <;> simp at hr1 <;> omega
          have hm1 := MI.out b r hle hr1
          have HM := Lib.hid hm1
          have hwr : wrap64 (r - d) = r - d := by unfold wrap64; omega
          clear hm1 hr1
          go_wp2_with (at_builtin; refine wpList_append_own _ rfl _ _ 22 rfl w.heap.size 3 i0 (.int .i64 0) 1 8 Tryd.underlying22 hi0 hz0 hz1 hz2 rfl (by decide) _ _ _ rfl (hown.alloc _) _ 1 1 [.int .i64 d] rfl rfl (cell_one_new _ _ _) (by simp [Value.oneCell']) (by unfold maxLen; omega) (by omega) (by simp; omega) ?_; intro v' w2 hown' hgrow _)
          have hb' := below_grown (hb.alloc hz _) (hown.alloc _) hgrow (Nat.le_refl _) (by simp; omega)
          have HB' := Lib.hid hb'
          clear hb'
          go_wp2_with fail
          go_roundw
          case rel => exact ⟨false, r - d, ys ++ [d], l + 1, rfl, by omega, by simp; omega, by rw [List.append_assoc, ← HYS.out, HM.out]; rfl, by rw [List.map_append]; exact hown', HB'.out⟩
          case measure => simp [intOf]; omega
        · have hm1 := MO.out b r (by omega)
          have HM := Lib.hid hm1
          clear hm1 hr1
          go_wp2_with fail
          go_roundw
          case rel => exact ⟨k, r, ys, l, by omega, rfl, by rw [HD2.out], hr0, by rw [HD2.out]; have := HDD.out; omega, by rw [← HYS.out, HM.out], hown, hb⟩
          case measure => simp [intOf]; omega
theorem Digits_bad (n : Int) (w : World) (h : n < 0 ∨ 1099511627776 < n) :
    Calls Tryd.prog 14 #[.int .i64 n] w fun e w' => e = .returned (.tuple #[.slice none 0 0, far]) ∧ w = w' := by
  by_cases h0 : n < 0
  · go_enter Tryd.func14, Tryd.ntmps14
    go_wp2_with fail
    go_ret2
    exact ⟨rfl, rfl⟩
  · have h1 : 1099511627776 < n := by omega
    clear h
    go_enter Tryd.func14, Tryd.ntmps14
    go_wp2_with fail
    go_ret2
    exact ⟨rfl, rfl⟩
end SK
end Go.Proofs.YtbmapjbljgpfkaaDoor
