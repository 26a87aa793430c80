/-
  Wbt: how many; who is at a place; what rank. Conditions: sizes below 2^60.
-/
import Derived.Test.YtchglmgbnmdffaaWbtSplit
import Derived.Test.YtchglmgbnmdffaaAskPlain
import Derived.Test.YtchglmgbnmdffaaCalm
namespace Go.Proofs.Ytchglmgbnmdffaa.WBT
open Go.RowKit Go.Deep
open Go.Proofs.Ytchglmgbnmdffaa Go.Proofs.Ytchglmgbnmdffaa.ST

theorem len_set (t : ST) (p : Option Addr) (w : World) (h : In w p t) :
    Calls Try.prog 19 #[.agg #[.pointer p]] w fun e w' => e = .returned (.int .i64 (t.size : Int)) ∧ Below w.heap.size w w' := by
  go_enter Try.func19, Try.ntmps19
  go_wp2_with fail
  refine (size_any t p _ (h.alloc _)).mono ?_
  rintro e w1 ⟨rfl, rfl⟩
  go_wp2_with fail
  go_ret
  exact ⟨rfl, (Below.refl _ _).alloc (Nat.le_refl _) _⟩

set_option linter.unusedVariables false
set_option maxRecDepth 100000 in
set_option maxHeartbeats 1600000 in
theorem at_yes (t : ST) (k : Nat) (p : Option Addr) (w : World) (h : In w p t) (hs : t.size ≤ 576460752303423488) (hk : k < t.size) :
    Calls Try.prog 16 #[.agg #[.pointer p], .int .i64 (k : Int)] w fun e w' => e = .returned (.tuple #[.int .i64 (t.toL[k]?.getD 0), .bool true]) ∧ Below w.heap.size w w' := by
  have d1 : decide ((k : Int) < 0) = false := by rw [decide_eq_false_iff_not]; omega
  have d2 : decide (t.size ≤ k) = false := by rw [decide_eq_false_iff_not]; omega
  obtain ⟨y0, hy0⟩ : ∃ y, t.toL[k]?.getD 0 = y := ⟨_, rfl⟩
  rw [hy0]
  have YH := Lib.hid hy0
  have LS := Lib.hid (fun W hW => len_set t p W hW)
  clear hy0
  go_enter Try.func16, Try.ntmps16
  go_wp2_with fail
  refine (LS.out _ (h.alloc _)).mono ?_
  rintro e w1 ⟨rfl, b1⟩
  obtain ⟨b1, x0⟩ := hold1 b1 ⟨rfl, rfl, rfl, rfl⟩
  have c0 := (blk x0).1 0
  have h1 := h.below b1
  clear d1
  go_wp2_with fail
  go_loopg [1, 6, 7] t.size (fun m v1 v6 v7 wr => ∃ (s : ST) (q : Option Addr) (j : Nat), s.size ≤ m ∧ s.size ≤ t.size ∧ v1 = .int .i64 (j : Int) ∧ v6 = .pointer q ∧ In wr q s ∧ j < s.size ∧ Hid (s.toL[j]? = t.toL[k]?) ∧ wr = w1)
  case atStart => exact ⟨t, p, k, Nat.le_refl _, Nat.le_refl _, rfl, rfl, h1, hk, Lib.hid rfl, rfl⟩
  case round =>
    obtain ⟨s, q, j, hm, hst, rfl, rfl, hi, hj, HE, rfl⟩ := hrel
    clear h1 hk
    cases s with
    | nil => exact absurd hj (Nat.not_lt_zero _)
    | node c y l r =>
      have hio := hi
      obtain ⟨b, pl, pr, rfl, klt, k0, k1, k2, k3, hl, hr⟩ := hio.open
      simp only [size] at hm hj hst
      have SH := Lib.hid (size_any l pl _ hl)
      by_cases h1 : j < l.size
      · have d1 : decide ((j : Int) < (l.size : Int)) = true := by simp [h1]
        have e1 : l.toL[j]? = t.toL[k]? := by rw [← HE.out, at_left h1]
        have E1 := Lib.hid e1
        clear e1
        go_wp2_with fail
        refine SH.out.mono ?_
        rintro e w' ⟨rfl, rfl⟩
        go_wp2_with fail
        go_roundg l.size
        case measure => omega
        case rel => exact ⟨l, pl, j, Nat.le_refl _, by omega, rfl, rfl, hl, h1, E1, rfl⟩
      · have d1 : decide ((j : Int) < (l.size : Int)) = false := by simp; omega
        by_cases h2 : l.size < j
        · have d2 : decide ((l.size : Int) < (j : Int)) = true := by simp [h2]
          have e1 : r.toL[j - l.size - 1]? = t.toL[k]? := by rw [← HE.out, at_right h2]
          have E1 := Lib.hid e1
          have b1 : (0 : Int) ≤ (j : Int) - (l.size : Int) - 1 := by omega
          have b2 : (j : Int) ≤ 576460752303423488 := by omega
          clear e1
          go_wp2_with fail
          refine SH.out.mono ?_
          rintro e w' ⟨rfl, rfl⟩
          go_wp2_with fail
          go_roundg r.size
          case measure => omega
          case rel => exact ⟨r, pr, j - l.size - 1, Nat.le_refl _, by omega, by congr 1; omega, rfl, hr, by omega, E1, rfl⟩
        · have d2 : decide ((l.size : Int) < (j : Int)) = false := by simp; omega
          have hjl : j = l.size := by omega
          have e1 : y0 = y := by
            rw [← YH.out, ← HE.out, hjl, at_here]
            rfl
          have E1 := Lib.hid e1
          clear e1 hjl
          go_wp2_with fail
          refine SH.out.mono ?_
          rintro e w' ⟨rfl, rfl⟩
          go_wp2_with fail
          go_ret2
          exact ⟨by rw [E1.out]; rfl, b1⟩

set_option linter.unusedVariables false
set_option maxRecDepth 100000 in
set_option maxHeartbeats 1600000 in
theorem at_no (t : ST) (i : Int) (p : Option Addr) (w : World) (h : In w p t) (hi : i < 0 ∨ (t.size : Int) ≤ i) :
    Calls Try.prog 16 #[.agg #[.pointer p], .int .i64 i] w fun e w' => e = .returned (.tuple #[.int .i64 0, .bool false]) ∧ Below w.heap.size w w' := by
  have LS := Lib.hid (fun W hW => len_set t p W hW)
  by_cases h0 : i < 0
  · have d1 : decide (i < 0) = true := by simp [h0]
    clear hi
    go_enter Try.func16, Try.ntmps16
    go_wp2_with fail
    go_ret2
    exact ⟨rfl, (Below.refl _ _).alloc (Nat.le_refl _) _⟩
  · have d1 : decide (i < 0) = false := by simp; omega
    have d2 : decide ((t.size : Int) ≤ i) = true := by simp; omega
    clear hi
    go_enter Try.func16, Try.ntmps16
    go_wp2_with fail
    refine (LS.out _ (h.alloc _)).mono ?_
    rintro e w1 ⟨rfl, b1⟩
    obtain ⟨b1, x0⟩ := hold1 b1 ⟨rfl, rfl, rfl, rfl⟩
    go_wp2_with fail
    go_ret2
    exact ⟨rfl, b1⟩

theorem at_any (t : ST) (i y : Int) (bb : Bool) (p : Option Addr) (w : World) (h : In w p t) (hs : t.size ≤ 576460752303423488) (hi : atL t.toL i = (y, bb)) :
    Calls Try.prog 16 #[.agg #[.pointer p], .int .i64 i] w fun e w' => e = .returned (.tuple #[.int .i64 y, .bool bb]) ∧ Below w.heap.size w w' := by
  by_cases hk : i < 0 ∨ (t.size : Int) ≤ i
  · rw [atL_no (by rw [toL_length]; exact hk)] at hi
    cases hi
    exact at_no t i p w h hk
  · obtain ⟨k, rfl⟩ : ∃ k : Nat, i = (k : Int) := ⟨i.toNat, by omega⟩
    rw [atL_yes (by rw [toL_length]; omega)] at hi
    cases hi
    exact at_yes t k p w h hs (by omega)

set_option linter.unusedVariables false
set_option maxRecDepth 100000 in
set_option maxHeartbeats 1600000 in
theorem rank_set (t : ST) (x : Int) (p : Option Addr) (w : World) (h : In w p t) (hb : t.Bst) (hs : t.size ≤ 576460752303423488) :
    Calls Try.prog 17 #[.agg #[.pointer p], .int .i64 x] w fun e w' => e = .returned (.int .i64 (belowN t.toL x : Int)) ∧ Below w.heap.size w w' := by
  obtain ⟨K, hK⟩ : ∃ K, belowN t.toL x = K := ⟨_, rfl⟩
  have hKs : K ≤ t.size := by rw [← hK, ← toL_length]; exact belowN_le _ _
  rw [hK]
  have KH := Lib.hid hK
  have BH := Lib.hid hb
  clear hK hb
  go_enter Try.func17, Try.ntmps17
  go_wp2_with fail
  go_loopg [5, 6] t.size (fun m v5 v6 wr => ∃ (s : ST) (q : Option Addr) (c : Nat), s.size ≤ m ∧ v5 = .int .i64 (c : Int) ∧ v6 = .pointer q ∧ In wr q s ∧ c + s.size ≤ t.size ∧ Hid (s.Bst ∧ K = c + belowN s.toL x) ∧ wr = w.alloc (.cells #[.pointer p] 26))
  case atStart => exact ⟨t, p, 0, Nat.le_refl _, rfl, rfl, h.alloc _, by omega, Lib.hid ⟨BH.out, by rw [KH.out]; omega⟩, rfl⟩
  case round =>
    obtain ⟨s, q, c, hm, rfl, rfl, hi, hc, HE, rfl⟩ := hrel
    cases s with
    | nil =>
      obtain rfl : q = none := hi
      have e1 : K = c := by have := HE.out.2; simpa [toL, belowN_nil] using this
      have E1 := Lib.hid e1
      clear e1
      go_wp2_with fail
      go_ret
      exact ⟨by rw [E1.out]; rfl, (Below.refl _ _).alloc (Nat.le_refl _) _⟩
    | node cc y l r =>
      have hio := hi
      obtain ⟨b, pl, pr, rfl, klt, k0, k1, k2, k3, hl, hr⟩ := hio.open
      simp only [size] at hm hc
      obtain ⟨b1, b2, b3, b4⟩ := bst_node.1 HE.out.1
      have B1 := Lib.hid b1
      have B2 := Lib.hid b2
      clear b1 b2 b3 b4
      by_cases hx : x ≤ y
      · have d1 : decide (x ≤ y) = true := by simp [hx]
        have e1 : K = c + belowN l.toL x := by rw [HE.out.2, rank_left HE.out.1 hx]
        have E1 := Lib.hid e1
        clear e1
        go_wp2_with fail
        go_roundg l.size
        case measure => omega
        case rel => exact ⟨l, pl, c, Nat.le_refl _, rfl, rfl, hl, by omega, Lib.hid ⟨B1.out, E1.out⟩, rfl⟩
      · have d1 : decide (x ≤ y) = false := by simp; omega
        have e1 : K = c + (l.size + 1) + belowN r.toL x := by rw [HE.out.2, rank_right HE.out.1 (by omega)]; omega
        have WH := weight_any l pl _ hl (by omega)
        have ew : wt l = l.size + 1 := rfl
        obtain ⟨u, hu⟩ : ∃ u, wt l = u := ⟨_, rfl⟩
        rw [hu] at WH ew
        rw [← ew] at e1
        have E1 := Lib.hid e1
        have WW := Lib.hid WH
        have bu : c + u ≤ 576460752303423489 := by omega
        have bz : u = l.size + 1 → c + u + r.size ≤ t.size := fun e => by omega
        have BZ := Lib.hid (bz ew)
        clear e1 WH ew hu bz
        go_wp2_with fail
        refine WW.out.mono ?_
        rintro e w' ⟨rfl, rfl⟩
        go_wp2_with fail
        go_roundg r.size
        case measure => omega
        case rel => exact ⟨r, pr, c + u, Nat.le_refl _, by go_num, rfl, hr, BZ.out, Lib.hid ⟨B2.out, E1.out⟩, rfl⟩

set_option linter.unusedVariables false
set_option maxRecDepth 100000 in
set_option maxHeartbeats 1600000 in
theorem has_set (t : ST) (x : Int) (p : Option Addr) (w : World) (h : In w p t) (hb : t.Bst) (hs : t.size ≤ 576460752303423488) :
    Calls Try.prog 18 #[.agg #[.pointer p], .int .i64 x] w fun e w' => e = .returned (.bool (decide (x ∈ t.toL))) ∧ Below w.heap.size w w' := by
  have HR := rank_has hb x
  have RS := fun W hW => rank_set t x p W hW hb hs
  obtain ⟨K, hK⟩ : ∃ K, belowN t.toL x = K := ⟨_, rfl⟩
  rw [hK] at HR RS
  obtain ⟨⟨y, bb⟩, hy⟩ : ∃ z, atL t.toL (K : Int) = z := ⟨_, rfl⟩
  rw [hy] at HR
  simp only at HR
  have AS := fun W hW => at_any t (K : Int) y bb p W hW hs hy
  rw [HR]
  obtain ⟨zz, hzz⟩ : ∃ zz, decide (y = x) = zz := ⟨_, rfl⟩
  rw [hzz]
  have d1 : (y == x) = zz := by rw [← hzz]; by_cases e : y = x <;> simp [e]
  have RH := Lib.hid RS
  have AH := Lib.hid AS
  clear HR RS hK hy AS hzz
  go_enter Try.func18, Try.ntmps18
  go_wp2_with fail
  obtain ⟨W, hW⟩ : ∃ W, w.alloc (.cells #[.pointer p] 26) = W := ⟨_, rfl⟩
  have bW : Below w.heap.size w W := by rw [← hW]; exact (Below.refl _ _).alloc (Nat.le_refl _) _
  have x0 : W.heap[w.heap.size]? = some (.cells #[.pointer p] 26 (0, 0)) := by rw [← hW]; exact heap_alloc_new _ _
  rw [hW]
  clear hW
  have h' := h.below bW
  have cX := (blk x0).1 0
  have HH := Lib.hid h'
  clear h'
  have calm0 : ∀ u : Grown W, _ := fun u => u.cell cX
  refine wp_region_calm (by kernel_rfl) (by kernel_rfl) ?_
  repeat (go_big_quiet_step ((first | (go_at_call 17; with_reducible exact calm_of (RH.out _ (HH.out.below (Grown.below _)))) | (go_at_call 16; with_reducible exact calm_of (AH.out _ (HH.out.below (Grown.below _)))))))
  refine wpQuiet_nil ?_
  intro wq hw'
  have bc : Below W.heap.size W wq := by obtain ⟨u, rfl⟩ := hw'; exact u.below
  clear hw' calm0
  have bq := below_then bW bc
  clear bc
  cases bb
  all_goals
    cases zz
    all_goals
      go_wp2_with fail
      go_ret
      exact ⟨rfl, bq⟩
end Go.Proofs.Ytchglmgbnmdffaa.WBT
