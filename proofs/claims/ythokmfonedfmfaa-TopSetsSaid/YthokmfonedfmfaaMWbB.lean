/-
  Wbt: how many; who is at a place; what rank. Conditions: sizes below 2^60.
  Wbt: those of one that the other one has, or has not. Conditions: sizes below 2^60.
  Wbt: those of one of both. Conditions: sizes below 2^60.
  Wbt: the set's functions. Conditions: sizes below 2^60.
  Wbt: the set's functions, as plain trees. Conditions: sizes below 2^60.
  Wbt: all, rising. Conditions: sizes below 2^60.
  Wbt: the words that the laws use. Conditions: sizes below 2^44.
-/
import Derived.Test.YthokmfonedfmfaaMWbA
import Derived.Test.YthokmfonedfmfaaAskPlain
import Derived.Test.YthokmfonedfmfaaCalm
import Derived.Test.YthokmfonedfmfaaApp
import Derived.Test.YthokmfonedfmfaaSame
import Derived.Test.YthokmfonedfmfaaTreeLaw
namespace Go.Proofs.Ythokmfonedfmfaa.WBT
open Go.RowKit Go.Deep
open Go.Proofs.Ythokmfonedfmfaa Go.Proofs.Ythokmfonedfmfaa.ST

theorem len_set (t : ST) (p : Option Addr) (w : World) (h : In w p t) :
    Calls Try.prog 74 #[.agg #[.pointer p]] w fun e w' => e = .returned (.int .i64 (t.size : Int)) ∧ Below w.heap.size w w' := by
  go_enter Try.func74, Try.ntmps74
  go_wp2_with fail
  refine (size_any t p _ (h.alloc _)).mono ?_
  rintro e w1 ⟨rfl, rfl⟩
  go_wp2_with fail
  go_ret
  exact ⟨rfl, (Below.refl _ _).alloc (Nat.le_refl _) _⟩

set_option linter.unusedVariables false
set_option maxRecDepth 100000 in
set_option maxHeartbeats 1600000 in
theorem at_yes (t : ST) (k : Nat) (p : Option Addr) (w : World) (h : In w p t) (hs : t.size ≤ 576460752303423488) (hk : k < t.size) :
    Calls Try.prog 75 #[.agg #[.pointer p], .int .i64 (k : Int)] w fun e w' => e = .returned (.tuple #[.int .i64 (t.toL[k]?.getD 0), .bool true]) ∧ Below w.heap.size w w' := by
  have d1 : decide ((k : Int) < 0) = false := by rw [decide_eq_false_iff_not]; omega
  have d2 : decide (t.size ≤ k) = false := by rw [decide_eq_false_iff_not]; omega
  obtain ⟨y0, hy0⟩ : ∃ y, t.toL[k]?.getD 0 = y := ⟨_, rfl⟩
  rw [hy0]
  have YH := Lib.hid hy0
  have LS := Lib.hid (fun W hW => len_set t p W hW)
  clear hy0
  go_enter Try.func75, Try.ntmps75
  go_wp2_with fail
  refine (LS.out _ (h.alloc _)).mono ?_
  rintro e w1 ⟨rfl, b1⟩
  obtain ⟨b1, x0⟩ := hold1 b1 ⟨rfl, rfl, rfl, rfl⟩
  have c0 := (blk x0).1 0
  have h1 := h.below b1
  clear d1
  go_wp2_with fail
  go_loopg [1, 6, 7] t.size (fun m v1 v6 v7 wr => ∃ (s : ST) (q : Option Addr) (j : Nat), s.size ≤ m ∧ s.size ≤ t.size ∧ v1 = .int .i64 (j : Int) ∧ v6 = .pointer q ∧ In wr q s ∧ j < s.size ∧ Hid (s.toL[j]? = t.toL[k]?) ∧ wr = w1)
  case atStart => exact ⟨t, p, k, Nat.le_refl _, Nat.le_refl _, rfl, rfl, h1, hk, Lib.hid rfl, rfl⟩
  case round =>
    obtain ⟨s, q, j, hm, hst, rfl, rfl, hi, hj, HE, rfl⟩ := hrel
    clear h1 hk
    cases s with
    | nil => exact absurd hj (Nat.not_lt_zero _)
    | node c y l r =>
      have hio := hi
      obtain ⟨b, pl, pr, rfl, klt, k0, k1, k2, k3, hl, hr⟩ := hio.open
      simp only [size] at hm hj hst
      have SH := Lib.hid (size_any l pl _ hl)
      by_cases h1 : j < l.size
      · have d1 : decide ((j : Int) < (l.size : Int)) = true := by simp [h1]
        have e1 : l.toL[j]? = t.toL[k]? := by rw [← HE.out, at_left h1]
        have E1 := Lib.hid e1
        clear e1
        go_wp2_with fail
        refine SH.out.mono ?_
        rintro e w' ⟨rfl, rfl⟩
        go_wp2_with fail
        go_roundg l.size
        case measure => omega
        case rel => exact ⟨l, pl, j, Nat.le_refl _, by omega, rfl, rfl, hl, h1, E1, rfl⟩
      · have d1 : decide ((j : Int) < (l.size : Int)) = false := by simp; omega
        by_cases h2 : l.size < j
        · have d2 : decide ((l.size : Int) < (j : Int)) = true := by simp [h2]
          have e1 : r.toL[j - l.size - 1]? = t.toL[k]? := by rw [← HE.out, at_right h2]
          have E1 := Lib.hid e1
          have b1 : (0 : Int) ≤ (j : Int) - (l.size : Int) - 1 := by omega
          have b2 : (j : Int) ≤ 576460752303423488 := by omega
          clear e1
          go_wp2_with fail
          refine SH.out.mono ?_
          rintro e w' ⟨rfl, rfl⟩
          go_wp2_with fail
          go_roundg r.size
          case measure => omega
          case rel => exact ⟨r, pr, j - l.size - 1, Nat.le_refl _, by omega, by congr 1; omega, rfl, hr, by omega, E1, rfl⟩
        · have d2 : decide ((l.size : Int) < (j : Int)) = false := by simp; omega
          have hjl : j = l.size := by omega
          have e1 : y0 = y := by
            rw [← YH.out, ← HE.out, hjl, at_here]
            rfl
          have E1 := Lib.hid e1
          clear e1 hjl
          go_wp2_with fail
          refine SH.out.mono ?_
          rintro e w' ⟨rfl, rfl⟩
          go_wp2_with fail
          go_ret2
          exact ⟨by rw [E1.out]; rfl, b1⟩

set_option linter.unusedVariables false
set_option maxRecDepth 100000 in
set_option maxHeartbeats 1600000 in
theorem at_no (t : ST) (i : Int) (p : Option Addr) (w : World) (h : In w p t) (hi : i < 0 ∨ (t.size : Int) ≤ i) :
    Calls Try.prog 75 #[.agg #[.pointer p], .int .i64 i] w fun e w' => e = .returned (.tuple #[.int .i64 0, .bool false]) ∧ Below w.heap.size w w' := by
  have LS := Lib.hid (fun W hW => len_set t p W hW)
  by_cases h0 : i < 0
  · have d1 : decide (i < 0) = true := by simp [h0]
    clear hi
    go_enter Try.func75, Try.ntmps75
    go_wp2_with fail
    go_ret2
    exact ⟨rfl, (Below.refl _ _).alloc (Nat.le_refl _) _⟩
  · have d1 : decide (i < 0) = false := by simp; omega
    have d2 : decide ((t.size : Int) ≤ i) = true := by simp; omega
    clear hi
    go_enter Try.func75, Try.ntmps75
    go_wp2_with fail
    refine (LS.out _ (h.alloc _)).mono ?_
    rintro e w1 ⟨rfl, b1⟩
    obtain ⟨b1, x0⟩ := hold1 b1 ⟨rfl, rfl, rfl, rfl⟩
    go_wp2_with fail
    go_ret2
    exact ⟨rfl, b1⟩

theorem at_any (t : ST) (i y : Int) (bb : Bool) (p : Option Addr) (w : World) (h : In w p t) (hs : t.size ≤ 576460752303423488) (hi : atL t.toL i = (y, bb)) :
    Calls Try.prog 75 #[.agg #[.pointer p], .int .i64 i] w fun e w' => e = .returned (.tuple #[.int .i64 y, .bool bb]) ∧ Below w.heap.size w w' := by
  by_cases hk : i < 0 ∨ (t.size : Int) ≤ i
  · rw [atL_no (by rw [toL_length]; exact hk)] at hi
    cases hi
    exact at_no t i p w h hk
  · obtain ⟨k, rfl⟩ : ∃ k : Nat, i = (k : Int) := ⟨i.toNat, by omega⟩
    rw [atL_yes (by rw [toL_length]; omega)] at hi
    cases hi
    exact at_yes t k p w h hs (by omega)

set_option linter.unusedVariables false
set_option maxRecDepth 100000 in
set_option maxHeartbeats 1600000 in
theorem rank_set (t : ST) (x : Int) (p : Option Addr) (w : World) (h : In w p t) (hb : t.Bst) (hs : t.size ≤ 576460752303423488) :
    Calls Try.prog 78 #[.agg #[.pointer p], .int .i64 x] w fun e w' => e = .returned (.int .i64 (belowN t.toL x : Int)) ∧ Below w.heap.size w w' := by
  obtain ⟨K, hK⟩ : ∃ K, belowN t.toL x = K := ⟨_, rfl⟩
  have hKs : K ≤ t.size := by rw [← hK, ← toL_length]; exact belowN_le _ _
  rw [hK]
  have KH := Lib.hid hK
  have BH := Lib.hid hb
  clear hK hb
  go_enter Try.func78, Try.ntmps78
  go_wp2_with fail
  go_loopg [5, 6] t.size (fun m v5 v6 wr => ∃ (s : ST) (q : Option Addr) (c : Nat), s.size ≤ m ∧ v5 = .int .i64 (c : Int) ∧ v6 = .pointer q ∧ In wr q s ∧ c + s.size ≤ t.size ∧ Hid (s.Bst ∧ K = c + belowN s.toL x) ∧ wr = w.alloc (.cells #[.pointer p] 59))
  case atStart => exact ⟨t, p, 0, Nat.le_refl _, rfl, rfl, h.alloc _, by omega, Lib.hid ⟨BH.out, by rw [KH.out]; omega⟩, rfl⟩
  case round =>
    obtain ⟨s, q, c, hm, rfl, rfl, hi, hc, HE, rfl⟩ := hrel
    cases s with
    | nil =>
      obtain rfl : q = none := hi
      have e1 : K = c := by have := HE.out.2; simpa [toL, belowN_nil] using this
      have E1 := Lib.hid e1
      clear e1
      go_wp2_with fail
      go_ret
      exact ⟨by rw [E1.out]; rfl, (Below.refl _ _).alloc (Nat.le_refl _) _⟩
    | node cc y l r =>
      have hio := hi
      obtain ⟨b, pl, pr, rfl, klt, k0, k1, k2, k3, hl, hr⟩ := hio.open
      simp only [size] at hm hc
      obtain ⟨b1, b2, b3, b4⟩ := bst_node.1 HE.out.1
      have B1 := Lib.hid b1
      have B2 := Lib.hid b2
      clear b1 b2 b3 b4
      by_cases hx : x ≤ y
      · have d1 : decide (x ≤ y) = true := by simp [hx]
        have e1 : K = c + belowN l.toL x := by rw [HE.out.2, rank_left HE.out.1 hx]
        have E1 := Lib.hid e1
        clear e1
        go_wp2_with fail
        go_roundg l.size
        case measure => omega
        case rel => exact ⟨l, pl, c, Nat.le_refl _, rfl, rfl, hl, by omega, Lib.hid ⟨B1.out, E1.out⟩, rfl⟩
      · have d1 : decide (x ≤ y) = false := by simp; omega
        have e1 : K = c + (l.size + 1) + belowN r.toL x := by rw [HE.out.2, rank_right HE.out.1 (by omega)]; omega
        have WH := weight_any l pl _ hl (by omega)
        have ew : wt l = l.size + 1 := rfl
        obtain ⟨u, hu⟩ : ∃ u, wt l = u := ⟨_, rfl⟩
        rw [hu] at WH ew
        rw [← ew] at e1
        have E1 := Lib.hid e1
        have WW := Lib.hid WH
        have bu : c + u ≤ 576460752303423489 := by omega
        have bz : u = l.size + 1 → c + u + r.size ≤ t.size := fun e => by omega
        have BZ := Lib.hid (bz ew)
        clear e1 WH ew hu bz
        go_wp2_with fail
        refine WW.out.mono ?_
        rintro e w' ⟨rfl, rfl⟩
        go_wp2_with fail
        go_roundg r.size
        case measure => omega
        case rel => exact ⟨r, pr, c + u, Nat.le_refl _, by go_num, rfl, hr, BZ.out, Lib.hid ⟨B2.out, E1.out⟩, rfl⟩

set_option linter.unusedVariables false
set_option maxRecDepth 100000 in
set_option maxHeartbeats 1600000 in
theorem has_set (t : ST) (x : Int) (p : Option Addr) (w : World) (h : In w p t) (hb : t.Bst) (hs : t.size ≤ 576460752303423488) :
    Calls Try.prog 38 #[.agg #[.pointer p], .int .i64 x] w fun e w' => e = .returned (.bool (decide (x ∈ t.toL))) ∧ Below w.heap.size w w' := by
  have HR := rank_has hb x
  have RS := fun W hW => rank_set t x p W hW hb hs
  obtain ⟨K, hK⟩ : ∃ K, belowN t.toL x = K := ⟨_, rfl⟩
  rw [hK] at HR RS
  obtain ⟨⟨y, bb⟩, hy⟩ : ∃ z, atL t.toL (K : Int) = z := ⟨_, rfl⟩
  rw [hy] at HR
  simp only at HR
  have AS := fun W hW => at_any t (K : Int) y bb p W hW hs hy
  rw [HR]
  obtain ⟨zz, hzz⟩ : ∃ zz, decide (y = x) = zz := ⟨_, rfl⟩
  rw [hzz]
  have d1 : (y == x) = zz := by rw [← hzz]; by_cases e : y = x <;> simp [e]
  have RH := Lib.hid RS
  have AH := Lib.hid AS
  clear HR RS hK hy AS hzz
  go_enter Try.func38, Try.ntmps38
  go_wp2_with fail
  obtain ⟨W, hW⟩ : ∃ W, w.alloc (.cells #[.pointer p] 59) = W := ⟨_, rfl⟩
  have bW : Below w.heap.size w W := by rw [← hW]; exact (Below.refl _ _).alloc (Nat.le_refl _) _
  have x0 : W.heap[w.heap.size]? = some (.cells #[.pointer p] 59 (0, 0)) := by rw [← hW]; exact heap_alloc_new _ _
  rw [hW]
  clear hW
  have h' := h.below bW
  have cX := (blk x0).1 0
  have HH := Lib.hid h'
  clear h'
  have calm0 : ∀ u : Grown W, _ := fun u => u.cell cX
  refine wp_region_calm (by kernel_rfl) (by kernel_rfl) ?_
  repeat (go_big_quiet_step ((first | (go_at_call 78; with_reducible exact calm_of (RH.out _ (HH.out.below (Grown.below _)))) | (go_at_call 75; with_reducible exact calm_of (AH.out _ (HH.out.below (Grown.below _)))))))
  refine wpQuiet_nil ?_
  intro wq hw'
  have bc : Below W.heap.size W wq := by obtain ⟨u, rfl⟩ := hw'; exact u.below
  clear hw' calm0
  have bq := below_then bW bc
  clear bc
  cases bb
  all_goals
    cases zz
    all_goals
      go_wp2_with fail
      go_ret
      exact ⟨rfl, bq⟩
end Go.Proofs.Ythokmfonedfmfaa.WBT

namespace Go.Proofs.Ythokmfonedfmfaa.WBT
open Go.RowKit Go.Deep
open Go.Proofs.Ythokmfonedfmfaa Go.Proofs.Ythokmfonedfmfaa.ST

set_option linter.unusedVariables false
end Go.Proofs.Ythokmfonedfmfaa.WBT

namespace Go.Proofs.Ythokmfonedfmfaa.WBT
open Go.RowKit Go.Deep
open Go.Proofs.Ythokmfonedfmfaa Go.Proofs.Ythokmfonedfmfaa.ST

set_option linter.unusedVariables false
end Go.Proofs.Ythokmfonedfmfaa.WBT

namespace Go.Proofs.Ythokmfonedfmfaa.WBT
open Go.RowKit Go.Deep
open Go.Proofs.Ythokmfonedfmfaa Go.Proofs.Ythokmfonedfmfaa.ST

set_option linter.unusedVariables false
set_option maxRecDepth 100000 in
set_option maxHeartbeats 1600000 in
theorem put_set (t : ST) (x : Int) (p : Option Addr) (w : World) (h : In w p t) (hs : t.size ≤ 576460752303423488) :
    Calls Try.prog 28 #[.agg #[.pointer p], .int .i64 x] w fun e w' => ∃ q, e = .returned (.agg #[.pointer q]) ∧ In w' q (put t x) ∧ Below w.heap.size w w' := by
  have hz := split_size t x
  have SPL := fun p W h => split_any t x p W h (by omega)
  have e : put t x = link (split t x).1 x (split t x).2.2 := rfl
  rw [e]
  obtain ⟨sl, hsl⟩ : ∃ s, (split t x).1 = s := ⟨_, rfl⟩
  obtain ⟨sb, hsb⟩ : ∃ s, (split t x).2.1 = s := ⟨_, rfl⟩
  obtain ⟨sr, hsr⟩ : ∃ s, (split t x).2.2 = s := ⟨_, rfl⟩
  rw [hsl, hsr] at hz
  rw [hsl, hsb, hsr] at SPL
  rw [hsl, hsr]
  have SH := Lib.hid SPL
  clear hsl hsb hsr SPL e
  go_enter Try.func28, Try.ntmps28
  go_wp2_with fail
  refine (SH.out p _ ((h.alloc _).alloc _)).mono ?_
  rintro e w1 ⟨ql, qr, rfl, h1, h2, b1⟩
  obtain ⟨b1, x0, x1⟩ := hold2 b1 ⟨rfl, rfl, rfl, rfl⟩
  go_wp2_with fail
  refine (link_any sl sr x ql qr _ h1 h2 (by omega)).mono ?_
  rintro e w2 ⟨p2, rfl, hi2, b2⟩
  have y1 := blk_below x1 b2
  obtain ⟨c0, c1, c2⟩ := blk y1
  have c0' := c0 0
  have f0' := c1 0
  clear c0 c1
  go_wp2_with fail
  refine bodyPost_ret (v := .agg #[.pointer p2]) (by simp [results, Try.results28, go_sem, c0']) rfl ⟨_, rfl, hi2.keep (.setCell y1 (by decide)), (below_then b1 b2).setCell (p := ⟨w.heap.size + 1, 0, none⟩) (by simp) _⟩

set_option linter.unusedVariables false
set_option maxRecDepth 100000 in
set_option maxHeartbeats 1600000 in
theorem drop_set (t : ST) (x : Int) (p : Option Addr) (w : World) (h : In w p t) (hs : t.size ≤ 576460752303423488) :
    Calls Try.prog 23 #[.agg #[.pointer p], .int .i64 x] w fun e w' => ∃ q, e = .returned (.agg #[.pointer q]) ∧ In w' q (drop t x) ∧ Below w.heap.size w w' := by
  have hz := split_size t x
  have SPL := fun p W h => split_any t x p W h (by omega)
  have e : drop t x = joined (split t x).1 (split t x).2.2 := rfl
  rw [e]
  obtain ⟨sl, hsl⟩ : ∃ s, (split t x).1 = s := ⟨_, rfl⟩
  obtain ⟨sb, hsb⟩ : ∃ s, (split t x).2.1 = s := ⟨_, rfl⟩
  obtain ⟨sr, hsr⟩ : ∃ s, (split t x).2.2 = s := ⟨_, rfl⟩
  rw [hsl, hsr] at hz
  rw [hsl, hsb, hsr] at SPL
  rw [hsl, hsr]
  have SH := Lib.hid SPL
  clear hsl hsb hsr SPL e
  go_enter Try.func23, Try.ntmps23
  go_wp2_with fail
  refine (SH.out p _ ((h.alloc _).alloc _)).mono ?_
  rintro e w1 ⟨ql, qr, rfl, h1, h2, b1⟩
  obtain ⟨b1, x0, x1⟩ := hold2 b1 ⟨rfl, rfl, rfl, rfl⟩
  go_wp2_with fail
  refine (joined_any sl sr ql qr _ h1 h2 (by omega)).mono ?_
  rintro e w2 ⟨p2, rfl, hi2, b2⟩
  have y1 := blk_below x1 b2
  obtain ⟨c0, c1, c2⟩ := blk y1
  have c0' := c0 0
  have f0' := c1 0
  clear c0 c1
  go_wp2_with fail
  refine bodyPost_ret (v := .agg #[.pointer p2]) (by simp [results, Try.results23, go_sem, c0']) rfl ⟨_, rfl, hi2.keep (.setCell y1 (by decide)), (below_then b1 b2).setCell (p := ⟨w.heap.size + 1, 0, none⟩) (by simp) _⟩

set_option linter.unusedVariables false
set_option linter.unusedVariables false
set_option linter.unusedVariables false
set_option linter.unusedVariables false
end Go.Proofs.Ythokmfonedfmfaa.WBT

namespace Go.Proofs.Ythokmfonedfmfaa.WBT
open Go.RowKit Go.Deep
open Go.Proofs.Ythokmfonedfmfaa Go.Proofs.Ythokmfonedfmfaa.ST


end Go.Proofs.Ythokmfonedfmfaa.WBT

namespace Go.Proofs.Ythokmfonedfmfaa.WBT
open Go.RowKit Go.Deep
open Go.Proofs.Ythokmfonedfmfaa Go.Proofs.Ythokmfonedfmfaa.ST

theorem own_mono' {w : World} {base base' : Nat} {e : TypeId} {size : Nat} {v : Value} {n : Nat} {xs : List Value} (h : w.ownsRow base' e size v n xs) (hb : base ≤ base' := by omega) : w.ownsRow base e size v n xs := by
  refine ⟨h.1, ?_⟩
  rcases h.2 with hn | ⟨g, cap, cur, hv, hg, r⟩
  · exact .inl hn
  · exact .inr ⟨g, cap, cur, hv, Nat.le_trans hb hg, r⟩

set_option linter.unusedVariables false
set_option maxRecDepth 100000 in
set_option maxHeartbeats 1600000 in
theorem ints_any (t : ST) (p : Option Addr) (w : World) (h : In w p t) (hs : t.size ≤ 17592186044416) :
    Calls Try.prog 33 #[.agg #[.pointer p]] w fun e w' => ∃ v, e = .returned v ∧ w'.ownsRow w.heap.size 3 1 v t.toL.length (t.toL.map (Value.int .i64)) ∧ Below w.heap.size w w' := by
  obtain ⟨i0, hi0, hz0, hz1, hz2⟩ := info_parts Try.infoInt
  obtain ⟨n, hn⟩ : ∃ n, t.size = n := ⟨_, rfl⟩
  have LS := fun W hW => len_set t p W hW
  have AS := fun (k : Nat) (hk : k < t.size) W hW => at_yes t k p W hW (by omega) hk
  have TL := toL_length t
  rw [hn] at LS AS TL hs
  have LSH := Lib.hid LS
  have ASH := Lib.hid AS
  have TLH := Lib.hid TL
  clear hn LS AS TL
  go_enter Try.func33, Try.ntmps33
  go_wp2_with fail
  refine (LSH.out _ (h.alloc _)).mono ?_
  rintro e w1 ⟨rfl, b1⟩
  obtain ⟨b1, x0⟩ := hold1 b1 ⟨rfl, rfl, rfl, rfl⟩
  have h1 := h.below b1
  go_wp2_with fail
  go_loopw [3, 9] (fun v i wr => ∃ k : Nat, k ≤ n ∧ i = .int .i64 (k : Int) ∧ wr.ownsRow (w.heap.size + 1) 3 1 v k ((t.toL.take k).map (Value.int .i64)) ∧ In wr p t ∧ wr.heap[w.heap.size]? = some (.cells #[.pointer p] 59 (0, 0)) ∧ Below w.heap.size w wr) (fun _ i _ => n - (intOf i).toNat)
  case atStart => exact ⟨0, Nat.zero_le _, rfl, World.ownsRow_nil _ _ _ _, h1, x0, b1⟩
  case round =>
    obtain ⟨k, hk, rfl, ho, hi, hx, hb⟩ := hrel
    clear h1 x0
    by_cases hlt : k < n
    · have c0 := (blk hx).1 0
      have hlti : (k : Int) < (n : Int) := by omega
      have tk := take_snoc' t.toL k (by have := TLH.out; omega)
      obtain ⟨y, hy⟩ : ∃ y, t.toL[k]?.getD 0 = y := ⟨_, rfl⟩
      have AS := ASH.out k hlt
      rw [hy] at AS tk
      have AH := Lib.hid AS
      have TK := Lib.hid tk
      have HX := Lib.hid hx
      clear AS tk hx hy
      go_wp2_with fail
      refine (AH.out _ hi).mono ?_
      rintro e w2 ⟨rfl, b2⟩
      have ho2 := own_keep ho (.of_below b2)
      have hi2 := hi.below b2
      have hx2 := blk_below HX.out b2
      have hb2 := below_then hb b2
      have hs2 := hb2.size
      have xlt := (blk hx2).2.2
      clear c0
      go_wp2_with (at_builtin; refine wpList_append_own _ rfl _ _ 22 rfl (w.heap.size + 1) 3 i0 (.int .i64 0) 1 8 Try.underlying22 hi0 hz0 hz1 hz2 rfl (by decide) _ _ _ rfl (ho2.alloc _) ⟨w2.heap.size, 0, none⟩ 1 1 [.int .i64 y] rfl rfl (cell_one_new _ _ _) (by simp [Value.oneCell']) (by unfold maxLen; omega) (by omega) (by simp; omega) ?_; intro v' w3 hown' hgrow _)
      have hb3 : Below w.heap.size w w3 := below_grown (hb2.alloc hs2 _) (ho2.alloc _) hgrow (by omega) (by simp; omega)
      have hbx : Below (w.heap.size + 1) w2 w3 := below_grown ((Below.refl _ _).alloc (by omega) _) (ho2.alloc _) hgrow (Nat.le_refl _) (by simp; omega)
      have hk3 : KeepT 163 w2 w3 := ((KeepT.refl _ _).alloc _).trans (.of_grown (ho2.alloc _) hgrow (by decide))
      have hx3 : w3.heap[w.heap.size]? = some (.cells #[.pointer p] 59 (0, 0)) := (hbx.block _ (by omega)).trans hx2
      go_roundw
      case rel => exact ⟨k + 1, by omega, by go_num, by rw [TK.out, List.map_append]; exact hown', hi2.keep hk3, hx3, hb3⟩
      case measure => simp [intOf]; omega
    · have he : k = n := by omega
      subst he
      go_wp2_with fail
      go_ret
      rw [List.take_of_length_le (by have := TLH.out; omega)] at ho
      exact ⟨_, rfl, own_mono' (by have := TLH.out; rw [this]; exact ho), hb⟩
end Go.Proofs.Ythokmfonedfmfaa.WBT

namespace Go.Proofs.Ythokmfonedfmfaa.WBT
open Go.RowKit Go.Deep
open Go.Proofs.Ythokmfonedfmfaa Go.Proofs.Ythokmfonedfmfaa.ST

def Fit (t : ST) : Prop := t.Bst ∧ Wb t
theorem Fit.bst {t : ST} (h : Fit t) : t.Bst := h.1
theorem good_nil : Fit .nil := ⟨bst_nil, trivial⟩
theorem put_good {t : ST} (h : Fit t) (x : Int) : Fit (put t x) := ⟨(put_spec t x h.1).1, put_wb h.2 x⟩
theorem drop_good {t : ST} (h : Fit t) (x : Int) : Fit (drop t x) := ⟨(drop_spec t x h.1).1, drop_wb h.2 x⟩
theorem put_mem {t : ST} (h : Fit t) (x : Int) : ∀ y, y ∈ (put t x).toL ↔ y = x ∨ y ∈ t.toL := (put_spec t x h.1).2
theorem drop_mem {t : ST} (h : Fit t) (x : Int) : ∀ y, y ∈ (drop t x).toL ↔ y ≠ x ∧ y ∈ t.toL := (drop_spec t x h.1).2
theorem ofL_good (l : List Int) : Fit (ofL l) := ⟨(ofL_spec l).1, (ofL_spec l).2.1⟩
theorem ofL_mem (l : List Int) : ∀ y, y ∈ (ofL l).toL ↔ y ∈ l := (ofL_spec l).2.2

theorem ints_sl (t : ST) (p : Option Addr) (w : World) (h : In w p t) (hs : t.size ≤ 17592186044416) :
    Calls Try.prog 33 #[.agg #[.pointer p]] w fun e w' => ∃ a m c, e = .returned (.slice a m c) ∧ Sl w' a m c t.toL ∧ Below w.heap.size w w' :=
  (ints_any t p w h hs).mono fun e w' ⟨v, he, ho, hb⟩ => by
    obtain ⟨a, c, hv, hs⟩ := Sl.of_own ho
    exact ⟨a, _, c, by rw [he, hv], hs, hb⟩
theorem has_b (t : ST) (x : Int) (b : Bool) (p : Option Addr) (w : World) (h : In w p t) (hg : Fit t) (hs : t.size ≤ 17592186044417) (hb : decide (x ∈ t.toL) = b) :
    Calls Try.prog 38 #[.agg #[.pointer p], .int .i64 x] w fun e w' => e = .returned (.bool b) ∧ Below w.heap.size w w' :=
  (has_set t x p w h hg.bst (by omega)).mono fun e w' ⟨he, hw⟩ => ⟨by rw [he, hb], hw⟩
theorem ofL_once (l : List Int) : (ofL l).toL = onceL l := once_unique (ofL_good l).bst (ofL_mem l)
end Go.Proofs.Ythokmfonedfmfaa.WBT
