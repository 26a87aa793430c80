/-
  Avl: the set's functions, as plain trees. Conditions: sizes below 2^60.
-/
import Derived.Test.YtinmmhjllmlimaaAvlPut
import Derived.Test.YtinmmhjllmlimaaAvlDrop
import Derived.Test.YtinmmhjllmlimaaApp
import Derived.Test.YtinmmhjllmlimaaSame
namespace Go.Proofs.Ytinmmhjllmlimaa.AVL
open Go.RowKit Go.Deep
open Go.Proofs.Ytinmmhjllmlimaa Go.Proofs.Ytinmmhjllmlimaa.ST

theorem len_set (t : ST) (p : Option Addr) (w : World) (h : In w p t) :
    Calls Try.prog 22 #[.agg #[.pointer p]] w fun e w' => e = .returned (.int .i64 (t.size : Int)) ∧ Below w.heap.size w w' := by
  go_enter Try.func22, Try.ntmps22
  go_wp2_with fail
  refine (size_any t p _ (h.alloc _)).mono ?_
  rintro e w1 ⟨rfl, rfl⟩
  go_wp2_with fail
  go_ret
  exact ⟨rfl, (Below.refl _ _).alloc (Nat.le_refl _) _⟩

set_option maxHeartbeats 400000 in
theorem put_set (t : ST) (x : Int) (p : Option Addr) (w : World) (h : In w p t) (hs : t.size ≤ 1152921504606846976) :
    Calls Try.prog 18 #[.agg #[.pointer p], .int .i64 x] w fun e w' => ∃ q, e = .returned (.agg #[.pointer q]) ∧ In w' q (put t x) ∧ Below w.heap.size w w' := by
  go_enter Try.func18, Try.ntmps18
  go_wp2_with fail
  refine (put_any t x p _ ((h.alloc _).alloc _) (by omega)).mono ?_
  rintro e w1 ⟨p1, rfl, hi1, hb1⟩
  obtain ⟨hb1, x0, x1⟩ := hold2 hb1 ⟨rfl, rfl, rfl, rfl⟩
  obtain ⟨c0, c1, c2⟩ := blk x1
  go_wp2_with fail
  refine bodyPost_ret (v := .agg #[.pointer p1]) (by simp [results, Try.results18, go_sem, c0]) rfl ⟨p1, rfl, hi1.keep (.setCell x1 (by decide)), hb1.setCell (p := ⟨w.heap.size + 1, 0, none⟩) (by simp) _⟩

set_option maxHeartbeats 400000 in
theorem drop_set (t : ST) (x : Int) (p : Option Addr) (w : World) (h : In w p t) (hs : t.size ≤ 1152921504606846976) :
    Calls Try.prog 19 #[.agg #[.pointer p], .int .i64 x] w fun e w' => ∃ q, e = .returned (.agg #[.pointer q]) ∧ In w' q (drop t x) ∧ Below w.heap.size w w' := by
  go_enter Try.func19, Try.ntmps19
  go_wp2_with fail
  refine (drop_any t x p _ ((h.alloc _).alloc _) (by omega)).mono ?_
  rintro e w1 ⟨p1, rfl, hi1, hb1⟩
  obtain ⟨hb1, x0, x1⟩ := hold2 hb1 ⟨rfl, rfl, rfl, rfl⟩
  obtain ⟨c0, c1, c2⟩ := blk x1
  go_wp2_with fail
  refine bodyPost_ret (v := .agg #[.pointer p1]) (by simp [results, Try.results19, go_sem, c0]) rfl ⟨p1, rfl, hi1.keep (.setCell x1 (by decide)), hb1.setCell (p := ⟨w.heap.size + 1, 0, none⟩) (by simp) _⟩

set_option maxHeartbeats 1000000 in
theorem has_set (t : ST) (x : Int) (p : Option Addr) (w : World) (h : In w p t) (hb : t.Bst) :
    Calls Try.prog 20 #[.agg #[.pointer p], .int .i64 x] w fun e w' => e = .returned (.bool (decide (x ∈ t.toL))) ∧ Below w.heap.size w w' := by
  have B0 := Lib.hid hb
  clear hb
  go_enter Try.func20, Try.ntmps20
  go_wp2_with fail
  go_loopg [5] t.size (fun m v wr => ∃ (s : ST) (q : Option Addr), s.size ≤ m ∧ v = .pointer q ∧ In wr q s ∧ s.Bst ∧ (x ∈ t.toL ↔ x ∈ s.toL) ∧ wr = w.alloc (.cells #[.pointer p] 26))
  case atStart =>
    exact ⟨t, p, Nat.le_refl _, rfl, h.alloc _, B0.out, Iff.rfl, rfl⟩
  case round =>
    obtain ⟨s, q, hm, rfl, hi, hbst, hmem, rfl⟩ := hrel
    have HB := Lib.hid hbst
    have HM := Lib.hid hmem
    clear hbst hmem
    cases s with
    | nil =>
      obtain rfl : q = none := hi
      have hno : decide (x ∈ t.toL) = false := by rw [decide_eq_false_iff_not, HM.out]; simp [toL]
      have HN := Lib.hid hno
      clear hno
      go_wp2_with fail
      go_ret
      exact ⟨by rw [HN.out]; rfl, (Below.refl _ _).alloc (Nat.le_refl _) _⟩
    | node c y l r =>
      obtain ⟨b, pl, pr, rfl, klt, k0, k1, k2, k3, k4, hl, hr⟩ := hi.open
      simp only [size] at hm
      obtain ⟨b1, b2, b3, b4⟩ := bst_node.1 HB.out
      have Q1 := Lib.hid b1
      have Q2 := Lib.hid b2
      by_cases hxy : y = x
      · have hyes : decide (x ∈ t.toL) = true := by rw [decide_eq_true_iff, HM.out, mem_node]; exact .inr (.inl hxy.symm)
        have HN := Lib.hid hyes
        have hd : (y != x) = false := by simp [hxy]
        have HX := Lib.hid hxy
        clear hyes hxy b1 b2 b3 b4
        go_wp2_with fail
        go_ret
        exact ⟨by rw [HN.out]; rfl, (Below.refl _ _).alloc (Nat.le_refl _) _⟩
      · have hd : (y != x) = true := by simp [hxy]
        by_cases hlt : x < y
        · have hd2 : decide (x < y) = true := by simp [hlt]
          have e1 : x ∈ t.toL ↔ x ∈ l.toL := by
            rw [HM.out, mem_node]
            constructor
            · rintro (k | k | k)
              · exact k
              · exact absurd k.symm hxy
              · have := b4 x k; omega
            · exact .inl
          have E1 := Lib.hid e1
          clear e1 b1 b2 b3 b4 hxy
          go_wp2_with fail
          go_roundg l.size
          case measure => omega
          case rel => exact ⟨l, pl, Nat.le_refl _, rfl, hl, Q1.out, E1.out, rfl⟩
        · have hd2 : decide (x < y) = false := by simp [hlt]
          have e1 : x ∈ t.toL ↔ x ∈ r.toL := by
            rw [HM.out, mem_node]
            constructor
            · rintro (k | k | k)
              · have := b3 x k; omega
              · exact absurd k.symm hxy
              · exact k
            · exact fun k => .inr (.inr k)
          have E1 := Lib.hid e1
          clear e1 b1 b2 b3 b4 hxy
          go_wp2_with fail
          go_roundg r.size
          case measure => omega
          case rel => exact ⟨r, pr, Nat.le_refl _, rfl, hr, Q2.out, E1.out, rfl⟩

set_option maxHeartbeats 800000 in
theorem of_any (a : Option Addr) (n c : Nat) (xs : List Int) (w : World) (h : Sl w a n c xs) (hn : n ≤ 576460752303423488) :
    Calls Try.prog 16 #[.slice a n c] w fun e w' => ∃ q, e = .returned (.agg #[.pointer q]) ∧ In w' q (ofL xs) ∧ Below w.heap.size w w' := by
  have HL := Lib.hid h.hlen
  have HH := Lib.hid h
  clear h
  go_enter Try.func16, Try.ntmps16
  go_wp2_with fail
  go_loopw [8] (fun i wr => ∃ (k : Nat) (q : Option Addr), k ≤ n ∧ i = .int .i64 k ∧ wr.heap[w.heap.size]? = some (.cells #[.pointer none] 26) ∧ wr.heap[w.heap.size + 1]? = some (.cells #[.pointer q] 26) ∧ In wr q (ofL (xs.take k)) ∧ Below w.heap.size w wr) (fun i _ => n - (intOf i).toNat)
  case atStart =>
    refine ⟨0, none, Nat.zero_le _, rfl, ?_, ?_, rfl, ((Below.refl _ _).alloc (Nat.le_refl _) _).alloc (by simp) _⟩
    · exact (Below.heap_alloc _ _ _ (by simp)).trans (heap_alloc_new _ _)
    · have := heap_alloc_new (w.alloc (.cells #[.pointer none] 26)) (.cells #[.pointer none] 26)
      rwa [World.size_alloc] at this
  case round =>
    obtain ⟨k, q, hk, rfl, x0, x1, hi, hb⟩ := hrel
    obtain ⟨c0, c1, c2⟩ := blk x0
    obtain ⟨d0, d1, d2⟩ := blk x1
    have X0 := Lib.hid x0
    have X1 := Lib.hid x1
    clear x0 x1
    by_cases hlt : k < n
    · obtain ⟨b, off, rfl, hbl, hc⟩ := HH.out.hat (by omega)
      have g := (hb.cell (p := ⟨b, off + k, none⟩) hbl).trans (hc k hlt)
      clear hc
      have hlti : (k : Int) < (n : Int) := by omega
      have hsz : (ofL (xs.take k)).size ≤ 576460752303423488 := by have := ofL_size (xs.take k); rw [List.length_take] at this; omega
      have t1 := take_snoc' xs k (by have := HL.out; omega)
      have hpush : ofL (xs.take (k + 1)) = put (ofL (xs.take k)) (xs[k]?.getD 0) := by rw [t1, ofL_snoc]
      have HP := Lib.hid hpush
      clear t1 hpush
      go_wp2_with fail
      refine (put_set _ _ q _ hi (by omega)).mono ?_
      rintro e w2 ⟨q2, rfl, hi2, hb2⟩
      have y0 := blk_below X0.out hb2
      have y1 := blk_below X1.out hb2
      obtain ⟨e0, e1, e2⟩ := blk y0
      obtain ⟨f0, f1, f2⟩ := blk y1
      have Y0 := Lib.hid y0
      have Y1 := Lib.hid y1
      clear y0 y1
      go_wp2_with fail
      go_roundw
      case rel => exact ⟨k + 1, q2, by omega, by go_num, blk_far Y0.out (by omega), blk_set Y1.out, by rw [HP.out]; exact hi2.keep (.setCell Y1.out (by decide)), (hb.trans (hb2.mono hb.size)).setCell (p := ⟨w.heap.size + 1, 0, none⟩) (by simp) _⟩
      case measure => simp [intOf]; omega
    · have he : k = n := by omega
      have hxs : xs.take k = xs := List.take_of_length_le (by have := HL.out; omega)
      rw [hxs] at hi
      have HX := Lib.hid hxs
      clear hxs he
      go_wp2_with fail
      refine bodyPost_ret (v := .agg #[.pointer q]) (by simp [results, Try.results16, go_sem, c0]) rfl ⟨q, rfl, hi.keep (.setCell X0.out (by decide)), hb.setCell (p := ⟨w.heap.size, 0, none⟩) (Nat.le_refl _) _⟩
end Go.Proofs.Ytinmmhjllmlimaa.AVL
