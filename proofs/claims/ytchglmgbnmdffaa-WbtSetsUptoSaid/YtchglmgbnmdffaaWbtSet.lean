/-
  Wbt: the set's functions. Conditions: sizes below 2^60.
-/
import Derived.Test.YtchglmgbnmdffaaWbtUnion
import Derived.Test.YtchglmgbnmdffaaWbtSifted
import Derived.Test.YtchglmgbnmdffaaWbtAsk
namespace Go.Proofs.Ytchglmgbnmdffaa.WBT
open Go.RowKit Go.Deep
open Go.Proofs.Ytchglmgbnmdffaa Go.Proofs.Ytchglmgbnmdffaa.ST

set_option linter.unusedVariables false
set_option maxRecDepth 100000 in
set_option maxHeartbeats 1600000 in
theorem put_set (t : ST) (x : Int) (p : Option Addr) (w : World) (h : In w p t) (hs : t.size ≤ 576460752303423488) :
    Calls Try.prog 21 #[.agg #[.pointer p], .int .i64 x] w fun e w' => ∃ q, e = .returned (.agg #[.pointer q]) ∧ In w' q (put t x) ∧ Below w.heap.size w w' := by
  have hz := split_size t x
  have SPL := fun p W h => split_any t x p W h (by omega)
  have e : put t x = link (split t x).1 x (split t x).2.2 := rfl
  rw [e]
  obtain ⟨sl, hsl⟩ : ∃ s, (split t x).1 = s := ⟨_, rfl⟩
  obtain ⟨sb, hsb⟩ : ∃ s, (split t x).2.1 = s := ⟨_, rfl⟩
  obtain ⟨sr, hsr⟩ : ∃ s, (split t x).2.2 = s := ⟨_, rfl⟩
  rw [hsl, hsr] at hz
  rw [hsl, hsb, hsr] at SPL
  rw [hsl, hsr]
  have SH := Lib.hid SPL
  clear hsl hsb hsr SPL e
  go_enter Try.func21, Try.ntmps21
  go_wp2_with fail
  refine (SH.out p _ ((h.alloc _).alloc _)).mono ?_
  rintro e w1 ⟨ql, qr, rfl, h1, h2, b1⟩
  obtain ⟨b1, x0, x1⟩ := hold2 b1 ⟨rfl, rfl, rfl, rfl⟩
  go_wp2_with fail
  refine (link_any sl sr x ql qr _ h1 h2 (by omega)).mono ?_
  rintro e w2 ⟨p2, rfl, hi2, b2⟩
  have y1 := blk_below x1 b2
  obtain ⟨c0, c1, c2⟩ := blk y1
  have c0' := c0 0
  have f0' := c1 0
  clear c0 c1
  go_wp2_with fail
  refine bodyPost_ret (v := .agg #[.pointer p2]) (by simp [results, Try.results21, go_sem, c0']) rfl ⟨_, rfl, hi2.keep (.setCell y1 (by decide)), (below_then b1 b2).setCell (p := ⟨w.heap.size + 1, 0, none⟩) (by simp) _⟩

set_option linter.unusedVariables false
set_option maxRecDepth 100000 in
set_option maxHeartbeats 1600000 in
theorem drop_set (t : ST) (x : Int) (p : Option Addr) (w : World) (h : In w p t) (hs : t.size ≤ 576460752303423488) :
    Calls Try.prog 22 #[.agg #[.pointer p], .int .i64 x] w fun e w' => ∃ q, e = .returned (.agg #[.pointer q]) ∧ In w' q (drop t x) ∧ Below w.heap.size w w' := by
  have hz := split_size t x
  have SPL := fun p W h => split_any t x p W h (by omega)
  have e : drop t x = joined (split t x).1 (split t x).2.2 := rfl
  rw [e]
  obtain ⟨sl, hsl⟩ : ∃ s, (split t x).1 = s := ⟨_, rfl⟩
  obtain ⟨sb, hsb⟩ : ∃ s, (split t x).2.1 = s := ⟨_, rfl⟩
  obtain ⟨sr, hsr⟩ : ∃ s, (split t x).2.2 = s := ⟨_, rfl⟩
  rw [hsl, hsr] at hz
  rw [hsl, hsb, hsr] at SPL
  rw [hsl, hsr]
  have SH := Lib.hid SPL
  clear hsl hsb hsr SPL e
  go_enter Try.func22, Try.ntmps22
  go_wp2_with fail
  refine (SH.out p _ ((h.alloc _).alloc _)).mono ?_
  rintro e w1 ⟨ql, qr, rfl, h1, h2, b1⟩
  obtain ⟨b1, x0, x1⟩ := hold2 b1 ⟨rfl, rfl, rfl, rfl⟩
  go_wp2_with fail
  refine (joined_any sl sr ql qr _ h1 h2 (by omega)).mono ?_
  rintro e w2 ⟨p2, rfl, hi2, b2⟩
  have y1 := blk_below x1 b2
  obtain ⟨c0, c1, c2⟩ := blk y1
  have c0' := c0 0
  have f0' := c1 0
  clear c0 c1
  go_wp2_with fail
  refine bodyPost_ret (v := .agg #[.pointer p2]) (by simp [results, Try.results22, go_sem, c0']) rfl ⟨_, rfl, hi2.keep (.setCell y1 (by decide)), (below_then b1 b2).setCell (p := ⟨w.heap.size + 1, 0, none⟩) (by simp) _⟩

set_option linter.unusedVariables false
set_option maxRecDepth 100000 in
set_option maxHeartbeats 1600000 in
theorem split_set (t : ST) (x : Int) (p : Option Addr) (w : World) (h : In w p t) (hs : t.size ≤ 576460752303423488) :
    Calls Try.prog 30 #[.agg #[.pointer p], .int .i64 x] w fun e w' => ∃ ql qr, e = .returned (.tuple #[.agg #[.pointer ql], .bool (split t x).2.1, .agg #[.pointer qr]]) ∧ In w' ql (split t x).1 ∧ In w' qr (split t x).2.2 ∧ Below w.heap.size w w' := by
  have SPL := fun p W h => split_any t x p W h (by omega)
  obtain ⟨sl, hsl⟩ : ∃ s, (split t x).1 = s := ⟨_, rfl⟩
  obtain ⟨sb, hsb⟩ : ∃ s, (split t x).2.1 = s := ⟨_, rfl⟩
  obtain ⟨sr, hsr⟩ : ∃ s, (split t x).2.2 = s := ⟨_, rfl⟩
  rw [hsl, hsb, hsr] at SPL
  rw [hsl, hsb, hsr]
  have SH := Lib.hid SPL
  clear hsl hsb hsr SPL
  go_enter Try.func30, Try.ntmps30
  go_wp2_with fail
  refine (SH.out p _ (((h.alloc _).alloc _).alloc _)).mono ?_
  rintro e w1 ⟨ql, qr, rfl, h1, h2, b1⟩
  obtain ⟨b1, x0, x1, x2⟩ := hold3 b1 ⟨rfl, rfl, rfl, rfl⟩
  obtain ⟨c0, c1, c2⟩ := blk x1
  obtain ⟨d0, d1, d2⟩ := blk x2
  have c0' := c0 0
  have f0' := c1 0
  have c0'' := d0 0
  have f0'' := d1 0
  clear c0 c1 d0 d1
  go_wp2_with fail
  refine bodyPost_ret (v := .tuple #[.agg #[.pointer ql], .bool sb, .agg #[.pointer qr]]) (by simp [results, Try.results30, go_sem, c0', c0'']) rfl ⟨_, _, rfl, (h1.keep (.setCell x1 (by decide))).keep (.setCell (blk_far x2 (by omega)) (by decide)), (h2.keep (.setCell x1 (by decide))).keep (.setCell (blk_far x2 (by omega)) (by decide)), (b1.setCell (p := ⟨w.heap.size + 1, 0, none⟩) (by simp) _).setCell (p := ⟨w.heap.size + 1 + 1, 0, none⟩) (by simp; omega) _⟩

set_option linter.unusedVariables false
set_option maxRecDepth 100000 in
set_option maxHeartbeats 1600000 in
theorem union_set (t u : ST) (p q : Option Addr) (w : World) (h : In w p t) (h' : In w q u) (hs : t.size + u.size ≤ 576460752303423488) :
    Calls Try.prog 33 #[.agg #[.pointer p], .agg #[.pointer q]] w fun e w' => ∃ r, e = .returned (.agg #[.pointer r]) ∧ In w' r (union t u) ∧ Below w.heap.size w w' := by
  go_enter Try.func33, Try.ntmps33
  go_wp2_with fail
  refine (union_any t u p q _ (((h.alloc _).alloc _).alloc _) (((h'.alloc _).alloc _).alloc _) (by omega)).mono ?_
  rintro e w1 ⟨p1, rfl, hi1, hb1⟩
  obtain ⟨hb1, x0, x1, x2⟩ := hold3 hb1 ⟨rfl, rfl, rfl, rfl⟩
  obtain ⟨c0, c1, c2⟩ := blk x2
  have c0' := c0 0
  have f0' := c1 0
  clear c0 c1
  go_wp2_with fail
  refine bodyPost_ret (v := .agg #[.pointer p1]) (by simp [results, Try.results33, go_sem, c0']) rfl ⟨_, rfl, hi1.keep (.setCell x2 (by decide)), hb1.setCell (p := ⟨w.heap.size + 1 + 1, 0, none⟩) (by simp; omega) _⟩

set_option linter.unusedVariables false
set_option maxRecDepth 100000 in
set_option maxHeartbeats 1600000 in
theorem inter_set (t u : ST) (p q : Option Addr) (w : World) (h : In w p t) (h' : In w q u) (hs : t.size + u.size ≤ 576460752303423488) :
    Calls Try.prog 32 #[.agg #[.pointer p], .agg #[.pointer q]] w fun e w' => ∃ r, e = .returned (.agg #[.pointer r]) ∧ In w' r (sifted t u true) ∧ Below w.heap.size w w' := by
  go_enter Try.func32, Try.ntmps32
  go_wp2_with fail
  refine (sifted_any true t u p q _ (((h.alloc _).alloc _).alloc _) (((h'.alloc _).alloc _).alloc _) (by omega) (by omega)).mono ?_
  rintro e w1 ⟨p1, rfl, hi1, hb1⟩
  obtain ⟨hb1, x0, x1, x2⟩ := hold3 hb1 ⟨rfl, rfl, rfl, rfl⟩
  obtain ⟨c0, c1, c2⟩ := blk x2
  have c0' := c0 0
  have f0' := c1 0
  clear c0 c1
  go_wp2_with fail
  refine bodyPost_ret (v := .agg #[.pointer p1]) (by simp [results, Try.results32, go_sem, c0']) rfl ⟨_, rfl, hi1.keep (.setCell x2 (by decide)), hb1.setCell (p := ⟨w.heap.size + 1 + 1, 0, none⟩) (by simp; omega) _⟩

set_option linter.unusedVariables false
set_option maxRecDepth 100000 in
set_option maxHeartbeats 1600000 in
theorem diff_set (t u : ST) (p q : Option Addr) (w : World) (h : In w p t) (h' : In w q u) (hs : t.size + u.size ≤ 576460752303423488) :
    Calls Try.prog 34 #[.agg #[.pointer p], .agg #[.pointer q]] w fun e w' => ∃ r, e = .returned (.agg #[.pointer r]) ∧ In w' r (sifted t u false) ∧ Below w.heap.size w w' := by
  go_enter Try.func34, Try.ntmps34
  go_wp2_with fail
  refine (sifted_any false t u p q _ (((h.alloc _).alloc _).alloc _) (((h'.alloc _).alloc _).alloc _) (by omega) (by omega)).mono ?_
  rintro e w1 ⟨p1, rfl, hi1, hb1⟩
  obtain ⟨hb1, x0, x1, x2⟩ := hold3 hb1 ⟨rfl, rfl, rfl, rfl⟩
  obtain ⟨c0, c1, c2⟩ := blk x2
  have c0' := c0 0
  have f0' := c1 0
  clear c0 c1
  go_wp2_with fail
  refine bodyPost_ret (v := .agg #[.pointer p1]) (by simp [results, Try.results34, go_sem, c0']) rfl ⟨_, rfl, hi1.keep (.setCell x2 (by decide)), hb1.setCell (p := ⟨w.heap.size + 1 + 1, 0, none⟩) (by simp; omega) _⟩
end Go.Proofs.Ytchglmgbnmdffaa.WBT
