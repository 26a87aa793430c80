/-
  Finger trees: the measure of some things. Conditions: at most 2^44 numbers.
-/
import Derived.Test.YtpkfakndlbngbaaFinIn
import Derived.Deep.RegionLaw
namespace Go.Proofs.Ytpkfakndlbngbaa
open Go.RowKit Go.Deep
open Go.Proofs.Ytpkfakndlbngbaa.MN
set_option linter.unusedVariables false
namespace FG

/-- A measure that lies in memory. -/
def At (w : World) (b : Nat) (m : Ms) : Prop := w.heap[b]? = some (.cells #[.int .i64 m.n, .int .i64 m.s, .int .i64 m.lo, .int .i64 m.hi, .int .i64 m.h] 77 (0, 0))
theorem At.cells {w : World} {b : Nat} {m : Ms} (h : At w b m) : (w.cell? ⟨b, 0, none⟩ = some (.int .i64 m.n) ∧ w.cell? ⟨b, 1, none⟩ = some (.int .i64 m.s) ∧ w.cell? ⟨b, 2, none⟩ = some (.int .i64 m.lo) ∧ w.cell? ⟨b, 3, none⟩ = some (.int .i64 m.hi) ∧ w.cell? ⟨b, 4, none⟩ = some (.int .i64 m.h)) ∧ (∀ i, w.frozen? ⟨b, i, none⟩ = false) ∧ b < w.heap.size := by
  obtain ⟨c, f, k⟩ := blk h
  exact ⟨⟨c 0, c 1, c 2, c 3, c 4⟩, f, k⟩
theorem tsN_take_snoc (ts : List Th) (k : Nat) (h : k < ts.length) : tsN (ts.take (k + 1)) = tsN (ts.take k) + (ts[k]?.getD (.leaf 0)).size := by
  rw [List.take_add_one, tsN_append, List.getElem?_eq_getElem h]
  simp [tsN]
theorem tsN_take_le (ts : List Th) (k : Nat) : tsN (ts.take k) ≤ tsN ts := by
  conv => rhs; rw [← List.take_append_drop k ts]
  rw [tsN_append]
  omega
theorem join_n (x y : Ms) (a b : Nat) (hx : x.n = (a : Int)) (hy : y.n = (b : Int)) (hs : a + b ≤ 17592186044416) : (join x y).n = ((a + b : Nat) : Int) := by
  show wrap64 (x.n + y.n) = _
  rw [hx, hy]
  unfold wrap64
  omega
theorem i64_n {m : Ms} {a : Nat} (h : m.n = (a : Int)) (hs : a ≤ 17592186044416) : I64 m.n := by unfold I64; omega
set_option maxHeartbeats 2000000 in
theorem measured_any (a : Option Addr) (n c : Nat) (ts : List Th) (w : World) (h : Dg w a n c ts) (hs : tsN ts ≤ 17592186044416) :
    Calls Try.prog 63 #[.slice a n c] w fun e w' => ∃ m : Ms, m.n = (tsN ts : Int) ∧ e = .returned m.val ∧ Below w.heap.size w w' := by
  have hlen := h.len
  obtain ⟨ps, hp, hl⟩ := h
  have hm := hp.hmax
  have hm2 := hp.hcap
  unfold maxLen at hm
  have HP := Lib.hid hp
  have HI := Lib.hid hl
  have HLEN := Lib.hid hlen
  have HSZ := Lib.hid hs
  clear hp hl hlen hs
  go_enter Try.func63, Try.ntmps63
  go_wp2_with fail
  refine (none_any _).mono ?_
  rintro e w0 ⟨rfl, hb0⟩
  obtain ⟨hb0, y0⟩ := hold1 hb0 ⟨rfl, rfl, rfl, rfl⟩
  have Y0 := Lib.hid y0
  have ys := (Array.getElem?_eq_some_iff.1 y0).1
  clear y0
  go_wp2_with fail
  go_loopw [9] (fun i wr => ∃ (k : Nat) (m : Ms), k ≤ n ∧ i = .int .i64 k ∧ Hid (m.n = (tsN (ts.take k) : Int)) ∧ wr.heap[w.heap.size]? = some (.cells #[.int .i64 0, .int .i64 0, .int .i64 0, .int .i64 0, .int .i64 0] 77) ∧ At wr w0.heap.size m ∧ Below w.heap.size w wr) (fun i _ => n - (intOf i).toNat)
  case atStart =>
    refine ⟨0, zero, Nat.zero_le _, rfl, Lib.hid rfl, (Below.heap_alloc _ _ _ ys).trans Y0.out, heap_alloc_new _ _, hb0.alloc hb0.size _⟩
  case round =>
    obtain ⟨k, m, hk, rfl, HN, x0, x1, hb⟩ := hrel
    have hz := hb0.size
    by_cases hlt : k < n
    · obtain ⟨⟨o0, o1, o2, o3, o4⟩, d1, d2⟩ := x1.cells
      have X0 := Lib.hid x0
      have X1 := Lib.hid x1
      clear x0 x1
      obtain ⟨b, off, rfl, hbl, hc⟩ := HP.out.cell (by omega)
      have g := (hb.cell (p := ⟨b, off + k, none⟩) hbl).trans (hc k hlt)
      clear hc
      obtain ⟨b', m', hq, hn', hlt', r0, r1, r2, r3, r4⟩ := (HI.out.get k (by have := HLEN.out; omega)).cells
      rw [hq] at g
      have hnx : (join m m').n = (tsN (ts.take (k + 1)) : Int) := by
        have e1 := tsN_take_snoc ts k (by have := HLEN.out; omega)
        have e2 := tsN_take_le ts (k + 1)
        rw [e1]
        exact join_n m m' _ _ HN.out hn' (by have := HSZ.out; omega)
      have HNX := Lib.hid hnx
      have h1 : I64 m'.n := i64_n hn' (by
        have e1 := tsN_take_snoc ts k (by have := HLEN.out; omega)
        have e2 := tsN_take_le ts (k + 1)
        have := HSZ.out
        omega)
      have H1 := Lib.hid h1
      replace r0 := (hb.cell (p := ⟨b', 0, none⟩) hlt').trans r0
      replace r1 := (hb.cell (p := ⟨b', 1, none⟩) hlt').trans r1
      replace r2 := (hb.cell (p := ⟨b', 2, none⟩) hlt').trans r2
      replace r3 := (hb.cell (p := ⟨b', 3, none⟩) hlt').trans r3
      replace r4 := (hb.cell (p := ⟨b', 4, none⟩) hlt').trans r4
      have hlti : (k : Int) < (n : Int) := by omega
      clear hnx hq hn' hlt' h1
      go_wp2_with fail
      go_region_law (first
        | (go_simp; go_at_call 62; refine (join_any m m' _ H1.out).mono ?_; rintro e w1 ⟨rfl, hb1⟩; have z1 : At w1 w0.heap.size m := blk_below (by exact X1.out) hb1; replace hb1 : Below wr.heap.size wr w1 := (by first | exact hb1 | exact below_of_drew hb1 | exact below_of_drewN hb1); obtain ⟨⟨q0, q1, q2, q3, q4⟩, q5, q6⟩ := z1.cells; have Z1 := Lib.hid z1; clear z1))
      all_goals
        have hb12 : Below w.heap.size w w1 := below_then hb hb1
        try go_wp2_with fail
        go_roundw
      all_goals first
        | exact ⟨k + 1, join m m', by omega, by go_num, HNX, blk_far (blk_far (blk_far (blk_far (blk_far (blk_below X0.out hb1) (by omega)) (by omega)) (by omega)) (by omega)) (by omega), blk_set (blk_set (blk_set (blk_set (blk_set (Z1.out))))), (((((hb12).setCell (p := ⟨w0.heap.size, 0, none⟩) hb0.size _).setCell (p := ⟨w0.heap.size, 1, none⟩) hb0.size _).setCell (p := ⟨w0.heap.size, 2, none⟩) hb0.size _).setCell (p := ⟨w0.heap.size, 3, none⟩) hb0.size _).setCell (p := ⟨w0.heap.size, 4, none⟩) hb0.size _⟩
        | (simp [intOf]; omega)
    · have hxs : ts.take k = ts := List.take_of_length_le (by have := HLEN.out; omega)
      rw [hxs] at HN
      obtain ⟨⟨o0, o1, o2, o3, o4⟩, d1, d2⟩ := x1.cells
      obtain ⟨c0, c1, c2⟩ := blk x0
      have p0 := c0 0
      have p1 := c0 1
      have p2 := c0 2
      have p3 := c0 3
      have p4 := c0 4
      clear hxs x1 x0 c0
      go_wp2_with fail
      refine bodyPost_ret (v := m.val) (by simp [results, Try.results63, go_sem, p0, p1, p2, p3, p4]) rfl ⟨m, HN.out, rfl, ?_⟩
      exact (((((hb).setCell (p := ⟨w.heap.size, 0, none⟩) (Nat.le_refl _) _).setCell (p := ⟨w.heap.size, 1, none⟩) (Nat.le_refl _) _).setCell (p := ⟨w.heap.size, 2, none⟩) (Nat.le_refl _) _).setCell (p := ⟨w.heap.size, 3, none⟩) (Nat.le_refl _) _).setCell (p := ⟨w.heap.size, 4, none⟩) (Nat.le_refl _) _
end FG
end Go.Proofs.Ytpkfakndlbngbaa
