/-
  The walk of the law PairRises. Conditions: the list has at most 2^44 - 512 numbers (the row's own reach).
-/
import Derived.Test.YtajbmikicbddiaaPaireds
namespace Go.Proofs.Ytajbmikicbddiaa
open Go.RowKit Go.Deep
open Go.Proofs.Ytajbmikicbddiaa.PF

set_option linter.unusedVariables false
set_option maxHeartbeats 4000000 in
set_option maxRecDepth 100000 in
theorem PairRises_walk (a0 : Option Addr) (n0 c0 : Nat) (x0 : List Int) (x1 : Int) (w : World)
    (s0 : Sl w a0 n0 c0 x0) (i0 : ∀ n ∈ x0, I64 n) (e0 : n0 ≤ 17592186043904) (i1 : I64 x1) :
    Calls Try.prog 6 #[.slice a0 n0 c0, .int .i64 x1] w fun e w' => e = .returned (.bool true) ∧ Below w.heap.size w w' := by
  have L0 := Lib.hid s0.hlen
  go_enter Try.func6, Try.ntmps6
  go_wp2_with fail
  refine (paireds_any _).mono ?_
  rintro e w1 ⟨rfl, B⟩
  go_wp2_with fail
  refine (of_any a0 n0 c0 x0 _ (s0.below B) (by omega)).mono ?_
  rintro e w2 ⟨q0, rfl, h0, bx⟩
  replace B := below_then B bx
  clear bx
  go_wp2_with fail
  go_loopw [7, 8] (fun l i wr => ∃ (k : Nat) (q : Option Addr) (t : Go.Proofs.Ytajbmikicbddiaa.PF) (lv : Int), k ≤ n0 ∧ i = .int .i64 k ∧ l = .int .i64 lv ∧ wr.heap[w2.heap.size]? = some (.cells #[.pointer q, .int .i64 (t.size : Int)] 43) ∧ In wr q t ∧ t.Top ∧ t.Ok ∧ t.size + k = n0 ∧ (∀ y ∈ t.all, lv ≤ y) ∧ Below w.heap.size w wr) (fun _ i _ => n0 - (intOf i).toNat)
  case atStart =>
    exact ⟨0, q0, _, _, Nat.zero_le _, rfl, rfl, heap_alloc_new _ _, h0.alloc _, ofL_top _, ofL_ok _, by rw [ofL_size, L0.out]; rfl, fun y hy => (i0 y ((ofL_all x0).mem_iff.1 hy)).1, B.alloc B.size _⟩
  case round =>
    obtain ⟨k, q, t, lv, hk, rfl, rfl, A, h, ht, ho, hz, hlv, B'⟩ := hrel
    have HZ := Lib.hid hz
    have HA := Lib.hid A
    have HLV := Lib.hid hlv
    obtain ⟨u0, uu0, uuu0⟩ := blk A
    have hs : t.size ≤ 17592186044416 := by omega
    have hBs := B.size
    have HT := Lib.hid ht
    have HO := Lib.hid ho
    clear A hlv
    by_cases hlt : k < n0
    · have hlti : (k : Int) < (n0 : Int) := by omega
      obtain ⟨hm1, hm2⟩ := least_mem (t := t) (by omega)
      have hy : ¬ t.least.1 < lv := by have := HLV.out _ hm2; omega
      have hps := pop_size ht
      have hlen : (((pop t).size : Int) != (n0 : Int) - (k : Int) - 1) = false := by simp; omega
      have hps1 : (pop t).size + 1 ≤ 4611686018427387904 := by omega
      obtain ⟨hz1, hz2⟩ := least_le (t := push (pop t) x1) ((push_facts x1 (pop_top t)).1) ((push_facts x1 (pop_top t)).2.2 (pop_ok ho)) (push_mem (pop_top t) x1)
      have hz3 : ¬ x1 < (push (pop t) x1).least.1 := by omega
      have HPS := Lib.hid hps
      clear hps hz ht ho hm2 hz2
      go_wp2_with fail
      refine (pop_any t q _ h HT.out hs).mono ?_
      rw [hm1]
      rintro e w5 ⟨p, rfl, hp, bx⟩
      have A5 := blk_below HA.out bx
      have B5 := B'.trans (bx.mono B'.size)
      clear bx
      go_wp2_with fail
      refine (len_any _ p _).mono ?_
      rintro e w6 ⟨rfl, bx⟩
      obtain ⟨bx, D6⟩ := hold1 bx ⟨rfl, rfl, rfl, rfl⟩
      have A6 := blk_below A5 bx
      have hp6 := hp.below bx
      have B6 := below_then B5 bx
      have hbx6 := bx.size
      clear bx A5
      obtain ⟨v0, vv0, vvv0⟩ := blk D6
      go_wp2_with fail
      refine (push_any x1 (pop t) p _ hp6 (pop_top t) hps1).mono ?_
      rintro e w7 ⟨p7, rfl, hp7, bx⟩
      have A7 := blk_below A6 bx
      have D7 := blk_below D6 bx
      have hp7' := hp6.below bx
      have B7 := below_then B6 bx
      clear bx A6 D6 v0 vv0
      go_wp2_with fail
      refine (min_any _ p7 _ _ hp7).mono ?_
      rw [hz1]
      rintro e w8 ⟨rfl, bx⟩
      have A8 := blk_below A7 bx
      have D8 := blk_below D7 bx
      have hp8 := hp7'.below bx
      have B8 := below_then B7 bx
      clear bx A7 D7
      obtain ⟨v0, vv0, vvv1⟩ := blk D8
      obtain ⟨x0', xx0, xxx0⟩ := blk A8
      have A9 := Lib.hid A8
      clear A8
      go_wp2_with fail
      go_roundw
      case rel =>
        have y1 := blk_set (i := 0) (v := .pointer p) A9.out
        exact ⟨k + 1, p, pop t, t.least.1, by omega, by go_num, rfl, blk_set (i := 1) (v := .int .i64 ((pop t).size : Int)) y1, (hp8.keep (.setCell A9.out (by decide))).keep (.setCell y1 (by decide)), pop_top t, pop_ok HO.out, by have := HPS.out; have := HZ.out; omega, pop_above HT.out HO.out, (B8.setCell (p := ⟨w2.heap.size, 0, none⟩) hBs _).setCell (p := ⟨w2.heap.size, 1, none⟩) hBs _⟩
      case measure => simp [intOf]; omega
    · have h00 : ((t.size : Int) == 0) = true := by simp; omega
      clear hz
      go_wp2_with fail
      refine (len_any _ q _).mono ?_
      rintro e w5 ⟨rfl, bx⟩
      replace B' := below_then B' bx
      go_wp2_with fail
      go_ret
      exact ⟨rfl, B'⟩
end Go.Proofs.Ytajbmikicbddiaa
