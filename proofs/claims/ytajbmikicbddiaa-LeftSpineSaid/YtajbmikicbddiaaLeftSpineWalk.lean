/-
  The walk of the law LeftSpine. Conditions: each list has at most 2^44 - 512 numbers (the row's own reach).
-/
import Derived.Test.YtajbmikicbddiaaLefted
namespace Go.Proofs.Ytajbmikicbddiaa
open Go.RowKit Go.Deep
open Go.Proofs.Ytajbmikicbddiaa.LT

theorem spine_pos (t : Go.Proofs.Ytajbmikicbddiaa.LT) : 0 < t.spine ↔ 0 < t.size := by
  cases t with
  | nil => exact Iff.rfl
  | node x l r => exact ⟨fun _ => by simp only [Go.Proofs.Ytajbmikicbddiaa.LT.size]; omega, fun _ => Nat.succ_pos _⟩
/-- So many times halved. -/
def halved (n k : Nat) : Nat := n / 2 ^ k
theorem halved_zero (n : Nat) : halved n 0 = n := by simp [halved]
theorem halved_succ (n k : Nat) : halved n (k + 1) = halved n k / 2 := by unfold halved; rw [Nat.div_div_eq_div_mul, Nat.pow_succ]
theorem halved_le (n k : Nat) : halved n k ≤ n := Nat.div_le_self _ _
theorem halved_pos {n k s : Nat} (h : 2 ^ s ≤ n) (hk : k < s) : 1 ≤ halved n (k + 1) := by
  have h1 : 2 ^ (k + 1) ≤ 2 ^ s := Nat.pow_le_pow_right (by omega) hk
  unfold halved
  rw [Nat.le_div_iff_mul_le (Nat.two_pow_pos _)]
  omega
theorem least_of_size {t : Go.Proofs.Ytajbmikicbddiaa.LT} (h : 0 < t.size) : t.least.2 = true := by
  cases t with
  | nil => simp [size] at h
  | node x l r => rfl

set_option linter.unusedVariables false
set_option maxHeartbeats 4000000 in
set_option maxRecDepth 100000 in
theorem LeftSpine_walk (a0 : Option Addr) (n0 c0 : Nat) (x0 : List Int) (a1 : Option Addr) (n1 c1 : Nat) (x1 : List Int) (x2 : Int) (w : World)
    (s0 : Sl w a0 n0 c0 x0) (i0 : ∀ n ∈ x0, I64 n) (e0 : n0 ≤ 17592186043904) (s1 : Sl w a1 n1 c1 x1) (i1 : ∀ n ∈ x1, I64 n) (e1 : n1 ≤ 17592186043904) (i2 : I64 x2) :
    Calls Try.prog 3 #[.slice a0 n0 c0, .slice a1 n1 c1, .int .i64 x2] w fun e w' => e = .returned (.bool true) ∧ Below w.heap.size w w' := by
  have L0 := Lib.hid s0.hlen
  have L1 := Lib.hid s1.hlen
  have z0 : (ofL x0).size ≤ n0 := by rw [ofL_size, L0.out]; exact Nat.le_refl _
  have z1 : (ofL x1).size ≤ n1 := by rw [ofL_size, L1.out]; exact Nat.le_refl _
  go_enter Try.func3, Try.ntmps3
  go_wp2_with fail
  refine (lefted_any _).mono ?_
  rintro e w1 ⟨rfl, B⟩
  go_wp2_with fail
  refine (of_any a0 n0 c0 x0 _ (s0.below B) (by omega)).mono ?_
  rintro e w2 ⟨q0, rfl, h0, bx⟩
  replace B := below_then B bx
  clear bx
  go_wp2_with fail
  refine (of_any a1 n1 c1 x1 _ (s1.below B) (by omega)).mono ?_
  rintro e w3 ⟨q1, rfl, h1, bx⟩
  replace h0 := h0.below bx
  replace B := below_then B bx
  clear bx
  go_wp2_with fail
  refine (join_any (ofL x0) (ofL x1) q0 q1 _ h0 h1 (by omega)).mono ?_
  rintro e w4 ⟨q, rfl, h, bx⟩
  replace B := below_then B bx
  clear bx h0 h1
  go_wp2_with fail
  go_loopw [9] (fun i wr => ∃ (k : Nat) (q : Option Addr) (t : Go.Proofs.Ytajbmikicbddiaa.LT), k ≤ n0 ∧ i = .int .i64 k ∧ wr.heap[w4.heap.size]? = some (.cells #[.pointer q] 26) ∧ In wr q t ∧ t.Lefty ∧ t.size + k = n0 + n1 ∧ Below w.heap.size w wr) (fun i _ => n0 - (intOf i).toNat)
  case atStart =>
    exact ⟨0, q, _, Nat.zero_le _, rfl, heap_alloc_new _ _, h.alloc _, merged_lefty _ _ (ofL_lefty _) (ofL_lefty _), by rw [merged_size, ofL_size, ofL_size, L0.out, L1.out]; rfl, B.alloc B.size _⟩
  case round =>
    obtain ⟨k, q, t, hk, rfl, A, h, hl, hz, B'⟩ := hrel
    have HZ := Lib.hid hz
    have HA := Lib.hid A
    obtain ⟨u0, uu0, uuu0⟩ := blk A
    have hs : t.size ≤ 4611686018427387904 := by omega
    have hs2 : (t.size : Int) + 1 ≤ 4611686018427387904 := by omega
    have hBs := B.size
    clear A
    by_cases hg : (k : Int) < x2 ∧ k < n0
    · obtain ⟨g1, g2⟩ := hg
      have g2' : (k : Int) < (n0 : Int) := by omega
      have hpos : t.least.2 = true := least_of_size (by omega)
      have hp := pop_size t
      have hps : 0 < t.size := by omega
      have HP := Lib.hid hp
      clear hz hp
      go_wp2_with fail
      refine (pop_any t q _ h hs).mono ?_
      rw [hpos]
      rintro e w5 ⟨p, rfl, hp, bx⟩
      have A5 := blk_below HA.out bx
      obtain ⟨v0, vv0, vvv0⟩ := blk A5
      have A5' := Lib.hid A5
      clear A5
      go_wp2_with fail
      go_roundw
      case rel =>
        have hsz : w4.heap.size < (w5.setCell ⟨w4.heap.size, 0, none⟩ (.pointer p)).heap.size := by simp [World.setCell]; exact vvv0
        exact ⟨k + 1, p, pop t, by omega, by go_num, (Below.heap_alloc _ _ _ hsz).trans (blk_set A5'.out), (hp.keep (.setCell A5'.out (by decide))).alloc _, pop_lefty hl, by have := HP.out; have := HZ.out; omega, ((B'.trans (bx.mono B'.size)).setCell (p := ⟨w4.heap.size, 0, none⟩) hBs _).alloc (Nat.le_of_lt (Nat.lt_of_le_of_lt hBs hsz)) _⟩
      case measure => simp [intOf]; omega
    · have hg2 : ¬ (k : Int) < x2 ∨ ((k : Int) < x2 ∧ ¬ (k : Int) < (n0 : Int)) := by omega
      have hsh := spine_short t hl
      have hsp := spine_le t
      clear hz hg
      rcases hg2 with g1 | ⟨g1, g2⟩
      all_goals
        go_wp2_with fail
        refine (len_any t q _ h).mono ?_
        rintro e w5 ⟨rfl, bx⟩
        replace h := h.below bx
        have A5 := blk_below HA.out bx
        replace B' := below_then B' bx
        clear bx u0 uu0
        obtain ⟨u0, uu0, uuu1⟩ := blk A5
        have HA5 := Lib.hid A5
        clear A5
        go_wp2_with fail
        refine (spine_any t q _ h).mono ?_
        rintro e w6 ⟨rfl, bx⟩
        replace h := h.below bx
        have A6 := blk_below HA5.out bx
        replace B' := below_then B' bx
        clear bx u0 uu0
        obtain ⟨u0, uu0, uuu2⟩ := blk A6
        clear A6
        go_wp2_with fail
        go_loop [13, 15] (fun v i => ∃ j : Nat, j ≤ t.spine ∧ i = .int .i64 j ∧ v = .int .i64 (halved (t.size + 1) j : Int)) (fun _ i => t.spine - (intOf i).toNat)
        case atStart => exact ⟨0, Nat.zero_le _, rfl, by simp [halved_zero]⟩
        case round =>
          obtain ⟨j, hj, rfl, rfl⟩ := hrel
          have hle := halved_le (t.size + 1) j
          have hle2 : (halved (t.size + 1) j : Int) ≤ 4611686018427387905 := by omega
          by_cases hj2 : j < t.spine
          · have hsu := halved_succ (t.size + 1) j
            have hpo := halved_pos hsh hj2
            have hb : ((halved (t.size + 1) j : Int) / 2 == 0) = false := by simp; omega
            have HS := Lib.hid hsu
            clear hsu hpo
            go_wp2_with fail
            go_round
            case rel => exact ⟨j + 1, by omega, by go_num, by rw [HS.out]; go_num⟩
            case measure => simp [intOf]; omega
          · go_wp2_with fail
            refine (len_any t q _ h).mono ?_
            rintro e w7 ⟨rfl, bx⟩
            replace B' := below_then B' bx
            go_wp2_with fail
            go_ret
            exact ⟨by simp [spine_pos t], B'⟩
end Go.Proofs.Ytajbmikicbddiaa
