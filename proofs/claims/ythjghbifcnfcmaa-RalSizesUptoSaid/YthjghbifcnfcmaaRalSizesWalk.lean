/-
  The walk of the law RalSizes. Conditions: the arguments hold together at most 1048576 values.
-/
import Derived.Test.YthjghbifcnfcmaaRalSizesOf
import Derived.Test.YthjghbifcnfcmaaRalOf
import Derived.Test.YthjghbifcnfcmaaRalSkewed
namespace Go.Proofs.Ythjghbifcnfcmaa
open Go.RowKit Go.Deep Go.BigFrame
open Go.Proofs.Ythjghbifcnfcmaa.RA
set_option linter.unusedVariables false
set_option maxHeartbeats 4000000 in
set_option maxRecDepth 100000 in
theorem RalSizes_walk (a0 : Option Addr) (n0 c0 : Nat) (x0 : List Int) (x1 : Int) (w : World)
    (s0 : Sl w a0 n0 c0 x0) (i0 : ∀ n ∈ x0, I64 n) (i1 : I64 x1) (hN : n0 ≤ 1048576) :
    Calls Try.prog 6 #[.slice a0 n0 c0, .int .i64 x1] w fun e w' => e = .returned (.bool true) ∧ Below w.heap.size w w' := by
  have L0 := Lib.hid s0.hlen
  have S0 := Lib.hid s0
  clear s0 i0 i1
  go_enter Try.func6, Try.ntmps6
  go_wp2_with fail
  refine (of_any a0 n0 c0 x0 _ S0.out (by omega)).mono ?_
  rintro e w1 ⟨q0, m0, rfl, h0, B⟩
  have b10 := B
  go_wp2_with fail
  refine (SK.skewed_any _).mono ?_
  rintro e w2 ⟨rfl, bx⟩
  obtain ⟨bx, A⟩ := hold1 bx ⟨rfl, rfl, rfl, rfl⟩
  replace h0 := h0.below bx
  replace B := below_then B bx
  clear bx
  go_wp2_with fail
  refine (of_any _ 1 1 [5] _ (Sl.one _ _ _) (by decide)).mono ?_
  rintro e w3 ⟨q5, m5, rfl, h5, bx⟩
  obtain ⟨bx, _⟩ := hold1 bx ⟨rfl, rfl, rfl, rfl⟩
  replace h0 := h0.below bx
  replace B := below_then B bx
  replace A := blk_below A bx
  have hm5 : m5 = 1 := h5.size
  subst hm5
  clear bx
  go_wp2_with fail
  refine (len_any q5 1 _).mono ?_
  rintro e w4 ⟨rfl, bx⟩
  replace h0 := h0.below bx
  replace B := below_then B bx
  replace A := blk_below A bx
  clear bx h5
  go_wp2_with fail
  obtain ⟨B0, hB0⟩ : ∃ k, w1.heap.size = k := ⟨_, rfl⟩
  have hBw : w.heap.size ≤ B0 := by rw [← hB0]; exact b10.size
  rw [hB0] at A ⊢
  clear hB0 b10
  go_loopw [7] (fun i wr => ∃ (k : Nat) (q : Option Addr) (m : Int), k ≤ n0 ∧ i = .int .i64 k ∧ Box wr B0 q m ∧ In wr q m (x0.drop k) ∧ Below w.heap.size w wr) (fun i _ => n0 - (intOf i).toNat)
  case atStart => exact ⟨0, q0, m0, Nat.zero_le _, rfl, A, h0, B⟩
  case round =>
    clear A h0 B
    obtain ⟨k, q, m, hk, rfl, A, h, B'⟩ := hrel
    have HA := Lib.hid A
    obtain ⟨u0, uu0, uuu0⟩ := blk A
    clear A
    by_cases hg : (k : Int) < x1 ∧ k < n0
    · obtain ⟨g1, g2⟩ := hg
      have g2' : (k : Int) < (n0 : Int) := by omega
      obtain ⟨y, r, hd⟩ : ∃ y r, x0.drop k = y :: r := by
        rw [List.drop_eq_getElem_cons (by have := L0.out; omega)]
        exact ⟨_, _, rfl⟩
      have hr : x0.drop (k + 1) = r := by rw [← List.drop_drop, hd]; rfl
      have hrl : r.length + 1 ≤ 1152921504606846976 := by rw [← hr, List.length_drop]; have := L0.out; omega
      rw [hd] at h
      have HR := Lib.hid hr
      clear hd hr
      go_wp2_with fail
      refine (pop_cons y q m r _ h hrl).mono ?_
      rintro e w5 ⟨p, pm, rfl, hp, bx⟩
      have A5 := blk_below HA.out bx
      obtain ⟨v0, vv0, vvv0⟩ := blk A5
      have A5' : Hid (Box w5 B0 q m) := Lib.hid A5
      clear A5
      go_wp2_with fail
      go_roundw
      case rel =>
        have hsz : B0 < ((w5.setCell ⟨B0, 0, none⟩ (.pointer p)).setCell ⟨B0, 1, none⟩ (.int .i64 pm)).heap.size := by simp [World.setCell]; exact vvv0
        have b2 := below_set2 (B := w.heap.size) (below_then B' bx) hBw (.pointer p) (.int .i64 pm)
        exact ⟨k + 1, p, pm, by omega, by go_num, (Below.heap_alloc _ _ _ hsz).trans (box_set A5'.out), by rw [HR.out]; exact (hp.box A5'.out).alloc _, b2.alloc b2.size _⟩
      case measure => simp [intOf]; omega
    · have hg2 : ¬ (k : Int) < x1 ∨ ((k : Int) < x1 ∧ ¬ (k : Int) < (n0 : Int)) := by omega
      have hdl : (x0.drop k).length ≤ 1048576 := by rw [List.length_drop]; have := L0.out; omega
      obtain ⟨xs, hxs⟩ : ∃ xs, x0.drop k = xs := ⟨_, rfl⟩
      rw [hxs] at h hdl
      have hm := h.size
      have HM := Lib.hid hm
      clear hg hxs hm
      rcases hg2 with g1 | ⟨g1, g2⟩
      all_goals
        go_wp2_with fail
        refine (len_any q m _).mono ?_
        rintro e w5 ⟨rfl, bx⟩
        have A5 := blk_below HA.out bx
        have h5 := h.below bx
        have B5 := below_then B' bx
        obtain ⟨v0, vv0, vvv0⟩ := blk A5
        have HA5 := Lib.hid A5
        clear bx A5
        go_wp2_with fail
        refine (SK.Digits_good m _ (by have := HM.out; omega) (by have := HM.out; omega)).mono ?_
        rintro e w6 ⟨ad, nd, cd, rfl, sd, bx⟩
        have A6 := blk_below HA5.out bx
        have h6 := h5.below bx
        have B6 := below_then B5 bx
        clear bx v0 vv0
        obtain ⟨v0, vv0, vvv1⟩ := blk A6
        go_wp2_with fail
        refine (sizes_any q m xs _ h6 (by omega)).mono ?_
        rintro e w7 ⟨az, nz, cz, Lz, rfl, sz, hv, hsum, bx⟩
        have sd7 := sd.below bx
        have B7 := below_then B6 bx
        have he : Lz = (SK.gd 40 m).reverse := by
          have h1 := SK.gd_valid (n := m) (by have := HM.out; omega) (by have := HM.out; omega)
          exact SK.valid_eq hv h1.1 (by rw [h1.2.1, hsum, HM.out])
        have HE := Lib.hid he
        clear bx he hv hsum v0 vv0
        go_wp2_with fail
        refine (same_yes _ _ _ _ _ _ _ _ _ sz sd7 HE.out).mono ?_
        rintro e w8 ⟨rfl, bx⟩
        have B8 := below_then B7 bx
        go_wp2_with fail
        go_ret
        exact ⟨rfl, B8⟩
end Go.Proofs.Ythjghbifcnfcmaa
