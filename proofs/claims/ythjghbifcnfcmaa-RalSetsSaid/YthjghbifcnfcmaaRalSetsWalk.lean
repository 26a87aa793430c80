/-
  The walk of the law RalSets. Conditions: the list has at most 2^44 - 512 numbers (the row's own reach).
-/
import Derived.Test.YthjghbifcnfcmaaRalSet
import Derived.Test.YthjghbifcnfcmaaRalOf
import Derived.Test.YthjghbifcnfcmaaSame
namespace Go.Proofs.Ythjghbifcnfcmaa
open Go.RowKit Go.Deep Go.BigFrame
open Go.Proofs.Ythjghbifcnfcmaa.RA
set_option linter.unusedVariables false
set_option maxHeartbeats 4000000 in
set_option maxRecDepth 100000 in
theorem RalSets_walk (a0 : Option Addr) (n0 c0 : Nat) (x0 : List Int) (x1 x2 x3 x4 x5 : Int) (w : World)
    (s0 : Sl w a0 n0 c0 x0) (i0 : ∀ n ∈ x0, I64 n) (e0 : n0 ≤ 17592186043904) (i1 : I64 x1) (i2 : I64 x2) (i3 : I64 x3) (i4 : I64 x4) (i5 : I64 x5) :
    Calls Try.prog 7 #[.slice a0 n0 c0, .int .i64 x1, .int .i64 x2, .int .i64 x3, .int .i64 x4, .int .i64 x5] w fun e w' => e = .returned (.bool true) ∧ Below w.heap.size w w' := by
  have L0 := Lib.hid s0.hlen
  have S0 := Lib.hid s0
  clear s0 i0 i1 i2 i3 i4 i5
  by_cases hin : 0 ≤ x1 ∧ x1 < (n0 : Int) ∧ 0 ≤ x3 ∧ x3 < (n0 : Int) ∧ 0 ≤ x5 ∧ x5 < (n0 : Int)
  · skip
    obtain ⟨i, rfl⟩ : ∃ i : Nat, x1 = (i : Int) := ⟨x1.toNat, by omega⟩
    obtain ⟨j, rfl⟩ : ∃ j : Nat, x3 = (j : Int) := ⟨x3.toNat, by omega⟩
    obtain ⟨k, rfl⟩ : ∃ k : Nat, x5 = (k : Int) := ⟨x5.toNat, by omega⟩
    obtain ⟨hi0, hi1, hj0, hj1, hk0, hk1⟩ := hin
    have hi2 : i < n0 := by omega
    have hj2 : j < n0 := by omega
    have hk2 : k < n0 := by omega
    have hm : n0 ≤ 1152921504606846976 := by omega
    obtain ⟨b, off, rfl, hbl, hc⟩ := S0.out.hat (by omega)
    obtain ⟨g0, hg0⟩ : ∃ g0, x0[k]?.getD 0 = g0 := ⟨_, rfl⟩
    have gk := hc k hk2
    rw [hg0] at gk
    have hx0k : x0[k]? = some g0 := by
      rw [List.getElem?_eq_getElem (by have := L0.out; omega)] at hg0 ⊢
      exact congrArg some hg0
    obtain ⟨u, hu⟩ : ∃ u, ((x0.set i x2).set j x4)[k]? = some u := ⟨_, List.getElem?_eq_getElem (by rw [List.length_set, List.length_set]; have := L0.out; omega)⟩
    obtain ⟨v, hv⟩ : ∃ v, ((x0.set j x4).set i x2)[k]? = some v := ⟨_, List.getElem?_eq_getElem (by rw [List.length_set, List.length_set]; have := L0.out; omega)⟩
    have cases5 : (k = j ∧ i = j ∧ u = x4) ∨ (k = j ∧ ¬ i = j ∧ u = x4 ∧ v = x4) ∨ (¬ k = j ∧ k = i ∧ u = x2 ∧ v = x2) ∨ (¬ k = j ∧ ¬ k = i ∧ i = j ∧ u = g0) ∨ (¬ k = j ∧ ¬ k = i ∧ ¬ i = j ∧ u = g0 ∧ v = g0) := by
      have l1 : k < x0.length := by have := L0.out; omega
      rw [List.getElem?_set, List.getElem?_set, hx0k] at hu hv
      simp only [List.length_set] at hu hv
      by_cases e1 : k = j
      · subst e1
        by_cases e2 : i = k
        · subst e2
          rw [if_pos rfl, if_pos l1] at hu
          exact .inl ⟨rfl, rfl, (Option.some.inj hu).symm⟩
        · rw [if_pos rfl, if_pos l1] at hu
          rw [if_neg e2, if_pos rfl, if_pos l1] at hv
          exact .inr (.inl ⟨rfl, e2, (Option.some.inj hu).symm, (Option.some.inj hv).symm⟩)
      · have e1' : ¬ j = k := fun e => e1 e.symm
        rw [if_neg e1'] at hu
        by_cases e2 : k = i
        · subst e2
          rw [if_pos rfl, if_pos l1] at hu hv
          exact .inr (.inr (.inl ⟨e1, rfl, (Option.some.inj hu).symm, (Option.some.inj hv).symm⟩))
        · have e2' : ¬ i = k := fun e => e2 e.symm
          rw [if_neg e2'] at hu
          rw [if_neg e2', if_neg e1'] at hv
          by_cases e3 : i = j
          · exact .inr (.inr (.inr (.inl ⟨e1, e2, e3, (Option.some.inj hu).symm⟩)))
          · exact .inr (.inr (.inr (.inr ⟨e1, e2, e3, (Option.some.inj hu).symm, (Option.some.inj hv).symm⟩)))
    have C5 := Lib.hid cases5
    have HU := Lib.hid hu
    have HV := Lib.hid hv
    clear cases5 hu hv hc hg0 hx0k
    go_enter Try.func7, Try.ntmps7
    go_wp2_with fail
    refine (of_any _ n0 c0 x0 _ S0.out (by omega)).mono ?_
    rintro e w1 ⟨q0, m0, rfl, h0, B⟩
    go_wp2_with fail
    refine (set_in i x2 q0 m0 x0 _ h0 (by (try simp only [List.length_set]); have := L0.out; omega) (by (try simp only [List.length_set]); have := L0.out; omega)).mono ?_
    rintro e w2 ⟨q1, rfl, h1, bx⟩
    replace B := below_then B bx
    clear bx
    go_wp2_with fail
    refine (set_in j x4 q1 m0 (x0.set i x2) _ (h1.alloc _) (by (try simp only [List.length_set]); have := L0.out; omega) (by (try simp only [List.length_set]); have := L0.out; omega)).mono ?_
    rintro e w3 ⟨q2, rfl, h2, bx⟩
    obtain ⟨bx, A⟩ := hold1 bx ⟨rfl, rfl, rfl, rfl⟩
    replace h1 := h1.below bx
    replace B := below_then B bx
    clear bx
    go_wp2_with fail
    refine (of_any _ n0 c0 x0 _ ((S0.out.below B).alloc _) (by omega)).mono ?_
    rintro e w4 ⟨q3, m3, rfl, h3, bx⟩
    obtain ⟨bx, Bb⟩ := hold1 bx ⟨rfl, rfl, rfl, rfl⟩
    replace h1 := h1.below bx
    replace A := blk_below A bx
    replace h2 := h2.below bx
    replace B := below_then B bx
    clear bx
    go_wp2_with fail
    refine (set_in j x4 q3 m3 x0 _ h3 (by (try simp only [List.length_set]); have := L0.out; omega) (by (try simp only [List.length_set]); have := L0.out; omega)).mono ?_
    rintro e w5 ⟨q4, rfl, h4, bx⟩
    replace h1 := h1.below bx
    replace A := blk_below A bx
    replace h2 := h2.below bx
    replace Bb := blk_below Bb bx
    replace h3 := h3.below bx
    replace B := below_then B bx
    clear bx
    go_wp2_with fail
    refine (set_in i x2 q4 m3 (x0.set j x4) _ (h4.alloc _) (by (try simp only [List.length_set]); have := L0.out; omega) (by (try simp only [List.length_set]); have := L0.out; omega)).mono ?_
    rintro e w6 ⟨q5, rfl, h5, bx⟩
    obtain ⟨bx, C⟩ := hold1 bx ⟨rfl, rfl, rfl, rfl⟩
    replace h1 := h1.below bx
    replace A := blk_below A bx
    replace h2 := h2.below bx
    replace Bb := blk_below Bb bx
    replace h3 := h3.below bx
    replace h4 := h4.below bx
    replace B := below_then B bx
    clear bx
    obtain ⟨u0, uu0, uuu0⟩ := blk Bb
    go_wp2_with fail
    refine (at_in k u q2 m0 _ _ (h2.alloc _) HU.out (by (try simp only [List.length_set]); have := L0.out; omega)).mono ?_
    rintro e w7 ⟨rfl, bx⟩
    obtain ⟨bx, Dd⟩ := hold1 bx ⟨rfl, rfl, rfl, rfl⟩
    clear u0 uu0 uuu0
    replace h1 := h1.below bx
    replace A := blk_below A bx
    replace h2 := h2.below bx
    replace Bb := blk_below Bb bx
    replace h3 := h3.below bx
    replace h4 := h4.below bx
    replace C := blk_below C bx
    replace h5 := h5.below bx
    replace B := below_then B bx
    clear bx
    obtain ⟨u0, uu0, uuu0⟩ := blk Dd
    go_wp2_with fail
    refine (at_in k v q5 m3 _ _ h5 HV.out (by (try simp only [List.length_set]); have := L0.out; omega)).mono ?_
    rintro e w8 ⟨rfl, bx⟩
    clear u0 uu0 uuu0
    replace h1 := h1.below bx
    replace A := blk_below A bx
    replace h2 := h2.below bx
    replace Bb := blk_below Bb bx
    replace h3 := h3.below bx
    replace h4 := h4.below bx
    replace C := blk_below C bx
    replace h5 := h5.below bx
    replace Dd := blk_below Dd bx
    replace B := below_then B bx
    clear bx
    have gk' := (B.cell (p := ⟨b, off + k, none⟩) hbl).trans gk
    have HB := Lib.hid B
    clear gk A Bb C Dd h0 h1 h2 h3 h4 h5 HU HV S0
    rcases C5.out with ⟨e1, e2, rfl⟩ | ⟨e1, e2, rfl, rfl⟩ | ⟨e1, e2, rfl, rfl⟩ | ⟨e1, e2, e3, rfl⟩ | ⟨e1, e2, e3, rfl, rfl⟩
    · subst e1
      subst e2
      clear C5
      go_wp2_with fail
      go_ret
      exact ⟨rfl, HB.out⟩
    · subst e1
      have f1 : ¬ (k : Int) = (i : Int) := by omega
      have f2 : ((k : Int) == (i : Int)) = false := by rw [beq_eq_false_iff_ne]; exact f1
      have f3 : ((i : Int) == (k : Int)) = false := by rw [beq_eq_false_iff_ne]; exact fun e => f1 e.symm
      clear C5 e2
      go_wp2_with fail
      go_ret
      exact ⟨rfl, HB.out⟩
    · subst e2
      have f1 : ¬ (k : Int) = (j : Int) := by omega
      have f2 : ((k : Int) == (j : Int)) = false := by rw [beq_eq_false_iff_ne]; exact f1
      clear C5 e1
      go_wp2_with fail
      go_ret
      exact ⟨rfl, HB.out⟩
    · subst e3
      have f1 : ¬ (k : Int) = (i : Int) := by omega
      have f2 : ((k : Int) == (i : Int)) = false := by rw [beq_eq_false_iff_ne]; exact f1
      clear C5 e1 e2
      go_wp2_with fail
      go_ret
      exact ⟨rfl, HB.out⟩
    · have f1 : ¬ (k : Int) = (i : Int) := by omega
      have f2 : ((k : Int) == (i : Int)) = false := by rw [beq_eq_false_iff_ne]; exact f1
      have f3 : ¬ (k : Int) = (j : Int) := by omega
      have f4 : ((k : Int) == (j : Int)) = false := by rw [beq_eq_false_iff_ne]; exact f3
      have f5 : ¬ (i : Int) = (j : Int) := by omega
      have f6 : ((i : Int) == (j : Int)) = false := by rw [beq_eq_false_iff_ne]; exact f5
      clear C5 e1 e2 e3
      go_wp2_with fail
      go_ret
      exact ⟨rfl, HB.out⟩
  · have hout : (x1 < 0) ∨ (0 ≤ x1 ∧ (n0 : Int) ≤ x1) ∨ (0 ≤ x1 ∧ x1 < (n0 : Int) ∧ x3 < 0) ∨ (0 ≤ x1 ∧ x1 < (n0 : Int) ∧ 0 ≤ x3 ∧ (n0 : Int) ≤ x3) ∨ (0 ≤ x1 ∧ x1 < (n0 : Int) ∧ 0 ≤ x3 ∧ x3 < (n0 : Int) ∧ x5 < 0) ∨ (0 ≤ x1 ∧ x1 < (n0 : Int) ∧ 0 ≤ x3 ∧ x3 < (n0 : Int) ∧ 0 ≤ x5 ∧ (n0 : Int) ≤ x5) := by omega
    clear hin
    rcases hout with h1 | ⟨h1, h2⟩ | ⟨h1, h2, h3⟩ | ⟨h1, h2, h3, h4⟩ | ⟨h1, h2, h3, h4, h5⟩ | ⟨h1, h2, h3, h4, h5, h6⟩
    all_goals
      go_enter Try.func7, Try.ntmps7
      go_wp2_with fail
      refine (of_any _ 1 1 [5] _ (Sl.one _ _ _) (by decide)).mono ?_
      rintro e w3 ⟨q5, m5, rfl, hh5, b3⟩
      obtain ⟨b3, _⟩ := hold1 b3 ⟨rfl, rfl, rfl, rfl⟩
      have hm5 : m5 = 1 := hh5.size
      subst hm5
      go_wp2_with fail
      refine (len_any q5 1 _).mono ?_
      rintro e w4 ⟨rfl, b4⟩
      go_wp2_with fail
      go_ret
      exact ⟨rfl, below_then b3 b4⟩
end Go.Proofs.Ythjghbifcnfcmaa
