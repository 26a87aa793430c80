/-
  The walk of the law WbtRanks. Conditions: the list has at most 2^44 - 512 numbers (the row's own reach).
-/
import Derived.Test.YtchglmgbnmdffaaWbtFact
namespace Go.Proofs.Ytchglmgbnmdffaa
open Go.RowKit Go.Deep Go.BigFrame
open Go.Proofs.Ytchglmgbnmdffaa.ST
open Go.Proofs.Ytchglmgbnmdffaa.WBT

theorem ranks_one {l : List Int} (h : SRise l) {i y : Int} (e : atL l i = (y, true)) : (belowN l y : Int) = i ∧ y ∈ l := by
  unfold atL at e
  split at e
  · rename_i hi
    obtain ⟨k, rfl⟩ : ∃ k : Nat, i = (k : Int) := ⟨i.toNat, by omega⟩
    have hk : k < l.length := by omega
    rw [Int.toNat_natCast, List.getElem?_eq_getElem hk] at e
    have e1 : l[k] = y := by simpa using e
    refine ⟨?_, e1 ▸ List.getElem_mem hk⟩
    have a1 : ¬ k < belowN l y := fun q => by have := (rank_iff k hk h).2 q; omega
    have a2 : belowN l y ≤ l.length := belowN_le _ _
    by_cases a3 : belowN l y < k
    · have := (rank_iff (x := y) (belowN l y) (by omega) h)
      have h3 := List.pairwise_iff_getElem.1 h (belowN l y) k (by omega) hk a3
      omega
    · omega
  · cases e
theorem ranks_two {l : List Int} (h : SRise l) {x z : Int} {c : Bool} (e : atL l (belowN l x : Int) = (z, c)) : decide (belowN l x < l.length) = c ∧ (c = true → ¬ z < x) := by
  by_cases hk : belowN l x < l.length
  · rw [atL_yes hk, List.getElem?_eq_getElem hk] at e
    simp only [Option.getD_some, Prod.mk.injEq] at e
    obtain ⟨e1, rfl⟩ := e
    refine ⟨by simp [hk], fun _ q => ?_⟩
    rw [← e1] at q
    have := (rank_iff _ hk h).1 q
    omega
  · rw [atL_no (.inr (by omega))] at e
    cases e
    exact ⟨by simp [hk], fun q => by cases q⟩
theorem ranks_three {l : List Int} (h : SRise l) {x v : Int} {d : Bool} (e : atL l ((belowN l x : Int) - 1) = (v, d)) : decide (0 < belowN l x) = d ∧ (d = true → v < x) := by
  have a2 : belowN l x ≤ l.length := belowN_le _ _
  by_cases hk : 0 < belowN l x
  · have hk2 : belowN l x - 1 < l.length := by omega
    rw [show ((belowN l x : Int) - 1) = ((belowN l x - 1 : Nat) : Int) by omega, atL_yes hk2, List.getElem?_eq_getElem hk2] at e
    simp only [Option.getD_some, Prod.mk.injEq] at e
    obtain ⟨e1, rfl⟩ := e
    refine ⟨by simp [hk], fun _ => ?_⟩
    rw [← e1]
    exact (rank_iff _ hk2 h).2 (by omega)
  · rw [atL_no (.inl (by omega))] at e
    cases e
    exact ⟨by simp [hk], fun q => by cases q⟩

set_option linter.unusedVariables false
set_option maxHeartbeats 8000000 in
set_option maxRecDepth 100000 in
theorem WbtRanks_walk (a0 : Option Addr) (n0 c0 : Nat) (x0 : List Int) (i x : Int) (w : World)
    (s0 : Sl w a0 n0 c0 x0) (i0 : ∀ n ∈ x0, I64 n) (e0 : n0 ≤ 17592186043904) (i1 : I64 i) (i2 : I64 x) :
    Calls Try.prog 3 #[.slice a0 n0 c0, .int .i64 i, .int .i64 x] w fun e w' => e = .returned (.bool true) ∧ Below w.heap.size w w' := by
  have S0 := Lib.hid s0
  obtain ⟨t, ht⟩ : ∃ t, ofL x0 = t := ⟨_, rfl⟩
  have gt : Fit t := ht ▸ ofL_good x0
  have zt : t.size ≤ n0 := by rw [← ht, ← s0.hlen]; exact ofL_size x0
  have mt : ∀ y, y ∈ t.toL ↔ y ∈ x0 := ht ▸ ofL_mem x0
  have OF0 : ∀ W, Below w.heap.size w W → Calls Try.prog 15 #[.slice a0 n0 c0] W fun e w' => ∃ q, e = .returned (.agg #[.pointer q]) ∧ In w' q t ∧ Below W.heap.size W w' := fun W hW => by
    have := of_any a0 n0 c0 x0 W (s0.below hW) (by omega)
    rwa [ht] at this
  have OH0 := Lib.hid OF0
  have Mt := Lib.hid mt
  clear OF0 s0 i0 ht mt
  have TL := toL_length t
  obtain ⟨⟨y, bb⟩, hy⟩ : ∃ z, atL t.toL i = z := ⟨_, rfl⟩
  have r1 : bb = true → (belowN t.toL y : Int) = i ∧ decide (y ∈ t.toL) = true := fun hb => by subst hb; obtain ⟨u, v⟩ := ranks_one gt.bst hy; exact ⟨u, by simp [v]⟩
  have A1 := fun p W h => at_any t i y bb p W h (by omega) hy
  obtain ⟨K, hK⟩ : ∃ K, belowN t.toL x = K := ⟨_, rfl⟩
  have RX := fun p W h => rank_set t x p W h gt.bst (by omega)
  obtain ⟨⟨z, cc⟩, hz⟩ : ∃ z, atL t.toL (belowN t.toL x : Int) = z := ⟨_, rfl⟩
  have r2 := ranks_two gt.bst hz
  obtain ⟨⟨v, dd⟩, hv⟩ : ∃ z, atL t.toL ((belowN t.toL x : Int) - 1) = z := ⟨_, rfl⟩
  have r3 := ranks_three gt.bst hv
  have A2 := fun p W h => at_any t (belowN t.toL x : Int) z cc p W h (by omega) hz
  have A3 := fun p W h => at_any t ((belowN t.toL x : Int) - 1) v dd p W h (by omega) hv
  rw [hK] at RX A2 A3 r2 r3
  have KL : K ≤ t.size := by rw [← hK, ← TL]; exact belowN_le _ _
  rw [TL] at r2
  have R1 := Lib.hid r1
  have R2 := Lib.hid r2
  have R3 := Lib.hid r3
  have AH1 := Lib.hid A1
  have AH2 := Lib.hid A2
  have AH3 := Lib.hid A3
  have RXH := Lib.hid RX
  clear TL hy r1 r2 r3 A1 A2 A3 RX hK hz hv i1 i2
  go_enter Try.func3, Try.ntmps3
  go_wp2_with fail
  refine (fact_any _).mono ?_
  rintro e w1 ⟨rfl, b1⟩
  go_wp2_with fail
  refine (OH0.out _ b1).mono ?_
  rintro e w2 ⟨q, rfl, h, b2⟩
  have B := below_then b1 b2
  clear b1 b2
  go_wp2_with fail
  refine (AH1.out q _ (h.alloc _)).mono ?_
  rintro e w3 ⟨rfl, b3⟩
  obtain ⟨b3, X⟩ := hold1 b3 ⟨rfl, rfl, rfl, rfl⟩
  replace h := h.below b3
  replace B := below_then B b3
  clear b3
  obtain ⟨B0, hB0⟩ : ∃ k, w2.heap.size = k := ⟨_, rfl⟩
  rw [hB0] at X ⊢
  clear hB0
  have cX := (blk X).1 0
  cases bb
  case' true =>
    obtain ⟨e1, e2⟩ := R1.out rfl
    have RY := fun p W h => rank_set t y p W h gt.bst (by omega)
    rw [e1] at RY
    have HY := fun p W h => has_b t y true p W h gt (by omega) e2
    have RYH := Lib.hid RY
    have HYH := Lib.hid HY
    have d1 : (i != i) = false := by simp
    clear e1 e2 RY HY
    go_wp2_with fail
    refine (RYH.out q _ h).mono ?_
    rintro e w4 ⟨rfl, b4⟩
    replace X := blk_below X b4
    replace h := h.below b4
    replace B := below_then B b4
    clear cX b4
    have cX := (blk X).1 0
    go_wp2_with fail
    refine (HYH.out q _ h).mono ?_
    rintro e w5 ⟨rfl, b5⟩
    replace X := blk_below X b5
    replace h := h.below b5
    replace B := below_then B b5
    clear cX b5 RYH HYH d1
    have cX := (blk X).1 0
  all_goals
    have cX' := (blk X).1 0
    clear cX
    go_wp2_with fail
    refine (RXH.out q _ h).mono ?_
    rintro e w6 ⟨rfl, b6⟩
    replace X := blk_below X b6
    replace h := h.below b6
    replace B := below_then B b6
    clear b6 cX'
    have cX' := (blk X).1 0
    go_wp2_with fail
    refine (AH2.out q _ h).mono ?_
    rintro e w7 ⟨rfl, b7⟩
    replace X := blk_below X b7
    replace h := h.below b7
    replace B := below_then B b7
    clear b7 cX'
    have cX' := (blk X).1 0
    obtain ⟨r21, r22⟩ := R2.out
    obtain ⟨r31, r32⟩ := R3.out
    have hk0 : ¬ (K : Int) < 0 := by omega
    have hk0' : decide ((K : Int) < 0) = false := by rw [decide_eq_false_iff_not]; omega
    have hk1 : decide (t.size < K) = false := by rw [decide_eq_false_iff_not]; omega
    have LSH := Lib.hid (fun W hW => len_set t q W hW)
    have ew : wrap64 ((K : Int) - 1) = (K : Int) - 1 := by unfold wrap64; omega
    have EW := Lib.hid ew
    clear ew
    have fin : ∀ {A : Prop}, True := trivial
    clear fin
    cases cc
    all_goals
      first
        | (have hzx : decide (z < x) = false := by rw [decide_eq_false_iff_not]; have := r22 rfl; omega
           have q1 : K < t.size := of_decide_eq_true r21
           have q1' : (K : Int) < (t.size : Int) := by omega
           have q2 : decide (t.size ≤ K) = false := by rw [decide_eq_false_iff_not]; omega)
        | (have q1 : ¬ K < t.size := of_decide_eq_false r21
           have q1' : ¬ (K : Int) < (t.size : Int) := by omega
           have q2 : decide (t.size ≤ K) = true := by rw [decide_eq_true_eq]; omega)
      have r21' := r21
      go_wp2_with fail
      refine (LSH.out _ h).mono ?_
      rintro e w8 ⟨rfl, b8⟩
      replace X := blk_below X b8
      replace h := h.below b8
      replace B := below_then B b8
      clear b8 cX'
      have cX' := (blk X).1 0
      go_wp2_with fail
      refine (LSH.out _ h).mono ?_
      rintro e w9 ⟨rfl, b9⟩
      replace X := blk_below X b9
      replace h := h.below b9
      replace B := below_then B b9
      clear b9 cX'
      have cX' := (blk X).1 0
      have ew := EW.out
      go_wp2_with fail
      refine (AH3.out q _ h).mono ?_
      rintro e w10 ⟨rfl, b10⟩
      replace B := below_then B b10
      clear ew
      cases dd
      all_goals
        first
          | (have hvx : decide (v < x) = true := by rw [decide_eq_true_eq]; have := r32 rfl; omega
             have p1 : 0 < K := of_decide_eq_true r31
             have p1' : (0 : Int) < (K : Int) := by omega
             have p2 : decide (K ≤ 0) = false := by rw [decide_eq_false_iff_not]; omega)
          | (have p1 : K = 0 := by have := of_decide_eq_false r31; omega
             subst p1)
        go_wp2_with fail
        go_ret
        exact ⟨by simp, B⟩
end Go.Proofs.Ytchglmgbnmdffaa
