/-
  slices.Reverse at ints, in place. Conditions: none.
-/
import Derived.Test.YtbmapjbljgpfkaaDoorWords
import Derived.Test.YtbmapjbljgpfkaaDoorSame
namespace Go.Proofs.YtbmapjbljgpfkaaDoor
open Go.RowKit Go.Deep
set_option linter.unusedVariables false
/-- What lies where, when so many have been exchanged at both ends. -/
def sw (xs : List Int) (n i t : Nat) : Int := if t < i ∨ n - 1 - t < i then xs[n - 1 - t]?.getD 0 else xs[t]?.getD 0
theorem sw_zero (xs : List Int) (n t : Nat) : sw xs n 0 t = xs[t]?.getD 0 := by simp [sw]
theorem sw_end (xs : List Int) (n i t : Nat) (hn : xs.length = n) (ht : t < n) (hi : n ≤ 2 * i + 1) : sw xs n i t = xs.reverse[t]?.getD 0 := by
  have hr : xs.reverse[t]?.getD 0 = xs[n - 1 - t]?.getD 0 := by
    rw [List.getElem?_reverse (by omega), hn]
  rw [hr]
  unfold sw
  split
  · rfl
  · have : t = n - 1 - t := by omega
    rw [← this]
theorem sw_far (xs : List Int) (n i t : Nat) (h1 : t ≠ i) (h2 : t ≠ n - 1 - i) (ht : t < n) (hi : i < n - 1 - i) : sw xs n (i + 1) t = sw xs n i t := by
  unfold sw
  by_cases h : t < i ∨ n - 1 - t < i
  · rw [if_pos h, if_pos (by omega)]
  · rw [if_neg h, if_neg (by omega)]
theorem sw_low (xs : List Int) (n i : Nat) (hi : i < n - 1 - i) : sw xs n (i + 1) i = xs[n - 1 - i]?.getD 0 ∧ sw xs n (i + 1) (n - 1 - i) = xs[i]?.getD 0 ∧ sw xs n i i = xs[i]?.getD 0 ∧ sw xs n i (n - 1 - i) = xs[n - 1 - i]?.getD 0 := by
  unfold sw
  refine ⟨by rw [if_pos (by omega)], ?_, by rw [if_neg (by omega)], by rw [if_neg (by omega)]⟩
  rw [if_pos (by omega)]
  have : n - 1 - (n - 1 - i) = i := by omega
  rw [this]

set_option maxHeartbeats 2000000 in
theorem reverse_any (g n c base : Nat) (xs : List Int) (w : World) (h : Sl w (some ⟨g, 0, none⟩) n c xs) (hf : ∀ t, w.frozen? ⟨g, t, none⟩ = false) (hb : base ≤ g) :
    Calls Tryd.prog 18 #[.slice (some ⟨g, 0, none⟩) n c] w fun e w' => e = .returned (.tuple #[]) ∧ Sl w' (some ⟨g, 0, none⟩) n c xs.reverse ∧ Below base w w' := by
  have hm := h.hmax
  have hm2 := h.hcap
  unfold maxLen at hm
  have HL := Lib.hid h.hlen
  have HH := Lib.hid h
  have HF := Lib.hid hf
  clear h hf
  have e0 : wrap64 ((n : Int) - 1) = (n : Int) - 1 := by unfold wrap64; omega
  go_enter Tryd.func18, Tryd.ntmps18
  go_wp2_with fail
  go_loopw [2, 3] (fun i j wr => ∃ k : Nat, 2 * k ≤ n ∧ i = .int .i64 k ∧ j = .int .i64 ((n : Int) - 1 - k) ∧ (∀ t, t < n → wr.cell? ⟨g, t, none⟩ = some (.int .i64 (sw xs n k t))) ∧ (∀ t, wr.frozen? ⟨g, t, none⟩ = false) ∧ wr.heap.size = w.heap.size ∧ Below base w wr) (fun i _ _ => n - (intOf i).toNat)
  case atStart =>
    refine ⟨0, by omega, rfl, by simp, fun t ht => ?_, HF.out, rfl, Below.refl _ _⟩
    obtain ⟨b, off, e, hbl, hc⟩ := HH.out.hat (by omega)
    simp only [Option.some.injEq, Addr.mk.injEq] at e
    obtain ⟨rfl, rfl, _⟩ := e
    rw [sw_zero]
    simpa using hc t ht
  case round =>
    obtain ⟨k, hk, rfl, rfl, hc, hfr, hz, hbw⟩ := hrel
    by_cases hlt : (k : Int) < (n : Int) - 1 - k
    · have hlt2 : k < n - 1 - k := by omega
      obtain ⟨s1, s2, s3, s4⟩ := sw_low xs n k hlt2
      have c1 := hc k (by omega)
      have c2 := hc (n - 1 - k) (by omega)
      rw [s3] at c1
      rw [s4] at c2
      have f1 := hfr k
      have f2 := hfr (n - 1 - k)
      obtain ⟨j, hj⟩ : ∃ j, n - 1 - k = j := ⟨_, rfl⟩
      have hji : (n : Int) - 1 - k = (j : Int) := by omega
      rw [hj] at c2 f2 s1 s2 s4 hlt2
      rw [hji] at hlt ⊢
      have HC := Lib.hid hc
      have HFR := Lib.hid hfr
      have S1 := Lib.hid s1
      have S2 := Lib.hid s2
      have HJ := Lib.hid hj
      have HJI := Lib.hid hji
      clear hc hfr s1 s2 s3 s4 hj hji
      have hkn : (k : Int) < (n : Int) := by have := HJI.out; omega
      have hjn : (j : Int) < (n : Int) := by have := HJI.out; omega
      have ne1 : ¬ k = j := by omega
      have ne2 : ¬ j = k := by omega
      go_wp2_with fail
      go_region
      all_goals
        go_wp2_with fail
        go_roundw
      case' rel =>
          refine ⟨k + 1, by have := HJ.out; omega, by go_num, ?_, fun t ht => ?_, ?_, by simpa using hz, ?_⟩
          · have := HJI.out
            congr 1
            omega
          · show ((wr.setCell ⟨g, k, none⟩ (.int .i64 (xs[j]?.getD 0))).setCell ⟨g, j, none⟩ (.int .i64 (xs[k]?.getD 0))).cell? ⟨g, t, none⟩ = _
            have q1 : (wr.setCell ⟨g, k, none⟩ (.int .i64 (xs[j]?.getD 0))).cell? ⟨g, j, none⟩ = some (.int .i64 (xs[j]?.getD 0)) :=
              (World.cell?_setCell_other _ _ _ _ (fun e => ne1 (by injection e))).trans c2
            by_cases h1 : t = j
            · subst h1
              rw [World.cell?_setCell_same _ _ _ q1, S2.out]
            · rw [World.cell?_setCell_other _ _ _ _ (fun e => h1 (by injection e with _ e2; exact e2.symm))]
              by_cases h2 : t = k
              · subst h2
                rw [World.cell?_setCell_same _ _ _ c1, S1.out]
              · rw [World.cell?_setCell_other _ _ _ _ (fun e => h2 (by injection e with _ e2; exact e2.symm)), HC.out t ht, sw_far xs n k t h2 (by have := HJ.out; omega) ht (by have := HJ.out; omega)]
          · intro t
            have := HFR.out t
            simpa using this
          · exact ((hbw.setCell (p := ⟨g, k, none⟩) hb _).setCell (p := ⟨g, j, none⟩) hb _).drew
      all_goals (simp [intOf]; omega)
    · have HC := Lib.hid hc
      clear hc
      go_wp2_with fail
      go_end0
      refine ⟨rfl, ⟨by simpa using HL.out, hm2, by unfold maxLen; exact hm, fun h0 => ⟨g, 0, rfl, ?_, fun t ht => ?_⟩⟩, hbw⟩
      · obtain ⟨b, off, e, hbl, _⟩ := HH.out.hat h0
        simp only [Option.some.injEq, Addr.mk.injEq] at e
        omega
      · rw [Nat.zero_add, HC.out t ht, sw_end xs n k t HL.out ht (by omega)]
end Go.Proofs.YtbmapjbljgpfkaaDoor
