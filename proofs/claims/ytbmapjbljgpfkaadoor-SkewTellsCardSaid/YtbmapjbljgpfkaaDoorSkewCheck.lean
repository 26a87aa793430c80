/-
  Skew digits: what is wrong with them, and their value. Conditions: none.
-/
import Derived.Test.YtbmapjbljgpfkaaDoorSkewForm
import Derived.Test.YtbmapjbljgpfkaaDoorSame
namespace Go.Proofs.YtbmapjbljgpfkaaDoor
open Go.RowKit Go.Deep
set_option linter.unusedVariables false
namespace SK
/-- The error of no form. -/
abbrev bad : Value := .iface 24 (.int .i64 3)
set_option maxHeartbeats 1000000 in
theorem Check_any (a : Option Addr) (n c : Nat) (xs : List Int) (w : World) (h : Sl w a n c xs) :
    Calls Tryd.prog 7 #[.slice a n c] w fun e w' => ((valid xs ∧ e = .returned .nilIface) ∨ (¬ valid xs ∧ e = .returned bad)) ∧ w = w' := by
  have hm := h.hmax
  have hm2 := h.hcap
  unfold maxLen at hm
  have HL := Lib.hid h.hlen
  have HH := Lib.hid h
  clear h
  go_enter Tryd.func7, Tryd.ntmps7
  go_wp2
  go_loop [7] (fun i => ∃ k : Nat, k ≤ n ∧ i = .int .i64 k ∧ ∀ i, i < k → okAt xs i) (fun i => n - (intOf i).toNat)
  case atStart => exact ⟨0, Nat.zero_le _, rfl, fun i h => by omega⟩
  case round =>
    obtain ⟨k, hk, rfl, hok⟩ := hrel
    have HO := Lib.hid hok
    clear hok
    by_cases hlt : k < n
    · obtain ⟨b, off, rfl, hbl, hc⟩ := HH.out.hat (by omega)
      have g := hc k hlt
      have hlti : (k : Int) < (n : Int) := by omega
      by_cases hf : Form (xs[k]?.getD 0)
      · match k, hk, HO, hlt, g, hlti, hf with
        | 0, hk, HO, hlt, g, hlti, hf =>
          have hnext : ∀ i, i < 1 → okAt xs i := fun i hi => by
            have : i = 0 := by omega
            subst this
            exact ⟨hf, fun h => by omega, fun h => by omega⟩
          have HN := Lib.hid hnext
          have hfd : decide (Form (xs[0]?.getD 0)) = true := by simp [hf]
          have g0 : w.cell? ⟨b, off, none⟩ = some (.int .i64 (xs[0]?.getD 0)) := by simpa using g
          clear hnext hf hc g
          go_wp2_with fail
          refine (form_any _ _).mono ?_
          rintro e w' ⟨rfl, rfl⟩
          rw [hfd]
          go_wp2_with fail
          go_round
          case rel => exact ⟨1, by omega, by go_num, HN.out⟩
          case measure => simp [intOf]; omega
        | j + 1, hk, HO, hlt, g, hlti, hf =>
          have g' := hc j (by omega)
          clear hc
          have hjn : (j : Int) < (n : Int) := by omega
          have hfd : decide (Form (xs[j + 1]?.getD 0)) = true := by simp [hf]
          have hbad : (xs[j + 1]?.getD 0 < xs[j]?.getD 0 ∨ (0 < j ∧ xs[j]?.getD 0 = xs[j + 1]?.getD 0)) → ¬ valid xs := fun hx hv => by
            obtain ⟨_, h2, h3⟩ := hv (j + 1) (by have := HL.out; omega)
            have h2 := h2 (by omega)
            simp only [Nat.add_sub_cancel] at h2 h3
            rcases hx with hx | ⟨h0, hx⟩
            · omega
            · exact h3 (by omega) hx
          have hgood : xs[j]?.getD 0 ≤ xs[j + 1]?.getD 0 → (0 < j → xs[j]?.getD 0 ≠ xs[j + 1]?.getD 0) → ∀ i, i < j + 2 → okAt xs i := fun h1 h2 i hi => by
            rcases Nat.lt_or_ge i (j + 1) with h | h
            · exact HO.out i h
            · have : i = j + 1 := by omega
              subst this
              exact ⟨hf, fun _ => h1, fun h => h2 (by omega)⟩
          have HB := Lib.hid hbad
          have HG := Lib.hid hgood
          obtain ⟨x, hx⟩ : ∃ x, xs[j + 1]?.getD 0 = x := ⟨_, rfl⟩
          obtain ⟨p, hp⟩ : ∃ x, xs[j]?.getD 0 = x := ⟨_, rfl⟩
          rw [hx] at HB HG g hfd
          rw [hp] at HB HG g'
          clear hbad hgood hx hp hf
          by_cases h1 : x < p
          · have h1b : decide (x < p) = true := by simp [h1]
            go_wp2_with fail
            refine (form_any _ _).mono ?_
            rintro e w' ⟨rfl, rfl⟩
            rw [hfd]
            go_wp2_with fail
            go_ret
            exact ⟨.inr ⟨HB.out (.inl h1), rfl⟩, rfl⟩
          · have h1b : decide (x < p) = false := by simp; omega
            by_cases h2 : x = p
            · subst h2
              by_cases h0 : 0 < j
              · have h3 : (1 : Int) < (j : Int) + 1 := by omega
                have h0i : (0 : Int) < (j : Int) := by omega
                go_wp2_with fail
                refine (form_any _ _).mono ?_
                rintro e w' ⟨rfl, rfl⟩
                rw [hfd]
                go_wp2_with fail
                go_ret
                exact ⟨.inr ⟨HB.out (.inr ⟨h0, by first | rfl | trivial⟩), rfl⟩, rfl⟩
              · have h3 : ¬ (1 : Int) < (j : Int) + 1 := by omega
                have hle := Lib.hid (Int.le_refl x)
                have h0i : ¬ (0 : Int) < (j : Int) := by omega
                go_wp2_with fail
                refine (form_any _ _).mono ?_
                rintro e w' ⟨rfl, rfl⟩
                rw [hfd]
                go_wp2_with fail
                go_round
                case rel => exact ⟨j + 2, by omega, by go_num, HG.out hle.out (fun h => absurd h h0)⟩
                case measure => simp [intOf]; omega
            · have h2b : (x == p) = false := by simp [h2]
              have hle : p ≤ x := by omega
              have HG2 := Lib.hid (HG.out hle (fun _ h => h2 h.symm))
              clear hle h2 HG HB
              by_cases h0 : 0 < j
              · have h3 : (1 : Int) < (j : Int) + 1 := by omega
                have h0i : (0 : Int) < (j : Int) := by omega
                go_wp2_with fail
                refine (form_any _ _).mono ?_
                rintro e w' ⟨rfl, rfl⟩
                rw [hfd]
                go_wp2_with fail
                go_round
                case rel => exact ⟨j + 2, by omega, by go_num, HG2.out⟩
                case measure => simp [intOf]; omega
              · have h3 : ¬ (1 : Int) < (j : Int) + 1 := by omega
                have h0i : ¬ (0 : Int) < (j : Int) := by omega
                go_wp2_with fail
                refine (form_any _ _).mono ?_
                rintro e w' ⟨rfl, rfl⟩
                rw [hfd]
                go_wp2_with fail
                go_round
                case rel => exact ⟨j + 2, by omega, by go_num, HG2.out⟩
                case measure => simp [intOf]; omega
      · have hbad : ¬ valid xs := fun hv => hf (hv k (by have := HL.out; omega)).1
        have HB := Lib.hid hbad
        have hfd : decide (Form (xs[k]?.getD 0)) = false := by simp [hf]
        clear hbad hf hc
        go_wp2_with fail
        refine (form_any _ _).mono ?_
        rintro e w' ⟨rfl, rfl⟩
        rw [hfd]
        go_wp2_with fail
        go_ret
        exact ⟨.inr ⟨HB.out, rfl⟩, rfl⟩
    · have he : k = n := by omega
      have hv : valid xs := fun i hi => HO.out i (by have := HL.out; omega)
      have HV := Lib.hid hv
      clear he hv
      go_wp2_with fail
      go_ret
      exact ⟨.inl ⟨HV.out, rfl⟩, rfl⟩
end SK
end Go.Proofs.YtbmapjbljgpfkaaDoor
