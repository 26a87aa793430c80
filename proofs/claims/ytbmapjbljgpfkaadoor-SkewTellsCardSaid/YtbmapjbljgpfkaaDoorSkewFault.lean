/-
  The reference's word: is it none of skew digits? What one more and one less is. Conditions: none.
-/
import Derived.Test.YtbmapjbljgpfkaaDoorSkewDec
namespace Go.Proofs.YtbmapjbljgpfkaaDoor
open Go.RowKit Go.Deep
set_option linter.unusedVariables false
namespace SK
theorem inc_eq {xs : List Int} (h : valid xs) (hs : xs.sum < 1099511627776) : incL xs = (gd 40 (xs.sum + 1)).reverse := by
  have h0 := (valid_uniq h).2.2
  have hg := gd_valid (n := xs.sum + 1) (by omega) (by omega)
  have key : ∀ l, valid l → l.sum = xs.sum + 1 → l = (gd 40 (xs.sum + 1)).reverse := fun l hl e => valid_eq hl hg.1 (by rw [e, hg.2.1])
  unfold incL
  split
  · rename_i x y r
    split
    · rename_i e
      subst e
      obtain ⟨a, b⟩ := inc_low h hs
      exact key _ a b
    · rename_i e
      obtain ⟨a, b⟩ := inc_high h (fun _ => by simpa using e)
      exact key _ a b
  · rename_i hno
    obtain ⟨a, b⟩ := inc_high h (fun hl => by
      match xs, hno, hl with
      | x :: y :: r, hno, _ => exact absurd rfl (hno x y r))
    exact key _ a b
theorem dec_eq {xs : List Int} (h : valid xs) (h0 : 0 < xs.sum) : decL xs = (gd 40 (xs.sum - 1)).reverse := by
  have h1 := (valid_uniq h).2.1
  have hg := gd_valid (n := xs.sum - 1) (by omega) (by omega)
  have key : ∀ l, valid l → l.sum = xs.sum - 1 → l = (gd 40 (xs.sum - 1)).reverse := fun l hl e => valid_eq hl hg.1 (by rw [e, hg.2.1])
  unfold decL
  split
  · simp at h0
  · rename_i x r
    split
    · rename_i e
      subst e
      obtain ⟨a, b⟩ := dec_one h
      exact key _ a b
    · rename_i e
      obtain ⟨a, b⟩ := dec_more h e
      exact key _ a b
theorem fault_exit {m : Nat} {x : Int} (hm : m ≤ 39) (h : ∀ q, q < m → D (q + 1) < x) (hx : m = 39 ∨ x ≤ D (m + 1)) : D (m + 1) = x ↔ Form x := by
  constructor
  · rintro rfl
    exact ⟨m + 1, by omega, by omega, rfl⟩
  · rintro ⟨j, j1, j2, rfl⟩
    rcases Nat.lt_trichotomy j (m + 1) with e | e | e
    · have := h (j - 1) (by omega)
      rw [show j - 1 + 1 = j by omega] at this
      omega
    · rw [e]
    · have := D_lt e
      omega
theorem less_next {m : Nat} {x : Int} (h : ∀ q, q < m → D (q + 1) < x) (h' : D (m + 1) < x) : ∀ q, q < m + 1 → D (q + 1) < x := fun q hq => by
  by_cases e : q = m
  · rw [e]; exact h'
  · exact h q (by omega)
set_option maxHeartbeats 4000000 in
theorem fault_any (a : Option Addr) (n c : Nat) (xs : List Int) (w : World) (h : Sl w a n c xs) :
    Calls Tryd.prog 5 #[.slice a n c] w fun e w' => ((valid xs ∧ e = .returned (.bool false)) ∨ (¬ valid xs ∧ e = .returned (.bool true))) ∧ ∃ d, w' = w.drewN d := by
  have hm := h.hmax
  have hm2 := h.hcap
  unfold maxLen at hm
  have HL := Lib.hid h.hlen
  have HH := Lib.hid h
  clear h
  go_enter Tryd.func5, Tryd.ntmps5
  go_wp2_with fail
  go_loopw [3] (fun i wr => ∃ k dd : Nat, k ≤ n ∧ i = .int .i64 k ∧ Hid (∀ i, i < k → okAt xs i) ∧ wr = w.drewN dd) (fun i _ => n - (intOf i).toNat)
  case atStart => exact ⟨0, 0, Nat.zero_le _, rfl, Lib.hid (fun i h => absurd h (Nat.not_lt_zero i)), rfl⟩
  case round =>
    obtain ⟨k, dd, hk, rfl, HO, rfl⟩ := hrel
    by_cases hlt : k < n
    · obtain ⟨b, off, rfl, hbl, hcp⟩ := HH.out.hat (by omega)
      have g := hcp k hlt
      have hlti : (k : Int) < (n : Int) := by omega
      obtain ⟨x, hx⟩ : ∃ x, xs[k]?.getD 0 = x := ⟨_, rfl⟩
      rw [hx] at g
      have HX := Lib.hid hx
      have HCP := Lib.hid hcp
      clear hx hcp
      go_wp2_with fail
      go_loop [4, 5] (fun d q => ∃ m : Nat, m ≤ 39 ∧ q = .int .i64 (m : Int) ∧ d = .int .i64 (D (m + 1)) ∧ Hid (∀ q, q < m → D (q + 1) < x)) (fun _ q => 40 - (intOf q).toNat)
      case atStart => exact ⟨0, by omega, rfl, rfl, Lib.hid (fun q h => absurd h (Nat.not_lt_zero q))⟩
      case round =>
        obtain ⟨m, hm39, rfl, rfl, HM⟩ := hrel
        have hd0 := D_nonneg (m + 1)
        have hd40 := D_mono (a := m + 1) (b := 40) (by omega)
        rw [D40] at hd40
        obtain ⟨dm, hdm⟩ : ∃ dm, D (m + 1) = dm := ⟨_, rfl⟩
        have HDM := Lib.hid hdm
        rw [hdm] at hd0 hd40
        rw [hdm]
        clear hdm
        by_cases hmk : m < 39
        · have hmi : (m : Int) < 39 := by omega
          by_cases hdx : dm < x
          · have hdb : decide (dm < x) = true := by simp [hdx]
            go_wp2_with fail
            go_round
            case rel => exact ⟨m + 1, by omega, by go_num, by rw [show D (m + 1 + 1) = 2 * D (m + 1) + 1 from rfl, HDM.out], Lib.hid (less_next HM.out (by rw [HDM.out]; exact hdx))⟩
            case measure => simp [intOf]; omega
          · have hdb : decide (dm < x) = false := by simp; omega
            have EQ := Lib.hid (fault_exit hm39 HM.out (.inr (by rw [HDM.out]; omega)))
            rw [HDM.out] at EQ
            by_cases hf : Form x
            · have hdx : dm = x := EQ.out.2 hf
              subst hdx
              obtain rfl | ⟨j, rfl⟩ : k = 0 ∨ ∃ j, k = j + 1 := by cases k <;> simp
              · have g0 : w.cell? ⟨b, off, none⟩ = some (.int .i64 dm) := by simpa using g
                have HN := Lib.hid (fun (i : Nat) (hi : i < 1) => (by
                  obtain rfl : i = 0 := by omega
                  exact ⟨by rw [HX.out]; exact hf, fun h => absurd h (Nat.lt_irrefl 0), fun h => absurd h (by omega)⟩ : okAt xs i))
                clear hf g
                go_wp2_with fail
                go_quiet (fail)
                go_wp2_with fail
                go_roundw
                case rel => exact ⟨0 + 1, dd + nq, by omega, by go_num, Lib.hid (HN.out), by simp⟩
                case measure => simp [intOf]; omega
              · have g' := HCP.out j (by omega)
                have hjn : (j : Int) < (n : Int) := by omega
                have hbad : (dm < xs[j]?.getD 0 ∨ (0 < j ∧ xs[j]?.getD 0 = dm)) → ¬ valid xs := fun hx hv => by
                  obtain ⟨_, h2, h3⟩ := hv (j + 1) (by have := HL.out; omega)
                  have h2 := h2 (by omega)
                  simp only [Nat.add_sub_cancel, HX.out] at h2 h3
                  rcases hx with hx | ⟨h0, hx⟩
                  · omega
                  · exact h3 (by omega) hx
                have hgood : xs[j]?.getD 0 ≤ dm → (0 < j → xs[j]?.getD 0 ≠ dm) → ∀ i, i < j + 2 → okAt xs i := fun h1 h2 i hi => by
                  rcases Nat.lt_or_ge i (j + 1) with h | h
                  · exact HO.out i h
                  · have : i = j + 1 := by omega
                    subst this
                    exact ⟨by rw [HX.out]; exact hf, fun _ => by rw [HX.out]; exact h1, fun h => by rw [HX.out]; exact h2 (by omega)⟩
                have HB := Lib.hid hbad
                have HG := Lib.hid hgood
                obtain ⟨p, hp⟩ : ∃ x, xs[j]?.getD 0 = x := ⟨_, rfl⟩
                rw [hp] at HB HG g'
                clear hbad hgood hp hf
                by_cases h1 : dm < p
                · have h1b : decide (dm < p) = true := by simp [h1]
                  have HV := Lib.hid (HB.out (.inl h1))
                  clear HB HG h1
                  go_wp2_with fail
                  go_quiet (fail)
                  go_wp2_with fail
                  go_ret
                  exact ⟨.inr ⟨HV.out, rfl⟩, dd + nq, by simp⟩
                · have h1b : decide (dm < p) = false := by simp; omega
                  by_cases h2 : dm = p
                  · subst h2
                    have h2b : (dm == dm) = true := by simp
                    by_cases h0 : 0 < j
                    · have h3 : (1 : Int) < (j : Int) + 1 := by omega
                      have h0i : (0 : Int) < (j : Int) := by omega
                      have HV := Lib.hid (HB.out (.inr ⟨h0, rfl⟩))
                      clear HB HG h0 h1
                      go_wp2_with fail
                      go_quiet (fail)
                      go_wp2_with fail
                      go_ret
                      exact ⟨.inr ⟨HV.out, rfl⟩, dd + nq, by simp⟩
                    · obtain rfl : j = 0 := by omega
                      have g1 : w.cell? ⟨b, off + 1, none⟩ = some (.int .i64 dm) := by simpa using g
                      have g0 : w.cell? ⟨b, off, none⟩ = some (.int .i64 dm) := by simpa using g'
                      clear g g'
                      have HV := Lib.hid (HG.out (Int.le_refl _) (fun h => absurd h h0))
                      clear HB HG h0 h1
                      go_wp2_with fail
                      go_quiet (fail)
                      go_wp2_with fail
                      go_roundw
                      case rel => exact ⟨0 + 1 + 1, dd + nq, by omega, by go_num, Lib.hid (HV.out), by simp⟩
                      case measure => simp [intOf]; omega
                  · have h2b : (dm == p) = false := by simp [h2]
                    have HV := Lib.hid (HG.out (by omega) (fun _ h => h2 h.symm))
                    clear h2 HG HB h1
                    by_cases h0 : 0 < j
                    · have h3 : (1 : Int) < (j : Int) + 1 := by omega
                      have h0i : (0 : Int) < (j : Int) := by omega
                      go_wp2_with fail
                      go_quiet (fail)
                      go_wp2_with fail
                      go_roundw
                      case rel => exact ⟨j + 1 + 1, dd + nq, by omega, by go_num, Lib.hid (HV.out), by simp⟩
                      case measure => simp [intOf]; omega
                    · obtain rfl : j = 0 := by omega
                      have g1 : w.cell? ⟨b, off + 1, none⟩ = some (.int .i64 dm) := by simpa using g
                      have g0 : w.cell? ⟨b, off, none⟩ = some (.int .i64 p) := by simpa using g'
                      clear g g'
                      go_wp2_with fail
                      go_quiet (fail)
                      go_wp2_with fail
                      go_roundw
                      case rel => exact ⟨0 + 1 + 1, dd + nq, by omega, by go_num, Lib.hid (HV.out), by simp⟩
                      case measure => simp [intOf]; omega
            · have hne : (dm != x) = true := by simp; exact fun h => hf (EQ.out.1 h)
              have HV := Lib.hid (fun hv : valid xs => hf (by rw [← HX.out]; exact (hv k (by have := HL.out; omega)).1))
              clear hf
              go_wp2_with fail
              go_ret
              exact ⟨.inr ⟨HV.out, rfl⟩, _, rfl⟩
        · have hmi : ¬ (m : Int) < 39 := by omega
          have EQ := Lib.hid (fault_exit hm39 HM.out (.inl (by omega)))
          rw [HDM.out] at EQ
          by_cases hf : Form x
          · have hdx : dm = x := EQ.out.2 hf
            subst hdx
            obtain rfl | ⟨j, rfl⟩ : k = 0 ∨ ∃ j, k = j + 1 := by cases k <;> simp
            · have g0 : w.cell? ⟨b, off, none⟩ = some (.int .i64 dm) := by simpa using g
              have HN := Lib.hid (fun (i : Nat) (hi : i < 1) => (by
                obtain rfl : i = 0 := by omega
                exact ⟨by rw [HX.out]; exact hf, fun h => absurd h (Nat.lt_irrefl 0), fun h => absurd h (by omega)⟩ : okAt xs i))
              clear hf g
              go_wp2_with fail
              go_quiet (fail)
              go_wp2_with fail
              go_roundw
              case rel => exact ⟨0 + 1, dd + nq, by omega, by go_num, Lib.hid (HN.out), by simp⟩
              case measure => simp [intOf]; omega
            · have g' := HCP.out j (by omega)
              have hjn : (j : Int) < (n : Int) := by omega
              have hbad : (dm < xs[j]?.getD 0 ∨ (0 < j ∧ xs[j]?.getD 0 = dm)) → ¬ valid xs := fun hx hv => by
                obtain ⟨_, h2, h3⟩ := hv (j + 1) (by have := HL.out; omega)
                have h2 := h2 (by omega)
                simp only [Nat.add_sub_cancel, HX.out] at h2 h3
                rcases hx with hx | ⟨h0, hx⟩
                · omega
                · exact h3 (by omega) hx
              have hgood : xs[j]?.getD 0 ≤ dm → (0 < j → xs[j]?.getD 0 ≠ dm) → ∀ i, i < j + 2 → okAt xs i := fun h1 h2 i hi => by
                rcases Nat.lt_or_ge i (j + 1) with h | h
                · exact HO.out i h
                · have : i = j + 1 := by omega
                  subst this
                  exact ⟨by rw [HX.out]; exact hf, fun _ => by rw [HX.out]; exact h1, fun h => by rw [HX.out]; exact h2 (by omega)⟩
              have HB := Lib.hid hbad
              have HG := Lib.hid hgood
              obtain ⟨p, hp⟩ : ∃ x, xs[j]?.getD 0 = x := ⟨_, rfl⟩
              rw [hp] at HB HG g'
              clear hbad hgood hp hf
              by_cases h1 : dm < p
              · have h1b : decide (dm < p) = true := by simp [h1]
                have HV := Lib.hid (HB.out (.inl h1))
                clear HB HG h1
                go_wp2_with fail
                go_quiet (fail)
                go_wp2_with fail
                go_ret
                exact ⟨.inr ⟨HV.out, rfl⟩, dd + nq, by simp⟩
              · have h1b : decide (dm < p) = false := by simp; omega
                by_cases h2 : dm = p
                · subst h2
                  have h2b : (dm == dm) = true := by simp
                  by_cases h0 : 0 < j
                  · have h3 : (1 : Int) < (j : Int) + 1 := by omega
                    have h0i : (0 : Int) < (j : Int) := by omega
                    have HV := Lib.hid (HB.out (.inr ⟨h0, rfl⟩))
                    clear HB HG h0 h1
                    go_wp2_with fail
                    go_quiet (fail)
                    go_wp2_with fail
                    go_ret
                    exact ⟨.inr ⟨HV.out, rfl⟩, dd + nq, by simp⟩
                  · obtain rfl : j = 0 := by omega
                    have g1 : w.cell? ⟨b, off + 1, none⟩ = some (.int .i64 dm) := by simpa using g
                    have g0 : w.cell? ⟨b, off, none⟩ = some (.int .i64 dm) := by simpa using g'
                    clear g g'
                    have HV := Lib.hid (HG.out (Int.le_refl _) (fun h => absurd h h0))
                    clear HB HG h0 h1
                    go_wp2_with fail
                    go_quiet (fail)
                    go_wp2_with fail
                    go_roundw
                    case rel => exact ⟨0 + 1 + 1, dd + nq, by omega, by go_num, Lib.hid (HV.out), by simp⟩
                    case measure => simp [intOf]; omega
                · have h2b : (dm == p) = false := by simp [h2]
                  have HV := Lib.hid (HG.out (by omega) (fun _ h => h2 h.symm))
                  clear h2 HG HB h1
                  by_cases h0 : 0 < j
                  · have h3 : (1 : Int) < (j : Int) + 1 := by omega
                    have h0i : (0 : Int) < (j : Int) := by omega
                    go_wp2_with fail
                    go_quiet (fail)
                    go_wp2_with fail
                    go_roundw
                    case rel => exact ⟨j + 1 + 1, dd + nq, by omega, by go_num, Lib.hid (HV.out), by simp⟩
                    case measure => simp [intOf]; omega
                  · obtain rfl : j = 0 := by omega
                    have g1 : w.cell? ⟨b, off + 1, none⟩ = some (.int .i64 dm) := by simpa using g
                    have g0 : w.cell? ⟨b, off, none⟩ = some (.int .i64 p) := by simpa using g'
                    clear g g'
                    go_wp2_with fail
                    go_quiet (fail)
                    go_wp2_with fail
                    go_roundw
                    case rel => exact ⟨0 + 1 + 1, dd + nq, by omega, by go_num, Lib.hid (HV.out), by simp⟩
                    case measure => simp [intOf]; omega
          · have hne : (dm != x) = true := by simp; exact fun h => hf (EQ.out.1 h)
            have HV := Lib.hid (fun hv : valid xs => hf (by rw [← HX.out]; exact (hv k (by have := HL.out; omega)).1))
            clear hf
            go_wp2_with fail
            go_ret
            exact ⟨.inr ⟨HV.out, rfl⟩, _, rfl⟩
    · have he : k = n := by omega
      have hv : valid xs := fun i hi => HO.out i (by have := HL.out; omega)
      have HV := Lib.hid hv
      clear he hv
      go_wp2_with fail
      go_ret
      exact ⟨.inl ⟨HV.out, rfl⟩, _, rfl⟩
end SK
end Go.Proofs.YtbmapjbljgpfkaaDoor
