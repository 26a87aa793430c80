/-
  A shape that is told of a tree is shaped as it must be. Conditions: at most 2^44 nodes.
-/
import Derived.Test.YtchglmgbnmdffaaOuter
namespace Go.Proofs.Ytchglmgbnmdffaa
open Go.RowKit Go.Deep

set_option linter.unusedVariables false
set_option maxRecDepth 100000 in
set_option maxHeartbeats 2000000 in
theorem shaped_yes (m : ST → Int) (t : ST) (a b : Option Addr) (n c nb cb : Nat) (w : World) (h : Nl w a n c (shapeL m t 0)) (h' : Sl w b nb cb t.toL) (hn : n ≤ 17592186044416) :
    Calls Try.prog 28 #[.slice a n c, .slice b nb cb] w fun e w' => e = .returned (.bool true) ∧ Below w.heap.size w w' := by
  have e1 : t.size = n := by rw [← h.hlen, shapeL_length]
  have e2 : t.size = nb := by rw [← h'.hlen, ST.toL_length]
  obtain rfl : n = nb := by omega
  have hm := h.hmax
  have hm2 := h.hcap
  unfold maxLen at hm
  have IN := inner_any m (shapeL m t 0) a n c hn t 0 w h (shape_at0 m t)
  have OUT := fun w' hb => outer_any m (shapeL m t 0) a n c hn t 0 w' (h.below hb) (shape_at0 m t)
  by_cases h0 : n = 0
  · subst h0
    go_enter Try.func28, Try.ntmps28
    go_wp2_with fail
    go_ret
    exact ⟨rfl, Below.refl _ _⟩
  · have er : refOf t 0 = 0 := by
      rcases ref_cases t 0 with ⟨ht, _⟩ | ⟨_, _, _, _, _, h1⟩
      · subst ht; exact absurd e1.symm h0
      · exact h1
    rw [er] at IN OUT
    rw [e1] at IN OUT
    have INH := Lib.hid IN
    have OUTH := Lib.hid OUT
    have H' := Lib.hid h'
    have HN := Lib.hid h
    have hp : 0 < n := by omega
    have hz : ((n : Int) == 0) = false := by simp; omega
    have hz2 : decide (n = 0) = false := by simp; omega
    clear IN OUT er e1 e2 h0 h h'
    go_enter Try.func28, Try.ntmps28
    go_wp2_with fail
    refine (INH.out).mono ?_
    rintro e w1 ⟨v1, rfl, o1, b1⟩
    obtain ⟨a1, c1, rfl, s1⟩ := Sl.of_own o1
    have S1 := Lib.hid s1
    have S2 := Lib.hid (H'.out.below b1)
    clear o1 s1
    go_wp2_with fail
    go_loopw [7] (fun i wr => ∃ k d : Nat, k ≤ n ∧ i = .int .i64 k ∧ wr = w1.drewN d) (fun i _ => n - (intOf i).toNat)
    case atStart => exact ⟨0, 0, Nat.zero_le _, rfl, rfl⟩
    case round =>
      obtain ⟨k, d, hk, rfl, rfl⟩ := hrel
      by_cases hlt : k < n
      · obtain ⟨b', off', rfl, hb', hc'⟩ := S1.out.hat (by omega)
        obtain ⟨b'', off'', rfl, hb'', hc''⟩ := S2.out.hat (by omega)
        have g' := hc' k hlt
        have g'' := hc'' k hlt
        clear hc' hc''
        have hlti : (k : Int) < (n : Int) := by omega
        have hvb : ((t.toL)[k]?.getD 0 != (t.toL)[k]?.getD 0) = false := by simp
        go_wp2
        go_quiet (fail)
        go_wp2
        go_roundw
        case rel => exact ⟨k + 1, d + nq, by omega, by go_num, by simp⟩
        case measure => simp [intOf]; omega
      · have he : k = n := by omega
        have bd : Below w.heap.size w (w1.drewN d) := below_then b1 (below_drewN (Below.refl _ _) d)
        have HE := Lib.hid he
        clear he
        go_wp2_with fail
        refine (OUTH.out _ bd).mono ?_
        rintro e w2 ⟨v2, rfl, o2, b2⟩
        obtain ⟨a2, c2, rfl, s2⟩ := Sl.of_own o2
        have S3 := Lib.hid s2
        have bz := below_then bd b2
        clear o2 s2 bd b2
        go_wp2_with fail
        go_loop [9] (fun i => ∃ q : Nat, q ≤ n ∧ i = .int .i64 q) (fun i => n - (intOf i).toNat)
        case atStart => exact ⟨0, Nat.zero_le _, rfl⟩
        case round =>
          obtain ⟨q, hq, rfl⟩ := hrel
          by_cases hlq : q < n
          · obtain ⟨b3, off3, rfl, hb3, hc3⟩ := S3.out.hat (by omega)
            have g3 := hc3 q hlq
            rw [upFrom_get n q hlq] at g3
            clear hc3
            have hlqi : (q : Int) < (n : Int) := by omega
            have hvq : ((q : Int) != (q : Int)) = false := by simp
            go_wp2
            go_round
            case rel => exact ⟨q + 1, by omega, by go_num⟩
            case measure => simp [intOf]; omega
          · have he : q = n := by omega
            subst he
            go_wp2
            go_ret
            exact ⟨by simp, bz⟩
end Go.Proofs.Ytchglmgbnmdffaa
