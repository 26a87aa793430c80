/-
  The walk of the law SkewSteps. Conditions: none.
-/
import Derived.Test.YtnddeelnfbgljaaSkewed
namespace Go.Proofs.Ytnddeelnfbgljaa
open Go.RowKit Go.Deep
set_option linter.unusedVariables false
open SK
theorem SK.inc_ok {xs : List Int} (h : valid xs) (hs : xs.sum < 1099511627776) : valid (incL xs) ∧ (incL xs).sum = xs.sum + 1 := by
  match xs, h, hs with
  | [], h, hs => exact inc_high h (fun h => by simp at h)
  | [x], h, hs => exact inc_high h (fun h => by simp at h)
  | x :: y :: r, h, hs =>
    by_cases e : x = y
    · subst e
      have := inc_low h hs
      simpa [incL] using this
    · have := inc_high h (fun _ => by simpa using e)
      simpa [incL, e] using this
theorem SK.dec_ok {xs : List Int} (h : valid xs) (hs : 0 < xs.sum) : valid (decL xs) ∧ (decL xs).sum = xs.sum - 1 := by
  match xs, h, hs with
  | [], h, hs => simp at hs
  | x :: r, h, hs =>
    by_cases e : x = 1
    · subst e
      have := dec_one h
      simpa [decL] using this
    · have := dec_more h e
      simpa [decL, e] using this
theorem SK.dec_inc {xs : List Int} (h : valid xs) (hs : xs.sum < 1099511627776) : decL (incL xs) = xs := by
  obtain ⟨a, b⟩ := inc_ok h hs
  have h0 := (valid_uniq h).2.2
  obtain ⟨c, d⟩ := dec_ok a (by omega)
  exact valid_eq c h (by omega)
/-- How the lengths lie, and what stays behind the first digits. -/
theorem SK.inc_tail (xs : List Int) : ∃ d, (d = 0 ∨ d = 2) ∧ d ≤ xs.length ∧ (incL xs).length + d = xs.length + 1 ∧ (incL xs).drop 1 = xs.drop d := by
  match xs with
  | [] => exact ⟨0, .inl rfl, by simp, by simp [incL], by simp [incL]⟩
  | [x] => exact ⟨0, .inl rfl, by simp, by simp [incL], by simp [incL]⟩
  | x :: y :: r =>
    by_cases e : x = y
    · exact ⟨2, .inr rfl, by simp, by simp [incL, e], by simp [incL, e]⟩
    · exact ⟨0, .inl rfl, by simp, by simp [incL, e], by simp [incL, e]⟩

set_option maxHeartbeats 2000000 in
theorem SkewSteps_walk (a1 : Option Addr) (n c1 : Nat) (xs : List Int) (w : World) (h1 : Sl w a1 n c1 xs) (i1 : ∀ x ∈ xs, I64 x) (e1 : n ≤ 17592186043904) :
    Calls Try.prog 8 #[.slice a1 n c1] w fun e w' => e = .returned (.bool true) ∧ Below w.heap.size w w' := by
  have HH := Lib.hid h1
  have hm2 := h1.hcap
  have HL := Lib.hid h1.hlen
  clear h1 i1
  go_enter Try.func8, Try.ntmps8
  go_wp2_with fail
  refine (skewed_any _).mono ?_
  rintro e w1 ⟨rfl, hb1⟩
  go_wp2_with fail
  refine (Inc_any _ _ _ xs _ (HH.out.below hb1)).mono ?_
  rintro e w2 ⟨hb2, ⟨_, rfl⟩ | ⟨_, _, rfl⟩ | ⟨hv, hs, a, p, c, rfl, hsl⟩⟩
  · replace hb2 := below_then hb1 hb2
    go_wp2_with fail
    go_ret
    exact ⟨rfl, hb2⟩
  · replace hb2 := below_then hb1 hb2
    go_wp2_with fail
    go_ret
    exact ⟨rfl, hb2⟩
  · replace hb2 := below_then hb1 hb2
    have hiv := inc_ok hv hs
    have hdi := dec_inc hv hs
    have h0 := (valid_uniq hv).2.2
    obtain ⟨d, hd, hdn, hpd, hdr⟩ := inc_tail xs
    rw [HL.out] at hdn hpd
    rw [hsl.hlen] at hpd
    have hn41 : n ≤ 41 := by have := valid_length hv; have := HL.out; omega
    have hp1 : 1 ≤ p := by omega
    have hpc := hsl.hcap
    obtain ⟨q, hq⟩ : ∃ q, q + 1 = p := ⟨p - 1, by omega⟩
    have V1 := fun w' => Value_any a1 n c1 xs w'
    have V2 := fun w' => Value_any a p c (incL xs) w'
    have DD := fun w' => Dec_any a p c (incL xs) w'
    obtain ⟨s, hss⟩ : ∃ s, xs.sum = s := ⟨_, rfl⟩
    rw [hss] at hiv hs h0
    simp only [hss] at V1
    simp only [hiv.2] at V2 DD
    simp only [hdi] at DD
    have HV := Lib.hid hv
    have HIV := Lib.hid hiv.1
    have HDR := Lib.hid hdr
    have HB := Lib.hid hb2
    have HSL := Lib.hid hsl
    have HQ := Lib.hid hq
    have f1 : wrap64 ((p : Int) - 1) = (q : Int) := by unfold wrap64; omega
    have f2 : ¬ (n : Int) < (q : Int) := by omega
    have f3 : IntKind.i64.wrap ((p : Int) - ((p : Int) - 1)) = 1 := by rw [IntWalk.i64_in _ (by omega)]; omega
    have f4 : IntKind.i64.wrap ((n : Int) - ((p : Int) - 1)) = (d : Int) := by rw [IntWalk.i64_in _ (by omega)]; omega
    have f5 : wrap64 ((n : Int) - 1) = (n : Int) - 1 := by unfold wrap64; omega
    have f6 : wrap64 ((n : Int) + 1) = (n : Int) + 1 := by unfold wrap64; omega
    have f7 : (n : Int) - 1 ≤ (p : Int) := by omega
    have f8 : (p : Int) ≤ (n : Int) + 1 := by omega
    have f9 : wrap64 (s + 1) = s + 1 := by unfold wrap64; omega
    have s1 : ∀ w : World, (Instr.slice 22 (.slice a p c) (some (.int .i64 1)) none none).run Try.prog w = .ok (.slice (cutAt a c 1) (p - 1) (c - 1)) w := fun w => Try.slice_from a p c 1 (by omega) w
    have s2 : ∀ w : World, (Instr.slice 22 (.slice a1 n c1) (some (.int .i64 (d : Int))) none none).run Try.prog w = .ok (.slice (cutAt a1 c1 d) (n - d) (c1 - d)) w := fun w => Try.slice_from a1 n c1 d (by omega) w
    replace f1 := Lib.hid f1
    replace f2 := Lib.hid f2
    replace f3 := Lib.hid f3
    replace f4 := Lib.hid f4
    replace f5 := Lib.hid f5
    replace f6 := Lib.hid f6
    replace f7 := Lib.hid f7
    replace f8 := Lib.hid f8
    replace f9 := Lib.hid f9
    replace s1 := Lib.hid s1
    replace s2 := Lib.hid s2
    have T1 := Lib.hid (hsl.rest (k := 1) hp1)
    have T2 := Lib.hid (HH.out.rest (k := d) hdn)
    clear hss hv hiv hdi hdr hb2 hsl hq hd
    go_wp2_with fail
    refine (V1 _ (HH.out.below HB.out)).mono ?_
    rintro e w3 ⟨⟨_, rfl⟩ | ⟨hx, _⟩, rfl⟩
    · go_wp2_with fail
      refine (V2 _ HSL.out).mono ?_
      rintro e w3 ⟨⟨_, rfl⟩ | ⟨hx, _⟩, rfl⟩
      · go_wp2_with fail
        refine (DD _ HSL.out).mono ?_
        rintro e w3 ⟨hb3, ⟨hx, _⟩ | ⟨_, hx, _⟩ | ⟨_, _, _, a3, p3, c3, rfl, hs3⟩⟩
        · exact absurd HIV.out hx
        · omega
        · have HB3 := Lib.hid (below_then HB.out hb3)
          have HB23 := Lib.hid hb3
          clear hb3
          go_wp2_with fail
          refine (same_yes _ _ _ _ _ _ _ _ _ hs3 (HH.out.below HB3.out) rfl).mono ?_
          rintro e w4 ⟨rfl, hb4⟩
          have HB24 := Lib.hid (below_then HB23.out hb4)
          have HB4 := Lib.hid (below_then HB3.out hb4)
          clear hb4 hs3 V1 V2 DD
          replace f9 := f9.out
          replace f1 := f1.out
          replace f2 := f2.out
          go_wp2_with fail
          clear f9 f1 f2
          replace f3 := f3.out
          replace f4 := f4.out
          have b1 : (1 : Int) ≤ (p : Int) := by omega
          have b2 : (0 : Int) ≤ (d : Int) := by omega
          have b3 : (d : Int) ≤ (n : Int) := by omega
          replace s1 := s1.out
          replace s2 := s2.out
          go_region_law (first
            | (go_simp; go_at_call 20; refine (same_yes _ _ _ _ _ _ _ _ _ (by first | exact (T1.out.below HB24.out).drew | exact (T1.out.below HB24.out) | exact (T1.out.below HB24.out).drewN _) (by first | exact (T2.out.below HB4.out).drew | exact (T2.out.below HB4.out) | exact (T2.out.below HB4.out).drewN _) HDR.out).mono ?_; rintro e w5 ⟨rfl, hb5⟩))
          all_goals
            clear f3 f4 s1 s2
            replace f5 := f5.out
            replace f6 := f6.out
            replace f7 := f7.out
            replace f8 := f8.out
            try clear b1 b2 b3
            have hend : Below w.heap.size w w5 := below_then HB4.out (by first | exact hb5 | exact below_of_drew hb5 | exact below_of_drewN hb5)
            go_wp2_with fail
            go_ret
            exact ⟨rfl, hend⟩
      · exact absurd HIV.out hx
    · exact absurd HV.out hx
end Go.Proofs.Ytnddeelnfbgljaa
