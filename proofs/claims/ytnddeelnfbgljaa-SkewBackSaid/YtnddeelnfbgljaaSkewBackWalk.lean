/-
  The walk of the law SkewBack. Conditions: none.
-/
import Derived.Test.YtnddeelnfbgljaaSkewed
namespace Go.Proofs.Ytnddeelnfbgljaa
open Go.RowKit Go.Deep
set_option linter.unusedVariables false
open SK
set_option maxHeartbeats 2000000 in
theorem SkewBack_walk (n : Int) (a1 : Option Addr) (n1 c1 : Nat) (xs : List Int) (a2 : Option Addr) (n2 c2 : Nat) (ys : List Int) (w : World) (hn : I64 n) (h1 : Sl w a1 n1 c1 xs) (i1 : ∀ x ∈ xs, I64 x) (e1 : n1 ≤ 17592186043904) (h2 : Sl w a2 n2 c2 ys) (i2 : ∀ x ∈ ys, I64 x) (e2 : n2 ≤ 17592186043904) :
    Calls Try.prog 7 #[.int .i64 n, .slice a1 n1 c1, .slice a2 n2 c2] w fun e w' => e = .returned (.bool true) ∧ Below w.heap.size w w' := by
  have HH1 := Lib.hid h1
  have HH2 := Lib.hid h2
  have V1 := fun w' => Value_any a1 n1 c1 xs w'
  have V2 := fun w' => Value_any a2 n2 c2 ys w'
  have hxy : valid xs → valid ys → (xs.sum == ys.sum) = decide (xs = ys) := fun a b => by
    rw [Bool.eq_iff_iff, beq_iff_eq, decide_eq_true_eq]
    exact ⟨valid_eq a b, fun e => by rw [e]⟩
  obtain ⟨sx, hsx⟩ : ∃ s, xs.sum = s := ⟨_, rfl⟩
  obtain ⟨sy, hsy⟩ : ∃ s, ys.sum = s := ⟨_, rfl⟩
  simp only [hsx] at V1
  simp only [hsy] at V2
  rw [hsx, hsy] at hxy
  have HXY := Lib.hid hxy
  clear h1 h2 i1 i2 hsx hsy hxy
  go_enter Try.func7, Try.ntmps7
  go_wp2_with fail
  refine (skewed_any _).mono ?_
  rintro e w1 ⟨rfl, hb1⟩
  go_wp2_with fail
  by_cases hr : 0 ≤ n ∧ n ≤ 1099511627776
  · obtain ⟨r0, r1⟩ := hr
    have hg := gd_valid r0 (by omega)
    have GV := Lib.hid hg.1
    have GL := Lib.hid hg.2.2
    have VD := fun a l c w' => Value_any a l c (gd 40 n).reverse w'
    simp only [hg.2.1] at VD
    clear hg
    refine (Digits_good n _ r0 r1).mono ?_
    rintro e w2 ⟨a, l, c, rfl, hs, hb2⟩
    have hl : l ≤ 41 := by have := GL.out; have := hs.hlen; omega
    have hli : ¬ (41 : Int) < (l : Int) := by omega
    have hlib : decide ((41 : Int) < (l : Int)) = false := by simp; omega
    replace hb2 := below_then hb1 hb2
    have HS := Lib.hid hs
    clear hs
    go_wp2_with fail
    refine (VD _ _ _ _ HS.out).mono ?_
    rintro e w3 ⟨⟨hv0, rfl⟩ | ⟨hv0, _⟩, rfl⟩
    · clear hv0
      go_wp2_with fail
      refine (V1 _ (HH1.out.below hb2)).mono ?_
      rintro e w5 ⟨⟨hv1, rfl⟩ | ⟨hv1, rfl⟩, rfl⟩
      · have HV1 := Lib.hid hv1
        clear hv1
        go_wp2_with fail
        refine (V2 _ (HH2.out.below hb2)).mono ?_
        rintro e w6 ⟨⟨hv2, rfl⟩ | ⟨hv2, rfl⟩, rfl⟩
        · have hxy := HXY.out HV1.out hv2
          clear hv2
          by_cases g1 : 1099511627776 < sx
          · go_wp2_with fail
            go_ret
            exact ⟨rfl, hb2⟩
          · by_cases g2 : 1099511627776 < sy
            · go_wp2_with fail
              go_ret
              exact ⟨rfl, hb2⟩
            · go_wp2_with fail
              refine (same_ints _ _ _ _ _ _ xs ys _ (HH1.out.below hb2) (HH2.out.below hb2)).mono ?_
              rintro e w7 ⟨rfl, k, rfl⟩
              generalize decide (xs = ys) = p at hxy
              have hxy2 : (sx == sy) = p := hxy
              go_wp2_with fail
              go_ret
              exact ⟨by simp, below_drewN hb2 _⟩
        · clear hv2
          go_wp2_with fail
          go_ret
          exact ⟨rfl, hb2⟩
      · clear hv1
        go_wp2_with fail
        refine (V2 _ (HH2.out.below hb2)).mono ?_
        rintro e w6 ⟨⟨hv2, rfl⟩ | ⟨hv2, rfl⟩, rfl⟩
        · clear hv2
          go_wp2_with fail
          go_ret
          exact ⟨rfl, hb2⟩
        · clear hv2
          go_wp2_with fail
          go_ret
          exact ⟨rfl, hb2⟩
    · exact absurd GV.out hv0
  · refine (Digits_bad n _ (by omega)).mono ?_
    rintro e w2 ⟨rfl, rfl⟩
    clear hr
    go_wp2_with fail
    refine (V1 _ (HH1.out.below hb1)).mono ?_
    rintro e w5 ⟨⟨hv1, rfl⟩ | ⟨hv1, rfl⟩, rfl⟩
    · have HV1 := Lib.hid hv1
      clear hv1
      go_wp2_with fail
      refine (V2 _ (HH2.out.below hb1)).mono ?_
      rintro e w6 ⟨⟨hv2, rfl⟩ | ⟨hv2, rfl⟩, rfl⟩
      · have hxy := HXY.out HV1.out hv2
        clear hv2
        by_cases g1 : 1099511627776 < sx
        · go_wp2_with fail
          go_ret
          exact ⟨rfl, hb1⟩
        · by_cases g2 : 1099511627776 < sy
          · go_wp2_with fail
            go_ret
            exact ⟨rfl, hb1⟩
          · go_wp2_with fail
            refine (same_ints _ _ _ _ _ _ xs ys _ (HH1.out.below hb1) (HH2.out.below hb1)).mono ?_
            rintro e w7 ⟨rfl, k, rfl⟩
            generalize decide (xs = ys) = p at hxy
            have hxy2 : (sx == sy) = p := hxy
            go_wp2_with fail
            go_ret
            exact ⟨by simp, below_drewN hb1 _⟩
      · clear hv2
        go_wp2_with fail
        go_ret
        exact ⟨rfl, hb1⟩
    · clear hv1
      go_wp2_with fail
      refine (V2 _ (HH2.out.below hb1)).mono ?_
      rintro e w6 ⟨⟨hv2, rfl⟩ | ⟨hv2, rfl⟩, rfl⟩
      · clear hv2
        go_wp2_with fail
        go_ret
        exact ⟨rfl, hb1⟩
      · clear hv2
        go_wp2_with fail
        go_ret
        exact ⟨rfl, hb1⟩
end Go.Proofs.Ytnddeelnfbgljaa
