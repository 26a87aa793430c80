/-
  The walk of the law AvlFew. Conditions: the arguments hold together at most 1048576 values.
-/
import Derived.Test.YtinmmhjllmlimaaAvlFact
import Derived.Test.YtinmmhjllmlimaaAvlShape
import Derived.Test.YtinmmhjllmlimaaAvlMore
import Derived.Test.YtinmmhjllmlimaaCalm
namespace Go.Proofs.Ytinmmhjllmlimaa
open Go.RowKit Go.Deep Go.BigFrame
open Go.Proofs.Ytinmmhjllmlimaa.ST
open Go.Proofs.Ytinmmhjllmlimaa.AVL

set_option linter.unusedVariables false
set_option maxHeartbeats 4000000 in
set_option maxRecDepth 100000 in
theorem AvlFew_walk (a0 : Option Addr) (n0 c0 : Nat) (x0 : List Int) (a1 : Option Addr) (n1 c1 : Nat) (x1 : List Int) (w : World)
    (s0 : Sl w a0 n0 c0 x0) (i0 : ∀ n ∈ x0, I64 n) (s1 : Sl w a1 n1 c1 x1) (i1 : ∀ n ∈ x1, I64 n) (hn : n0 + n1 ≤ 1048576) :
    Calls Try.prog 5 #[.slice a0 n0 c0, .slice a1 n1 c1] w fun e w' => e = .returned (.bool true) ∧ Below w.heap.size w w' := by
  have S0 := Lib.hid s0
  have S1 := Lib.hid s1
  have sm1 := s1.hmax
  have sc1 := s1.hcap
  unfold maxLen at sm1
  have hsz := ofL_size x0
  have hln := s0.hlen
  have hz : (ofL x0).size ≤ n0 := by omega
  clear s0 s1 i0 i1 hsz hln
  go_enter Try.func5, Try.ntmps5
  go_wp2_with fail
  refine (fact_any _).mono ?_
  rintro e w1 ⟨rfl, b1⟩
  go_wp2_with fail
  refine (of_any a0 n0 c0 x0 _ (S0.out.below b1) (by omega)).mono ?_
  rintro e w2 ⟨q0, rfl, hi0, b2⟩
  replace b1 := below_then b1 b2
  clear b2
  go_wp2_with fail
  obtain ⟨B0, hB0⟩ : ∃ k, w2.heap.size = k := ⟨_, rfl⟩
  have X : (w2.alloc (.cells #[.pointer q0] 26)).heap[B0]? = some (.cells #[.pointer q0] 26) := by rw [← hB0]; exact heap_alloc_new _ _
  have bX : Below w.heap.size w (w2.alloc (.cells #[.pointer q0] 26)) := b1.alloc b1.size _
  have hi0' := hi0.alloc (.cells #[.pointer q0] 26)
  have hBw : w.heap.size ≤ B0 := by rw [← hB0]; exact b1.size
  rw [hB0]
  clear hB0 b1 hi0
  go_loopw [7] (fun i wr => ∃ (k : Nat) (t : ST) (q : Option Addr), k ≤ n1 ∧ i = .int .i64 k ∧ Fit t ∧ t.size ≤ n0 ∧ In wr q t ∧ wr.heap[B0]? = some (.cells #[.pointer q] 26) ∧ Below w.heap.size w wr) (fun i _ => n1 - (intOf i).toNat)
  case atStart =>
    exact ⟨0, ofL x0, q0, Nat.zero_le _, rfl, ofL_good x0, hz, hi0', X, bX⟩
  case round =>
    obtain ⟨k, t, q, hk, rfl, gt, ht, hi, hX, hb⟩ := hrel
    clear hz hi0' X bX
    by_cases hlt : k < n1
    · obtain ⟨b, off, rfl, hbl, hc⟩ := S1.out.hat (by omega)
      have g := (hb.cell (p := ⟨b, off + k, none⟩) hbl).trans (hc k hlt)
      clear hc
      have hlti : (k : Int) < (n1 : Int) := by omega
      obtain ⟨y, hy⟩ : ∃ y, x1[k]?.getD 0 = y := ⟨_, rfl⟩
      rw [hy] at g
      clear hy
      obtain ⟨X0, X1, Xl⟩ := blk hX
      have cX := X0 0
      have fX := X1 0
      have HX := Lib.hid hX
      clear X0 X1 hX
      go_wp2_with fail
      go_region_law (first | (go_simp; go_at_call 19; refine (drop_set t y q _ (by first | exact hi.drew | exact hi.drewN _) (by omega)).mono ?_; rintro e w3 ⟨q2, rfl, hi2, hb2⟩; replace hb2 := below_of_drew hb2; have y0 := blk_below HX.out hb2; have e0 := (blk y0).1 0; have e1 := (blk y0).2.1 0))
      all_goals
        have z2 := drop_size t y
        go_wp2_with fail
        go_roundw
        case rel => exact ⟨k + 1, drop t y, q2, by omega, by go_num, drop_good gt y, by omega, hi2.keep (.setCell y0 (by decide)), blk_set y0, (below_then hb hb2).setCell (p := ⟨B0, 0, none⟩) hBw _⟩
        case measure => simp [intOf]; omega
    · have cX := (blk hX).1 0
      go_wp2_with fail
      refine (shape_any t q _ hi (by omega)).mono ?_
      rintro e wS ⟨a, c, rfl, N, bS⟩
      replace hi := hi.below bS
      replace hX := blk_below hX bS
      replace hb := below_then hb bS
      clear bS cX
      have NH := Lib.hid N
      have nm := N.hmax
      have nc := N.hcap
      unfold maxLen at nm
      have AT := Lib.hid (shape_at0 mrk t)
      have fw := few_le t gt.2
      have hhe := height_le t
      have cX := (blk hX).1 0
      clear N gt
      by_cases h0 : t.size = 0
      · rw [h0]
        have h0b : ((t.size : Int) == 0) = true := by simp [h0]
        clear h0 fw hhe nm nc
        go_wp2_with fail
        refine (len_set t q _ hi).mono ?_
        rintro e w6 ⟨rfl, b6⟩
        go_wp2_with fail
        go_ret
        exact ⟨rfl, below_then hb b6⟩
      · have h0b : ((t.size : Int) == 0) = false := by simp; omega
        have h0c : decide (t.size = 0) = false := by simp; omega
        cases t with
        | nil => exact absurd rfl h0
        | node cc x l r =>
        obtain ⟨b, off, rfl, hbl, hc⟩ := NH.out.hat (by omega)
        obtain ⟨_, _, _, g3⟩ := hc 0 _ AT.out.1
        have hp : 1 ≤ (ST.node cc x l r).height := by simp only [ST.height]; omega
        have hsp : 0 < (ST.node cc x l r).size := by omega
        obtain ⟨sz, hsz⟩ : ∃ sz, (ST.node cc x l r).size = sz := ⟨_, rfl⟩
        obtain ⟨hh, hhh⟩ : ∃ hh, (ST.node cc x l r).height = hh := ⟨_, rfl⟩
        have g3' : wS.cell? ⟨b, off + 3, none⟩ = some (.int .i64 (hh : Int)) := by rw [← hhh]; exact g3
        rw [hsz, hhh] at fw hhe
        rw [hsz] at h0b h0c hsp ht nc
        rw [hhh] at hp
        have hsi : (0 : Int) < (sz : Int) := by omega
        simp only [hsz]
        clear hc g3 h0 hsz hhh hX hi cX
        go_wp2_with fail
        go_loopg [9, 10, 11] hh (fun m va vb vh wr => ∃ h' fa fb : Nat, m = hh - h' ∧ h' + 1 ≤ hh ∧ vh = .int .i64 ((h' + 1 : Nat) : Int) ∧ va = .int .i64 (fa : Int) ∧ vb = .int .i64 (fb : Int) ∧ Hid (few h' = fa ∧ few (h' + 1) = fb) ∧ wr = wS)
        case atStart => exact ⟨0, 0, 1, by omega, by omega, rfl, rfl, rfl, Lib.hid ⟨rfl, rfl⟩, rfl⟩
        case round =>
          obtain ⟨h', fa, fb, hm, hh', rfl, rfl, rfl, HF, rfl⟩ := hrel
          have HM := Lib.hid hm
          clear hm
          have hki : (0 : Int) ≤ (h' : Int) := by omega
          by_cases hlt : h' + 1 < hh
          · have fs : few (h' + 1 + 1) = fa + fb + 1 := by have := HF.out; simp only [few]; omega
            have f1 := few_mono (show h' + 1 + 1 ≤ hh by omega)
            have hfb : fa + fb + 1 ≤ sz := by omega
            have d1 : (h' : Int) + 1 < (hh : Int) := by omega
            have d2 : (fb : Int) ≤ (sz : Int) := by omega
            have FS := Lib.hid fs
            clear fs f1
            go_wp2_with fail
            go_roundg (hh - (h' + 1))
            case measure => have := HM.out; omega
            case rel => exact ⟨h' + 1, fb, fa + fb + 1, by omega, by omega, by go_num, rfl, by go_num, Lib.hid ⟨HF.out.2, FS.out⟩, rfl⟩
          · have he : h' + 1 = hh := by omega
            have hfb : fb ≤ sz := by have := HF.out.2; rw [he] at this; omega
            have d1 : ¬ ((h' : Int) + 1 < (hh : Int)) := by omega
            have d2 : (fb : Int) ≤ (sz : Int) := by omega
            clear he
            go_wp2_with fail
            go_ret
            exact ⟨by simp, hb⟩
end Go.Proofs.Ytinmmhjllmlimaa
