/-
  The walk of the law RedHigh. Conditions: the arguments hold together at most 1048576 values.
-/
import Derived.Test.YtchglmgbnmdffaaRedFact
import Derived.Test.YtchglmgbnmdffaaRedShape
import Derived.Test.YtchglmgbnmdffaaCalm
import Derived.Test.YtchglmgbnmdffaaHigh
namespace Go.Proofs.Ytchglmgbnmdffaa
open Go.RowKit Go.Deep Go.BigFrame
open Go.Proofs.Ytchglmgbnmdffaa.ST
open Go.Proofs.Ytchglmgbnmdffaa.RED

theorem log2_half {s : Nat} (h : 1 < s) : Nat.log2 s = Nat.log2 (s / 2) + 1 := by
  rw [Nat.log2_def, if_pos (show 2 ≤ s by omega)]

set_option linter.unusedVariables false
set_option maxHeartbeats 4000000 in
set_option maxRecDepth 100000 in
theorem RedHigh_walk (a0 : Option Addr) (n0 c0 : Nat) (x0 : List Int) (a1 : Option Addr) (n1 c1 : Nat) (x1 : List Int) (w : World)
    (s0 : Sl w a0 n0 c0 x0) (i0 : ∀ n ∈ x0, I64 n) (s1 : Sl w a1 n1 c1 x1) (i1 : ∀ n ∈ x1, I64 n) (hn : n0 + n1 ≤ 1048576) :
    Calls Try.prog 13 #[.slice a0 n0 c0, .slice a1 n1 c1] w fun e w' => e = .returned (.bool true) ∧ Below w.heap.size w w' := by
  have S0 := Lib.hid s0
  have S1 := Lib.hid s1
  have sm1 := s1.hmax
  have sc1 := s1.hcap
  unfold maxLen at sm1
  have hsz := ofL_size x0
  have hln := s0.hlen
  have hz : (ofL x0).size ≤ n0 := by omega
  clear s0 s1 i0 i1 hsz hln
  go_enter Try.func13, Try.ntmps13
  go_wp2_with fail
  refine (fact_any _).mono ?_
  rintro e w1 ⟨rfl, b1⟩
  go_wp2_with fail
  refine (of_any a0 n0 c0 x0 _ (S0.out.below b1) (by omega)).mono ?_
  rintro e w2 ⟨q0, rfl, hi0, b2⟩
  replace b1 := below_then b1 b2
  clear b2
  go_wp2_with fail
  obtain ⟨B0, hB0⟩ : ∃ k, w2.heap.size = k := ⟨_, rfl⟩
  have X : (w2.alloc (.cells #[.pointer q0] 57)).heap[B0]? = some (.cells #[.pointer q0] 57) := by rw [← hB0]; exact heap_alloc_new _ _
  have bX : Below w.heap.size w (w2.alloc (.cells #[.pointer q0] 57)) := b1.alloc b1.size _
  have hi0' := hi0.alloc (.cells #[.pointer q0] 57)
  have hBw : w.heap.size ≤ B0 := by rw [← hB0]; exact b1.size
  rw [hB0]
  clear hB0 b1 hi0
  go_loopw [7] (fun i wr => ∃ (k : Nat) (t : ST) (q : Option Addr), k ≤ n1 ∧ i = .int .i64 k ∧ Fit t ∧ t.size ≤ n0 ∧ In wr q t ∧ wr.heap[B0]? = some (.cells #[.pointer q] 57) ∧ Below w.heap.size w wr) (fun i _ => n1 - (intOf i).toNat)
  case atStart =>
    exact ⟨0, ofL x0, q0, Nat.zero_le _, rfl, ofL_good x0, hz, hi0', X, bX⟩
  case round =>
    obtain ⟨k, t, q, hk, rfl, gt, ht, hi, hX, hb⟩ := hrel
    clear hz hi0' X bX
    by_cases hlt : k < n1
    · obtain ⟨b, off, rfl, hbl, hc⟩ := S1.out.hat (by omega)
      have g := (hb.cell (p := ⟨b, off + k, none⟩) hbl).trans (hc k hlt)
      clear hc
      have hlti : (k : Int) < (n1 : Int) := by omega
      obtain ⟨y, hy⟩ : ∃ y, x1[k]?.getD 0 = y := ⟨_, rfl⟩
      rw [hy] at g
      clear hy
      obtain ⟨X0, X1, Xl⟩ := blk hX
      have cX := X0 0
      have fX := X1 0
      have HX := Lib.hid hX
      clear X0 X1 hX
      go_wp2_with fail
      go_region_law (first | (go_simp; go_at_call 41; refine (drop_set t y q _ (by first | exact hi.drew | exact hi.drewN _) (by omega)).mono ?_; rintro e w3 ⟨q2, rfl, hi2, hb2⟩; replace hb2 := below_of_drew hb2; have y0 := blk_below HX.out hb2; have e0 := (blk y0).1 0; have e1 := (blk y0).2.1 0))
      all_goals
        have z2 := drop_size t y
        go_wp2_with fail
        go_roundw
        case rel => exact ⟨k + 1, drop t y, q2, by omega, by go_num, drop_good gt y, by omega, hi2.keep (.setCell y0 (by decide)), blk_set y0, (below_then hb hb2).setCell (p := ⟨B0, 0, none⟩) hBw _⟩
        case measure => simp [intOf]; omega
    · have cX := (blk hX).1 0
      go_wp2_with fail
      refine (shape_any t q _ hi (by omega)).mono ?_
      rintro e wS ⟨a, c, rfl, N, bS⟩
      replace hi := hi.below bS
      replace hX := blk_below hX bS
      replace hb := below_then hb bS
      clear bS cX
      have NH := Lib.hid N
      have nm := N.hmax
      have nc := N.hcap
      unfold maxLen at nm
      have AT := shape_at0 mrk t
      have HI := Lib.hid (fun w h => high_any mrk (shapeL mrk t 0) a t.size c t 0 w h AT)
      have fh := RED.fine_height gt.2
      have cX := (blk hX).1 0
      clear N gt AT
      by_cases h0 : t.size = 0
      · rw [h0] at HI ⊢
        have h0b : ((t.size : Int) == 0) = true := by simp [h0]
        clear h0 fh nm nc
        go_wp2_with fail
        refine (len_set t q _ hi).mono ?_
        rintro e w6 ⟨rfl, b6⟩
        go_wp2_with fail
        go_ret
        exact ⟨rfl, below_then hb b6⟩
      · have h0b : ((t.size : Int) == 0) = false := by simp; omega
        have h0c : decide (t.size = 0) = false := by simp; omega
        have hp : refOf t 0 = 0 := by
          cases t with
          | nil => exact absurd rfl h0
          | node cc x l r => rfl
        rw [hp] at HI
        obtain ⟨sz, hsz⟩ : ∃ sz, t.size = sz := ⟨_, rfl⟩
        obtain ⟨hh, hhh⟩ : ∃ hh, t.height = hh := ⟨_, rfl⟩
        rw [hsz] at h0b h0c ht nc fh h0 NH HI
        rw [hhh] at fh HI
        obtain ⟨K, hK⟩ : ∃ K, Nat.log2 (sz + 1) = K := ⟨_, rfl⟩
        rw [hK] at fh
        have kb : K < 64 := by rw [← hK]; exact (Nat.log2_lt (by omega)).2 (by omega)
        have HK := Lib.hid hK
        have hsi : (0 : Int) < (sz : Int) := by omega
        simp only [hsz]
        clear hp hsz hhh hX hi cX hK
        go_wp2_with fail
        go_loopg [9, 10] (sz + 1) (fun m va vb wr => ∃ j s : Nat, m = s ∧ 1 ≤ s ∧ s ≤ sz + 1 ∧ j ≤ 64 ∧ va = .int .i64 (j : Int) ∧ vb = .int .i64 (s : Int) ∧ Hid (j + Nat.log2 s = K) ∧ wr = wS)
        case atStart => exact ⟨0, sz + 1, by omega, by omega, by omega, by omega, rfl, by go_num, Lib.hid (by rw [HK.out]; omega), rfl⟩
        case round =>
          obtain ⟨j, s, hm, s1, s2, j1, rfl, rfl, HJ, rfl⟩ := hrel
          have HM := Lib.hid hm
          clear hm
          by_cases hlt : 1 < s
          · have e1 := log2_half hlt
            have hj2 : j + 1 + Nat.log2 (s / 2) = K := by have := HJ.out; omega
            have hj3 : j < 64 := by omega
            have E2 := Lib.hid hj2
            have d1 : (1 : Int) < (s : Int) := by omega
            have d1' : decide (1 < (s : Int)) = true := by simp; omega
            have q1 : Int.tdiv (s : Int) 2 = ((s / 2 : Nat) : Int) := by rw [Int.tdiv_eq_ediv_of_nonneg (by omega)]; omega
            have Q1 := Lib.hid q1
            clear e1 hj2 q1
            go_wp2_with fail
            go_roundg (s / 2)
            case measure => have := HM.out; omega
            case rel => exact ⟨j + 1, s / 2, rfl, by omega, by omega, by omega, by go_num, by go_num, Lib.hid E2.out, rfl⟩
          · have hs : s = 1 := by omega
            subst hs
            have hjk : j = K := by have := HJ.out; rw [show Nat.log2 1 = 0 from by decide] at this; omega
            subst hjk
            have d1 : ¬ (1 : Int) < 1 := by omega
            have d2 : (hh : Int) ≤ 2 * (j : Int) := by omega
            go_wp2_with fail
            refine (HI.out _ NH.out).mono ?_
            rintro e w4 ⟨rfl, k4, rfl⟩
            go_wp2_with fail
            go_ret
            exact ⟨by simp, by first | exact hb.drewN _ | exact below_drewN hb _⟩
end Go.Proofs.Ytchglmgbnmdffaa
