/-
  The walk of the law AvlEven. Conditions: the arguments hold together at most 1048576 values.
-/
import Derived.Test.YtinmmhjllmlimaaAvlFact
import Derived.Test.YtinmmhjllmlimaaAvlShape
import Derived.Test.YtinmmhjllmlimaaAvlMore
import Derived.Test.YtinmmhjllmlimaaCalm
namespace Go.Proofs.Ytinmmhjllmlimaa
open Go.RowKit Go.Deep Go.BigFrame
open Go.Proofs.Ytinmmhjllmlimaa.ST
open Go.Proofs.Ytinmmhjllmlimaa.AVL

set_option linter.unusedVariables false
set_option maxHeartbeats 4000000 in
set_option maxRecDepth 100000 in
theorem AvlEven_walk (a0 : Option Addr) (n0 c0 : Nat) (x0 : List Int) (a1 : Option Addr) (n1 c1 : Nat) (x1 : List Int) (w : World)
    (s0 : Sl w a0 n0 c0 x0) (i0 : ∀ n ∈ x0, I64 n) (s1 : Sl w a1 n1 c1 x1) (i1 : ∀ n ∈ x1, I64 n) (hn : n0 + n1 ≤ 1048576) :
    Calls Try.prog 4 #[.slice a0 n0 c0, .slice a1 n1 c1] w fun e w' => e = .returned (.bool true) ∧ Below w.heap.size w w' := by
  have S0 := Lib.hid s0
  have S1 := Lib.hid s1
  have sm1 := s1.hmax
  have sc1 := s1.hcap
  unfold maxLen at sm1
  have hsz := ofL_size x0
  have hln := s0.hlen
  have hz : (ofL x0).size ≤ n0 := by omega
  clear s0 s1 i0 i1 hsz hln
  go_enter Try.func4, Try.ntmps4
  go_wp2_with fail
  refine (fact_any _).mono ?_
  rintro e w1 ⟨rfl, b1⟩
  go_wp2_with fail
  refine (of_any a0 n0 c0 x0 _ (S0.out.below b1) (by omega)).mono ?_
  rintro e w2 ⟨q0, rfl, hi0, b2⟩
  replace b1 := below_then b1 b2
  clear b2
  go_wp2_with fail
  obtain ⟨B0, hB0⟩ : ∃ k, w2.heap.size = k := ⟨_, rfl⟩
  have X : (w2.alloc (.cells #[.pointer q0] 26)).heap[B0]? = some (.cells #[.pointer q0] 26) := by rw [← hB0]; exact heap_alloc_new _ _
  have bX : Below w.heap.size w (w2.alloc (.cells #[.pointer q0] 26)) := b1.alloc b1.size _
  have hi0' := hi0.alloc (.cells #[.pointer q0] 26)
  have hBw : w.heap.size ≤ B0 := by rw [← hB0]; exact b1.size
  rw [hB0]
  clear hB0 b1 hi0
  go_loopw [7] (fun i wr => ∃ (k : Nat) (t : ST) (q : Option Addr), k ≤ n1 ∧ i = .int .i64 k ∧ Fit t ∧ t.size ≤ n0 ∧ In wr q t ∧ wr.heap[B0]? = some (.cells #[.pointer q] 26) ∧ Below w.heap.size w wr) (fun i _ => n1 - (intOf i).toNat)
  case atStart =>
    exact ⟨0, ofL x0, q0, Nat.zero_le _, rfl, ofL_good x0, hz, hi0', X, bX⟩
  case round =>
    obtain ⟨k, t, q, hk, rfl, gt, ht, hi, hX, hb⟩ := hrel
    clear hz hi0' X bX
    by_cases hlt : k < n1
    · obtain ⟨b, off, rfl, hbl, hc⟩ := S1.out.hat (by omega)
      have g := (hb.cell (p := ⟨b, off + k, none⟩) hbl).trans (hc k hlt)
      clear hc
      have hlti : (k : Int) < (n1 : Int) := by omega
      obtain ⟨y, hy⟩ : ∃ y, x1[k]?.getD 0 = y := ⟨_, rfl⟩
      rw [hy] at g
      clear hy
      obtain ⟨X0, X1, Xl⟩ := blk hX
      have cX := X0 0
      have fX := X1 0
      have HX := Lib.hid hX
      clear X0 X1 hX
      go_wp2_with fail
      go_region_law (first | (go_simp; go_at_call 19; refine (drop_set t y q _ (by first | exact hi.drew | exact hi.drewN _) (by omega)).mono ?_; rintro e w3 ⟨q2, rfl, hi2, hb2⟩; replace hb2 := below_of_drew hb2; have y0 := blk_below HX.out hb2; have e0 := (blk y0).1 0; have e1 := (blk y0).2.1 0))
      all_goals
        have z2 := drop_size t y
        go_wp2_with fail
        go_roundw
        case rel => exact ⟨k + 1, drop t y, q2, by omega, by go_num, drop_good gt y, by omega, hi2.keep (.setCell y0 (by decide)), blk_set y0, (below_then hb hb2).setCell (p := ⟨B0, 0, none⟩) hBw _⟩
        case measure => simp [intOf]; omega
    · have cX := (blk hX).1 0
      go_wp2_with fail
      refine (shape_any t q _ hi (by omega)).mono ?_
      rintro e wS ⟨a, c, rfl, N, bS⟩
      replace hi := hi.below bS
      replace hX := blk_below hX bS
      replace hb := below_then hb bS
      clear bS cX
      have NH := Lib.hid N
      have nm := N.hmax
      have nc := N.hcap
      unfold maxLen at nm
      have AT := Lib.hid (shape_at0 mrk t)
      have AV := Lib.hid gt.2
      go_wp2_with fail
      go_loopw [9] (fun i wr => ∃ j d : Nat, j ≤ t.size ∧ i = .int .i64 j ∧ wr = wS.drewN d) (fun i _ => t.size - (intOf i).toNat)
      case atStart => exact ⟨0, 0, Nat.zero_le _, rfl, rfl⟩
      case round =>
        obtain ⟨j, d, hj, rfl, rfl⟩ := hrel
        by_cases hjl : j < t.size
        · obtain ⟨c', x, l, r, hsub, hat⟩ := at_each t 0 AT.out j hjl
          rw [Nat.zero_add] at hat
          have hav := av_sub hsub AV.out
          obtain ⟨_, _, h1, h2⟩ := hav
          have sl := at_size _ _ hat (by simp)
          rw [shapeL_length] at sl
          simp only [ST.size] at sl
          have hl1 := height_le l
          have hr1 := height_le r
          obtain ⟨b, off, rfl, hbl, hc⟩ := NH.out.hat (by omega)
          obtain ⟨g0, g1, g2, g3⟩ := hc j _ hat.1
          have g3' : wS.cell? ⟨b, off + j * 4 + 3, none⟩ = some (.int .i64 (1 + max (l.height : Int) (r.height : Int))) := by
            refine Eq.trans g3 ?_
            rw [mrk_node]
            congr 2
            simp only [ST.height]
            omega
          have g1' : wS.cell? ⟨b, off + j * 4 + 1, none⟩ = some (.int .i64 (refOf l (j + 1))) := g1
          have g2' : wS.cell? ⟨b, off + j * 4 + 2, none⟩ = some (.int .i64 (refOf r (j + 1 + l.size))) := g2
          have HL := fun w h => high_any mrk (shapeL mrk t 0) (some ⟨b, off, none⟩) t.size c l (j + 1) w h hat.2.1
          have HR := fun w h => high_any mrk (shapeL mrk t 0) (some ⟨b, off, none⟩) t.size c r (j + 1 + l.size) w h hat.2.2
          have HLH := Lib.hid HL
          have HRH := Lib.hid HR
          have hji : (0 : Int) ≤ (j : Int) := by omega
          have hjli : (j : Int) < (t.size : Int) := by omega
          have d1 : ¬ (1 < (l.height : Int) - (r.height : Int)) := by omega
          have d1' : decide (1 < (l.height : Int) - (r.height : Int)) = false := by simp; omega
          have d2 : ¬ (1 < (r.height : Int) - (l.height : Int)) := by omega
          have d2' : decide (1 < (r.height : Int) - (l.height : Int)) = false := by simp; omega
          clear hc g0 g1 g2 g3 hat HL HR hsub AV AT gt
          by_cases hlr : l.height < r.height
          all_goals
            first
              | (have hd : ((l.height : Int) < (r.height : Int)) := by omega
                 have hdn : max (l.height : Int) (r.height : Int) = (r.height : Int) := by omega)
              | (have hd : ¬ ((l.height : Int) < (r.height : Int)) := by omega
                 have hdn : max (l.height : Int) (r.height : Int) = (l.height : Int) := by omega)
            rw [hdn] at g3'
            go_wp2_with fail
            refine (HLH.out _ (NH.out.drewN _)).mono ?_
            rintro e w4 ⟨rfl, k4, rfl⟩
            go_wp2_with fail
            refine (HRH.out _ (by first | exact NH.out.drewN _ | exact (NH.out.drewN _).drewN _)).mono ?_
            rintro e w5 ⟨rfl, k5, rfl⟩
            go_wp2_with fail
            go_roundw
            case rel => exact ⟨j + 1, d + k4 + k5, by omega, by go_num, by simp⟩
            case measure => simp [intOf]; omega
        · have he : j = t.size := by omega
          subst he
          have cX := (blk hX).1 0
          go_wp2_with fail
          refine (len_set t q _ (hi.drewN _)).mono ?_
          rintro e w6 ⟨rfl, b6⟩
          go_wp2_with fail
          go_ret
          exact ⟨by simp, below_then hb (below_of_drewN b6)⟩
end Go.Proofs.Ytinmmhjllmlimaa
