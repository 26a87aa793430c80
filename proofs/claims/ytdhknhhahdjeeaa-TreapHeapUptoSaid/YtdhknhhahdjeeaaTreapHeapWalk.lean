/-
  The walk of the law TreapHeap. Conditions: the arguments hold together at most 1048576 values.
-/
import Derived.Test.YtdhknhhahdjeeaaTreapFact
import Derived.Test.YtdhknhhahdjeeaaTreapShape
import Derived.Test.YtdhknhhahdjeeaaCalm
import Derived.Test.YtdhknhhahdjeeaaShapePlain
namespace Go.Proofs.Ytdhknhhahdjeeaa
open Go.RowKit Go.Deep Go.BigFrame
open Go.Proofs.Ytdhknhhahdjeeaa.ST
open Go.Proofs.Ytdhknhhahdjeeaa.TRP

theorem hp_sub {s t : ST} (h : Sub s t) (k : TRP0.Hp prioI t) : TRP0.Hp prioI s := sub_all (P := TRP0.Hp prioI) (fun _ _ _ _ h => ⟨h.2.2.1, h.2.2.2⟩) h k
/-- None under a node has more. -/
theorem not_above {x v : Int} (h : TRP0.above prioI x v = true) : (prioI v < prioI x) ∨ (prioI v = prioI x ∧ x < v) := by
  unfold TRP0.above at h
  simp only [Bool.or_eq_true, Bool.and_eq_true, decide_eq_true_eq] at h
  omega
theorem pr_lt {a b : Int} (h : a < b) : decide (b < a) = false := by rw [decide_eq_false_iff_not]; omega
theorem pr_ne {a b : Int} (h : a < b) : (a == b) = false := by rw [beq_eq_false_iff_ne]; omega

set_option linter.unusedVariables false
set_option maxHeartbeats 4000000 in
set_option maxRecDepth 100000 in
theorem TreapHeap_walk (a0 : Option Addr) (n0 c0 : Nat) (x0 : List Int) (a1 : Option Addr) (n1 c1 : Nat) (x1 : List Int) (w : World)
    (s0 : Sl w a0 n0 c0 x0) (i0 : ∀ n ∈ x0, I64 n) (s1 : Sl w a1 n1 c1 x1) (i1 : ∀ n ∈ x1, I64 n) (hn : n0 + n1 ≤ 1048576) :
    Calls Try.prog 8 #[.slice a0 n0 c0, .slice a1 n1 c1] w fun e w' => e = .returned (.bool true) ∧ Below w.heap.size w w' := by
  have S0 := Lib.hid s0
  have S1 := Lib.hid s1
  have sm1 := s1.hmax
  have sc1 := s1.hcap
  unfold maxLen at sm1
  have hsz := ofL_size x0
  have hln := s0.hlen
  have hz : (ofL x0).size ≤ n0 := by omega
  clear s0 s1 i0 i1 hsz hln
  go_enter Try.func8, Try.ntmps8
  go_wp2_with fail
  refine (fact_any _).mono ?_
  rintro e w1 ⟨rfl, b1⟩
  go_wp2_with fail
  refine (of_any a0 n0 c0 x0 _ (S0.out.below b1) (by omega)).mono ?_
  rintro e w2 ⟨q0, rfl, hi0, b2⟩
  replace b1 := below_then b1 b2
  clear b2
  go_wp2_with fail
  obtain ⟨B0, hB0⟩ : ∃ k, w2.heap.size = k := ⟨_, rfl⟩
  have X : (w2.alloc (.cells #[.pointer q0] 49)).heap[B0]? = some (.cells #[.pointer q0] 49) := by rw [← hB0]; exact heap_alloc_new _ _
  have bX : Below w.heap.size w (w2.alloc (.cells #[.pointer q0] 49)) := b1.alloc b1.size _
  have hi0' := hi0.alloc (.cells #[.pointer q0] 49)
  have hBw : w.heap.size ≤ B0 := by rw [← hB0]; exact b1.size
  rw [hB0]
  clear hB0 b1 hi0
  go_loopw [7] (fun i wr => ∃ (k : Nat) (t : ST) (q : Option Addr), k ≤ n1 ∧ i = .int .i64 k ∧ Fit t ∧ t.size ≤ n0 ∧ In wr q t ∧ wr.heap[B0]? = some (.cells #[.pointer q] 49) ∧ Below w.heap.size w wr) (fun i _ => n1 - (intOf i).toNat)
  case atStart =>
    exact ⟨0, ofL x0, q0, Nat.zero_le _, rfl, ofL_good x0, hz, hi0', X, bX⟩
  case round =>
    obtain ⟨k, t, q, hk, rfl, gt, ht, hi, hX, hb⟩ := hrel
    clear hz hi0' X bX
    by_cases hlt : k < n1
    · obtain ⟨b, off, rfl, hbl, hc⟩ := S1.out.hat (by omega)
      have g := (hb.cell (p := ⟨b, off + k, none⟩) hbl).trans (hc k hlt)
      clear hc
      have hlti : (k : Int) < (n1 : Int) := by omega
      obtain ⟨y, hy⟩ : ∃ y, x1[k]?.getD 0 = y := ⟨_, rfl⟩
      rw [hy] at g
      clear hy
      obtain ⟨X0, X1, Xl⟩ := blk hX
      have cX := X0 0
      have fX := X1 0
      have HX := Lib.hid hX
      clear X0 X1 hX
      go_wp2_with fail
      go_region_law (first | (go_simp; go_at_call 30; refine (drop_set t y q _ (by first | exact hi.drew | exact hi.drewN _) (by omega)).mono ?_; rintro e w3 ⟨q2, rfl, hi2, hb2⟩; replace hb2 := below_of_drew hb2; have y0 := blk_below HX.out hb2; have e0 := (blk y0).1 0; have e1 := (blk y0).2.1 0))
      all_goals
        have z2 := drop_size t y
        go_wp2_with fail
        go_roundw
        case rel => exact ⟨k + 1, drop t y, q2, by omega, by go_num, drop_good gt y, by omega, hi2.keep (.setCell y0 (by decide)), blk_set y0, (below_then hb hb2).setCell (p := ⟨B0, 0, none⟩) hBw _⟩
        case measure => simp [intOf]; omega
    · have cX := (blk hX).1 0
      go_wp2_with fail
      refine (shape_any t q _ hi (by omega)).mono ?_
      rintro e wS ⟨a, c, rfl, N, bS⟩
      replace hi := hi.below bS
      replace hX := blk_below hX bS
      replace hb := below_then hb bS
      clear bS cX
      have NH := Lib.hid N
      have nm := N.hmax
      have nc := N.hcap
      unfold maxLen at nm
      have AT := Lib.hid (shape_at0 mrk t)
      have HP := Lib.hid gt.hp
      clear N
      go_wp2_with fail
      go_loopw [9] (fun i wr => ∃ j d : Nat, j ≤ t.size ∧ i = .int .i64 j ∧ wr = wS.drewN d) (fun i _ => t.size - (intOf i).toNat)
      case atStart => exact ⟨0, 0, Nat.zero_le _, rfl, rfl⟩
      case round =>
        obtain ⟨j, d, hj, rfl, rfl⟩ := hrel
        by_cases hjl : j < t.size
        · obtain ⟨c', x, l, r, hsub, hat⟩ := at_each t 0 AT.out j hjl
          rw [Nat.zero_add] at hat
          have hhp := hp_sub hsub HP.out
          have sl := at_size _ _ hat (by simp)
          rw [shapeL_length] at sl
          simp only [ST.size] at sl
          obtain ⟨b, off, rfl, hbl, hcS⟩ := NH.out.hat (by omega)
          obtain ⟨g0, g1, g2, g3⟩ := hcS j _ hat.1
          rw [mrk_node] at g3
          have g0' : wS.cell? ⟨b, off + j * 4, none⟩ = some (.int .i64 x) := g0
          have g3' : wS.cell? ⟨b, off + j * 4 + 3, none⟩ = some (.int .i64 (prioI x)) := g3
          have g1' : wS.cell? ⟨b, off + j * 4 + 1, none⟩ = some (.int .i64 (refOf l (j + 1))) := g1
          have g2' : wS.cell? ⟨b, off + j * 4 + 2, none⟩ = some (.int .i64 (refOf r (j + 1 + l.size))) := g2
          have hji : (0 : Int) ≤ (j : Int) := by omega
          have hjli : (j : Int) < (t.size : Int) := by omega
          have d0 : (prioI x != prioI x) = false := by simp
          have HC := Lib.hid hcS
          have HA := Lib.hid hat
          have HH := Lib.hid hhp
          have GGS := Lib.hid (And.intro g1' g2')
          clear hcS hat hhp hsub AT HP gt g0 g1 g2 g3 g1' g2'
          go_wp2_with fail
          go_quiet ((go_at_call 34; first | exact quiet_left (prio_any _ _) | exact quiet_add_left (prio_any _ _)))
          clear d0
          have g3 := g3'
          clear g3'
          go_wp2_with fail
          go_loopw [10] (fun sd wr => ∃ s d : Nat, s ≤ 2 ∧ sd = .int .i64 s ∧ wr = wS.drewN d) (fun sd _ => 2 - (intOf sd).toNat)
          case atStart => exact ⟨0, d + nq, Nat.zero_le _, rfl, by simp⟩
          case round =>
            obtain ⟨s, d, hs, rfl, rfl⟩ := hrel
            have hcS := HC.out
            have gg1 := GGS.out.1
            have gg2 := GGS.out.2
            by_cases hs0 : s = 0
            · subst hs0
              have GG := gg1
              clear gg2 gg1
              rcases ref_cases l (j + 1) with ⟨_, hr⟩ | ⟨c2, v, la, ra, hcc, hr⟩
              · rw [hr] at GG
                have hm1 : decide ((0 : Int) ≤ -1) = false := by decide
                go_wp2_with fail
                go_quiet (fail)
                go_wp2_with fail
                go_roundw
                case rel => exact ⟨1, d + nq, by omega, rfl, by simp⟩
                case measure => simp [intOf]
              · rw [hr] at GG
                have hat2 := HA.out.2.1
                have hal := HH.out.1 v (by rw [hcc]; exact mem_node.2 (.inr (.inl rfl)))
                rw [hcc] at hat2
                have hk2 := at_lt hat2
                rw [shapeL_length] at hk2
                obtain ⟨q0, _, _, q3⟩ := hcS (j + 1) _ hat2.1
                rw [mrk_node] at q3
                have q0' : wS.cell? ⟨b, off + (j + 1) * 4, none⟩ = some (.int .i64 v) := q0
                have q3' : wS.cell? ⟨b, off + (j + 1) * 4 + 3, none⟩ = some (.int .i64 (prioI v)) := q3
                clear q0 q3 hat2
                obtain ⟨kk, hkk⟩ : ∃ kk, j + 1 = kk := ⟨_, rfl⟩
                rw [hkk] at GG hk2 q0' q3'
                have hki : (0 : Int) ≤ (kk : Int) := by omega
                have hki2 : (kk : Int) < (t.size : Int) := by omega
                have hkd : decide ((0 : Int) ≤ (kk : Int)) = true := by simp
                clear hkk hr hcc hcS
                rcases not_above hal with hlt | ⟨heq, hlt⟩
                · have e1 := pr_lt hlt
                  have e2 := pr_ne hlt
                  obtain ⟨P, hP⟩ : ∃ P, prioI x = P := ⟨_, rfl⟩
                  obtain ⟨Q, hQ⟩ : ∃ Q, prioI v = Q := ⟨_, rfl⟩
                  rw [hP, hQ] at e1 e2
                  rw [hP] at g3
                  rw [hQ] at q3'
                  clear hP hQ hlt hal
                  go_wp2_with fail
                  go_quiet (fail)
                  go_wp2_with fail
                  go_roundw
                  case rel => exact ⟨1, d + nq, by omega, rfl, by simp⟩
                  case measure => simp [intOf]
                · have e3 := pr_lt hlt
                  obtain ⟨P, hP⟩ : ∃ P, prioI x = P := ⟨_, rfl⟩
                  rw [heq] at q3'
                  rw [hP] at g3 q3'
                  have e1 : decide (P < P) = false := by simp
                  have e2 : (P == P) = true := by simp
                  clear hP heq hlt hal
                  go_wp2_with fail
                  go_quiet (fail)
                  go_wp2_with fail
                  go_roundw
                  case rel => exact ⟨1, d + nq, by omega, rfl, by simp⟩
                  case measure => simp [intOf]
            · by_cases hs1 : s = 1
              · subst hs1
                have GG := gg2
                have gx := gg1
                clear gg2 gg1
                obtain ⟨kl, hkl⟩ : ∃ kl, refOf l (j + 1) = kl := ⟨_, rfl⟩
                rw [hkl] at gx
                clear hkl
                rcases ref_cases r (j + 1 + l.size) with ⟨_, hr⟩ | ⟨c2, v, la, ra, hcc, hr⟩
                · rw [hr] at GG
                  have hm1 : decide ((0 : Int) ≤ -1) = false := by decide
                  go_wp2_with fail
                  go_quiet (fail)
                  go_wp2_with fail
                  go_roundw
                  case rel => exact ⟨2, d + nq, by omega, rfl, by simp⟩
                  case measure => simp [intOf]
                · rw [hr] at GG
                  have hat2 := HA.out.2.2
                  have hal := HH.out.2.1 v (by rw [hcc]; exact mem_node.2 (.inr (.inl rfl)))
                  rw [hcc] at hat2
                  have hk2 := at_lt hat2
                  rw [shapeL_length] at hk2
                  obtain ⟨q0, _, _, q3⟩ := hcS (j + 1 + l.size) _ hat2.1
                  rw [mrk_node] at q3
                  have q0' : wS.cell? ⟨b, off + (j + 1 + l.size) * 4, none⟩ = some (.int .i64 v) := q0
                  have q3' : wS.cell? ⟨b, off + (j + 1 + l.size) * 4 + 3, none⟩ = some (.int .i64 (prioI v)) := q3
                  clear q0 q3 hat2
                  obtain ⟨kk, hkk⟩ : ∃ kk, j + 1 + l.size = kk := ⟨_, rfl⟩
                  rw [hkk] at GG hk2 q0' q3'
                  have hki : (0 : Int) ≤ (kk : Int) := by omega
                  have hki2 : (kk : Int) < (t.size : Int) := by omega
                  have hkd : decide ((0 : Int) ≤ (kk : Int)) = true := by simp
                  clear hkk hr hcc hcS
                  rcases not_above hal with hlt | ⟨heq, hlt⟩
                  · have e1 := pr_lt hlt
                    have e2 := pr_ne hlt
                    obtain ⟨P, hP⟩ : ∃ P, prioI x = P := ⟨_, rfl⟩
                    obtain ⟨Q, hQ⟩ : ∃ Q, prioI v = Q := ⟨_, rfl⟩
                    rw [hP, hQ] at e1 e2
                    rw [hP] at g3
                    rw [hQ] at q3'
                    clear hP hQ hlt hal
                    go_wp2_with fail
                    go_quiet (fail)
                    go_wp2_with fail
                    go_roundw
                    case rel => exact ⟨2, d + nq, by omega, rfl, by simp⟩
                    case measure => simp [intOf]
                  · have e3 := pr_lt hlt
                    obtain ⟨P, hP⟩ : ∃ P, prioI x = P := ⟨_, rfl⟩
                    rw [heq] at q3'
                    rw [hP] at g3 q3'
                    have e1 : decide (P < P) = false := by simp
                    have e2 : (P == P) = true := by simp
                    clear hP heq hlt hal
                    go_wp2_with fail
                    go_quiet (fail)
                    go_wp2_with fail
                    go_roundw
                    case rel => exact ⟨2, d + nq, by omega, rfl, by simp⟩
                    case measure => simp [intOf]
              · obtain rfl : s = 2 := by omega
                clear hcS gg1 gg2 HC HA HH GGS
                go_wp2_with fail
                go_roundw
                case rel => exact ⟨j + 1, d, by omega, by go_num, rfl⟩
                case measure => simp [intOf]; omega
        · have he : j = t.size := by omega
          subst he
          have cX := (blk hX).1 0
          have dd : ((t.size : Int) == (t.size : Int)) = true := by simp
          go_wp2_with fail
          refine (len_set t q _ (hi.drewN _)).mono ?_
          rintro e w6 ⟨rfl, b6⟩
          go_wp2_with fail
          go_ret
          exact ⟨by simp, below_then hb (below_of_drewN b6)⟩
end Go.Proofs.Ytdhknhhahdjeeaa
