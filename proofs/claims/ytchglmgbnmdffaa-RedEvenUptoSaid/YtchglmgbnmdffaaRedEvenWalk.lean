/-
  The walk of the law RedEven. Conditions: the arguments hold together at most 1048576 values.
-/
import Derived.Test.YtchglmgbnmdffaaRedFact
import Derived.Test.YtchglmgbnmdffaaRedShape
import Derived.Test.YtchglmgbnmdffaaCalm
import Derived.Test.YtchglmgbnmdffaaRedBlacks
namespace Go.Proofs.Ytchglmgbnmdffaa
open Go.RowKit Go.Deep Go.BigFrame
open Go.Proofs.Ytchglmgbnmdffaa.ST
open Go.Proofs.Ytchglmgbnmdffaa.RED

theorem rb_sub {s t : ST} (h : Sub s t) (k : RED.RB t) : RED.RB s := sub_all (P := RED.RB) (fun _ _ _ _ h => ⟨h.1, h.2.1⟩) h k

set_option linter.unusedVariables false
set_option maxHeartbeats 4000000 in
set_option maxRecDepth 100000 in
theorem RedEven_walk (a0 : Option Addr) (n0 c0 : Nat) (x0 : List Int) (a1 : Option Addr) (n1 c1 : Nat) (x1 : List Int) (w : World)
    (s0 : Sl w a0 n0 c0 x0) (i0 : ∀ n ∈ x0, I64 n) (s1 : Sl w a1 n1 c1 x1) (i1 : ∀ n ∈ x1, I64 n) (hn : n0 + n1 ≤ 1048576) :
    Calls Try.prog 12 #[.slice a0 n0 c0, .slice a1 n1 c1] w fun e w' => e = .returned (.bool true) ∧ Below w.heap.size w w' := by
  have S0 := Lib.hid s0
  have S1 := Lib.hid s1
  have sm1 := s1.hmax
  have sc1 := s1.hcap
  unfold maxLen at sm1
  have hsz := ofL_size x0
  have hln := s0.hlen
  have hz : (ofL x0).size ≤ n0 := by omega
  clear s0 s1 i0 i1 hsz hln
  go_enter Try.func12, Try.ntmps12
  go_wp2_with fail
  refine (fact_any _).mono ?_
  rintro e w1 ⟨rfl, b1⟩
  go_wp2_with fail
  refine (of_any a0 n0 c0 x0 _ (S0.out.below b1) (by omega)).mono ?_
  rintro e w2 ⟨q0, rfl, hi0, b2⟩
  replace b1 := below_then b1 b2
  clear b2
  go_wp2_with fail
  obtain ⟨B0, hB0⟩ : ∃ k, w2.heap.size = k := ⟨_, rfl⟩
  have X : (w2.alloc (.cells #[.pointer q0] 57)).heap[B0]? = some (.cells #[.pointer q0] 57) := by rw [← hB0]; exact heap_alloc_new _ _
  have bX : Below w.heap.size w (w2.alloc (.cells #[.pointer q0] 57)) := b1.alloc b1.size _
  have hi0' := hi0.alloc (.cells #[.pointer q0] 57)
  have hBw : w.heap.size ≤ B0 := by rw [← hB0]; exact b1.size
  rw [hB0]
  clear hB0 b1 hi0
  go_loopw [7] (fun i wr => ∃ (k : Nat) (t : ST) (q : Option Addr), k ≤ n1 ∧ i = .int .i64 k ∧ Fit t ∧ t.size ≤ n0 ∧ In wr q t ∧ wr.heap[B0]? = some (.cells #[.pointer q] 57) ∧ Below w.heap.size w wr) (fun i _ => n1 - (intOf i).toNat)
  case atStart =>
    exact ⟨0, ofL x0, q0, Nat.zero_le _, rfl, ofL_good x0, hz, hi0', X, bX⟩
  case round =>
    obtain ⟨k, t, q, hk, rfl, gt, ht, hi, hX, hb⟩ := hrel
    clear hz hi0' X bX
    by_cases hlt : k < n1
    · obtain ⟨b, off, rfl, hbl, hc⟩ := S1.out.hat (by omega)
      have g := (hb.cell (p := ⟨b, off + k, none⟩) hbl).trans (hc k hlt)
      clear hc
      have hlti : (k : Int) < (n1 : Int) := by omega
      obtain ⟨y, hy⟩ : ∃ y, x1[k]?.getD 0 = y := ⟨_, rfl⟩
      rw [hy] at g
      clear hy
      obtain ⟨X0, X1, Xl⟩ := blk hX
      have cX := X0 0
      have fX := X1 0
      have HX := Lib.hid hX
      clear X0 X1 hX
      go_wp2_with fail
      go_region_law (first | (go_simp; go_at_call 41; refine (drop_set t y q _ (by first | exact hi.drew | exact hi.drewN _) (by omega)).mono ?_; rintro e w3 ⟨q2, rfl, hi2, hb2⟩; replace hb2 := below_of_drew hb2; have y0 := blk_below HX.out hb2; have e0 := (blk y0).1 0; have e1 := (blk y0).2.1 0))
      all_goals
        have z2 := drop_size t y
        go_wp2_with fail
        go_roundw
        case rel => exact ⟨k + 1, drop t y, q2, by omega, by go_num, drop_good gt y, by omega, hi2.keep (.setCell y0 (by decide)), blk_set y0, (below_then hb hb2).setCell (p := ⟨B0, 0, none⟩) hBw _⟩
        case measure => simp [intOf]; omega
    · have cX := (blk hX).1 0
      go_wp2_with fail
      refine (shape_any t q _ hi (by omega)).mono ?_
      rintro e wS ⟨a, c, rfl, N, bS⟩
      replace hi := hi.below bS
      replace hX := blk_below hX bS
      replace hb := below_then hb bS
      clear bS cX
      have NH := Lib.hid N
      have nm := N.hmax
      have nc := N.hcap
      unfold maxLen at nm
      have AT := Lib.hid (shape_at0 mrk t)
      have AV := Lib.hid gt.2
      go_wp2_with fail
      go_loopw [9] (fun i wr => ∃ j d : Nat, j ≤ t.size ∧ i = .int .i64 j ∧ wr = wS.drewN d) (fun i _ => t.size - (intOf i).toNat)
      case atStart => exact ⟨0, 0, Nat.zero_le _, rfl, rfl⟩
      case round =>
        obtain ⟨j, d, hj, rfl, rfl⟩ := hrel
        by_cases hjl : j < t.size
        · obtain ⟨c', x, l, r, hsub, hat⟩ := at_each t 0 AT.out j hjl
          rw [Nat.zero_add] at hat
          have hav := rb_sub hsub AV.out.1
          obtain ⟨_, _, _, hrd⟩ := hav
          have sl := at_size _ _ hat (by simp)
          rw [shapeL_length] at sl
          simp only [ST.size] at sl
          obtain ⟨b, off, rfl, hbl, hc⟩ := NH.out.hat (by omega)
          obtain ⟨g0, g1, g2, g3⟩ := hc j _ hat.1
          have g1' : wS.cell? ⟨b, off + j * 4 + 1, none⟩ = some (.int .i64 (refOf l (j + 1))) := g1
          have g2' : wS.cell? ⟨b, off + j * 4 + 2, none⟩ = some (.int .i64 (refOf r (j + 1 + l.size))) := g2
          have hji : (0 : Int) ≤ (j : Int) := by omega
          have hjli : (j : Int) < (t.size : Int) := by omega
          cases c' with
          | false =>
            have g3' : wS.cell? ⟨b, off + j * 4 + 3, none⟩ = some (.int .i64 0) := g3
            clear hc g0 g1 g2 g3 hat hsub AV AT gt hrd
            go_wp2_with fail
            go_roundw
            case rel => exact ⟨j + 1, d, by omega, by go_num, rfl⟩
            case measure => simp [intOf]; omega
          | true =>
            have g3' : wS.cell? ⟨b, off + j * 4 + 3, none⟩ = some (.int .i64 1) := g3
            obtain ⟨rl, rr⟩ := hrd rfl
            have hl : (refOf l (j + 1) = -1) ∨ (∃ k : Nat, refOf l (j + 1) = (k : Int) ∧ k < t.size ∧ wS.cell? ⟨b, off + k * 4 + 3, none⟩ = some (.int .i64 0)) := by
              cases l with
              | nil => exact Or.inl rfl
              | node cl xl ll lr =>
                obtain rfl : cl = false := rl
                have hat1 := hat.2.1
                have := at_lt hat1
                rw [shapeL_length] at this
                exact Or.inr ⟨j + 1, rfl, this, (hc (j + 1) _ hat1.1).2.2.2⟩
            have hr : (refOf r (j + 1 + l.size) = -1) ∨ (∃ k : Nat, refOf r (j + 1 + l.size) = (k : Int) ∧ k < t.size ∧ wS.cell? ⟨b, off + k * 4 + 3, none⟩ = some (.int .i64 0)) := by
              cases r with
              | nil => exact Or.inl rfl
              | node cl xl ll lr =>
                obtain rfl : cl = false := rr
                have hat1 := hat.2.2
                have := at_lt hat1
                rw [shapeL_length] at this
                exact Or.inr ⟨j + 1 + l.size, rfl, this, (hc (j + 1 + l.size) _ hat1.1).2.2.2⟩
            clear hc g0 g1 g2 g3 hat hsub AV AT gt hrd rl rr
            rcases hl with hl | ⟨kl, hl, kl1, kl2⟩ <;> rcases hr with hr | ⟨kr, hr, kr1, kr2⟩
            all_goals
              rw [hl] at g1'
              rw [hr] at g2'
              clear hl hr
              try (have kl3 : (0 : Int) ≤ (kl : Int) := by omega)
              try (have kl4 : (kl : Int) < (t.size : Int) := by omega)
              try (have kr3 : (0 : Int) ≤ (kr : Int) := by omega)
              try (have kr4 : (kr : Int) < (t.size : Int) := by omega)
              go_wp2_with fail
              go_roundw
              case rel => exact ⟨j + 1, d, by omega, by go_num, rfl⟩
              case measure => simp [intOf]; omega
        · have he : j = t.size := by omega
          subst he
          have cX := (blk hX).1 0
          cases t with
          | nil =>
            have N2 := NH.out
            simp only [ST.size] at *
            go_wp2_with fail
            refine (len_set _ q _ (hi.drewN _)).mono ?_
            rintro e w6 ⟨rfl, b6⟩
            go_wp2_with fail
            go_ret
            exact ⟨rfl, below_then hb (below_of_drewN b6)⟩
          | node cc x l r =>
            obtain rfl : cc = false := AV.out.2
            have hpos : 0 < (ST.node false x l r).size := by simp only [ST.size]; omega
            obtain ⟨b, off, rfl, hbl, hc⟩ := NH.out.hat hpos
            have g3 := (hc 0 _ AT.out.1).2.2.2
            have g3' : wS.cell? ⟨b, off + 3, none⟩ = some (.int .i64 0) := by rw [mrk_node] at g3; simpa [mb] using g3
            have hbp : ∃ B, bh (ST.node false x l r) = B + 1 := ⟨bh l, by simp [bh]⟩
            obtain ⟨B, hB⟩ := hbp
            have BA := Lib.hid (fun w h => blacks_any (shapeL mrk (.node false x l r) 0) (some ⟨b, off, none⟩) (ST.node false x l r).size c (.node false x l r) 0 w h AT.out AV.out.1)
            rw [hB, ref_node] at BA
            obtain ⟨sz, hsz⟩ : ∃ sz, (ST.node false x l r).size = sz := ⟨_, rfl⟩
            have LS := Lib.hid (fun w h => len_set (.node false x l r) q w h)
            rw [hsz] at BA LS NH
            rw [hsz] at hpos ht nc
            have h0b : ((sz : Int) == 0) = false := by simp; omega
            have h0c : decide (sz = 0) = false := by simp; omega
            have hsi : (0 : Int) < (sz : Int) := by omega
            have hb1 : decide (0 < (B : Int) + 1) = true := by rw [decide_eq_true_iff]; omega
            simp only [hsz]
            clear hc g3 hB hsz
            go_wp2_with fail
            refine (LS.out _ (hi.drewN _)).mono ?_
            rintro e w6 ⟨rfl, b6⟩
            replace b6 := below_of_drewN b6
            have g4 := (b6.cell (p := ⟨b, off + 3, none⟩) hbl).trans g3'
            go_wp2_with fail
            refine (BA.out _ (NH.out.below b6)).mono ?_
            rintro e w7 ⟨rfl, rfl⟩
            go_wp2_with fail
            go_ret
            exact ⟨by first | rfl | simp | (simp; omega), below_then hb b6⟩
end Go.Proofs.Ytchglmgbnmdffaa
