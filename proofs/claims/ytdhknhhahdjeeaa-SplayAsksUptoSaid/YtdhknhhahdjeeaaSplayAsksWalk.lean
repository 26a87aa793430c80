/-
  The walk of the law SplayAsks. Conditions: the arguments hold together at most 1048576 values.
-/
import Derived.Test.YtdhknhhahdjeeaaSplayFact
import Derived.Test.YtdhknhhahdjeeaaSplayShape
import Derived.Test.YtdhknhhahdjeeaaCalm
import Derived.Test.YtdhknhhahdjeeaaOnce
import Derived.Test.YtdhknhhahdjeeaaShaped
namespace Go.Proofs.Ytdhknhhahdjeeaa
open Go.RowKit Go.Deep Go.BigFrame
open Go.Proofs.Ytdhknhhahdjeeaa.ST
open Go.Proofs.Ytdhknhhahdjeeaa.SPL

set_option linter.unusedVariables false
set_option maxHeartbeats 4000000 in
set_option maxRecDepth 100000 in
theorem SplayAsks_walk (a0 : Option Addr) (n0 c0 : Nat) (x0 : List Int) (a1 : Option Addr) (n1 c1 : Nat) (x1 : List Int) (w : World)
    (s0 : Sl w a0 n0 c0 x0) (i0 : ∀ n ∈ x0, I64 n) (s1 : Sl w a1 n1 c1 x1) (i1 : ∀ n ∈ x1, I64 n) (hn : n0 + n1 ≤ 1048576) :
    Calls Try.prog 5 #[.slice a0 n0 c0, .slice a1 n1 c1] w fun e w' => e = .returned (.bool true) ∧ Below w.heap.size w w' := by
  have S0 := Lib.hid s0
  have S1 := Lib.hid s1
  have sm1 := s1.hmax
  have sc1 := s1.hcap
  unfold maxLen at sm1
  obtain ⟨t, ht⟩ : ∃ t, ofL x0 = t := ⟨_, rfl⟩
  have gt : Fit t := ht ▸ ofL_good x0
  have z0 : t.size ≤ n0 := by rw [← ht, ← s0.hlen]; exact ofL_size x0
  have OF : ∀ W, Below w.heap.size w W → Calls Try.prog 12 #[.slice a0 n0 c0] W fun e w' => ∃ q, e = .returned (.agg #[.pointer q]) ∧ In w' q t ∧ Below W.heap.size W w' := fun W hW => by
    have := of_any a0 n0 c0 x0 W (s0.below hW) (by omega)
    rwa [ht] at this
  have OFH := Lib.hid OF
  have ONE : t.toL = onceL x0 := ht ▸ ofL_once x0
  have ONEH := Lib.hid ONE
  have MEM : ∀ y, y ∈ t.toL ↔ y ∈ x0 := fun y => by rw [ONE]; exact onceL_mem
  have MEMH := Lib.hid MEM
  clear s0 s1 i0 i1 OF ht ONE MEM
  go_enter Try.func5, Try.ntmps5
  go_wp2_with fail
  refine (fact_any _).mono ?_
  rintro e w1 ⟨rfl, b1⟩
  go_wp2_with fail
  refine (OFH.out _ b1).mono ?_
  rintro e w2 ⟨q0, rfl, h, b2⟩
  replace b1 := below_then b1 b2
  clear b2
  go_wp2_with fail
  obtain ⟨B0, hB0⟩ : ∃ k, w2.heap.size = k := ⟨_, rfl⟩
  obtain ⟨B1, hB1⟩ : ∃ k, w2.heap.size + 1 = k := ⟨_, rfl⟩
  obtain ⟨W, hW⟩ : ∃ W, (w2.alloc (.cells #[.pointer q0] 26)).alloc (.cells #[.pointer q0] 26) = W := ⟨_, rfl⟩
  have bW : Below w2.heap.size w2 W := by rw [← hW]; exact ((Below.refl _ _).alloc (Nat.le_refl _) _).alloc (by simp) _
  have X : W.heap[B0]? = some (.cells #[.pointer q0] 26) := by rw [← hW, ← hB0]; exact (Below.heap_alloc _ _ _ (by simp)).trans (heap_alloc_new _ _)
  have Y : W.heap[B1]? = some (.cells #[.pointer q0] 26) := by
    rw [← hW, ← hB1]
    have := heap_alloc_new (w2.alloc (.cells #[.pointer q0] 26)) (.cells #[.pointer q0] 26)
    rwa [World.size_alloc] at this
  have h01 : B0 ≠ B1 := by omega
  have hw1 : w.heap.size ≤ B1 := by have := b1.size; omega
  replace h := h.below bW
  have B := below_then b1 bW
  first | rw [hW] | skip
  first | rw [hB1] | skip
  first | rw [hB0] | skip
  clear hW hB0 hB1 bW b1
  go_loopw [8] (fun i wr => ∃ (k : Nat) (u : ST) (q : Option Addr), k ≤ n1 ∧ i = .int .i64 k ∧ Hid (u.toL = t.toL) ∧ u.size ≤ n0 ∧ In wr q u ∧ In wr q0 t ∧ wr.heap[B0]? = some (.cells #[.pointer q0] 26) ∧ wr.heap[B1]? = some (.cells #[.pointer q] 26) ∧ Below w.heap.size w wr) (fun i _ => n1 - (intOf i).toNat)
  case atStart =>
    exact ⟨0, t, q0, Nat.zero_le _, rfl, Lib.hid rfl, z0, h, h, X, Y, B⟩
  case round =>
    obtain ⟨k, u, q, hk, rfl, HE, zu, hu, h0, X', Y', B'⟩ := hrel
    clear h X Y B
    have gu : Fit u := by have := gt; unfold Fit Bst at *; rw [HE.out]; exact this
    by_cases hlt : k < n1
    · obtain ⟨b, off, rfl, hbl, hc⟩ := S1.out.hat (by omega)
      have g := (B'.cell (p := ⟨b, off + k, none⟩) hbl).trans (hc k hlt)
      clear hc
      have hlti : (k : Int) < (n1 : Int) := by omega
      obtain ⟨y, hy⟩ : ∃ y, x1[k]?.getD 0 = y := ⟨_, rfl⟩
      rw [hy] at g
      clear hy
      obtain ⟨bb, hbb⟩ : ∃ bb, decide (y ∈ t.toL) = bb := ⟨_, rfl⟩
      have htop := up_has gu.bst y
      rw [HE.out, hbb] at htop
      have FI := fun p W => find_set u y p W
      rw [htop] at FI
      have e1 := up_toL u y
      have e2 := up_size u y
      rw [HE.out] at e1
      obtain ⟨v, hv⟩ : ∃ v, up u y = v := ⟨_, rfl⟩
      rw [hv] at e1 e2 FI
      have zv : v.size ≤ n0 := by omega
      have ez : ((v.size : Int) != (t.size : Int)) = false := by
        have := congrArg List.length e1
        rw [toL_length, toL_length] at this
        simp; omega
      have hof : decide (0 < oftenN x0 y) = bb := by rw [← hbb]; exact dec_iff (often_pos.trans (MEMH.out y).symm)
      have FIH := Lib.hid FI
      have E1 := Lib.hid e1
      have HBB := Lib.hid hbb
      have EZ := Lib.hid ez
      have HOF := Lib.hid hof
      have hblr : b < wr.heap.size := Nat.lt_of_lt_of_le hbl B'.size
      have Xl := (blk X').2.2
      have Yl := (blk Y').2.2
      clear FI e1 e2 hbb htop hv ez hof
      have cY := (blk Y').1 0
      go_wp2_with fail
      go_cut [9, 10] (fun p v1 wx => ∃ (C : Nat) (q2 : Option Addr), p = .pointer (some ⟨C, 0, none⟩) ∧ v1 = .bool bb ∧ In wx q2 v ∧ wx.heap[C]? = some (.cells #[.pointer q2] 26) ∧ B1 < C ∧ Below wr.heap.size wr wx)
      case first =>
        have hneB : ¬ B1 = wr.heap.size := by omega
        have hneb : ¬ b = wr.heap.size := by omega
        have hneB' : ¬ wr.heap.size = B1 := by omega
        have hneb' : ¬ wr.heap.size = b := by omega
        go_region_held3 (fun w' => w'.cell? ⟨B1, 0, none⟩ = some (.pointer q) ∧ w'.cell? ⟨b, off + k, none⟩ = some (.int .i64 y)) (go_keep) (first
          | (go_at_call 19; first
            | (refine (FIH.out q _ (by first | exact hu | exact hu.drew | exact hu.drewN _) (by omega)).mono ?_; rintro e w3 ⟨q2, rfl, hu2, b3⟩; replace b3 : Below wr.heap.size wr w3 := (by first | exact b3 | exact below_of_drew b3 | exact below_of_drewN b3); have s_1 := (b3.cell (p := ⟨B1, 0, none⟩) Yl).trans cY; have s_2 := (b3.cell (p := ⟨b, off + k, none⟩) hblr).trans g; have hz3 := b3.size; have hneB3 : ¬ B1 = w3.heap.size := (by omega); have hneb3 : ¬ b = w3.heap.size := (by omega); have hneB3' : ¬ w3.heap.size = B1 := (by omega); have hneb3' : ¬ w3.heap.size = b := (by omega))
            | (refine (FIH.out q _ (by first | exact hu.alloc _ | exact (hu.alloc _).drew | exact (hu.alloc _).drewN _ | exact hu.drew.alloc _ | exact (hu.drewN _).alloc _) (by omega)).mono ?_; rintro e w3 ⟨q2, rfl, hu2, b3⟩; obtain ⟨b3, CB⟩ := hold1 (w := wr) b3 ⟨rfl, rfl, rfl, rfl⟩; have s_1 := (b3.cell (p := ⟨B1, 0, none⟩) Yl).trans cY; have s_2 := (b3.cell (p := ⟨b, off + k, none⟩) hblr).trans g; obtain ⟨v0, vv0, vvv0⟩ := blk CB)))
        all_goals (go_wp2_with fail; go_meet)
        all_goals first
          | exact ⟨_, q2, rfl, rfl, hu2.alloc _, heap_alloc_new _ _, by omega, b3.alloc b3.size _⟩
          | exact ⟨_, q2, rfl, rfl, (hu2.alloc _).drew, heap_alloc_new _ _, by omega, (b3.alloc b3.size _).drew⟩
          | exact ⟨wr.heap.size, q2, rfl, rfl, hu2.keep (.setCell CB (by decide)), blk_set CB, by omega, b3.setCell (p := ⟨wr.heap.size, 0, none⟩) (Nat.le_refl _) _⟩
          | exact ⟨wr.heap.size, q2, rfl, rfl, (hu2.keep (.setCell CB (by decide))).drew, blk_set CB, by omega, (b3.setCell (p := ⟨wr.heap.size, 0, none⟩) (Nat.le_refl _) _).drew⟩
          | trace_state
      case rest =>
      obtain ⟨C, q2, rfl, rfl, hv2, Z, hBC, bC⟩ := hcut
      have X2 := blk_below X' bC
      have Y2 := blk_below Y' bC
      have h2 := h0.below bC
      have B2 := below_then B' bC
      have g2 := (bC.cell (p := ⟨b, off + k, none⟩) hblr).trans g
      clear cY X' Y' h0 hu B' g bC Xl Yl
      have cX := (blk X2).1 0
      have cZ := (blk Z).1 0
      have dbb : (bb != bb) = false := by simp
      have ez := EZ.out
      have hof := HOF.out
      have SO := S0.out.below B2
      have SOH := Lib.hid SO
      clear SO
      go_wp2_with fail
      have calm0 : ∀ u : Grown wc, _ := fun u => u.cell cX
      have calm1 : ∀ u : Grown wc, _ := fun u => u.cell g2
      have calm2 : ∀ u : Grown wc, _ := fun u => u.cell cZ
      refine wp_region_calm (by kernel_rfl) (by kernel_rfl) ?_
      repeat (go_big_quiet_step ((first | (go_at_call 16; with_reducible exact calm_of (has_b t y bb q0 _ (h2.below (Grown.below _)) gt (by omega) HBB.out)) | (go_at_call 22; with_reducible exact calm_of_same (often_any a0 n0 c0 x0 y _ (SOH.out.below (Grown.below _)))) | (go_at_call 18; with_reducible exact calm_of (len_set v q2 _ (hv2.below (Grown.below _)))) | (go_at_call 18; with_reducible exact calm_of (len_set t q0 _ (h2.below (Grown.below _)))))))
      refine wpQuiet_nil ?_
      intro wd hw'
      have bc : Below wc.heap.size wc wd := by obtain ⟨u, rfl⟩ := hw'; exact u.below
      clear hw' calm0 calm1 calm2
      replace X2 := blk_below X2 bc
      replace Y2 := blk_below Y2 bc
      replace Z := blk_below Z bc
      replace h2 := h2.below bc
      replace hv2 := hv2.below bc
      replace B2 := below_then B2 bc
      clear cX cZ g2 bc ez hof
      have cZ := (blk Z).1 0
      obtain ⟨Y0, Y1, Yl⟩ := blk Y2
      have cY := Y0 0
      have fY := Y1 0
      clear Y0 Y1
      go_wp2_with fail
      go_roundw
      case rel => exact ⟨k + 1, v, q2, by omega, by go_num, E1, zv, hv2.keep (.setCell Y2 (by decide)), h2.keep (.setCell Y2 (by decide)), blk_far X2 h01, blk_set Y2, B2.setCell (p := ⟨B1, 0, none⟩) hw1 _⟩
      case measure => simp [intOf]; omega
    · have cX := (blk X').1 0
      have cY := (blk Y').1 0
      have Xl := (blk X').2.2
      have Yl := (blk Y').2.2
      go_wp2_with fail
      go_region_held3 (fun w' => w'.cell? ⟨B1, 0, none⟩ = some (.pointer q) ∧ w'.cell? ⟨B0, 0, none⟩ = some (.pointer q0)) (go_keep) (first
        | (have _t := bwp2; go_at_call 17; refine (same_yes _ _ _ _ _ _ _ _ _ (by first | exact (sl2.below hbp2) | exact (sl2.below hbp2).drew) (by first | exact sl3 | exact sl3.drew) HE.out).mono ?_; rintro e wp3 ⟨rfl, hbp3⟩; have bwp3 := below_then bwp2 hbp3; have sp3_0 := (bwp3.cell (p := ⟨B1, 0, none⟩) Yl).trans cY; have sp3_1 := (bwp3.cell (p := ⟨B0, 0, none⟩) Xl).trans cX)
        | (have _t := bwp1; go_at_call 13; refine (ints_sl t q0 _ (by first | exact h0.below bwp1 | exact (h0.below bwp1).drew) (by omega)).mono ?_; rintro e wp2 ⟨a3, m3, c3, rfl, sl3, hbp2⟩; have bwp2 := below_then bwp1 hbp2; have sp2_0 := (bwp2.cell (p := ⟨B1, 0, none⟩) Yl).trans cY; have sp2_1 := (bwp2.cell (p := ⟨B0, 0, none⟩) Xl).trans cX)
        | (go_at_call 13; refine (ints_sl u q _ (by first | exact hu | exact hu.drew | exact hu.drewN _ | exact (hu.drewN _).drew | exact (hu.drewN _).drewN _ | exact ((hu.drewN _).drewN _).drew) (by omega)).mono ?_; rintro e wp1 ⟨a2, m2, c2, rfl, sl2, hbp1⟩; have bwp1 : Below wr.heap.size wr wp1 := (by first | exact hbp1 | exact below_of_drewN hbp1 | exact below_of_drew hbp1 | exact below_of_drewN (below_of_drew hbp1) | exact below_of_drewN (below_of_drewN hbp1) | exact below_of_drewN (below_of_drewN (below_of_drew hbp1))); have sp1_0 := (bwp1.cell (p := ⟨B1, 0, none⟩) Yl).trans cY; have sp1_1 := (bwp1.cell (p := ⟨B0, 0, none⟩) Xl).trans cX))
      have Y3 := blk_below Y' bwp3
      have hu3 := hu.below bwp3
      have B3 := below_then B' bwp3
      clear cX cY Xl Yl bwp1 bwp2 bwp3 hbp1 hbp2 hbp3 sl2 sl3
      have cY := (blk Y3).1 0
      go_wp2_with fail
      refine (shape_any u q _ hu3 (by omega)).mono ?_
      rintro e w8 ⟨a8, c8, rfl, N8, b8⟩
      have B8 := below_then B3 b8
      go_wp2_with fail
      refine (once_any a0 n0 c0 x0 _ (S0.out.below B8) (by omega)).mono ?_
      rintro e w9 ⟨v9, m9, rfl, o9, hm9, b9⟩
      obtain ⟨a9, c9, rfl, s9⟩ := Sl.of_own o9
      have O9 := Lib.hid o9
      have B9 := below_then B8 b9
      have N9 := N8.below b9
      have s9' : Sl w9 a9 m9 c9 u.toL := by rw [HE.out, ONEH.out]; exact s9
      clear N8 o9 s9 b8 b9 cY
      go_wp2_with fail
      refine (shaped_yes mrk u a8 a9 _ c8 _ c9 _ N9 s9' (by omega)).mono ?_
      rintro e w10 ⟨rfl, b10⟩
      go_wp2_with fail
      go_ret
      exact ⟨rfl, below_then B9 b10⟩
end Go.Proofs.Ytdhknhhahdjeeaa
