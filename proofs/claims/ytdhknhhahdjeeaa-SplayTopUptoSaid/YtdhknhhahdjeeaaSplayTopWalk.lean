/-
  The walk of the law SplayTop. Conditions: the arguments hold together at most 1048576 values.
-/
import Derived.Test.YtdhknhhahdjeeaaSplayFact
import Derived.Test.YtdhknhhahdjeeaaSplayShape
import Derived.Test.YtdhknhhahdjeeaaCalm
import Derived.Test.YtdhknhhahdjeeaaOnce
import Derived.Test.YtdhknhhahdjeeaaShaped
namespace Go.Proofs.Ytdhknhhahdjeeaa
open Go.RowKit Go.Deep Go.BigFrame
open Go.Proofs.Ytdhknhhahdjeeaa.ST
open Go.Proofs.Ytdhknhhahdjeeaa.SPL

theorem top_key {v : ST} {W : World} {av : Option Addr} {cv : Nat} {k : Int} (hk : isTop v k = true) (hN : Nl W av v.size cv (shapeL mrk v 0)) : ∃ b off, av = some ⟨b, off, none⟩ ∧ W.cell? ⟨b, off, none⟩ = some (.int .i64 k) := by
  cases v with
  | nil => cases hk
  | node c4 v4 l4 r4 =>
    obtain ⟨b, off, e, hb, hc⟩ := hN.hat (by simp only [size]; omega)
    have hat := shape_at0 mrk (.node c4 v4 l4 r4)
    obtain ⟨g0, _⟩ := hc 0 _ hat.1
    have e4 : v4 = k := by simpa [isTop] using hk
    subst e4
    exact ⟨b, off, e, g0⟩

set_option linter.unusedVariables false
set_option maxHeartbeats 4000000 in
set_option maxRecDepth 100000 in
theorem SplayTop_walk (a0 : Option Addr) (n0 c0 : Nat) (x0 : List Int) (x y : Int) (w : World)
    (s0 : Sl w a0 n0 c0 x0) (i0 : ∀ n ∈ x0, I64 n) (i1 : I64 x) (i2 : I64 y) (hn : n0 ≤ 1048576) :
    Calls Try.prog 4 #[.slice a0 n0 c0, .int .i64 x, .int .i64 y] w fun e w' => e = .returned (.bool true) ∧ Below w.heap.size w w' := by
  have S0 := Lib.hid s0
  obtain ⟨t, ht⟩ : ∃ t, ofL x0 = t := ⟨_, rfl⟩
  have gt : Fit t := ht ▸ ofL_good x0
  have z0 : t.size ≤ n0 := by rw [← ht, ← s0.hlen]; exact ofL_size x0
  have OF : ∀ W, Below w.heap.size w W → Calls Try.prog 12 #[.slice a0 n0 c0] W fun e w' => ∃ q, e = .returned (.agg #[.pointer q]) ∧ In w' q t ∧ Below W.heap.size W w' := fun W hW => by
    have := of_any a0 n0 c0 x0 W (s0.below hW) (by omega)
    rwa [ht] at this
  have OFH := Lib.hid OF
  obtain ⟨bb, hbb⟩ : ∃ bb, decide (x ∈ t.toL) = bb := ⟨_, rfl⟩
  have htop := up_has gt.bst x
  rw [hbb] at htop
  have FI := fun p W => find_set t x p W
  rw [htop] at FI
  have e1 := up_toL t x
  have e2 := up_size t x
  obtain ⟨u, hu⟩ : ∃ u, up t x = u := ⟨_, rfl⟩
  rw [hu] at htop e1 e2 FI
  have gu : Fit u := hu ▸ up_bst gt x
  have zu : u.size ≤ n0 := by omega
  clear e2
  have FIH := Lib.hid FI
  have E1 := Lib.hid e1
  have HBB := Lib.hid hbb
  have HT := Lib.hid htop
  clear s0 i0 i1 i2 OF ht e1 hbb htop FI hu
  go_enter Try.func4, Try.ntmps4
  go_wp2_with fail
  refine (fact_any _).mono ?_
  rintro e w1 ⟨rfl, b1⟩
  go_wp2_with fail
  refine (OFH.out _ b1).mono ?_
  rintro e w2 ⟨q, rfl, h, b2⟩
  replace b1 := below_then b1 b2
  clear b2
  go_wp2_with fail
  obtain ⟨B0, hB0⟩ : ∃ k, w2.heap.size = k := ⟨_, rfl⟩
  have X : (w2.alloc (.cells #[.pointer q] 26)).heap[B0]? = some (.cells #[.pointer q] 26) := by rw [← hB0]; exact heap_alloc_new _ _
  have B := b1.alloc b1.size (.cells #[.pointer q] 26)
  replace h := h.alloc (.cells #[.pointer q] 26)
  rw [hB0]
  clear hB0 b1
  refine (FIH.out q _ h (by omega)).mono ?_
  rintro e w3 ⟨q1, rfl, hu, b3⟩
  replace X := blk_below X b3
  replace h := h.below b3
  replace B := below_then B b3
  clear b3
  have cX := (blk X).1 0
  have Xl := (blk X).2.2
  have hne : ¬ B0 = w3.heap.size := by omega
  go_wp2_with fail
  obtain ⟨B1, hB1⟩ : ∃ k, w3.heap.size = k := ⟨_, rfl⟩
  obtain ⟨W, hW⟩ : ∃ W, w3.alloc (.cells #[.pointer q1] 26) = W := ⟨_, rfl⟩
  have bW : Below w3.heap.size w3 W := by rw [← hW]; exact (Below.refl _ _).alloc (Nat.le_refl _) _
  have Y : W.heap[B1]? = some (.cells #[.pointer q1] 26) := by rw [← hW, ← hB1]; exact heap_alloc_new _ _
  replace X := blk_below X bW
  replace h := h.below bW
  replace hu := hu.below bW
  replace B := below_then B bW
  rw [hW, hB1]
  clear hW hB1 bW cX Xl hne
  have cX := (blk X).1 0
  have Xl := (blk X).2.2
  have cY := (blk Y).1 0
  have Yl := (blk Y).2.2
  go_region_held3 (fun w' => w'.cell? ⟨B1, 0, none⟩ = some (.pointer q1) ∧ w'.cell? ⟨B0, 0, none⟩ = some (.pointer q)) (go_keep) (first
    | (have _t := bw2; go_at_call 17; refine (same_yes _ _ _ _ _ _ _ _ _ (by first | exact (sl2.below hb2) | exact (sl2.below hb2).drew) (by first | exact sl3 | exact sl3.drew) E1.out).mono ?_; rintro e w3 ⟨rfl, hb3⟩; have bw3 := below_then bw2 hb3; have s3_0 := (bw3.cell (p := ⟨B1, 0, none⟩) Yl).trans cY; have s3_1 := (bw3.cell (p := ⟨B0, 0, none⟩) Xl).trans cX)
    | (have _t := bw1; go_at_call 13; refine (ints_sl t q _ (by first | exact h.below bw1 | exact (h.below bw1).drew) (by omega)).mono ?_; rintro e w2 ⟨a3, m3, c3, rfl, sl3, hb2⟩; have bw2 := below_then bw1 hb2; have s2_0 := (bw2.cell (p := ⟨B1, 0, none⟩) Yl).trans cY; have s2_1 := (bw2.cell (p := ⟨B0, 0, none⟩) Xl).trans cX)
    | (go_at_call 13; refine (ints_sl u q1 _ (by first | exact hu | exact hu.drew | exact hu.drewN _ | exact (hu.drewN _).drew | exact (hu.drewN _).drewN _ | exact ((hu.drewN _).drewN _).drew) (by omega)).mono ?_; rintro e w1 ⟨a2, m2, c2, rfl, sl2, hb1⟩; have bw1 : Below W.heap.size W w1 := (by first | exact hb1 | exact below_of_drewN hb1 | exact below_of_drew hb1 | exact below_of_drewN (below_of_drew hb1) | exact below_of_drewN (below_of_drewN hb1) | exact below_of_drewN (below_of_drewN (below_of_drew hb1))); have s1_0 := (bw1.cell (p := ⟨B1, 0, none⟩) Yl).trans cY; have s1_1 := (bw1.cell (p := ⟨B0, 0, none⟩) Xl).trans cX))
  replace X := blk_below X bw3
  replace Y := blk_below Y bw3
  replace h := h.below bw3
  replace hu := hu.below bw3
  replace B := below_then B bw3
  clear cX cY Xl Yl bw1 bw2 bw3 hb1 hb2 hb3 sl2 sl3
  have cX := (blk X).1 0
  have cY := (blk Y).1 0
  go_wp2_with fail
  refine (shape_any u q1 _ hu (by omega)).mono ?_
  rintro e wS ⟨a, c, rfl, N, bS⟩
  replace X := blk_below X bS
  replace Y := blk_below Y bS
  replace h := h.below bS
  replace hu := hu.below bS
  replace B := below_then B bS
  clear cX cY bS
  have cX := (blk X).1 0
  have NH := Lib.hid N
  have AT := Lib.hid (shape_at0 mrk u)
  have nm := N.hmax
  have nc := N.hcap
  unfold maxLen at nm
  clear N
  have dbb : (bb != bb) = false := by simp
  go_wp2_with fail
  refine (has_b t x bb q _ h gt (by omega) HBB.out).mono ?_
  rintro e w5 ⟨rfl, b5⟩
  replace X := blk_below X b5
  replace Y := blk_below Y b5
  replace h := h.below b5
  replace hu := hu.below b5
  replace B := below_then B b5
  have N5 := NH.out.below b5
  have NH5 := Lib.hid N5
  clear cX b5
  have cX := (blk X).1 0
  have PT := Lib.hid (put_top u y)
  have z3 := put_size u y
  have PUH := Lib.hid (fun p W hi hs => put_set u y p W hi hs)
  have gp : 0 < (put u y).size := by
    have := PT.out
    cases hp : put u y with
    | nil => rw [hp] at this; cases this
    | node c4 v4 l4 r4 => simp only [size]; omega
  have PU0 := Lib.hid (show ∃ P, put u y = P from ⟨_, rfl⟩)
  clear N5 dbb
  cases bb
  all_goals
    first
      | (have hz : 0 < u.size := by
           have := HT.out
           cases u with
           | nil => cases this
           | node c4 v4 l4 r4 => simp only [size]; omega
         obtain ⟨bk, offk, rfl, gk⟩ := top_key HT.out NH5.out
         have hz1 : ((u.size : Int) == 0) = false := by simp; omega
         have hz2 : decide (u.size = 0) = false := by simp; omega
         have hz3 : (0 : Int) < (u.size : Int) := by omega
         have hz4 : (x != x) = false := by simp)
      | skip
    go_wp2_with fail
    refine (ints_sl t q _ h (by omega)).mono ?_
    rintro e w6 ⟨a6, m6, c6, rfl, s6, b6⟩
    replace Y := blk_below Y b6
    replace hu := hu.below b6
    replace B := below_then B b6
    have N6 := NH5.out.below b6
    have s6' : Sl w6 a6 m6 c6 u.toL := by rw [E1.out]; exact s6
    go_wp2_with fail
    refine (shaped_yes mrk u _ a6 _ _ _ c6 _ N6 s6' (by omega)).mono ?_
    rintro e w7 ⟨rfl, b7⟩
    replace Y := blk_below Y b7
    replace hu := hu.below b7
    replace B := below_then B b7
    have cY := (blk Y).1 0
    clear N6 s6 s6' cX b6 b7
    go_wp2_with fail
    refine (PUH.out q1 _ hu (by omega)).mono ?_
    rintro e w8 ⟨q8, rfl, h8, b8⟩
    obtain ⟨P, hP⟩ := PU0.out
    have PT2 := PT.out
    rw [hP] at h8 gp z3 PT2
    have PTH := Lib.hid PT2
    clear hP PT2
    go_wp2_with fail
    refine (shape_any P q8 _ h8 (by omega)).mono ?_
    rintro e w9 ⟨a9, c9, rfl, N9, b9⟩
    have nm9 := N9.hmax
    have nc9 := N9.hcap
    unfold maxLen at nm9
    obtain ⟨bp, offp, rfl, gq⟩ := top_key PTH.out N9
    replace B := below_then B (below_then b8 b9)
    have hp3 : (0 : Int) < (P.size : Int) := by omega
    have hp4 : (y == y) = true := by simp
    clear N9 b8 b9
    go_wp2_with fail
    go_ret
    exact ⟨by simp, B⟩
end Go.Proofs.Ytdhknhhahdjeeaa
