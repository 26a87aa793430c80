/-
  The walk of the law WbtSplits. Conditions: the list has at most 2^44 - 512 numbers (the row's own reach).
-/
import Derived.Test.YtchglmgbnmdffaaWbtFact
import Derived.Test.YtchglmgbnmdffaaWbtJoin
namespace Go.Proofs.Ytchglmgbnmdffaa
open Go.RowKit Go.Deep Go.BigFrame
open Go.Proofs.Ytchglmgbnmdffaa.ST
open Go.Proofs.Ytchglmgbnmdffaa.WBT

theorem low_lt {l : List Int} {x y i : Int} {c : Bool} (h : ∀ z ∈ l, z < x) (e : atL l i = (y, c)) : c = true → y < x := by
  intro hc
  subst hc
  unfold atL at e
  split at e
  · rename_i hi
    have hk : i.toNat < l.length := by omega
    rw [List.getElem?_eq_getElem hk] at e
    have e1 : l[i.toNat] = y := by simpa using e
    exact e1 ▸ h _ (List.getElem_mem hk)
  · cases e
theorem high_gt {l : List Int} {x y i : Int} {c : Bool} (h : ∀ z ∈ l, x < z) (e : atL l i = (y, c)) : c = true → x < y := by
  intro hc
  subst hc
  unfold atL at e
  split at e
  · rename_i hi
    have hk : i.toNat < l.length := by omega
    rw [List.getElem?_eq_getElem hk] at e
    have e1 : l[i.toNat] = y := by simpa using e
    exact e1 ▸ h _ (List.getElem_mem hk)
  · cases e

set_option linter.unusedVariables false
set_option maxHeartbeats 8000000 in
set_option maxRecDepth 100000 in
theorem WbtSplits_walk (a0 : Option Addr) (n0 c0 : Nat) (x0 : List Int) (x : Int) (w : World)
    (s0 : Sl w a0 n0 c0 x0) (i0 : ∀ n ∈ x0, I64 n) (e0 : n0 ≤ 17592186043904) (i1 : I64 x) :
    Calls Try.prog 6 #[.slice a0 n0 c0, .int .i64 x] w fun e w' => e = .returned (.bool true) ∧ Below w.heap.size w w' := by
  have S0 := Lib.hid s0
  obtain ⟨t, ht⟩ : ∃ t, ofL x0 = t := ⟨_, rfl⟩
  have gt : Fit t := ht ▸ ofL_good x0
  have zt : t.size ≤ n0 := by rw [← ht, ← s0.hlen]; exact ofL_size x0
  have mt : ∀ y, y ∈ t.toL ↔ y ∈ x0 := ht ▸ ofL_mem x0
  have OF0 : ∀ W, Below w.heap.size w W → Calls Try.prog 15 #[.slice a0 n0 c0] W fun e w' => ∃ q, e = .returned (.agg #[.pointer q]) ∧ In w' q t ∧ Below W.heap.size W w' := fun W hW => by
    have := of_any a0 n0 c0 x0 W (s0.below hW) (by omega)
    rwa [ht] at this
  have OH0 := Lib.hid OF0
  have Mt := Lib.hid mt
  clear OF0 s0 i0 ht mt
  obtain ⟨p1, p2, p3, p4, p5⟩ := split_spec t x gt.bst
  obtain ⟨q1, q2⟩ := split_wb t x gt.2
  have hz := split_size t x
  have SP := fun p W h => split_set t x p W h (by omega)
  obtain ⟨a, ha⟩ : ∃ a, (split t x).1 = a := ⟨_, rfl⟩
  obtain ⟨hb, hhb⟩ : ∃ a, (split t x).2.1 = a := ⟨_, rfl⟩
  obtain ⟨b, hbb⟩ : ∃ a, (split t x).2.2 = a := ⟨_, rfl⟩
  rw [ha, hbb] at hz
  rw [ha, hhb, hbb] at SP
  rw [ha] at p1 p3 q1
  rw [hbb] at p2 p4 q2
  rw [hhb] at p5
  obtain ⟨j1, j2⟩ := join_spec p1 p2
  have j3 := join_wb q1 q2
  have j4 := join_size a b
  have JO := fun p q W h h' => join_set a b p q W h h' (by omega)
  obtain ⟨J, hJ⟩ : ∃ J, join a b = J := ⟨_, rfl⟩
  rw [hJ] at j1 j2 j3 j4 JO
  have gJ : Fit J := ⟨j1, j3⟩
  have E1 : hb = true → (put J x).toL = t.toL := fun e => srise_unique (put_good gJ x).bst gt.bst fun z => by
    have hx : x ∈ t.toL := of_decide_eq_true (p5.symm.trans e)
    rw [put_mem gJ, j2, p3, p4]
    constructor
    · rintro (rfl | k | k)
      · exact hx
      · exact k.1
      · exact k.1
    · intro k
      rcases Int.lt_trichotomy z x with g | g | g
      · exact .inr (.inl ⟨k, g⟩)
      · exact .inl g
      · exact .inr (.inr ⟨k, g⟩)
  have E2 : hb = false → J.toL = t.toL := fun e => srise_unique gJ.bst gt.bst fun z => by
    have hx : x ∉ t.toL := of_decide_eq_false (p5.symm.trans e)
    rw [j2, p3, p4]
    constructor
    · rintro (k | k)
      · exact k.1
      · exact k.1
    · intro k
      rcases Int.lt_trichotomy z x with g | g | g
      · exact .inl ⟨k, g⟩
      · exact absurd (g ▸ k) hx
      · exact .inr ⟨k, g⟩
  obtain ⟨⟨y, lo⟩, hy⟩ : ∃ z, atL a.toL ((a.size : Int) - 1) = z := ⟨_, rfl⟩
  obtain ⟨⟨z, hi_⟩, hz2⟩ : ∃ z, atL b.toL 0 = z := ⟨_, rfl⟩
  have r1 := low_lt (fun u hu => ((p3 u).1 hu).2) hy
  have r2 := high_gt (fun u hu => ((p4 u).1 hu).2) hz2
  have A1 := fun p W h => at_any a ((a.size : Int) - 1) y lo p W h (by omega) hy
  have A2 := fun p W h => at_any b 0 z hi_ p W h (by omega) hz2
  have LS := fun p W h => len_set a p W h
  have HA := fun p W h => has_b t x hb p W h gt (by omega) p5.symm
  have PU := fun p W h => put_set J x p W h (by omega)
  have pz := put_size J x
  have IN := fun p W h => ints_sl t p W h (by omega)
  have bza : a.size ≤ 17592186044416 := by omega
  have SPH := Lib.hid SP
  have JOH := Lib.hid JO
  have E1H := Lib.hid E1
  have E2H := Lib.hid E2
  have R1 := Lib.hid r1
  have R2 := Lib.hid r2
  have A1H := Lib.hid A1
  have A2H := Lib.hid A2
  have LSH := Lib.hid LS
  have HAH := Lib.hid HA
  have PUH := Lib.hid PU
  have ew : IntKind.i64.wrap ((a.size : Int) - 1) = (a.size : Int) - 1 := IntWalk.i64_in _ (by omega)
  have EW := Lib.hid ew
  clear SP JO E1 E2 r1 r2 A1 A2 LS HA PU hy hz2 hJ ha hhb hbb p1 p2 p3 p4 p5 q1 q2 j1 j2 j3 i1 ew
  go_enter Try.func6, Try.ntmps6
  go_wp2_with fail
  refine (fact_any _).mono ?_
  rintro e w1 ⟨rfl, b1⟩
  go_wp2_with fail
  refine (OH0.out _ b1).mono ?_
  rintro e w2 ⟨q, rfl, h, b2⟩
  have B := below_then b1 b2
  clear b1 b2
  go_wp2_with fail
  refine (SPH.out q _ (h.alloc _)).mono ?_
  rintro e w3 ⟨ql, qr, rfl, hl, hr, b3⟩
  obtain ⟨b3, X⟩ := hold1 b3 ⟨rfl, rfl, rfl, rfl⟩
  replace h := h.below b3
  replace B := below_then B b3
  clear b3
  obtain ⟨B0, hB0⟩ : ∃ k, w2.heap.size = k := ⟨_, rfl⟩
  rw [hB0] at X ⊢
  clear hB0
  go_wp2_with fail
  obtain ⟨B1, hn_B1⟩ : ∃ k, w3.heap.size = k := ⟨_, rfl⟩
  obtain ⟨B2, hn_B2⟩ : ∃ k, w3.heap.size + 1 = k := ⟨_, rfl⟩
  obtain ⟨W1, hW_⟩ : ∃ W, (w3.alloc (.cells #[.pointer ql] 26)).alloc (.cells #[.pointer qr] 26) = W := ⟨_, rfl⟩
  have bW_ : Below w3.heap.size w3 W1 := by rw [← hW_]; exact (((Below.refl _ _).alloc (Nat.le_refl _) _).alloc (by simp; try omega) _)
  have XB1 : W1.heap[B1]? = some (.cells #[.pointer ql] 26) := by
    rw [← hW_, ← hn_B1]
    refine (Below.heap_alloc _ _ _ (by simp; try omega)).trans ?_
    exact heap_alloc_new _ _
  have XB2 : W1.heap[B2]? = some (.cells #[.pointer qr] 26) := by
    rw [← hW_, ← hn_B2]
    have := heap_alloc_new (w3.alloc (.cells #[.pointer ql] 26)) (.cells #[.pointer qr] 26)
    rwa [World.size_alloc] at this
  have LB1 : w3.heap.size ≤ B1 := by omega
  have LB2 : w3.heap.size ≤ B2 := by omega
  replace h := h.below bW_
  replace hl := hl.below bW_
  replace hr := hr.below bW_
  replace X := blk_below X bW_
  replace B := below_then B bW_
  rw [hW_]
  first | rw [hn_B2] | skip
  first | rw [hn_B1] | skip
  clear hW_ bW_ hn_B1 hn_B2
  refine (JOH.out ql qr _ hl hr).mono ?_
  rintro e w4 ⟨qj, rfl, hj, b4⟩
  replace h := h.below b4
  replace hl := hl.below b4
  replace hr := hr.below b4
  replace X := blk_below X b4
  replace XB1 := blk_below XB1 b4
  replace XB2 := blk_below XB2 b4
  replace B := below_then B b4
  clear b4
  cases hb
  case' false =>
    go_wp2_with fail
    have l0 := (blk X).2.2
    have l1 := (blk XB1).2.2
    have l2 := (blk XB2).2.2
    obtain ⟨B3, hn_B3⟩ : ∃ k, w4.heap.size = k := ⟨_, rfl⟩
    obtain ⟨W3, hW_⟩ : ∃ W, w4.alloc (.cells #[.pointer qj] 26) = W := ⟨_, rfl⟩
    have bW_ : Below w4.heap.size w4 W3 := by rw [← hW_]; exact ((Below.refl _ _).alloc (Nat.le_refl _) _)
    have XB3 : W3.heap[B3]? = some (.cells #[.pointer qj] 26) := by
      rw [← hW_, ← hn_B3]
      exact heap_alloc_new _ _
    have LB3 : w4.heap.size ≤ B3 := by omega
    replace h := h.below bW_
    replace hl := hl.below bW_
    replace hr := hr.below bW_
    replace hj := hj.below bW_
    replace X := blk_below X bW_
    replace XB1 := blk_below XB1 bW_
    replace XB2 := blk_below XB2 bW_
    replace B := below_then B bW_
    rw [hW_]
    first | rw [hn_B3] | skip
    clear hW_ bW_ hn_B3
    obtain ⟨T, TE, hT, zT⟩ : ∃ T : ST, T.toL = t.toL ∧ In W3 qj T ∧ T.size ≤ n0 + 1 := ⟨J, E2H.out (by first | rfl | trivial), hj, by omega⟩
    obtain ⟨qT, hqT⟩ : ∃ qT, qj = qT := ⟨_, rfl⟩
    rw [hqT] at hT XB3 ⊢
    clear hqT hj l0 l1 l2
  case' true =>
    go_wp2_with fail
    have hw4 := B.size
    have l0 := (blk X).2.2
    have l1 := (blk XB1).2.2
    have l2 := (blk XB2).2.2
    obtain ⟨B3, hn_B3⟩ : ∃ k, w4.heap.size = k := ⟨_, rfl⟩
    obtain ⟨W2, hW_⟩ : ∃ W, w4.alloc (.cells #[.pointer qj] 26) = W := ⟨_, rfl⟩
    have bW_ : Below w4.heap.size w4 W2 := by rw [← hW_]; exact ((Below.refl _ _).alloc (Nat.le_refl _) _)
    have XB3 : W2.heap[B3]? = some (.cells #[.pointer qj] 26) := by
      rw [← hW_, ← hn_B3]
      exact heap_alloc_new _ _
    have LB3 : w4.heap.size ≤ B3 := by omega
    replace h := h.below bW_
    replace hl := hl.below bW_
    replace hr := hr.below bW_
    replace hj := hj.below bW_
    replace X := blk_below X bW_
    replace XB1 := blk_below XB1 bW_
    replace XB2 := blk_below XB2 bW_
    replace B := below_then B bW_
    rw [hW_]
    first | rw [hn_B3] | skip
    clear hW_ bW_ hn_B3
    refine (PUH.out qj _ hj).mono ?_
    rintro e w5 ⟨qT, rfl, hT, b5⟩
    replace h := h.below b5
    replace hl := hl.below b5
    replace hr := hr.below b5
    replace X := blk_below X b5
    replace XB1 := blk_below XB1 b5
    replace XB2 := blk_below XB2 b5
    replace XB3 := blk_below XB3 b5
    replace B := below_then B b5
    clear b5
    have n0' : B0 ≠ B3 := by omega
    have n1' : B1 ≠ B3 := by omega
    have n2' : B2 ≠ B3 := by omega
    have cc3 := (blk XB3).1 0
    have cf3 := (blk XB3).2.1 0
    have hwB : w.heap.size ≤ B3 := by omega
    go_wp2_with fail
    obtain ⟨W3, hW3⟩ : ∃ W, w5.setCell ⟨B3, 0, none⟩ (.pointer qT) = W := ⟨_, rfl⟩
    have B' : Below w.heap.size w W3 := by rw [← hW3]; exact B.setCell (p := ⟨B3, 0, none⟩) hwB _
    have kk : KeepT 61 w5 W3 := by rw [← hW3]; exact .setCell XB3 (by decide)
    replace h := h.keep kk
    replace hl := hl.keep kk
    replace hr := hr.keep kk
    replace hT := hT.keep kk
    have X' : W3.heap[B0]? = some (.cells #[.pointer q] 26) := by rw [← hW3]; exact blk_far X n0'
    have XB1' : W3.heap[B1]? = some (.cells #[.pointer ql] 26) := by rw [← hW3]; exact blk_far XB1 n1'
    have XB2' : W3.heap[B2]? = some (.cells #[.pointer qr] 26) := by rw [← hW3]; exact blk_far XB2 n2'
    have XB3' : W3.heap[B3]? = some (.cells #[.pointer qT] 26) := by rw [← hW3]; exact blk_set XB3
    rw [hW3]
    clear X XB1 XB2 XB3 B kk hW3 n0' n1' n2' cc3 cf3 l0 l1 l2
    have X := X'
    have XB1 := XB1'
    have XB2 := XB2'
    have XB3 := XB3'
    have B := B'
    clear X' XB1' XB2' XB3' B'
    obtain ⟨T, hTT, TE, zT⟩ : ∃ T : ST, put J x = T ∧ T.toL = t.toL ∧ T.size ≤ n0 + 1 := ⟨_, rfl, E1H.out (by first | rfl | trivial), by omega⟩
    rw [hTT] at hT
    clear hTT
  all_goals
    have TEH := Lib.hid TE
    have ew := EW.out
    clear TE
    have cX := (blk X).1 0
    have Xl := (blk X).2.2
    have c3 := (blk XB3).1 0
    have l3 := (blk XB3).2.2
    go_region_held3 (fun w' => w'.cell? ⟨B3, 0, none⟩ = some (.pointer qT) ∧ w'.cell? ⟨B0, 0, none⟩ = some (.pointer q)) (go_keep) (first
      | (have _t := bwp2; go_at_call 23; refine (same_yes _ _ _ _ _ _ _ _ _ (by first | exact (sl2.below hbp2) | exact (sl2.below hbp2).drew) (by first | exact sl3 | exact sl3.drew) TEH.out).mono ?_; rintro e wp3 ⟨rfl, hbp3⟩; have bwp3 := below_then bwp2 hbp3; have sp3_0 := (bwp3.cell (p := ⟨B3, 0, none⟩) l3).trans c3; have sp3_1 := (bwp3.cell (p := ⟨B0, 0, none⟩) Xl).trans cX)
      | (have _t := bwp1; go_at_call 20; refine (ints_sl t q _ (by first | exact h.below bwp1 | exact (h.below bwp1).drew) (by omega)).mono ?_; rintro e wp2 ⟨a3, m3, c3_, rfl, sl3, hbp2⟩; have bwp2 := below_then bwp1 hbp2; have sp2_0 := (bwp2.cell (p := ⟨B3, 0, none⟩) l3).trans c3; have sp2_1 := (bwp2.cell (p := ⟨B0, 0, none⟩) Xl).trans cX)
      | (go_at_call 20; refine (ints_sl T qT _ (by first | exact hT | exact hT.drew | exact hT.drewN _ | exact (hT.drewN _).drew | exact (hT.drewN _).drewN _ | exact ((hT.drewN _).drewN _).drew) (by omega)).mono ?_; rintro e wp1 ⟨a2, m2, c2, rfl, sl2, hbp1⟩; have bwp1 : Below W3.heap.size W3 wp1 := (by first | exact hbp1 | exact below_of_drewN hbp1 | exact below_of_drew hbp1 | exact below_of_drewN (below_of_drew hbp1) | exact below_of_drewN (below_of_drewN hbp1) | exact below_of_drewN (below_of_drewN (below_of_drew hbp1))); have sp1_0 := (bwp1.cell (p := ⟨B3, 0, none⟩) l3).trans c3; have sp1_1 := (bwp1.cell (p := ⟨B0, 0, none⟩) Xl).trans cX))
    replace X := blk_below X bwp3
    replace XB1 := blk_below XB1 bwp3
    replace XB2 := blk_below XB2 bwp3
    replace h := h.below bwp3
    replace hl := hl.below bwp3
    replace hr := hr.below bwp3
    replace B := below_then B bwp3
    clear cX Xl c3 l3 bwp1 bwp2 bwp3 hbp1 hbp2 hbp3 sl2 sl3 hT XB3
    have c1 := (blk XB1).1 0
    have HLH := Lib.hid hl
    go_wp2_with fail
    have calm0 : ∀ u : Grown wp3, _ := fun u => u.cell c1
    refine wp_region_calm (by kernel_rfl) (by kernel_rfl) ?_
    repeat (go_big_quiet_step ((first | (go_at_call 19; with_reducible exact calm_of (LSH.out ql _ (HLH.out.below (Grown.below _)))) | (go_at_call 16; with_reducible exact calm_of (A1H.out ql _ (HLH.out.below (Grown.below _)))))))
    refine wpQuiet_nil ?_
    intro w6 hw'
    have bc : Below wp3.heap.size wp3 w6 := by obtain ⟨u, rfl⟩ := hw'; exact u.below
    clear hw' calm0
    replace X := blk_below X bc
    replace XB2 := blk_below XB2 bc
    replace h := h.below bc
    replace hr := hr.below bc
    replace B := below_then B bc
    clear c1 bc ew
    have c2 := (blk XB2).1 0
    go_wp2_with fail
    refine (A2H.out qr _ hr).mono ?_
    rintro e w7 ⟨rfl, b7⟩
    replace h := h.below b7
    replace X := blk_below X b7
    replace B := below_then B b7
    clear b7
    clear c2
    have cX := (blk X).1 0
    go_wp2_with fail
    refine (HAH.out q _ h).mono ?_
    rintro e w8 ⟨rfl, b8⟩
    replace B := below_then B b8
    clear b8
    cases lo
    all_goals
      cases hi_
      all_goals
        first
          | (have y1 : decide (y < x) = true := by rw [decide_eq_true_eq]; have := R1.out (by first | rfl | trivial); omega)
          | skip
        first
          | (have y2 : decide (x < z) = true := by rw [decide_eq_true_eq]; have := R2.out (by first | rfl | trivial); omega)
          | skip
        go_wp2_with fail
        go_ret
        exact ⟨by simp, B⟩
end Go.Proofs.Ytchglmgbnmdffaa
