/-
  The walk of the law RedActs. Conditions: the list has at most 2^44 - 512 numbers (the row's own reach).
-/
import Derived.Test.YtchglmgbnmdffaaRedFact
import Derived.Test.YtchglmgbnmdffaaCalm
namespace Go.Proofs.Ytchglmgbnmdffaa
open Go.RowKit Go.Deep Go.BigFrame
open Go.Proofs.Ytchglmgbnmdffaa.ST
open Go.Proofs.Ytchglmgbnmdffaa.RED

set_option linter.unusedVariables false
set_option maxHeartbeats 4000000 in
set_option maxRecDepth 100000 in
theorem RedActs_walk (a0 : Option Addr) (n0 c0 : Nat) (x0 : List Int) (x y : Int) (w : World)
    (s0 : Sl w a0 n0 c0 x0) (i0 : ∀ n ∈ x0, I64 n) (e0 : n0 ≤ 17592186043904) (i1 : I64 x) (i2 : I64 y) :
    Calls Try.prog 10 #[.slice a0 n0 c0, .int .i64 x, .int .i64 y] w fun e w' => e = .returned (.bool true) ∧ Below w.heap.size w w' := by
  obtain ⟨t, ht⟩ : ∃ t, ofL x0 = t := ⟨_, rfl⟩
  have gt : Fit t := ht ▸ ofL_good x0
  have z0 : t.size ≤ n0 := by rw [← ht, ← s0.hlen]; exact ofL_size x0
  have OF : ∀ W, Below w.heap.size w W → Calls Try.prog 38 #[.slice a0 n0 c0] W fun e w' => ∃ q, e = .returned (.agg #[.pointer q]) ∧ In w' q t ∧ Below W.heap.size W w' := fun W hW => by
    have := of_any a0 n0 c0 x0 W (s0.below hW) (by omega)
    rwa [ht] at this
  have OFH := Lib.hid OF
  obtain ⟨ta, hta⟩ : ∃ ta, put t x = ta := ⟨_, rfl⟩
  obtain ⟨tb, htb⟩ : ∃ tb, drop t x = tb := ⟨_, rfl⟩
  have ga : Fit ta := hta ▸ put_good gt x
  have gb : Fit tb := htb ▸ drop_good gt x
  have ma : ∀ z, z ∈ ta.toL ↔ z = x ∨ z ∈ t.toL := hta ▸ put_mem gt x
  have mb : ∀ z, z ∈ tb.toL ↔ z ≠ x ∧ z ∈ t.toL := htb ▸ drop_mem gt x
  have za : ta.size ≤ n0 + 1 := by rw [← hta]; have := put_size t x; omega
  have zb : tb.size ≤ n0 := by rw [← htb]; have := drop_size t x; omega
  have fax : decide (x ∈ ta.toL) = true := by rw [decide_eq_true_iff, ma]; exact .inl rfl
  have fbx : decide (x ∈ tb.toL) = false := by rw [decide_eq_false_iff_not, mb]; exact fun h => h.1 rfl
  have one : (put ta x).toL = ta.toL := srise_unique (put_good ga x).bst ga.bst fun z => by rw [put_mem ga, ma]; exact ⟨fun h => h.elim .inl id, fun h => .inr h⟩
  have two : (drop tb x).toL = tb.toL := srise_unique (drop_good gb x).bst gb.bst fun z => by rw [drop_mem gb, mb]; exact ⟨fun h => h.2, fun h => ⟨h.1, h⟩⟩
  have three : (drop ta x).toL = tb.toL := srise_unique (drop_good ga x).bst gb.bst fun z => by
    rw [drop_mem ga, ma, mb]
    constructor
    · rintro ⟨h1, h2 | h2⟩
      · exact absurd h2 h1
      · exact ⟨h1, h2⟩
    · rintro ⟨h1, h2⟩; exact ⟨h1, .inr h2⟩
  have len : ta.size = tb.size + 1 := by
    rw [← toL_length, ← toL_length]
    refine one_more (x := x) ga.bst gb.bst (fun z => ?_) (by rw [mb]; exact fun h => h.1 rfl)
    rw [ma, mb]
    by_cases hz : z = x <;> simp [hz]
  obtain ⟨by_, hby⟩ : ∃ b : Bool, decide (y ∈ t.toL) = b := ⟨_, rfl⟩
  have fay : x ≠ y → decide (y ∈ ta.toL) = by_ := fun hne => by rw [← hby]; exact dec_iff (by rw [ma]; exact ⟨fun h => h.elim (fun e => absurd e.symm hne) id, .inr⟩)
  have fby : x ≠ y → decide (y ∈ tb.toL) = by_ := fun hne => by rw [← hby]; exact dec_iff (by rw [mb]; exact ⟨fun h => h.2, fun h => ⟨fun e => hne e.symm, h⟩⟩)
  have PA : ∀ (p : Option Addr) (W : World), In W p t → Calls Try.prog 40 #[.agg #[.pointer p], .int .i64 x] W fun e w' => ∃ q, e = .returned (.agg #[.pointer q]) ∧ In w' q ta ∧ Below W.heap.size W w' := fun p W h => hta ▸ put_set t x p W h (by omega)
  have PB : ∀ (p : Option Addr) (W : World), In W p t → Calls Try.prog 41 #[.agg #[.pointer p], .int .i64 x] W fun e w' => ∃ q, e = .returned (.agg #[.pointer q]) ∧ In w' q tb ∧ Below W.heap.size W w' := fun p W h => htb ▸ drop_set t x p W h (by omega)
  have zaa := put_size ta x
  have zbb := drop_size tb x
  have zab := drop_size ta x
  have H := Lib.hid (And.intro ma (And.intro mb (And.intro one (And.intro two (And.intro three (And.intro len (And.intro hby (And.intro fay (And.intro fby (And.intro fax fbx))))))))))
  have PAH := Lib.hid PA
  have PBH := Lib.hid PB
  clear hta htb ma mb one two three len hby fay fby fax fbx PA PB OF ht s0 i0
  go_enter Try.func10, Try.ntmps10
  go_wp2_with fail
  refine (fact_any _).mono ?_
  rintro e w1 ⟨rfl, B1⟩
  go_wp2_with fail
  refine (OFH.out _ B1).mono ?_
  rintro e w2 ⟨q, rfl, h, b2⟩
  replace B1 := below_then B1 b2
  clear b2
  go_wp2_with fail
  refine (ints_sl t q _ (h.alloc _) (by omega)).mono ?_
  rintro e w3 ⟨ah, mh, ch, rfl, sh, b3⟩
  obtain ⟨b3, X⟩ := hold1 b3 ⟨rfl, rfl, rfl, rfl⟩
  replace h := h.below b3
  replace B1 := below_then B1 b3
  have hlt1 := Nat.lt_of_lt_of_le (Nat.lt_succ_self w2.heap.size) (Nat.le_refl _)
  clear b3
  have cx := (blk X).1 0
  go_wp2_with fail
  refine (PAH.out q _ h).mono ?_
  rintro e w4 ⟨qa, rfl, ha, b4⟩
  replace X := blk_below X b4
  replace h := h.below b4
  replace sh := sh.below b4
  replace B1 := below_then B1 b4
  clear b4 cx
  have cx := (blk X).1 0
  have xlt := (blk X).2.2
  have hne1 : ¬ w2.heap.size = w4.heap.size := by omega
  go_wp2_with fail
  refine (PBH.out q _ (h.alloc _)).mono ?_
  rintro e w5 ⟨qb, rfl, hb, b5⟩
  obtain ⟨b5, Y⟩ := hold1 b5 ⟨rfl, rfl, rfl, rfl⟩
  replace X := blk_below X b5
  replace h := h.below b5
  replace ha := ha.below b5
  replace sh := sh.below b5
  replace B1 := below_then B1 b5
  clear b5 cx hlt1
  go_wp2_with fail
  obtain ⟨W, hW⟩ : ∃ W, w5.alloc (.cells #[.pointer qb] 57) = W := ⟨_, rfl⟩
  have bW : Below w5.heap.size w5 W := by rw [← hW]; exact (Below.refl _ _).alloc (Nat.le_refl _) _
  have Z : W.heap[w5.heap.size]? = some (.cells #[.pointer qb] 57) := by rw [← hW]; exact heap_alloc_new _ _
  replace X := blk_below X bW
  replace Y := blk_below Y bW
  replace h := h.below bW
  replace ha := ha.below bW
  replace hb := hb.below bW
  replace sh := sh.below bW
  replace B1 := below_then B1 bW
  rw [hW]
  obtain ⟨ks, hks⟩ : ∃ k, w2.heap.size = k := ⟨_, rfl⟩
  obtain ⟨ka, hka⟩ : ∃ k, w4.heap.size = k := ⟨_, rfl⟩
  obtain ⟨kb, hkb⟩ : ∃ k, w5.heap.size = k := ⟨_, rfl⟩
  rw [hks] at X ⊢
  rw [hka] at Y ⊢
  rw [hkb] at Z ⊢
  clear hW bW hks hka hkb xlt hne1
  obtain ⟨X0, _, Xl⟩ := blk X
  obtain ⟨Y0, _, Yl⟩ := blk Y
  obtain ⟨Z0, _, Zl⟩ := blk Z
  have cX := X0 0
  have cY := Y0 0
  have cZ := Z0 0
  clear X0 Y0 Z0
  go_cut [60] (fun v wx => v = .bool false ∧ In wx q t ∧ In wx qa ta ∧ In wx qb tb ∧ Sl wx ah mh ch t.toL ∧ wx.heap[ks]? = some (.cells #[.pointer q] 57) ∧ wx.heap[ka]? = some (.cells #[.pointer qa] 57) ∧ wx.heap[kb]? = some (.cells #[.pointer qb] 57) ∧ Below w.heap.size w wx)
  case first =>
    by_cases hxy : x = y
    · have d1 : (x != y) = false := by simp [hxy]
      have HX := Lib.hid hxy
      clear hxy
      have calm0 : ∀ u : Grown W, _ := fun u => u.cell cY
      have calm1 : ∀ u : Grown W, _ := fun u => u.cell cZ
      refine wp_region_calm (by kernel_rfl) (by kernel_rfl) ?_
      repeat (go_big_quiet_step ((first | (go_at_call 42; with_reducible exact calm_of (has_b ta x true qa _ (ha.below (Grown.below _)) ga (by omega) H.out.2.2.2.2.2.2.2.2.2.1)) | (go_at_call 42; with_reducible exact calm_of (has_b tb x false qb _ (hb.below (Grown.below _)) gb (by omega) H.out.2.2.2.2.2.2.2.2.2.2)))))
      refine wpQuiet_nil ?_
      intro wc hw'
      have bc : Below W.heap.size W wc := by obtain ⟨u, rfl⟩ := hw'; exact u.below
      clear hw' calm0 calm1
      go_wp2_with fail
      go_meet
      exact ⟨rfl, h.below bc, ha.below bc, hb.below bc, sh.below bc, blk_below X bc, blk_below Y bc, blk_below Z bc, below_then B1 bc⟩
    · have d1 : (x != y) = true := by simp [hxy]
      have HX := Lib.hid hxy
      clear hxy
      have calm0 : ∀ u : Grown W, _ := fun u => u.cell cX
      have calm1 : ∀ u : Grown W, _ := fun u => u.cell cY
      have calm2 : ∀ u : Grown W, _ := fun u => u.cell cZ
      refine wp_region_calm (by kernel_rfl) (by kernel_rfl) ?_
      repeat (go_big_quiet_step ((first | (go_at_call 42; with_reducible exact calm_of (has_b ta x true qa _ (ha.below (Grown.below _)) ga (by omega) H.out.2.2.2.2.2.2.2.2.2.1)) | (go_at_call 42; with_reducible exact calm_of (has_b tb x false qb _ (hb.below (Grown.below _)) gb (by omega) H.out.2.2.2.2.2.2.2.2.2.2)) | (go_at_call 42; with_reducible exact calm_of (has_b ta y by_ qa _ (ha.below (Grown.below _)) ga (by omega) (H.out.2.2.2.2.2.2.2.1 HX.out))) | (go_at_call 42; with_reducible exact calm_of (has_b tb y by_ qb _ (hb.below (Grown.below _)) gb (by omega) (H.out.2.2.2.2.2.2.2.2.1 HX.out))) | (go_at_call 42; with_reducible exact calm_of (has_b t y by_ q _ (h.below (Grown.below _)) gt (by omega) H.out.2.2.2.2.2.2.1)))))
      refine wpQuiet_nil ?_
      intro wc hw'
      have bc : Below W.heap.size W wc := by obtain ⟨u, rfl⟩ := hw'; exact u.below
      clear hw' calm0 calm1 calm2
      go_wp2_with fail
      go_meet
      exact ⟨rfl, h.below bc, ha.below bc, hb.below bc, sh.below bc, blk_below X bc, blk_below Y bc, blk_below Z bc, below_then B1 bc⟩
  case rest =>
  obtain ⟨rfl, h', ha', hb', sh', X', Y', Z', B'⟩ := hcut
  clear h ha hb sh X Y Z cX cY cZ Xl Yl Zl B1
  obtain ⟨X0, _, Xl⟩ := blk X'
  obtain ⟨Y0, _, Yl⟩ := blk Y'
  obtain ⟨Z0, _, Zl⟩ := blk Z'
  have cX := X0 0
  have cY := Y0 0
  have cZ := Z0 0
  clear X0 Y0 Z0
  go_wp2_with fail
  go_region_held3 (fun w' => w'.cell? ⟨ka, 0, none⟩ = some (.pointer qa)) (go_keep) (first
    | (have _t := bwa3; go_at_call 23; refine (same_yes _ _ _ _ _ _ _ _ _ (by first | exact (sl2.below hba3) | exact (sl2.below hba3).drew) (by first | exact sl3 | exact sl3.drew) H.out.2.2.1).mono ?_; rintro e wa4 ⟨rfl, hba4⟩; have bwa4 := below_then bwa3 hba4; have sa4_0 := (bwa4.cell (p := ⟨ka, 0, none⟩) Yl).trans cY)
    | (have _t := bwa2; go_at_call 39; refine (ints_sl ta qa _ (by first | exact ha'.below bwa2 | exact (ha'.below bwa2).drew) (by omega)).mono ?_; rintro e wa3 ⟨a3, m3, c3, rfl, sl3, hba3⟩; have bwa3 := below_then bwa2 hba3; have sa3_0 := (bwa3.cell (p := ⟨ka, 0, none⟩) Yl).trans cY)
    | (have _t := bwa1; go_at_call 39; refine (ints_sl (put ta x) p1 _ (by first | exact hi1 | exact hi1.drew) (by omega)).mono ?_; rintro e wa2 ⟨a2, m2, c2, rfl, sl2, hba2⟩; have bwa2 := below_then bwa1 hba2; have sa2_0 := (bwa2.cell (p := ⟨ka, 0, none⟩) Yl).trans cY)
    | (go_at_call 40; refine (put_set ta x qa _ (by first | exact ha' | exact ha'.drew | exact ha'.drewN _ | exact (ha'.drewN _).drew | exact (ha'.drewN _).drewN _ | exact ((ha'.drewN _).drewN _).drew) (by omega)).mono ?_; rintro e wa1 ⟨p1, rfl, hi1, hba1⟩; have bwa1 : Below wc.heap.size wc wa1 := (by first | exact hba1 | exact below_of_drewN hba1 | exact below_of_drew hba1 | exact below_of_drewN (below_of_drew hba1) | exact below_of_drewN (below_of_drewN hba1) | exact below_of_drewN (below_of_drewN (below_of_drew hba1))); have sa1_0 := (bwa1.cell (p := ⟨ka, 0, none⟩) Yl).trans cY))
  replace h' := h'.below bwa4
  replace ha' := ha'.below bwa4
  replace hb' := hb'.below bwa4
  replace sh' := sh'.below bwa4
  replace X' := blk_below X' bwa4
  replace Y' := blk_below Y' bwa4
  replace Z' := blk_below Z' bwa4
  replace B' := below_then B' bwa4
  clear cX cY cZ Xl Yl Zl bwa1 hba1 bwa2 hba2 bwa3 hba3 bwa4 hba4 sa1_0 sa2_0 sa3_0 sa4_0
  clear hi1 sl2 sl3
  obtain ⟨X0, _, Xl⟩ := blk X'
  obtain ⟨Y0, _, Yl⟩ := blk Y'
  obtain ⟨Z0, _, Zl⟩ := blk Z'
  have cX := X0 0
  have cY := Y0 0
  have cZ := Z0 0
  clear X0 Y0 Z0
  go_wp2_with fail
  go_region_held3 (fun w' => w'.cell? ⟨kb, 0, none⟩ = some (.pointer qb)) (go_keep) (first
    | (have _t := bwb3; go_at_call 23; refine (same_yes _ _ _ _ _ _ _ _ _ (by first | exact (sl2.below hbb3) | exact (sl2.below hbb3).drew) (by first | exact sl3 | exact sl3.drew) H.out.2.2.2.1).mono ?_; rintro e wb4 ⟨rfl, hbb4⟩; have bwb4 := below_then bwb3 hbb4; have sb4_0 := (bwb4.cell (p := ⟨kb, 0, none⟩) Zl).trans cZ)
    | (have _t := bwb2; go_at_call 39; refine (ints_sl tb qb _ (by first | exact hb'.below bwb2 | exact (hb'.below bwb2).drew) (by omega)).mono ?_; rintro e wb3 ⟨a3, m3, c3, rfl, sl3, hbb3⟩; have bwb3 := below_then bwb2 hbb3; have sb3_0 := (bwb3.cell (p := ⟨kb, 0, none⟩) Zl).trans cZ)
    | (have _t := bwb1; go_at_call 39; refine (ints_sl (drop tb x) p1 _ (by first | exact hi1 | exact hi1.drew) (by omega)).mono ?_; rintro e wb2 ⟨a2, m2, c2, rfl, sl2, hbb2⟩; have bwb2 := below_then bwb1 hbb2; have sb2_0 := (bwb2.cell (p := ⟨kb, 0, none⟩) Zl).trans cZ)
    | (go_at_call 41; refine (drop_set tb x qb _ (by first | exact hb' | exact hb'.drew | exact hb'.drewN _ | exact (hb'.drewN _).drew | exact (hb'.drewN _).drewN _ | exact ((hb'.drewN _).drewN _).drew) (by omega)).mono ?_; rintro e wb1 ⟨p1, rfl, hi1, hbb1⟩; have bwb1 : Below wa4.heap.size wa4 wb1 := (by first | exact hbb1 | exact below_of_drewN hbb1 | exact below_of_drew hbb1 | exact below_of_drewN (below_of_drew hbb1) | exact below_of_drewN (below_of_drewN hbb1) | exact below_of_drewN (below_of_drewN (below_of_drew hbb1))); have sb1_0 := (bwb1.cell (p := ⟨kb, 0, none⟩) Zl).trans cZ))
  replace h' := h'.below bwb4
  replace ha' := ha'.below bwb4
  replace hb' := hb'.below bwb4
  replace sh' := sh'.below bwb4
  replace X' := blk_below X' bwb4
  replace Y' := blk_below Y' bwb4
  replace Z' := blk_below Z' bwb4
  replace B' := below_then B' bwb4
  clear cX cY cZ Xl Yl Zl bwb1 hbb1 bwb2 hbb2 bwb3 hbb3 bwb4 hbb4 sb1_0 sb2_0 sb3_0 sb4_0
  clear hi1 sl2 sl3
  obtain ⟨X0, _, Xl⟩ := blk X'
  obtain ⟨Y0, _, Yl⟩ := blk Y'
  obtain ⟨Z0, _, Zl⟩ := blk Z'
  have cX := X0 0
  have cY := Y0 0
  have cZ := Z0 0
  clear X0 Y0 Z0
  go_wp2_with fail
  go_region_held3 (fun w' => w'.cell? ⟨ka, 0, none⟩ = some (.pointer qa) ∧ w'.cell? ⟨kb, 0, none⟩ = some (.pointer qb)) (go_keep) (first
    | (have _t := bwc3; go_at_call 23; refine (same_yes _ _ _ _ _ _ _ _ _ (by first | exact (sl2.below hbc3) | exact (sl2.below hbc3).drew) (by first | exact sl3 | exact sl3.drew) H.out.2.2.2.2.1).mono ?_; rintro e wc4 ⟨rfl, hbc4⟩; have bwc4 := below_then bwc3 hbc4; have sc4_0 := (bwc4.cell (p := ⟨ka, 0, none⟩) Yl).trans cY; have sc4_1 := (bwc4.cell (p := ⟨kb, 0, none⟩) Zl).trans cZ)
    | (have _t := bwc2; go_at_call 39; refine (ints_sl tb qb _ (by first | exact hb'.below bwc2 | exact (hb'.below bwc2).drew) (by omega)).mono ?_; rintro e wc3 ⟨a3, m3, c3, rfl, sl3, hbc3⟩; have bwc3 := below_then bwc2 hbc3; have sc3_0 := (bwc3.cell (p := ⟨ka, 0, none⟩) Yl).trans cY; have sc3_1 := (bwc3.cell (p := ⟨kb, 0, none⟩) Zl).trans cZ)
    | (have _t := bwc1; go_at_call 39; refine (ints_sl (drop ta x) p1 _ (by first | exact hi1 | exact hi1.drew) (by omega)).mono ?_; rintro e wc2 ⟨a2, m2, c2, rfl, sl2, hbc2⟩; have bwc2 := below_then bwc1 hbc2; have sc2_0 := (bwc2.cell (p := ⟨ka, 0, none⟩) Yl).trans cY; have sc2_1 := (bwc2.cell (p := ⟨kb, 0, none⟩) Zl).trans cZ)
    | (go_at_call 41; refine (drop_set ta x qa _ (by first | exact ha' | exact ha'.drew | exact ha'.drewN _ | exact (ha'.drewN _).drew | exact (ha'.drewN _).drewN _ | exact ((ha'.drewN _).drewN _).drew) (by omega)).mono ?_; rintro e wc1 ⟨p1, rfl, hi1, hbc1⟩; have bwc1 : Below wb4.heap.size wb4 wc1 := (by first | exact hbc1 | exact below_of_drewN hbc1 | exact below_of_drew hbc1 | exact below_of_drewN (below_of_drew hbc1) | exact below_of_drewN (below_of_drewN hbc1) | exact below_of_drewN (below_of_drewN (below_of_drew hbc1))); have sc1_0 := (bwc1.cell (p := ⟨ka, 0, none⟩) Yl).trans cY; have sc1_1 := (bwc1.cell (p := ⟨kb, 0, none⟩) Zl).trans cZ))
  replace h' := h'.below bwc4
  replace ha' := ha'.below bwc4
  replace hb' := hb'.below bwc4
  replace sh' := sh'.below bwc4
  replace X' := blk_below X' bwc4
  replace Y' := blk_below Y' bwc4
  replace Z' := blk_below Z' bwc4
  replace B' := below_then B' bwc4
  clear cX cY cZ Xl Yl Zl bwc1 hbc1 bwc2 hbc2 bwc3 hbc3 bwc4 hbc4 sc1_0 sc1_1 sc2_0 sc2_1 sc3_0 sc3_1 sc4_0 sc4_1
  clear hi1 sl2 sl3
  obtain ⟨X0, _, Xl⟩ := blk X'
  obtain ⟨Y0, _, Yl⟩ := blk Y'
  obtain ⟨Z0, _, Zl⟩ := blk Z'
  have cX := X0 0
  have cY := Y0 0
  have cZ := Z0 0
  clear X0 Y0 Z0
  go_wp2_with fail
  refine (ints_sl t q _ h' (by omega)).mono ?_
  rintro e wd ⟨ad, md, cd, rfl, sd, bd⟩
  replace h' := h'.below bd
  replace ha' := ha'.below bd
  replace hb' := hb'.below bd
  replace sh' := sh'.below bd
  replace X' := blk_below X' bd
  replace Y' := blk_below Y' bd
  replace Z' := blk_below Z' bd
  replace B' := below_then B' bd
  clear bd cX cY cZ Xl Yl Zl
  obtain ⟨X0, _, Xl⟩ := blk X'
  obtain ⟨Y0, _, Yl⟩ := blk Y'
  obtain ⟨Z0, _, Zl⟩ := blk Z'
  have cX := X0 0
  have cY := Y0 0
  have cZ := Z0 0
  clear X0 Y0 Z0
  go_wp2_with fail
  refine (same_yes _ _ _ _ _ _ _ _ _ sd sh' rfl).mono ?_
  rintro e we ⟨rfl, bd⟩
  replace h' := h'.below bd
  replace ha' := ha'.below bd
  replace hb' := hb'.below bd
  replace sh' := sh'.below bd
  replace X' := blk_below X' bd
  replace Y' := blk_below Y' bd
  replace Z' := blk_below Z' bd
  replace B' := below_then B' bd
  clear bd cX cY cZ Xl Yl Zl sd
  have L1 : ((ta.size : Int) == (tb.size : Int) + 1) = true := by have := H.out.2.2.2.2.2.1; simp; omega
  obtain ⟨X0, _, Xl⟩ := blk X'
  obtain ⟨Y0, _, Yl⟩ := blk Y'
  obtain ⟨Z0, _, Zl⟩ := blk Z'
  have cX := X0 0
  have cY := Y0 0
  have cZ := Z0 0
  clear X0 Y0 Z0
  go_wp2_with fail
  have calm0 : ∀ u : Grown we, _ := fun u => u.cell cY
  have calm1 : ∀ u : Grown we, _ := fun u => u.cell cZ
  refine wp_region_calm (by kernel_rfl) (by kernel_rfl) ?_
  repeat (go_big_quiet_step ((first | (go_at_call 43; with_reducible exact calm_of (len_set ta qa _ (ha'.below (Grown.below _)))) | (go_at_call 43; with_reducible exact calm_of (len_set tb qb _ (hb'.below (Grown.below _)))))))
  refine wpQuiet_nil ?_
  intro wc hw'
  have bc : Below we.heap.size we wc := by obtain ⟨u, rfl⟩ := hw'; exact u.below
  clear hw' calm0 calm1
  go_wp2_with fail
  go_ret
  exact ⟨rfl, below_then B' bc⟩
end Go.Proofs.Ytchglmgbnmdffaa
