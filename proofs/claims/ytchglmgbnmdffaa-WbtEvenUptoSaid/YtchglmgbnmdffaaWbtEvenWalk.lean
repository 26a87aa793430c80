/-
  The walk of the law WbtEven. Conditions: the arguments hold together at most 1048576 values.
-/
import Derived.Test.YtchglmgbnmdffaaWbtFact
import Derived.Test.YtchglmgbnmdffaaWbtJoin
import Derived.Test.YtchglmgbnmdffaaWbtShape
import Derived.Test.YtchglmgbnmdffaaMany
import Derived.Test.YtchglmgbnmdffaaShaped
import Derived.Test.YtchglmgbnmdffaaCalm
namespace Go.Proofs.Ytchglmgbnmdffaa
open Go.RowKit Go.Deep Go.BigFrame
open Go.Proofs.Ytchglmgbnmdffaa.ST
open Go.Proofs.Ytchglmgbnmdffaa.WBT

theorem wb_sub {s t : ST} (h : Sub s t) (k : Wb t) : Wb s := sub_all (P := Wb) (fun _ _ _ _ h => ⟨h.1, h.2.1⟩) h k

set_option linter.unusedVariables false
set_option maxHeartbeats 8000000 in
set_option maxRecDepth 100000 in
theorem WbtEven_walk (a0 : Option Addr) (n0 c0 : Nat) (x0 : List Int) (a1 : Option Addr) (n1 c1 : Nat) (x1 : List Int) (x way : Int) (w : World)
    (s0 : Sl w a0 n0 c0 x0) (i0 : ∀ n ∈ x0, I64 n) (s1 : Sl w a1 n1 c1 x1) (i1 : ∀ n ∈ x1, I64 n) (i2 : I64 x) (i3 : I64 way) (hn : n0 + n1 ≤ 1048576) :
    Calls Try.prog 9 #[.slice a0 n0 c0, .slice a1 n1 c1, .int .i64 x, .int .i64 way] w fun e w' => e = .returned (.bool true) ∧ Below w.heap.size w w' := by
  have S0 := Lib.hid s0
  obtain ⟨ta, hta⟩ : ∃ t, ofL x0 = t := ⟨_, rfl⟩
  have gta : Fit ta := hta ▸ ofL_good x0
  have zta : ta.size ≤ n0 := by rw [← hta, ← s0.hlen]; exact ofL_size x0
  have mta : ∀ y, y ∈ ta.toL ↔ y ∈ x0 := hta ▸ ofL_mem x0
  have OF0 : ∀ W, Below w.heap.size w W → Calls Try.prog 15 #[.slice a0 n0 c0] W fun e w' => ∃ q, e = .returned (.agg #[.pointer q]) ∧ In w' q ta ∧ Below W.heap.size W w' := fun W hW => by
    have := of_any a0 n0 c0 x0 W (s0.below hW) (by omega)
    rwa [hta] at this
  have OH0 := Lib.hid OF0
  have Mta := Lib.hid mta
  clear OF0 s0 i0 hta mta
  have S1 := Lib.hid s1
  obtain ⟨tb, htb⟩ : ∃ t, ofL x1 = t := ⟨_, rfl⟩
  have gtb : Fit tb := htb ▸ ofL_good x1
  have ztb : tb.size ≤ n1 := by rw [← htb, ← s1.hlen]; exact ofL_size x1
  have mtb : ∀ y, y ∈ tb.toL ↔ y ∈ x1 := htb ▸ ofL_mem x1
  have OF1 : ∀ W, Below w.heap.size w W → Calls Try.prog 15 #[.slice a1 n1 c1] W fun e w' => ∃ q, e = .returned (.agg #[.pointer q]) ∧ In w' q tb ∧ Below W.heap.size W w' := fun W hW => by
    have := of_any a1 n1 c1 x1 W (s1.below hW) (by omega)
    rwa [htb] at this
  have OH1 := Lib.hid OF1
  have Mtb := Lib.hid mtb
  clear OF1 s1 i1 htb mtb
  obtain ⟨p1, p2, _, _, _⟩ := split_spec ta x gta.bst
  obtain ⟨q1, q2⟩ := split_wb ta x gta.2
  have hz := split_size ta x
  have SP := fun p W h => split_set ta x p W h (by omega)
  obtain ⟨sa, ha⟩ : ∃ a, (split ta x).1 = a := ⟨_, rfl⟩
  obtain ⟨hb, hhb⟩ : ∃ a, (split ta x).2.1 = a := ⟨_, rfl⟩
  obtain ⟨sb, hbb⟩ : ∃ a, (split ta x).2.2 = a := ⟨_, rfl⟩
  rw [ha, hbb] at hz
  rw [ha, hhb, hbb] at SP
  rw [ha] at p1 q1
  rw [hbb] at p2 q2
  have gsa : Fit sa := ⟨p1, q1⟩
  have gsb : Fit sb := ⟨p2, q2⟩
  have SPH := Lib.hid SP
  clear SP ha hhb hbb p1 p2 q1 q2 i2 i3
  obtain ⟨uu, huu⟩ : ∃ r, union ta tb = r := ⟨_, rfl⟩
  have zuu : uu.size ≤ ta.size + tb.size := huu ▸ union_size ta tb
  have guu : Fit uu := huu ▸ ⟨(union_spec ta tb gta.bst gtb.bst).1, union_wb ta tb gta.2 gtb.2⟩
  have muu : ∀ y, y ∈ uu.toL ↔ y ∈ ta.toL ∨ y ∈ tb.toL := huu ▸ (union_spec ta tb gta.bst gtb.bst).2
  have CCuu : ∀ (p q : Option Addr) (W : World), In W p ta → In W q tb → Calls Try.prog 33 #[.agg #[.pointer p], .agg #[.pointer q]] W fun e w' => ∃ r, e = .returned (.agg #[.pointer r]) ∧ In w' r uu ∧ Below W.heap.size W w' :=
    fun p q W h h' => huu ▸ union_set ta tb p q W h h' (by omega)
  have Cuu := Lib.hid CCuu
  clear CCuu huu
  clear muu
  obtain ⟨ii, hii⟩ : ∃ r, sifted ta tb true = r := ⟨_, rfl⟩
  have zii : ii.size ≤ ta.size := hii ▸ sifted_size ta true tb
  have gii : Fit ii := hii ▸ ⟨(sifted_spec ta true tb gta.bst gtb.bst).1, sifted_wb ta true tb gta.2 gtb.2⟩
  have mii : ∀ y, y ∈ ii.toL ↔ y ∈ ta.toL ∧ decide (y ∈ tb.toL) = true := hii ▸ (sifted_spec ta true tb gta.bst gtb.bst).2
  have CCii : ∀ (p q : Option Addr) (W : World), In W p ta → In W q tb → Calls Try.prog 32 #[.agg #[.pointer p], .agg #[.pointer q]] W fun e w' => ∃ r, e = .returned (.agg #[.pointer r]) ∧ In w' r ii ∧ Below W.heap.size W w' :=
    fun p q W h h' => hii ▸ inter_set ta tb p q W h h' (by omega)
  have Cii := Lib.hid CCii
  clear CCii hii
  clear mii
  obtain ⟨dd, hdd⟩ : ∃ r, sifted ta tb false = r := ⟨_, rfl⟩
  have zdd : dd.size ≤ ta.size := hdd ▸ sifted_size ta false tb
  have gdd : Fit dd := hdd ▸ ⟨(sifted_spec ta false tb gta.bst gtb.bst).1, sifted_wb ta false tb gta.2 gtb.2⟩
  have mdd : ∀ y, y ∈ dd.toL ↔ y ∈ ta.toL ∧ decide (y ∈ tb.toL) = false := hdd ▸ (sifted_spec ta false tb gta.bst gtb.bst).2
  have CCdd : ∀ (p q : Option Addr) (W : World), In W p ta → In W q tb → Calls Try.prog 34 #[.agg #[.pointer p], .agg #[.pointer q]] W fun e w' => ∃ r, e = .returned (.agg #[.pointer r]) ∧ In w' r dd ∧ Below W.heap.size W w' :=
    fun p q W h h' => hdd ▸ diff_set ta tb p q W h h' (by omega)
  have Cdd := Lib.hid CCdd
  clear CCdd hdd
  clear mdd
  obtain ⟨jj, hjj⟩ : ∃ r, join sa sb = r := ⟨_, rfl⟩
  have zjj : jj.size ≤ sa.size + sb.size := hjj ▸ join_size sa sb
  have gjj : Fit jj := hjj ▸ ⟨(join_spec gsa.bst gsb.bst).1, join_wb gsa.2 gsb.2⟩
  have mjj : ∀ y, y ∈ jj.toL ↔ y ∈ sa.toL ∨ y ∈ sb.toL := hjj ▸ (join_spec gsa.bst gsb.bst).2
  have CCjj : ∀ (p q : Option Addr) (W : World), In W p sa → In W q sb → Calls Try.prog 31 #[.agg #[.pointer p], .agg #[.pointer q]] W fun e w' => ∃ r, e = .returned (.agg #[.pointer r]) ∧ In w' r jj ∧ Below W.heap.size W w' :=
    fun p q W h h' => hjj ▸ join_set sa sb p q W h h' (by omega)
  have Cjj := Lib.hid CCjj
  clear CCjj hjj
  clear mjj
  obtain ⟨kk, hkk⟩ : ∃ r, join sb tb = r := ⟨_, rfl⟩
  have zkk : kk.size ≤ sb.size + tb.size := hkk ▸ join_size sb tb
  have gkk : Fit kk := hkk ▸ ⟨(join_spec gsb.bst gtb.bst).1, join_wb gsb.2 gtb.2⟩
  have mkk : ∀ y, y ∈ kk.toL ↔ y ∈ sb.toL ∨ y ∈ tb.toL := hkk ▸ (join_spec gsb.bst gtb.bst).2
  have CCkk : ∀ (p q : Option Addr) (W : World), In W p sb → In W q tb → Calls Try.prog 31 #[.agg #[.pointer p], .agg #[.pointer q]] W fun e w' => ∃ r, e = .returned (.agg #[.pointer r]) ∧ In w' r kk ∧ Below W.heap.size W w' :=
    fun p q W h h' => hkk ▸ join_set sb tb p q W h h' (by omega)
  have Ckk := Lib.hid CCkk
  clear CCkk hkk
  clear mkk
  go_enter Try.func9, Try.ntmps9
  go_wp2_with fail
  refine (fact_any _).mono ?_
  rintro e w1 ⟨rfl, b1⟩
  go_wp2_with fail
  refine (OH0.out _ b1).mono ?_
  rintro e w2 ⟨qa, rfl, ha, b2⟩
  replace b1 := below_then b1 b2
  clear b2
  have B := b1
  clear b1
  go_wp2_with fail
  obtain ⟨B0, hn_B0⟩ : ∃ k, w2.heap.size = k := ⟨_, rfl⟩
  obtain ⟨V1, hW_⟩ : ∃ W, w2.alloc (.cells #[.pointer qa] 26) = W := ⟨_, rfl⟩
  have bW_ : Below w2.heap.size w2 V1 := by rw [← hW_]; exact ((Below.refl _ _).alloc (Nat.le_refl _) _)
  have XB0 : V1.heap[B0]? = some (.cells #[.pointer qa] 26) := by
    rw [← hW_, ← hn_B0]
    exact heap_alloc_new _ _
  have LB0 : w2.heap.size ≤ B0 := by omega
  replace ha := ha.below bW_
  replace B := below_then B bW_
  rw [hW_]
  first | rw [hn_B0] | skip
  clear hW_ bW_ hn_B0
  refine (OH1.out _ B).mono ?_
  rintro e w3 ⟨qb, rfl, hb_, b3⟩
  replace ha := ha.below b3
  replace XB0 := blk_below XB0 b3
  replace B := below_then B b3
  clear b3
  have cA := (blk XB0).1 0
  have lA := (blk XB0).2.2
  go_wp2_with fail
  obtain ⟨B1, hn_B1⟩ : ∃ k, w3.heap.size = k := ⟨_, rfl⟩
  obtain ⟨V2, hW_⟩ : ∃ W, w3.alloc (.cells #[.pointer qb] 26) = W := ⟨_, rfl⟩
  have bW_ : Below w3.heap.size w3 V2 := by rw [← hW_]; exact ((Below.refl _ _).alloc (Nat.le_refl _) _)
  have XB1 : V2.heap[B1]? = some (.cells #[.pointer qb] 26) := by
    rw [← hW_, ← hn_B1]
    exact heap_alloc_new _ _
  have LB1 : w3.heap.size ≤ B1 := by omega
  replace ha := ha.below bW_
  replace hb_ := hb_.below bW_
  replace XB0 := blk_below XB0 bW_
  replace B := below_then B bW_
  rw [hW_]
  first | rw [hn_B1] | skip
  clear hW_ bW_ hn_B1
  clear cA lA
  refine (SPH.out qa _ ha).mono ?_
  rintro e w4 ⟨ql, qr, rfl, hl, hr, b4⟩
  replace ha := ha.below b4
  replace hb_ := hb_.below b4
  replace XB0 := blk_below XB0 b4
  replace XB1 := blk_below XB1 b4
  replace B := below_then B b4
  clear b4
  have cA := (blk XB0).1 0
  have lA := (blk XB0).2.2
  have cB := (blk XB1).1 0
  have lB := (blk XB1).2.2
  go_wp2_with fail
  obtain ⟨B2, hn_B2⟩ : ∃ k, w4.heap.size = k := ⟨_, rfl⟩
  obtain ⟨B3, hn_B3⟩ : ∃ k, w4.heap.size + 1 = k := ⟨_, rfl⟩
  obtain ⟨V3, hW_⟩ : ∃ W, (w4.alloc (.cells #[.pointer ql] 26)).alloc (.cells #[.pointer qr] 26) = W := ⟨_, rfl⟩
  have bW_ : Below w4.heap.size w4 V3 := by rw [← hW_]; exact (((Below.refl _ _).alloc (Nat.le_refl _) _).alloc (by simp; try omega) _)
  have XB2 : V3.heap[B2]? = some (.cells #[.pointer ql] 26) := by
    rw [← hW_, ← hn_B2]
    refine (Below.heap_alloc _ _ _ (by simp; try omega)).trans ?_
    exact heap_alloc_new _ _
  have XB3 : V3.heap[B3]? = some (.cells #[.pointer qr] 26) := by
    rw [← hW_, ← hn_B3]
    have := heap_alloc_new (w4.alloc (.cells #[.pointer ql] 26)) (.cells #[.pointer qr] 26)
    rwa [World.size_alloc] at this
  have LB2 : w4.heap.size ≤ B2 := by omega
  have LB3 : w4.heap.size ≤ B3 := by omega
  replace ha := ha.below bW_
  replace hb_ := hb_.below bW_
  replace hl := hl.below bW_
  replace hr := hr.below bW_
  replace XB0 := blk_below XB0 bW_
  replace XB1 := blk_below XB1 bW_
  replace B := below_then B bW_
  rw [hW_]
  first | rw [hn_B3] | skip
  first | rw [hn_B2] | skip
  clear hW_ bW_ hn_B2 hn_B3
  clear cA lA cB lB
  refine (Cuu.out qa qb _ ha hb_).mono ?_
  rintro e w5 ⟨qu, rfl, hu, b5⟩
  replace ha := ha.below b5
  replace hb_ := hb_.below b5
  replace hl := hl.below b5
  replace hr := hr.below b5
  replace XB0 := blk_below XB0 b5
  replace XB1 := blk_below XB1 b5
  replace XB2 := blk_below XB2 b5
  replace XB3 := blk_below XB3 b5
  replace B := below_then B b5
  clear b5
  have fin : ∀ (k : Int), way = k ∨ way ≠ k := fun k => by omega
  clear fin
  by_cases hw : way = 1
  case' pos =>
    have hw5 := B.size
    have l0 := (blk XB0).2.2
    have l1 := (blk XB1).2.2
    have l2 := (blk XB2).2.2
    have l3 := (blk XB3).2.2
    have d1 : (way == 1) = true := by simp [hw]
    have d2 : (way == 2) = false := by subst hw; decide
    have d3 : (way == 3) = false := by subst hw; decide
    have d4 : (way == 4) = false := by subst hw; decide
    have d5 : (way == 5) = false := by subst hw; decide
    clear hw
    have k0 := (blk XB0).1 0
    have k1 := (blk XB1).1 0
    have k2 := (blk XB2).1 0
    have k3 := (blk XB3).1 0
    go_wp2_with fail
    obtain ⟨B4, hn_B4⟩ : ∃ k, w5.heap.size = k := ⟨_, rfl⟩
    obtain ⟨V5, hW_⟩ : ∃ W, w5.alloc (.cells #[.pointer qu] 26) = W := ⟨_, rfl⟩
    have bW_ : Below w5.heap.size w5 V5 := by rw [← hW_]; exact ((Below.refl _ _).alloc (Nat.le_refl _) _)
    have XB4 : V5.heap[B4]? = some (.cells #[.pointer qu] 26) := by
      rw [← hW_, ← hn_B4]
      exact heap_alloc_new _ _
    have LB4 : w5.heap.size ≤ B4 := by omega
    replace ha := ha.below bW_
    replace hb_ := hb_.below bW_
    replace hl := hl.below bW_
    replace hr := hr.below bW_
    replace hu := hu.below bW_
    replace XB0 := blk_below XB0 bW_
    replace XB1 := blk_below XB1 bW_
    replace XB2 := blk_below XB2 bW_
    replace XB3 := blk_below XB3 bW_
    replace B := below_then B bW_
    rw [hW_]
    first | rw [hn_B4] | skip
    clear hW_ bW_ hn_B4
    refine (Cii.out qa qb _ ha hb_).mono ?_
    rintro e w6 ⟨qT, rfl, hT0, b6⟩
    replace XB4 := blk_below XB4 b6
    replace B := below_then B b6
    clear b6
    have c4 := (blk XB4).1 0
    have f4 := (blk XB4).2.1 0
    have hwB : w.heap.size ≤ B4 := by omega
    clear k0 k1 k2 k3
    go_wp2_with fail
    obtain ⟨WF, hWF⟩ : ∃ W, w6.setCell ⟨B4, 0, none⟩ (.pointer qT) = W := ⟨_, rfl⟩
    have BF : Below w.heap.size w WF := by rw [← hWF]; exact B.setCell (p := ⟨B4, 0, none⟩) hwB _
    have XF : WF.heap[B4]? = some (.cells #[.pointer qT] 26) := by rw [← hWF]; exact blk_set XB4
    have hT1 : In WF qT ii := by rw [← hWF]; exact hT0.keep (.setCell XB4 (by decide))
    rw [hWF]
    clear hWF hT0 XB4 B c4 f4 hwB
    obtain ⟨T, gT, zT, hT⟩ : ∃ T : ST, Fit T ∧ T.size ≤ n0 + n1 ∧ In WF qT T := ⟨ii, gii, by omega, hT1⟩
    clear hT1
    clear ha hb_ hl hr hu XB0 XB1 XB2 XB3 l0 l1 l2 l3 hw5
  case' neg =>
    have hw1 := hw
    clear hw
    by_cases hw : way = 2
    case' pos =>
      have hw5 := B.size
      have l0 := (blk XB0).2.2
      have l1 := (blk XB1).2.2
      have l2 := (blk XB2).2.2
      have l3 := (blk XB3).2.2
      have d1 : (way == 1) = false := by subst hw; decide
      have d2 : (way == 2) = true := by simp [hw]
      have d3 : (way == 3) = false := by subst hw; decide
      have d4 : (way == 4) = false := by subst hw; decide
      have d5 : (way == 5) = false := by subst hw; decide
      clear hw
      have k0 := (blk XB0).1 0
      have k1 := (blk XB1).1 0
      have k2 := (blk XB2).1 0
      have k3 := (blk XB3).1 0
      go_wp2_with fail
      obtain ⟨B4, hn_B4⟩ : ∃ k, w5.heap.size = k := ⟨_, rfl⟩
      obtain ⟨V5, hW_⟩ : ∃ W, w5.alloc (.cells #[.pointer qu] 26) = W := ⟨_, rfl⟩
      have bW_ : Below w5.heap.size w5 V5 := by rw [← hW_]; exact ((Below.refl _ _).alloc (Nat.le_refl _) _)
      have XB4 : V5.heap[B4]? = some (.cells #[.pointer qu] 26) := by
        rw [← hW_, ← hn_B4]
        exact heap_alloc_new _ _
      have LB4 : w5.heap.size ≤ B4 := by omega
      replace ha := ha.below bW_
      replace hb_ := hb_.below bW_
      replace hl := hl.below bW_
      replace hr := hr.below bW_
      replace hu := hu.below bW_
      replace XB0 := blk_below XB0 bW_
      replace XB1 := blk_below XB1 bW_
      replace XB2 := blk_below XB2 bW_
      replace XB3 := blk_below XB3 bW_
      replace B := below_then B bW_
      rw [hW_]
      first | rw [hn_B4] | skip
      clear hW_ bW_ hn_B4
      refine (Cdd.out qa qb _ ha hb_).mono ?_
      rintro e w6 ⟨qT, rfl, hT0, b6⟩
      replace XB4 := blk_below XB4 b6
      replace B := below_then B b6
      clear b6
      have c4 := (blk XB4).1 0
      have f4 := (blk XB4).2.1 0
      have hwB : w.heap.size ≤ B4 := by omega
      clear k0 k1 k2 k3
      go_wp2_with fail
      obtain ⟨WF, hWF⟩ : ∃ W, w6.setCell ⟨B4, 0, none⟩ (.pointer qT) = W := ⟨_, rfl⟩
      have BF : Below w.heap.size w WF := by rw [← hWF]; exact B.setCell (p := ⟨B4, 0, none⟩) hwB _
      have XF : WF.heap[B4]? = some (.cells #[.pointer qT] 26) := by rw [← hWF]; exact blk_set XB4
      have hT1 : In WF qT dd := by rw [← hWF]; exact hT0.keep (.setCell XB4 (by decide))
      rw [hWF]
      clear hWF hT0 XB4 B c4 f4 hwB
      obtain ⟨T, gT, zT, hT⟩ : ∃ T : ST, Fit T ∧ T.size ≤ n0 + n1 ∧ In WF qT T := ⟨dd, gdd, by omega, hT1⟩
      clear hT1
      clear ha hb_ hl hr hu XB0 XB1 XB2 XB3 l0 l1 l2 l3 hw5
    case' neg =>
      have hw2 := hw
      clear hw
      by_cases hw : way = 3
      case' pos =>
        have hw5 := B.size
        have l0 := (blk XB0).2.2
        have l1 := (blk XB1).2.2
        have l2 := (blk XB2).2.2
        have l3 := (blk XB3).2.2
        have d1 : (way == 1) = false := by subst hw; decide
        have d2 : (way == 2) = false := by subst hw; decide
        have d3 : (way == 3) = true := by simp [hw]
        have d4 : (way == 4) = false := by subst hw; decide
        have d5 : (way == 5) = false := by subst hw; decide
        clear hw
        have k0 := (blk XB0).1 0
        have k1 := (blk XB1).1 0
        have k2 := (blk XB2).1 0
        have k3 := (blk XB3).1 0
        go_wp2_with fail
        obtain ⟨B4, hn_B4⟩ : ∃ k, w5.heap.size = k := ⟨_, rfl⟩
        obtain ⟨V5, hW_⟩ : ∃ W, w5.alloc (.cells #[.pointer qu] 26) = W := ⟨_, rfl⟩
        have bW_ : Below w5.heap.size w5 V5 := by rw [← hW_]; exact ((Below.refl _ _).alloc (Nat.le_refl _) _)
        have XB4 : V5.heap[B4]? = some (.cells #[.pointer qu] 26) := by
          rw [← hW_, ← hn_B4]
          exact heap_alloc_new _ _
        have LB4 : w5.heap.size ≤ B4 := by omega
        replace ha := ha.below bW_
        replace hb_ := hb_.below bW_
        replace hl := hl.below bW_
        replace hr := hr.below bW_
        replace hu := hu.below bW_
        replace XB0 := blk_below XB0 bW_
        replace XB1 := blk_below XB1 bW_
        replace XB2 := blk_below XB2 bW_
        replace XB3 := blk_below XB3 bW_
        replace B := below_then B bW_
        rw [hW_]
        first | rw [hn_B4] | skip
        clear hW_ bW_ hn_B4
        refine (Cjj.out ql qr _ hl hr).mono ?_
        rintro e w6 ⟨qT, rfl, hT0, b6⟩
        replace XB4 := blk_below XB4 b6
        replace B := below_then B b6
        clear b6
        have c4 := (blk XB4).1 0
        have f4 := (blk XB4).2.1 0
        have hwB : w.heap.size ≤ B4 := by omega
        clear k0 k1 k2 k3
        go_wp2_with fail
        obtain ⟨WF, hWF⟩ : ∃ W, w6.setCell ⟨B4, 0, none⟩ (.pointer qT) = W := ⟨_, rfl⟩
        have BF : Below w.heap.size w WF := by rw [← hWF]; exact B.setCell (p := ⟨B4, 0, none⟩) hwB _
        have XF : WF.heap[B4]? = some (.cells #[.pointer qT] 26) := by rw [← hWF]; exact blk_set XB4
        have hT1 : In WF qT jj := by rw [← hWF]; exact hT0.keep (.setCell XB4 (by decide))
        rw [hWF]
        clear hWF hT0 XB4 B c4 f4 hwB
        obtain ⟨T, gT, zT, hT⟩ : ∃ T : ST, Fit T ∧ T.size ≤ n0 + n1 ∧ In WF qT T := ⟨jj, gjj, by omega, hT1⟩
        clear hT1
        clear ha hb_ hl hr hu XB0 XB1 XB2 XB3 l0 l1 l2 l3 hw5
      case' neg =>
        have hw3 := hw
        clear hw
        by_cases hw : way = 5
        case' pos =>
          have hw5 := B.size
          have l0 := (blk XB0).2.2
          have l1 := (blk XB1).2.2
          have l2 := (blk XB2).2.2
          have l3 := (blk XB3).2.2
          have d1 : (way == 1) = false := by subst hw; decide
          have d2 : (way == 2) = false := by subst hw; decide
          have d3 : (way == 3) = false := by subst hw; decide
          have d4 : (way == 4) = false := by subst hw; decide
          have d5 : (way == 5) = true := by simp [hw]
          clear hw
          have k0 := (blk XB0).1 0
          have k1 := (blk XB1).1 0
          have k2 := (blk XB2).1 0
          have k3 := (blk XB3).1 0
          go_wp2_with fail
          obtain ⟨B4, hn_B4⟩ : ∃ k, w5.heap.size = k := ⟨_, rfl⟩
          obtain ⟨V5, hW_⟩ : ∃ W, w5.alloc (.cells #[.pointer qu] 26) = W := ⟨_, rfl⟩
          have bW_ : Below w5.heap.size w5 V5 := by rw [← hW_]; exact ((Below.refl _ _).alloc (Nat.le_refl _) _)
          have XB4 : V5.heap[B4]? = some (.cells #[.pointer qu] 26) := by
            rw [← hW_, ← hn_B4]
            exact heap_alloc_new _ _
          have LB4 : w5.heap.size ≤ B4 := by omega
          replace ha := ha.below bW_
          replace hb_ := hb_.below bW_
          replace hl := hl.below bW_
          replace hr := hr.below bW_
          replace hu := hu.below bW_
          replace XB0 := blk_below XB0 bW_
          replace XB1 := blk_below XB1 bW_
          replace XB2 := blk_below XB2 bW_
          replace XB3 := blk_below XB3 bW_
          replace B := below_then B bW_
          rw [hW_]
          first | rw [hn_B4] | skip
          clear hW_ bW_ hn_B4
          refine (Ckk.out qr qb _ hr hb_).mono ?_
          rintro e w6 ⟨qT, rfl, hT0, b6⟩
          replace XB4 := blk_below XB4 b6
          replace B := below_then B b6
          clear b6
          have c4 := (blk XB4).1 0
          have f4 := (blk XB4).2.1 0
          have hwB : w.heap.size ≤ B4 := by omega
          clear k0 k1 k2 k3
          go_wp2_with fail
          obtain ⟨WF, hWF⟩ : ∃ W, w6.setCell ⟨B4, 0, none⟩ (.pointer qT) = W := ⟨_, rfl⟩
          have BF : Below w.heap.size w WF := by rw [← hWF]; exact B.setCell (p := ⟨B4, 0, none⟩) hwB _
          have XF : WF.heap[B4]? = some (.cells #[.pointer qT] 26) := by rw [← hWF]; exact blk_set XB4
          have hT1 : In WF qT kk := by rw [← hWF]; exact hT0.keep (.setCell XB4 (by decide))
          rw [hWF]
          clear hWF hT0 XB4 B c4 f4 hwB
          obtain ⟨T, gT, zT, hT⟩ : ∃ T : ST, Fit T ∧ T.size ≤ n0 + n1 ∧ In WF qT T := ⟨kk, gkk, by omega, hT1⟩
          clear hT1
          clear ha hb_ hl hr hu XB0 XB1 XB2 XB3 l0 l1 l2 l3 hw5
        case' neg =>
          have hw5 := hw
          clear hw
          by_cases hw : way = 4
          case' pos =>
            have hw5 := B.size
            have l0 := (blk XB0).2.2
            have l1 := (blk XB1).2.2
            have l2 := (blk XB2).2.2
            have l3 := (blk XB3).2.2
            have d1 : (way == 1) = false := by subst hw; decide
            have d2 : (way == 2) = false := by subst hw; decide
            have d3 : (way == 3) = false := by subst hw; decide
            have d4 : (way == 4) = true := by simp [hw]
            have d5 : (way == 5) = false := by subst hw; decide
            clear hw
            have k0 := (blk XB0).1 0
            have k1 := (blk XB1).1 0
            have k2 := (blk XB2).1 0
            have k3 := (blk XB3).1 0
            have n24 : ¬ B2 = w5.heap.size := by omega
            have n42 : ¬ w5.heap.size = B2 := by omega
            go_wp2_with fail
            obtain ⟨B4, hn_B4⟩ : ∃ k, w5.heap.size = k := ⟨_, rfl⟩
            obtain ⟨WF, hW_⟩ : ∃ W, w5.alloc (.cells #[.pointer ql] 26) = W := ⟨_, rfl⟩
            have bW_ : Below w5.heap.size w5 WF := by rw [← hW_]; exact ((Below.refl _ _).alloc (Nat.le_refl _) _)
            have XB4 : WF.heap[B4]? = some (.cells #[.pointer ql] 26) := by
              rw [← hW_, ← hn_B4]
              exact heap_alloc_new _ _
            have LB4 : w5.heap.size ≤ B4 := by omega
            replace ha := ha.below bW_
            replace hb_ := hb_.below bW_
            replace hl := hl.below bW_
            replace hr := hr.below bW_
            replace hu := hu.below bW_
            replace XB0 := blk_below XB0 bW_
            replace XB1 := blk_below XB1 bW_
            replace XB2 := blk_below XB2 bW_
            replace XB3 := blk_below XB3 bW_
            replace B := below_then B bW_
            rw [hW_]
            first | rw [hn_B4] | skip
            clear hW_ bW_ hn_B4
            obtain ⟨qT, hqT⟩ : ∃ q, ql = q := ⟨_, rfl⟩
            rw [hqT] at hl XB4 ⊢
            clear hqT k0 k1 k2 k3 n24 n42
            have XF := XB4
            have BF := B
            obtain ⟨T, gT, zT, hT⟩ : ∃ T : ST, Fit T ∧ T.size ≤ n0 + n1 ∧ In WF qT T := ⟨sa, gsa, by omega, hl⟩
            clear XB4 B
            clear ha hb_ hl hr hu XB0 XB1 XB2 XB3 l0 l1 l2 l3 hw5
          case' neg =>
            have hw4 := hw
            clear hw
            have hw5 := B.size
            have l0 := (blk XB0).2.2
            have l1 := (blk XB1).2.2
            have l2 := (blk XB2).2.2
            have l3 := (blk XB3).2.2
            have d1 : (way == 1) = false := by simp; omega
            have d2 : (way == 2) = false := by simp; omega
            have d3 : (way == 3) = false := by simp; omega
            have d4 : (way == 4) = false := by simp; omega
            have d5 : (way == 5) = false := by simp; omega
            have k0 := (blk XB0).1 0
            have k1 := (blk XB1).1 0
            have k2 := (blk XB2).1 0
            have k3 := (blk XB3).1 0
            go_wp2_with fail
            obtain ⟨B4, hn_B4⟩ : ∃ k, w5.heap.size = k := ⟨_, rfl⟩
            obtain ⟨WF, hW_⟩ : ∃ W, w5.alloc (.cells #[.pointer qu] 26) = W := ⟨_, rfl⟩
            have bW_ : Below w5.heap.size w5 WF := by rw [← hW_]; exact ((Below.refl _ _).alloc (Nat.le_refl _) _)
            have XB4 : WF.heap[B4]? = some (.cells #[.pointer qu] 26) := by
              rw [← hW_, ← hn_B4]
              exact heap_alloc_new _ _
            have LB4 : w5.heap.size ≤ B4 := by omega
            replace ha := ha.below bW_
            replace hb_ := hb_.below bW_
            replace hl := hl.below bW_
            replace hr := hr.below bW_
            replace hu := hu.below bW_
            replace XB0 := blk_below XB0 bW_
            replace XB1 := blk_below XB1 bW_
            replace XB2 := blk_below XB2 bW_
            replace XB3 := blk_below XB3 bW_
            replace B := below_then B bW_
            rw [hW_]
            first | rw [hn_B4] | skip
            clear hW_ bW_ hn_B4
            obtain ⟨qT, hqT⟩ : ∃ q, qu = q := ⟨_, rfl⟩
            rw [hqT] at hu XB4 ⊢
            clear hqT k0 k1 k2 k3
            have XF := XB4
            have BF := B
            obtain ⟨T, gT, zT, hT⟩ : ∃ T : ST, Fit T ∧ T.size ≤ n0 + n1 ∧ In WF qT T := ⟨uu, guu, by omega, hu⟩
            clear XB4 B
            clear ha hb_ hl hr hu XB0 XB1 XB2 XB3 l0 l1 l2 l3 hw5
  all_goals
    have TH := Lib.hid gT
    refine (shape_any T qT _ hT (by omega)).mono ?_
    rintro e wS ⟨ac, cc, rfl, NS, bS⟩
    replace hT := hT.below bS
    replace XF := blk_below XF bS
    replace BF := below_then BF bS
    clear bS
    have NH := Lib.hid NS
    have nm := NS.hmax
    have nc := NS.hcap
    unfold maxLen at nm
    have AT := Lib.hid (shape_at0 mrk T)
    clear NS gT
    go_wp2_with fail
    go_loopw [17] (fun i wr => ∃ j d : Nat, j ≤ T.size ∧ i = .int .i64 j ∧ wr = wS.drewN d) (fun i _ => T.size - (intOf i).toNat)
    case atStart => exact ⟨0, 0, Nat.zero_le _, rfl, rfl⟩
    case round =>
      obtain ⟨j, d, hj, rfl, rfl⟩ := hrel
      by_cases hjl : j < T.size
      · obtain ⟨c', y, l, r, hsub, hat⟩ := at_each T 0 AT.out j hjl
        rw [Nat.zero_add] at hat
        have hwb := wb_sub hsub TH.out.2
        obtain ⟨_, _, h1, h2⟩ := hwb
        simp only [wt] at h1 h2
        have sl := at_size _ _ hat (by simp)
        rw [shapeL_length] at sl
        simp only [ST.size] at sl
        obtain ⟨b, off, rfl, hbl, hc⟩ := NH.out.hat (by omega)
        obtain ⟨g0, g1, g2, g3⟩ := hc j _ hat.1
        have g3' : wS.cell? ⟨b, off + j * 4 + 3, none⟩ = some (.int .i64 ((l.size : Int) + (r.size : Int) + 1)) := by
          refine Eq.trans g3 ?_
          rw [mrk_node]
          congr 2
          simp only [ST.size]
          omega
        have g1' : wS.cell? ⟨b, off + j * 4 + 1, none⟩ = some (.int .i64 (refOf l (j + 1))) := g1
        have g2' : wS.cell? ⟨b, off + j * 4 + 2, none⟩ = some (.int .i64 (refOf r (j + 1 + l.size))) := g2
        have HL := fun w h => many_any mrk (shapeL mrk T 0) (some ⟨b, off, none⟩) T.size cc l (j + 1) w h hat.2.1
        have HR := fun w h => many_any mrk (shapeL mrk T 0) (some ⟨b, off, none⟩) T.size cc r (j + 1 + l.size) w h hat.2.2
        have HLH := Lib.hid HL
        have HRH := Lib.hid HR
        have hji : (0 : Int) ≤ (j : Int) := by omega
        have hjli : (j : Int) < (T.size : Int) := by omega
        obtain ⟨u, hu⟩ : ∃ u, l.size = u := ⟨_, rfl⟩
        obtain ⟨v, hv⟩ : ∃ v, r.size = v := ⟨_, rfl⟩
        rw [hu] at h1 h2 sl g3' HLH
        rw [hv] at h1 h2 sl g3' HRH
        have d1 : decide (3 * ((v : Int) + 1) < (u : Int) + 1) = false := by rw [decide_eq_false_iff_not]; omega
        have d2 : decide (3 * ((u : Int) + 1) < (v : Int) + 1) = false := by rw [decide_eq_false_iff_not]; omega
        have d1' : ¬ 3 * ((v : Int) + 1) < (u : Int) + 1 := by omega
        have d2' : ¬ 3 * ((u : Int) + 1) < (v : Int) + 1 := by omega
        have d3 : ((u : Int) + (v : Int) + 1 != (u : Int) + 1 + ((v : Int) + 1) - 1) = false := by rw [bne_eq_false_iff_eq]; omega
        have b1 : (u : Int) ≤ 1048576 := by omega
        have b2 : (v : Int) ≤ 1048576 := by omega
        have D1 := Lib.hid d1
        have D2 := Lib.hid d2
        have D3 := Lib.hid d3
        clear hc g0 g1 g2 g3 hat HL HR hsub AT TH hu hv h1 h2 sl d1 d2 d1' d2' d3
        rw [show refOf r (j + 1 + l.size) = refOf r (j + 1 + l.size) from rfl] at g2'
        go_wp2_with fail
        refine (HLH.out _ (NH.out.drewN _)).mono ?_
        rintro e w4 ⟨rfl, k4, rfl⟩
        go_wp2_with fail
        refine (HRH.out _ (by first | exact NH.out.drewN _ | exact (NH.out.drewN _).drewN _)).mono ?_
        rintro e w5 ⟨rfl, k5, rfl⟩
        have d1 := D1.out
        have d2 := D2.out
        have d3 := D3.out
        have d1' := of_decide_eq_false d1
        have d2' := of_decide_eq_false d2
        go_wp2_with fail
        go_roundw
        case rel => exact ⟨j + 1, d + k4 + k5, by omega, by go_num, by simp⟩
        case measure => simp [intOf]; omega
      · have he : j = T.size := by omega
        subst he
        have cX := (blk XF).1 0
        go_wp2_with fail
        refine (len_set T qT _ (hT.drewN _)).mono ?_
        rintro e w6 ⟨rfl, b6⟩
        replace b6 := below_of_drewN b6
        have X6 := blk_below XF b6
        have h6 := hT.below b6
        have N6 := NH.out.below b6
        clear cX
        have cX := (blk X6).1 0
        go_wp2_with fail
        refine (ints_sl T qT _ h6 (by omega)).mono ?_
        rintro e w7 ⟨a7, m7, c7, rfl, s7, b7⟩
        have N7 := N6.below b7
        have B7 := below_then BF (below_then b6 b7)
        clear N6 b6 b7 cX X6
        go_wp2_with fail
        refine (shaped_yes mrk T ac a7 _ cc _ c7 _ N7 s7 (by omega)).mono ?_
        rintro e w8 ⟨rfl, b8⟩
        go_wp2_with fail
        go_ret
        exact ⟨rfl, below_then B7 b8⟩
end Go.Proofs.Ytchglmgbnmdffaa
