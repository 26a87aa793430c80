/-
  The walk of the law WbtSets. Conditions: the arguments hold together at most 1048576 values.
-/
import Derived.Test.YtchglmgbnmdffaaWbtFact
import Derived.Test.YtchglmgbnmdffaaWbtJoin
import Derived.Test.YtchglmgbnmdffaaCalm
import Derived.Test.YtchglmgbnmdffaaOnce
import Derived.Test.YtchglmgbnmdffaaSift
namespace Go.Proofs.Ytchglmgbnmdffaa
open Go.RowKit Go.Deep Go.BigFrame
open Go.Proofs.Ytchglmgbnmdffaa.ST
open Go.Proofs.Ytchglmgbnmdffaa.WBT

theorem take_rank {l : List Int} (h : SRise l) (x y : Int) : y ∈ l.take (belowN l x) ↔ y ∈ l ∧ y < x := by
  constructor
  · intro hy
    obtain ⟨j, hj, e⟩ := List.getElem_of_mem hy
    rw [List.length_take] at hj
    rw [List.getElem_take] at e
    exact ⟨e ▸ List.getElem_mem _, e ▸ (rank_iff j (by omega) h).2 (by omega)⟩
  · rintro ⟨hy, hlt⟩
    obtain ⟨j, hj, e⟩ := List.getElem_of_mem hy
    have hk := (rank_iff j hj h).1 (e ▸ hlt)
    have h2 : j < (l.take (belowN l x)).length := by rw [List.length_take]; omega
    have := List.getElem_mem h2
    rwa [List.getElem_take, e] at this
theorem drop_rank {l : List Int} (h : SRise l) (x y : Int) : y ∈ l.drop (belowN l x) ↔ y ∈ l ∧ x ≤ y := by
  constructor
  · intro hy
    obtain ⟨j, hj, e⟩ := List.getElem_of_mem hy
    rw [List.length_drop] at hj
    rw [List.getElem_drop] at e
    refine ⟨e ▸ List.getElem_mem _, ?_⟩
    have := (rank_iff (x := x) (belowN l x + j) (by omega) h)
    rw [e] at this
    omega
  · rintro ⟨hy, hlt⟩
    obtain ⟨j, hj, e⟩ := List.getElem_of_mem hy
    have hk := (rank_iff (x := x) j hj h)
    rw [e] at hk
    have h2 : j - belowN l x < (l.drop (belowN l x)).length := by rw [List.length_drop]; omega
    have := List.getElem_mem h2
    rw [List.getElem_drop] at this
    have e2 : l[belowN l x + (j - belowN l x)]'(by rw [List.length_drop] at h2; omega) = y := by
      rw [← e]
      congr 1
      omega
    rwa [e2] at this
theorem drop_rank1 {l : List Int} (h : SRise l) (x y : Int) (hx : x ∈ l) : y ∈ l.drop (belowN l x + 1) ↔ y ∈ l ∧ x < y := by
  have h0 : belowN l x < l.length ∧ ∀ hk : belowN l x < l.length, l[belowN l x] = x := by
    have := rank_has h x
    rw [decide_eq_true hx] at this
    by_cases hk : belowN l x < l.length
    · refine ⟨hk, fun _ => ?_⟩
      rw [atL_yes hk] at this
      simp only [Bool.true_and, List.getElem?_eq_getElem hk, Option.getD_some] at this
      exact of_decide_eq_true this.symm
    · rw [atL_no (.inr (by omega))] at this
      cases this
  have h1 := h0.2 h0.1
  have e : l.drop (belowN l x) = x :: l.drop (belowN l x + 1) := by rw [List.drop_eq_getElem_cons h0.1, h1]
  have hs : SRise (x :: l.drop (belowN l x + 1)) := e ▸ h.sublist (List.drop_sublist _ _)
  obtain ⟨s1, s2⟩ := List.pairwise_cons.1 hs
  constructor
  · intro hy
    exact ⟨(List.drop_sublist _ _).mem hy, s1 y hy⟩
  · rintro ⟨hy, hlt⟩
    have := (drop_rank h x y).2 ⟨hy, by omega⟩
    rw [e, List.mem_cons] at this
    rcases this with rfl | k
    · omega
    · exact k
theorem at_cases {l : List Int} {i y : Int} {b : Bool} (e : atL l i = (y, b)) : (b = true ∧ ∃ k : Nat, i = (k : Int) ∧ k < l.length ∧ l[k]?.getD 0 = y) ∨ (b = false ∧ y = 0 ∧ (i < 0 ∨ (0 ≤ i ∧ (l.length : Int) ≤ i))) := by
  unfold atL at e
  split at e
  · rename_i hi
    cases e
    exact .inl ⟨rfl, i.toNat, by omega, by omega, rfl⟩
  · cases e
    exact .inr ⟨rfl, rfl, by omega⟩

set_option linter.unusedVariables false
set_option maxHeartbeats 8000000 in
set_option maxRecDepth 100000 in
theorem WbtSets_walk (a0 : Option Addr) (n0 c0 : Nat) (x0 : List Int) (a1 : Option Addr) (n1 c1 : Nat) (x1 : List Int) (x i : Int) (w : World)
    (s0 : Sl w a0 n0 c0 x0) (i0 : ∀ n ∈ x0, I64 n) (s1 : Sl w a1 n1 c1 x1) (i1 : ∀ n ∈ x1, I64 n) (i2 : I64 x) (i3 : I64 i) (hn : n0 + n1 ≤ 1048576) :
    Calls Try.prog 8 #[.slice a0 n0 c0, .slice a1 n1 c1, .int .i64 x, .int .i64 i] w fun e w' => e = .returned (.bool true) ∧ Below w.heap.size w w' := by
  have EA := ofL_once x0
  have EB := ofL_once x1
  have S0 := Lib.hid s0
  obtain ⟨ta, hta⟩ : ∃ t, ofL x0 = t := ⟨_, rfl⟩
  have gta : Fit ta := hta ▸ ofL_good x0
  have zta : ta.size ≤ n0 := by rw [← hta, ← s0.hlen]; exact ofL_size x0
  have mta : ∀ y, y ∈ ta.toL ↔ y ∈ x0 := hta ▸ ofL_mem x0
  have OF0 : ∀ W, Below w.heap.size w W → Calls Try.prog 15 #[.slice a0 n0 c0] W fun e w' => ∃ q, e = .returned (.agg #[.pointer q]) ∧ In w' q ta ∧ Below W.heap.size W w' := fun W hW => by
    have := of_any a0 n0 c0 x0 W (s0.below hW) (by omega)
    rwa [hta] at this
  have OH0 := Lib.hid OF0
  have Mta := Lib.hid mta
  rw [hta] at EA
  clear OF0 s0 i0 hta mta
  have S1 := Lib.hid s1
  obtain ⟨tb, htb⟩ : ∃ t, ofL x1 = t := ⟨_, rfl⟩
  have gtb : Fit tb := htb ▸ ofL_good x1
  have ztb : tb.size ≤ n1 := by rw [← htb, ← s1.hlen]; exact ofL_size x1
  have mtb : ∀ y, y ∈ tb.toL ↔ y ∈ x1 := htb ▸ ofL_mem x1
  have OF1 : ∀ W, Below w.heap.size w W → Calls Try.prog 15 #[.slice a1 n1 c1] W fun e w' => ∃ q, e = .returned (.agg #[.pointer q]) ∧ In w' q tb ∧ Below W.heap.size W w' := fun W hW => by
    have := of_any a1 n1 c1 x1 W (s1.below hW) (by omega)
    rwa [htb] at this
  have OH1 := Lib.hid OF1
  have Mtb := Lib.hid mtb
  rw [htb] at EB
  clear OF1 s1 i1 htb mtb
  obtain ⟨p1, p2, p3, p4, p5⟩ := split_spec ta x gta.bst
  have hz := split_size ta x
  have SP := fun p W h => split_set ta x p W h (by omega)
  obtain ⟨sa, ha⟩ : ∃ a, (split ta x).1 = a := ⟨_, rfl⟩
  obtain ⟨hb, hhb⟩ : ∃ a, (split ta x).2.1 = a := ⟨_, rfl⟩
  obtain ⟨sb, hbb⟩ : ∃ a, (split ta x).2.2 = a := ⟨_, rfl⟩
  rw [ha, hbb] at hz
  rw [ha, hhb, hbb] at SP
  rw [ha] at p1 p3
  rw [hbb] at p2 p4
  rw [hhb] at p5
  have SPH := Lib.hid SP
  clear SP ha hhb hbb i2 i3
  obtain ⟨uu, huu⟩ : ∃ r, union ta tb = r := ⟨_, rfl⟩
  have zuu : uu.size ≤ ta.size + tb.size := huu ▸ union_size ta tb
  have guu : Fit uu := huu ▸ ⟨(union_spec ta tb gta.bst gtb.bst).1, union_wb ta tb gta.2 gtb.2⟩
  have muu : ∀ y, y ∈ uu.toL ↔ y ∈ ta.toL ∨ y ∈ tb.toL := huu ▸ (union_spec ta tb gta.bst gtb.bst).2
  have CCuu : ∀ (p q : Option Addr) (W : World), In W p ta → In W q tb → Calls Try.prog 33 #[.agg #[.pointer p], .agg #[.pointer q]] W fun e w' => ∃ r, e = .returned (.agg #[.pointer r]) ∧ In w' r uu ∧ Below W.heap.size W w' :=
    fun p q W h h' => huu ▸ union_set ta tb p q W h h' (by omega)
  have Cuu := Lib.hid CCuu
  clear CCuu huu
  obtain ⟨ii, hii⟩ : ∃ r, sifted ta tb true = r := ⟨_, rfl⟩
  have zii : ii.size ≤ ta.size := hii ▸ sifted_size ta true tb
  have gii : Fit ii := hii ▸ ⟨(sifted_spec ta true tb gta.bst gtb.bst).1, sifted_wb ta true tb gta.2 gtb.2⟩
  have mii : ∀ y, y ∈ ii.toL ↔ y ∈ ta.toL ∧ decide (y ∈ tb.toL) = true := hii ▸ (sifted_spec ta true tb gta.bst gtb.bst).2
  have CCii : ∀ (p q : Option Addr) (W : World), In W p ta → In W q tb → Calls Try.prog 32 #[.agg #[.pointer p], .agg #[.pointer q]] W fun e w' => ∃ r, e = .returned (.agg #[.pointer r]) ∧ In w' r ii ∧ Below W.heap.size W w' :=
    fun p q W h h' => hii ▸ inter_set ta tb p q W h h' (by omega)
  have Cii := Lib.hid CCii
  clear CCii hii
  obtain ⟨dd, hdd⟩ : ∃ r, sifted ta tb false = r := ⟨_, rfl⟩
  have zdd : dd.size ≤ ta.size := hdd ▸ sifted_size ta false tb
  have gdd : Fit dd := hdd ▸ ⟨(sifted_spec ta false tb gta.bst gtb.bst).1, sifted_wb ta false tb gta.2 gtb.2⟩
  have mdd : ∀ y, y ∈ dd.toL ↔ y ∈ ta.toL ∧ decide (y ∈ tb.toL) = false := hdd ▸ (sifted_spec ta false tb gta.bst gtb.bst).2
  have CCdd : ∀ (p q : Option Addr) (W : World), In W p ta → In W q tb → Calls Try.prog 34 #[.agg #[.pointer p], .agg #[.pointer q]] W fun e w' => ∃ r, e = .returned (.agg #[.pointer r]) ∧ In w' r dd ∧ Below W.heap.size W w' :=
    fun p q W h h' => hdd ▸ diff_set ta tb p q W h h' (by omega)
  have Cdd := Lib.hid CCdd
  clear CCdd hdd
  obtain ⟨jj, hjj⟩ : ∃ r, join ta tb = r := ⟨_, rfl⟩
  have zjj : jj.size ≤ ta.size + tb.size := hjj ▸ join_size ta tb
  have gjj : Fit jj := hjj ▸ ⟨(join_spec gta.bst gtb.bst).1, join_wb gta.2 gtb.2⟩
  have mjj : ∀ y, y ∈ jj.toL ↔ y ∈ ta.toL ∨ y ∈ tb.toL := hjj ▸ (join_spec gta.bst gtb.bst).2
  have CCjj : ∀ (p q : Option Addr) (W : World), In W p ta → In W q tb → Calls Try.prog 31 #[.agg #[.pointer p], .agg #[.pointer q]] W fun e w' => ∃ r, e = .returned (.agg #[.pointer r]) ∧ In w' r jj ∧ Below W.heap.size W w' :=
    fun p q W h h' => hjj ▸ join_set ta tb p q W h h' (by omega)
  have Cjj := Lib.hid CCjj
  clear CCjj hjj
  have mA := Mta.out
  have mB := Mtb.out
  have e1 : uu.toL = onceL (x0 ++ x1) := once_unique guu.bst fun y => by rw [muu, mA, mB, List.mem_append]
  have e6 : jj.toL = onceL (x0 ++ x1) := once_unique gjj.bst fun y => by rw [mjj, mA, mB, List.mem_append]
  have e2 : ii.toL = siftL (onceL x0) (onceL x1) true := srise_unique gii.bst (siftL_srise (onceL_srise x0)) fun y => by rw [mii, siftL_mem, EA, EB]
  have e3 : dd.toL = siftL (onceL x0) (onceL x1) false := srise_unique gdd.bst (siftL_srise (onceL_srise x0)) fun y => by rw [mdd, siftL_mem, EA, EB]
  obtain ⟨K, hK⟩ : ∃ K, belowN (onceL x0) x = K := ⟨_, rfl⟩
  have e4 : sa.toL = (onceL x0).take K := srise_unique p1 ((onceL_srise x0).sublist (List.take_sublist _ _)) fun y => by rw [p3, EA, ← hK, take_rank (onceL_srise x0)]
  have e5 : sb.toL = if hb = true then (onceL x0).drop (K + 1) else (onceL x0).drop K := srise_unique p2 (by split <;> exact (onceL_srise x0).sublist (List.drop_sublist _ _)) fun y => by
    rw [p4, EA]
    by_cases hx : x ∈ onceL x0
    · rw [EA, decide_eq_true hx] at p5
      rw [if_pos p5, ← hK, drop_rank1 (onceL_srise x0) x y hx]
    · rw [EA, decide_eq_false hx] at p5
      rw [if_neg (by rw [p5]; simp), ← hK, drop_rank (onceL_srise x0)]
      constructor
      · rintro ⟨h1, h2⟩; exact ⟨h1, by omega⟩
      · rintro ⟨h1, h2⟩
        refine ⟨h1, ?_⟩
        by_cases e : y = x
        · exact absurd (e ▸ h1) hx
        · omega
  have ehb : decide (0 < oftenN (onceL x0) x) = hb := by rw [p5, EA]; exact dec_iff often_pos
  have RX := fun p W h => rank_set ta x p W h gta.bst (by omega)
  rw [EA, hK] at RX
  have hKm : K ≤ (onceL x0).length := hK ▸ belowN_le _ _
  obtain ⟨⟨y, bi⟩, hy⟩ : ∃ z, atL ta.toL i = z := ⟨_, rfl⟩
  have AT := fun p W h => at_any ta i y bi p W h (by omega) hy
  rw [EA] at hy
  have rc := at_cases hy
  have hPl := onceL_length x0
  obtain ⟨P, hP⟩ : ∃ P, onceL x0 = P := ⟨_, rfl⟩
  obtain ⟨Q, hQ⟩ : ∃ Q, onceL x1 = Q := ⟨_, rfl⟩
  have ON0 := fun W h => once_any a0 n0 c0 x0 W h (by omega)
  have ON1 := fun W h => once_any a1 n1 c1 x1 W h (by omega)
  rw [hP] at e2 e3 e4 e5 ehb hK hKm rc ON0 hPl
  rw [hQ] at e2 e3 ON1
  have E1 := Lib.hid e1
  have E2 := Lib.hid e2
  have E3 := Lib.hid e3
  have E4 := Lib.hid e4
  have E5 := Lib.hid e5
  have E6 := Lib.hid e6
  have EHB := Lib.hid ehb
  have RXH := Lib.hid RX
  have ATH := Lib.hid AT
  have RC := Lib.hid rc
  have O0 := Lib.hid ON0
  have O1 := Lib.hid ON1
  have HK := Lib.hid hK
  have zsa : sa.size ≤ n0 := by omega
  have zsb : sb.size ≤ n0 := by omega
  have CAT := Lib.hid (fun W h h' => cat_any a0 a1 n0 n1 c0 c1 x0 x1 W h h' (by omega))
  clear e1 e2 e3 e4 e5 e6 ehb RX AT rc ON0 ON1 hK hy hP hQ EA EB p1 p2 p3 p4 p5 mA mB muu mii mdd mjj guu gii gdd gjj hz
  go_enter Try.func8, Try.ntmps8
  go_wp2_with fail
  refine (fact_any _).mono ?_
  rintro e w1 ⟨rfl, b1⟩
  go_wp2_with fail
  refine (OH0.out _ b1).mono ?_
  rintro e w2 ⟨qa, rfl, ha, b2⟩
  replace b1 := below_then b1 b2
  clear b2
  have B := b1
  clear b1
  go_wp2_with fail
  obtain ⟨B0, hn_B0⟩ : ∃ k, w2.heap.size = k := ⟨_, rfl⟩
  obtain ⟨V1, hW_⟩ : ∃ W, w2.alloc (.cells #[.pointer qa] 26) = W := ⟨_, rfl⟩
  have bW_ : Below w2.heap.size w2 V1 := by rw [← hW_]; exact ((Below.refl _ _).alloc (Nat.le_refl _) _)
  have XB0 : V1.heap[B0]? = some (.cells #[.pointer qa] 26) := by
    rw [← hW_, ← hn_B0]
    exact heap_alloc_new _ _
  have LB0 : w2.heap.size ≤ B0 := by omega
  replace ha := ha.below bW_
  replace B := below_then B bW_
  rw [hW_]
  first | rw [hn_B0] | skip
  clear hW_ bW_ hn_B0
  refine (OH1.out _ B).mono ?_
  rintro e w3 ⟨qb, rfl, hb_, b3⟩
  replace ha := ha.below b3
  replace XB0 := blk_below XB0 b3
  replace B := below_then B b3
  clear b3
  go_wp2_with fail
  obtain ⟨B1, hn_B1⟩ : ∃ k, w3.heap.size = k := ⟨_, rfl⟩
  obtain ⟨V2, hW_⟩ : ∃ W, w3.alloc (.cells #[.pointer qb] 26) = W := ⟨_, rfl⟩
  have bW_ : Below w3.heap.size w3 V2 := by rw [← hW_]; exact ((Below.refl _ _).alloc (Nat.le_refl _) _)
  have XB1 : V2.heap[B1]? = some (.cells #[.pointer qb] 26) := by
    rw [← hW_, ← hn_B1]
    exact heap_alloc_new _ _
  have LB1 : w3.heap.size ≤ B1 := by omega
  replace ha := ha.below bW_
  replace hb_ := hb_.below bW_
  replace XB0 := blk_below XB0 bW_
  replace B := below_then B bW_
  rw [hW_]
  first | rw [hn_B1] | skip
  clear hW_ bW_ hn_B1
  refine (O0.out _ (S0.out.below B)).mono ?_
  rintro e w4 ⟨v4, m, rfl, o4, hm, b4⟩
  obtain ⟨ap, cp, rfl, sp⟩ := Sl.of_own o4
  have hml : P.length = m := sp.hlen
  replace ha := ha.below b4
  replace hb_ := hb_.below b4
  replace XB0 := blk_below XB0 b4
  replace XB1 := blk_below XB1 b4
  replace B := below_then B b4
  clear o4 b4
  have HML := Lib.hid hml
  rw [hml] at hKm
  clear hml
  go_wp2_with fail
  refine (O1.out _ (S1.out.below B)).mono ?_
  rintro e w5 ⟨v5, m1, rfl, o5, hm1, b5⟩
  obtain ⟨aq, cq, rfl, sq⟩ := Sl.of_own o5
  replace ha := ha.below b5
  replace hb_ := hb_.below b5
  replace sp := sp.below b5
  replace XB0 := blk_below XB0 b5
  replace XB1 := blk_below XB1 b5
  replace B := below_then B b5
  clear o5 b5
  have SPX := Lib.hid sp
  have SQX := Lib.hid sq
  have wP : Below w5.heap.size w5 w5 := Below.refl _ _
  clear sp sq
  have k0 := (blk XB0).1 0
  have k1 := (blk XB1).1 0
  have l0 := (blk XB0).2.2
  have l1 := (blk XB1).2.2
  go_wp2_with fail
  clear k0 k1 l0 l1
  refine (Cuu.out qa qb _ ha hb_).mono ?_
  rintro e w10 ⟨qu, rfl, hu, bx⟩
  replace ha := ha.below bx
  replace hb_ := hb_.below bx
  replace XB0 := blk_below XB0 bx
  replace XB1 := blk_below XB1 bx
  replace B := below_then B bx
  replace wP := below_then wP bx
  clear bx
  go_wp2_with fail
  refine (ints_sl uu qu _ hu (by omega)).mono ?_
  rintro e w11 ⟨ai, mi, ci, rfl, si, bx⟩
  replace ha := ha.below bx
  replace hb_ := hb_.below bx
  replace XB0 := blk_below XB0 bx
  replace XB1 := blk_below XB1 bx
  replace B := below_then B bx
  replace wP := below_then wP bx
  clear bx
  clear hu
  go_wp2_with fail
  refine (CAT.out _ (S0.out.below B) (S1.out.below B)).mono ?_
  rintro e w12 ⟨v7, rfl, o7, bx⟩
  replace ha := ha.below bx
  replace hb_ := hb_.below bx
  replace si := si.below bx
  replace XB0 := blk_below XB0 bx
  replace XB1 := blk_below XB1 bx
  replace B := below_then B bx
  replace wP := below_then wP bx
  clear bx
  obtain ⟨a7, c7, rfl, s7⟩ := Sl.of_own o7
  clear o7
  go_wp2_with fail
  refine (once_any _ _ _ (x0 ++ x1) _ s7 (by omega)).mono ?_
  rintro e w13 ⟨v8, m8, rfl, o8, hm8, bx⟩
  replace ha := ha.below bx
  replace hb_ := hb_.below bx
  replace si := si.below bx
  replace XB0 := blk_below XB0 bx
  replace XB1 := blk_below XB1 bx
  replace B := below_then B bx
  replace wP := below_then wP bx
  clear bx
  obtain ⟨a8, c8, rfl, s8⟩ := Sl.of_own o8
  clear o8 s7
  go_wp2_with fail
  refine (same_yes _ _ _ _ _ _ _ _ _ si s8 E1.out).mono ?_
  rintro e w14 ⟨rfl, bx⟩
  replace ha := ha.below bx
  replace hb_ := hb_.below bx
  replace XB0 := blk_below XB0 bx
  replace XB1 := blk_below XB1 bx
  replace B := below_then B bx
  replace wP := below_then wP bx
  clear bx
  clear si s8 hm8
  have k0 := (blk XB0).1 0
  have k1 := (blk XB1).1 0
  have l0 := (blk XB0).2.2
  have l1 := (blk XB1).2.2
  go_wp2_with fail
  clear k0 k1 l0 l1
  refine (Cii.out qa qb _ ha hb_).mono ?_
  rintro e w20 ⟨qi, rfl, hi, bx⟩
  replace ha := ha.below bx
  replace hb_ := hb_.below bx
  replace XB0 := blk_below XB0 bx
  replace XB1 := blk_below XB1 bx
  replace B := below_then B bx
  replace wP := below_then wP bx
  clear bx
  go_wp2_with fail
  refine (ints_sl ii qi _ hi (by omega)).mono ?_
  rintro e w21 ⟨ai, mi, ci, rfl, si, bx⟩
  replace ha := ha.below bx
  replace hb_ := hb_.below bx
  replace XB0 := blk_below XB0 bx
  replace XB1 := blk_below XB1 bx
  replace B := below_then B bx
  replace wP := below_then wP bx
  clear bx
  clear hi
  go_wp2_with fail
  refine (sift_any true ap aq m cp m1 cq P Q _ (SPX.out.below wP) (SQX.out.below wP) (by omega)).mono ?_
  rintro e w22 ⟨v7, m7, rfl, o7, hm7, bx⟩
  replace ha := ha.below bx
  replace hb_ := hb_.below bx
  replace si := si.below bx
  replace XB0 := blk_below XB0 bx
  replace XB1 := blk_below XB1 bx
  replace B := below_then B bx
  replace wP := below_then wP bx
  clear bx
  obtain ⟨a7, c7, rfl, s7⟩ := Sl.of_own o7
  clear o7
  go_wp2_with fail
  refine (same_yes _ _ _ _ _ _ _ _ _ si s7 E2.out).mono ?_
  rintro e w23 ⟨rfl, bx⟩
  replace ha := ha.below bx
  replace hb_ := hb_.below bx
  replace XB0 := blk_below XB0 bx
  replace XB1 := blk_below XB1 bx
  replace B := below_then B bx
  replace wP := below_then wP bx
  clear bx
  clear si s7 hm7
  have k0 := (blk XB0).1 0
  have k1 := (blk XB1).1 0
  have l0 := (blk XB0).2.2
  have l1 := (blk XB1).2.2
  go_wp2_with fail
  clear k0 k1 l0 l1
  refine (Cdd.out qa qb _ ha hb_).mono ?_
  rintro e w30 ⟨qd, rfl, hd, bx⟩
  replace ha := ha.below bx
  replace hb_ := hb_.below bx
  replace XB0 := blk_below XB0 bx
  replace XB1 := blk_below XB1 bx
  replace B := below_then B bx
  replace wP := below_then wP bx
  clear bx
  go_wp2_with fail
  refine (ints_sl dd qd _ hd (by omega)).mono ?_
  rintro e w31 ⟨ai, mi, ci, rfl, si, bx⟩
  replace ha := ha.below bx
  replace hb_ := hb_.below bx
  replace XB0 := blk_below XB0 bx
  replace XB1 := blk_below XB1 bx
  replace B := below_then B bx
  replace wP := below_then wP bx
  clear bx
  clear hd
  go_wp2_with fail
  refine (sift_any false ap aq m cp m1 cq P Q _ (SPX.out.below wP) (SQX.out.below wP) (by omega)).mono ?_
  rintro e w32 ⟨v7, m7, rfl, o7, hm7, bx⟩
  replace ha := ha.below bx
  replace hb_ := hb_.below bx
  replace si := si.below bx
  replace XB0 := blk_below XB0 bx
  replace XB1 := blk_below XB1 bx
  replace B := below_then B bx
  replace wP := below_then wP bx
  clear bx
  obtain ⟨a7, c7, rfl, s7⟩ := Sl.of_own o7
  clear o7
  go_wp2_with fail
  refine (same_yes _ _ _ _ _ _ _ _ _ si s7 E3.out).mono ?_
  rintro e w33 ⟨rfl, bx⟩
  replace ha := ha.below bx
  replace hb_ := hb_.below bx
  replace XB0 := blk_below XB0 bx
  replace XB1 := blk_below XB1 bx
  replace B := below_then B bx
  replace wP := below_then wP bx
  clear bx
  clear si s7 hm7
  have k0 := (blk XB0).1 0
  have k1 := (blk XB1).1 0
  have l0 := (blk XB0).2.2
  have l1 := (blk XB1).2.2
  go_wp2_with fail
  clear k0 k1 l0 l1
  refine (SPH.out qa _ ha).mono ?_
  rintro e w40 ⟨ql, qr, rfl, hl, hr, bx⟩
  replace ha := ha.below bx
  replace hb_ := hb_.below bx
  replace XB0 := blk_below XB0 bx
  replace XB1 := blk_below XB1 bx
  replace B := below_then B bx
  replace wP := below_then wP bx
  clear bx
  go_wp2_with fail
  obtain ⟨B2, hn_B2⟩ : ∃ k, w40.heap.size = k := ⟨_, rfl⟩
  obtain ⟨B3, hn_B3⟩ : ∃ k, w40.heap.size + 1 = k := ⟨_, rfl⟩
  obtain ⟨V3, hW_⟩ : ∃ W, (w40.alloc (.cells #[.pointer ql] 26)).alloc (.cells #[.pointer qr] 26) = W := ⟨_, rfl⟩
  have bW_ : Below w40.heap.size w40 V3 := by rw [← hW_]; exact (((Below.refl _ _).alloc (Nat.le_refl _) _).alloc (by simp; try omega) _)
  have XB2 : V3.heap[B2]? = some (.cells #[.pointer ql] 26) := by
    rw [← hW_, ← hn_B2]
    refine (Below.heap_alloc _ _ _ (by simp; try omega)).trans ?_
    exact heap_alloc_new _ _
  have XB3 : V3.heap[B3]? = some (.cells #[.pointer qr] 26) := by
    rw [← hW_, ← hn_B3]
    have := heap_alloc_new (w40.alloc (.cells #[.pointer ql] 26)) (.cells #[.pointer qr] 26)
    rwa [World.size_alloc] at this
  have LB2 : w40.heap.size ≤ B2 := by omega
  have LB3 : w40.heap.size ≤ B3 := by omega
  replace ha := ha.below bW_
  replace hb_ := hb_.below bW_
  replace hl := hl.below bW_
  replace hr := hr.below bW_
  replace XB0 := blk_below XB0 bW_
  replace XB1 := blk_below XB1 bW_
  replace B := below_then B bW_
  rw [hW_]
  first | rw [hn_B3] | skip
  first | rw [hn_B2] | skip
  replace wP := below_then wP bW_
  clear hW_ bW_ hn_B2 hn_B3
  refine (below_any ap m cp P x _ (SPX.out.below wP)).mono ?_
  rintro e w' ⟨rfl, rfl⟩
  rw [HK.out]
  have spx := SPX.out.below wP
  have pc := spx.hcap
  have pm := spx.hmax
  unfold maxLen at pm
  have hs1 := Try.slice_to ap m cp K (by omega)
  have hs2 := Try.slice_from ap m cp K hKm
  have SF := Lib.hid (spx.front hKm)
  have SR := Lib.hid (spx.rest hKm)
  clear spx
  have k2 := (blk XB2).1 0
  have l2 := (blk XB2).2.2
  have hKi : (K : Int) ≤ (m : Int) := by omega
  have hKc : (K : Int) ≤ (cp : Int) := by omega
  go_wp2_with fail
  go_region_held3 (fun w' => w'.cell? ⟨B2, 0, none⟩ = some (.pointer ql)) (go_keep) (first
    | (have _t := bwp1; go_at_call 23; refine (same_yes _ _ _ _ _ _ _ _ _ (by first | exact si | exact si.drew) (by first | exact SF.out.below bwp1 | exact (SF.out.below bwp1).drew) E4.out).mono ?_; rintro e wp2 ⟨rfl, hbp2⟩; have bwp2 := below_then bwp1 hbp2; have sp2_0 := (bwp2.cell (p := ⟨B2, 0, none⟩) l2).trans k2)
    | (go_at_call 20; refine (ints_sl sa ql _ (by first | exact hl | exact hl.drew | exact hl.drewN _ | exact (hl.drewN _).drew | exact (hl.drewN _).drewN _ | exact ((hl.drewN _).drewN _).drew) (by omega)).mono ?_; rintro e wp1 ⟨ai, mi, ci, rfl, si, hbp1⟩; have bwp1 : Below V3.heap.size V3 wp1 := (by first | exact hbp1 | exact below_of_drewN hbp1 | exact below_of_drew hbp1 | exact below_of_drewN (below_of_drew hbp1) | exact below_of_drewN (below_of_drewN hbp1) | exact below_of_drewN (below_of_drewN (below_of_drew hbp1))); have sp1_0 := (bwp1.cell (p := ⟨B2, 0, none⟩) l2).trans k2))
  replace ha := ha.below bwp2
  replace hb_ := hb_.below bwp2
  replace hl := hl.below bwp2
  replace hr := hr.below bwp2
  replace XB0 := blk_below XB0 bwp2
  replace XB1 := blk_below XB1 bwp2
  replace XB2 := blk_below XB2 bwp2
  replace XB3 := blk_below XB3 bwp2
  replace B := below_then B bwp2
  replace wP := below_then wP bwp2
  have SR2 := Lib.hid (SR.out.below bwp2)
  clear k2 l2 bwp1 bwp2 hbp1 hbp2 si hs1 SF SR
  go_wp2_with fail
  refine (often_any ap m cp P x _ (SPX.out.below wP)).mono ?_
  rintro e w' ⟨rfl, rfl⟩
  have ol := often_le P x
  rw [HML.out] at ol
  obtain ⟨f, hf⟩ : ∃ f, oftenN P x = f := ⟨_, rfl⟩
  have ehb := EHB.out
  rw [hf] at ehb ol
  rw [hf]
  have FH := Lib.hid hf
  have ehb2 := ehb
  have hs3 : K + 1 ≤ m → ∀ W : World, (Instr.slice 22 (.slice ap m cp) (some (.int .i64 ((K : Int) + 1))) none none).run Try.prog W = .ok (.slice (cutAt ap cp (K + 1)) (m - (K + 1)) (cp - (K + 1))) W := fun h W => by
    have := Try.slice_from ap m cp (K + 1) h W
    rwa [show (((K + 1 : Nat) : Int)) = (K : Int) + 1 by omega] at this
  have HS3 := Lib.hid hs3
  clear hf hs3 ehb
  have OFT := Lib.hid (fun W h => often_any ap m cp P x W h)
  rw [FH.out] at OFT
  cases hb
  case' false =>
    have q0 : f = 0 := by have := of_decide_eq_false ehb2; omega
    have q1 : ¬ (0 : Int) < (f : Int) := by omega
    have q2 : decide (0 < f) = false := by rw [decide_eq_false_iff_not]; omega
    clear ehb2 q0
    have k3 := (blk XB3).1 0
    go_wp2_with fail
    clear k3
    refine (ints_sl sb qr _ hr (by omega)).mono ?_
    rintro e w50 ⟨ai, mi, ci, rfl, si, bx⟩
    have SH := SR2.out.below bx
    have eH : sb.toL = P.drop K := E5.out.trans (if_neg (by simp))
    have EH := Lib.hid eH
    clear eH
  case' true =>
    have q0 : 0 < f := of_decide_eq_true ehb2
    have q1 : (0 : Int) < (f : Int) := by omega
    have q2 : decide (0 < f) = true := by rw [decide_eq_true_eq]; omega
    have hK1 : K + 1 ≤ m := by
      have h1 : x ∈ P := often_pos.1 (by rw [FH.out]; exact q0)
      have h2 : belowN P x < P.length := by
        refine Nat.lt_of_not_le fun h => ?_
        have h3 : belowN P x = P.length := by have := belowN_le P x; omega
        obtain ⟨j, hj, e⟩ := List.getElem_of_mem h1
        have h4 : ∀ u ∈ P, u < x := by
          unfold belowN at h3
          exact fun u hu => of_decide_eq_true (List.countP_eq_length.1 h3 u hu)
        have := h4 x h1
        omega
      rw [HK.out, HML.out] at h2
      omega
    have hs3 := HS3.out hK1
    have spx := SPX.out.below wP
    have SR3 := Lib.hid (spx.rest hK1)
    have ew : wrap64 ((K : Int) + 1) = (K : Int) + 1 := by unfold wrap64; omega
    clear ehb2 q0 spx
    have k3 := (blk XB3).1 0
    go_wp2_with fail
    clear k3
    refine (ints_sl sb qr _ hr (by omega)).mono ?_
    rintro e w50 ⟨ai, mi, ci, rfl, si, bx⟩
    have SH := SR3.out.below bx
    have eH : sb.toL = P.drop (K + 1) := E5.out.trans (if_pos (by first | rfl | trivial))
    have EH := Lib.hid eH
    clear eH hs3 SR3 hK1 ew
  all_goals
    replace ha := ha.below bx
    replace hb_ := hb_.below bx
    replace XB0 := blk_below XB0 bx
    replace XB1 := blk_below XB1 bx
    replace B := below_then B bx
    replace wP := below_then wP bx
    clear bx hl hr XB2 XB3 hs2 SR2
    go_wp2_with fail
    refine (same_yes _ _ _ _ _ _ _ _ _ si SH EH.out).mono ?_
    rintro e w51 ⟨rfl, bx⟩
    replace ha := ha.below bx
    replace hb_ := hb_.below bx
    replace XB0 := blk_below XB0 bx
    replace XB1 := blk_below XB1 bx
    replace B := below_then B bx
    replace wP := below_then wP bx
    clear bx si SH EH
    have k0 := (blk XB0).1 0
    have k1 := (blk XB1).1 0
    have l0 := (blk XB0).2.2
    have l1 := (blk XB1).2.2
    go_wp2_with fail
    clear k0 k1 l0 l1
    refine (Cjj.out qa qb _ ha hb_).mono ?_
    rintro e w60 ⟨qj, rfl, hj, bx⟩
    replace ha := ha.below bx
    replace hb_ := hb_.below bx
    replace XB0 := blk_below XB0 bx
    replace XB1 := blk_below XB1 bx
    replace B := below_then B bx
    replace wP := below_then wP bx
    clear bx
    go_wp2_with fail
    refine (ints_sl jj qj _ hj (by omega)).mono ?_
    rintro e w61 ⟨ai, mi, ci, rfl, si, bx⟩
    replace ha := ha.below bx
    replace hb_ := hb_.below bx
    replace XB0 := blk_below XB0 bx
    replace XB1 := blk_below XB1 bx
    replace B := below_then B bx
    replace wP := below_then wP bx
    clear bx
    clear hj
    go_wp2_with fail
    refine (CAT.out _ (S0.out.below B) (S1.out.below B)).mono ?_
    rintro e w62 ⟨v7, rfl, o7, bx⟩
    replace ha := ha.below bx
    replace hb_ := hb_.below bx
    replace si := si.below bx
    replace XB0 := blk_below XB0 bx
    replace XB1 := blk_below XB1 bx
    replace B := below_then B bx
    replace wP := below_then wP bx
    clear bx
    obtain ⟨a7, c7, rfl, s7⟩ := Sl.of_own o7
    clear o7
    go_wp2_with fail
    refine (once_any _ _ _ (x0 ++ x1) _ s7 (by omega)).mono ?_
    rintro e w63 ⟨v8, m8, rfl, o8, hm8, bx⟩
    replace ha := ha.below bx
    replace hb_ := hb_.below bx
    replace si := si.below bx
    replace XB0 := blk_below XB0 bx
    replace XB1 := blk_below XB1 bx
    replace B := below_then B bx
    replace wP := below_then wP bx
    clear bx
    obtain ⟨a8, c8, rfl, s8⟩ := Sl.of_own o8
    clear o8 s7
    go_wp2_with fail
    refine (same_yes _ _ _ _ _ _ _ _ _ si s8 E6.out).mono ?_
    rintro e w64 ⟨rfl, bx⟩
    replace ha := ha.below bx
    replace hb_ := hb_.below bx
    replace XB0 := blk_below XB0 bx
    replace XB1 := blk_below XB1 bx
    replace B := below_then B bx
    replace wP := below_then wP bx
    clear bx
    clear si s8 hm8
    go_wp2_with fail
    refine (OFT.out _ (SPX.out.below wP)).mono ?_
    rintro e w' ⟨rfl, rfl⟩
    have k0 := (blk XB0).1 0
    go_wp2_with fail
    clear k0
    refine (RXH.out qa _ ha).mono ?_
    rintro e w70 ⟨rfl, bx⟩
    replace ha := ha.below bx
    replace hb_ := hb_.below bx
    replace XB0 := blk_below XB0 bx
    replace XB1 := blk_below XB1 bx
    replace B := below_then B bx
    replace wP := below_then wP bx
    clear bx
    have k0 := (blk XB0).1 0
    have dK : ((K : Int) != (K : Int)) = false := by simp
    go_wp2_with fail
    clear k0
    refine (ATH.out qa _ ha).mono ?_
    rintro e w71 ⟨rfl, bx⟩
    replace ha := ha.below bx
    replace hb_ := hb_.below bx
    replace XB0 := blk_below XB0 bx
    replace XB1 := blk_below XB1 bx
    replace B := below_then B bx
    replace wP := below_then wP bx
    clear bx
    have spx := SPX.out.below wP
    have pl := HML.out
    rcases RC.out with ⟨rfl, k, rfl, hk, hy⟩ | ⟨rfl, rfl, hi⟩
    · rw [pl] at hk
      obtain ⟨bp, offp, rfl, hbp, hcp⟩ := spx.hat (by omega)
      have g := hcp k hk
      rw [hy] at g
      have hk1 : (0 : Int) ≤ (k : Int) := by omega
      have hk2 : (k : Int) < (m : Int) := by omega
      have hk3 : decide (k < m) = true := by rw [decide_eq_true_eq]; exact hk
      have hyy : (y == y) = true := by simp
      clear hcp hy pl spx RC
      go_wp2_with fail
      go_ret
      exact ⟨by simp, B⟩
    · rw [pl] at hi
      clear pl spx RC
      rcases hi with hi | ⟨hi1, hi2⟩
      · have d1 : decide ((0 : Int) ≤ i) = false := by rw [decide_eq_false_iff_not]; omega
        have d2 : ¬ (0 : Int) ≤ i := by omega
        go_wp2_with fail
        go_ret
        exact ⟨by simp, B⟩
      · have d1 : decide ((0 : Int) ≤ i) = true := by rw [decide_eq_true_eq]; exact hi1
        have d2 : decide (i < (m : Int)) = false := by rw [decide_eq_false_iff_not]; omega
        go_wp2_with fail
        go_ret
        exact ⟨by simp, B⟩
end Go.Proofs.Ytchglmgbnmdffaa
