/-
  The walk of the law TreapOne. Conditions: the arguments hold together at most 1048576 values.
-/
import Derived.Test.YtdhknhhahdjeeaaTreapFact
import Derived.Test.YtdhknhhahdjeeaaTreapShape
import Derived.Test.YtdhknhhahdjeeaaTreapUset
import Derived.Test.YtdhknhhahdjeeaaNodesSame
import Derived.Test.YtdhknhhahdjeeaaOnce
import Derived.Test.YtdhknhhahdjeeaaCalm
namespace Go.Proofs.Ytdhknhhahdjeeaa
open Go.RowKit Go.Deep Go.BigFrame
open Go.Proofs.Ytdhknhhahdjeeaa.ST
open Go.Proofs.Ytdhknhhahdjeeaa.TRP

theorem take_mem (xs : List Int) (k : Nat) (hk : k < xs.length) (y : Int) : y ∈ xs.take (k + 1) ↔ y = xs[k]?.getD 0 ∨ y ∈ xs.take k := by
  rw [take_snoc' xs k hk, List.mem_append, List.mem_singleton, or_comm]
theorem drop_mem' (xs : List Int) (k : Nat) (hk : k < xs.length) (y : Int) : y ∈ xs.drop k ↔ y = xs[k]?.getD 0 ∨ y ∈ xs.drop (k + 1) := by
  rw [List.drop_eq_getElem_cons hk, List.mem_cons, List.getElem?_eq_getElem hk]
  rfl
theorem get_mem' (xs : List Int) (k : Nat) (hk : k < xs.length) : xs[k]?.getD 0 ∈ xs := by
  rw [List.getElem?_eq_getElem hk]
  exact List.getElem_mem _

set_option linter.unusedVariables false
set_option maxHeartbeats 8000000 in
set_option maxRecDepth 100000 in
theorem TreapOne_walk (a0 : Option Addr) (n0 c0 : Nat) (x0 : List Int) (a1 : Option Addr) (n1 c1 : Nat) (x1 : List Int) (a2 : Option Addr) (n2 c2 : Nat) (x2 : List Int) (w : World)
    (s0 : Sl w a0 n0 c0 x0) (i0 : ∀ n ∈ x0, I64 n) (s1 : Sl w a1 n1 c1 x1) (i1 : ∀ n ∈ x1, I64 n) (s2 : Sl w a2 n2 c2 x2) (i2 : ∀ n ∈ x2, I64 n) (hn : n0 + n1 + n2 ≤ 1048576) :
    Calls Try.prog 10 #[.slice a0 n0 c0, .slice a1 n1 c1, .slice a2 n2 c2] w fun e w' => e = .returned (.bool true) ∧ Below w.heap.size w w' := by
  have S0 := Lib.hid s0
  have S1 := Lib.hid s1
  have S2 := Lib.hid s2
  have L0 := Lib.hid s0.hlen
  have L1 := Lib.hid s1.hlen
  have L2 := Lib.hid s2.hlen
  obtain ⟨u0, hu0⟩ : ∃ t, ofL x0 = t := ⟨_, rfl⟩
  obtain ⟨u1, hu1⟩ : ∃ t, ofL x1 = t := ⟨_, rfl⟩
  have g0 : Fit u0 := hu0 ▸ ofL_good x0
  have g1 : Fit u1 := hu1 ▸ ofL_good x1
  have z0 : u0.size ≤ n0 := by rw [← hu0, ← s0.hlen]; exact ofL_size x0
  have z1 : u1.size ≤ n1 := by rw [← hu1, ← s1.hlen]; exact ofL_size x1
  have m0 : ∀ y, y ∈ u0.toL ↔ y ∈ x0 := hu0 ▸ ofL_mem x0
  have m1 : ∀ y, y ∈ u1.toL ↔ y ∈ x1 := hu1 ▸ ofL_mem x1
  have OF0 : ∀ W, Below w.heap.size w W → Calls Try.prog 27 #[.slice a0 n0 c0] W fun e w' => ∃ q, e = .returned (.agg #[.pointer q]) ∧ In w' q u0 ∧ Below W.heap.size W w' := fun W hW => by
    have := of_any a0 n0 c0 x0 W (s0.below hW) (by omega)
    rwa [hu0] at this
  have OF1 : ∀ W, Below w.heap.size w W → Calls Try.prog 27 #[.slice a1 n1 c1] W fun e w' => ∃ q, e = .returned (.agg #[.pointer q]) ∧ In w' q u1 ∧ Below W.heap.size W w' := fun W hW => by
    have := of_any a1 n1 c1 x1 W (s1.below hW) (by omega)
    rwa [hu1] at this
  obtain ⟨U, hU⟩ : ∃ U, TRP.union u0 u1 = U := ⟨_, rfl⟩
  have gU : Fit U := hU ▸ (TRP0.union_tp g0 g1).1
  have mU : ∀ y, y ∈ U.toL ↔ y ∈ x0 ∨ y ∈ x1 := fun y => by rw [← hU, ← m0 y, ← m1 y]; exact (TRP0.union_tp g0 g1).2 y
  have zU : U.size ≤ n0 + n1 := by rw [← hU]; have := TRP.union_size u0 u1; omega
  have UN : ∀ (p q : Option Addr) (W : World), In W p u0 → In W q u1 → Calls Try.prog 35 #[.agg #[.pointer p], .agg #[.pointer q]] W fun e w' => ∃ r, e = .returned (.agg #[.pointer r]) ∧ In w' r U ∧ Below W.heap.size W w' :=
    fun p q W h h' => hU ▸ union_set u0 u1 p q W h h' (by omega)
  have ONE : U.toL = onceL (x0 ++ x1) := once_unique gU.bst fun y => by rw [mU, List.mem_append]
  have O0 := Lib.hid OF0
  have O1 := Lib.hid OF1
  have UH := Lib.hid UN
  have ONEH := Lib.hid ONE
  have MU := Lib.hid mU
  clear s0 s1 s2 i0 i1 i2 OF0 OF1 UN ONE mU hU hu0 hu1 m0 m1
  go_enter Try.func10, Try.ntmps10
  go_wp2_with fail
  refine (fact_any _).mono ?_
  rintro e w1 ⟨rfl, b1⟩
  go_wp2_with fail
  refine (O0.out _ b1).mono ?_
  rintro e w2 ⟨p0, rfl, h0, b2⟩
  replace b1 := below_then b1 b2
  clear b2
  go_wp2_with fail
  refine (O1.out _ b1).mono ?_
  rintro e w3 ⟨p1, rfl, h1, b3⟩
  replace b1 := below_then b1 b3
  replace h0 := h0.below b3
  clear b3
  go_wp2_with fail
  refine (UH.out p0 p1 _ h0 h1).mono ?_
  rintro e w4 ⟨qs, rfl, hs, b4⟩
  replace b1 := below_then b1 b4
  clear b4 h0 h1
  go_wp2_with fail
  obtain ⟨B0, hB0⟩ : ∃ k, w4.heap.size = k := ⟨_, rfl⟩
  obtain ⟨B1, hB1⟩ : ∃ k, w4.heap.size + 1 = k := ⟨_, rfl⟩
  obtain ⟨W, hW⟩ : ∃ W, (w4.alloc (.cells #[.pointer qs] 49)).alloc (.cells #[.pointer none] 49) = W := ⟨_, rfl⟩
  have bW : Below w4.heap.size w4 W := by rw [← hW]; exact ((Below.refl _ _).alloc (Nat.le_refl _) _).alloc (by simp) _
  have X : W.heap[B0]? = some (.cells #[.pointer qs] 49) := by rw [← hW, ← hB0]; exact (Below.heap_alloc _ _ _ (by simp)).trans (heap_alloc_new _ _)
  have Y : W.heap[B1]? = some (.cells #[.pointer none] 49) := by
    rw [← hW, ← hB1]
    have := heap_alloc_new (w4.alloc (.cells #[.pointer qs] 49)) (.cells #[.pointer none] 49)
    rwa [World.size_alloc] at this
  have h01 : B0 ≠ B1 := by omega
  have hw1 : w.heap.size ≤ B1 := by have := b1.size; omega
  replace hs := hs.below bW
  have B := below_then b1 bW
  first | rw [hW] | skip
  first | rw [hB1] | skip
  first | rw [hB0] | skip
  clear hW hB0 hB1 bW b1
  go_loopw [10] (fun i wr => ∃ (k : Nat) (t : ST) (q : Option Addr), k ≤ n2 ∧ i = .int .i64 k ∧ Fit t ∧ t.size ≤ k ∧ Hid (∀ y, y ∈ t.toL ↔ y ∈ x2.take k) ∧ In wr q t ∧ In wr qs U ∧ wr.heap[B0]? = some (.cells #[.pointer qs] 49) ∧ wr.heap[B1]? = some (.cells #[.pointer q] 49) ∧ Below w.heap.size w wr) (fun i _ => n2 - (intOf i).toNat)
  case atStart =>
    exact ⟨0, .nil, none, Nat.zero_le _, rfl, good_nil, Nat.le_refl _, Lib.hid (fun y => by simp [toL]), rfl, hs, X, Y, B⟩
  case round =>
    obtain ⟨k, t, q, hk, rfl, gt, zt, HM, hi, hs, hX, hY, hb⟩ := hrel
    clear X Y B
    by_cases hlt : k < n2
    · skip
      obtain ⟨b, off, rfl, hbl, hc⟩ := S2.out.hat (by omega)
      have g := (hb.cell (p := ⟨b, off + k, none⟩) hbl).trans (hc k (by omega))
      clear hc
      have hlti : (k : Int) < (n2 : Int) := by omega
      obtain ⟨z, hz⟩ : ∃ z, x2[k]?.getD 0 = z := ⟨_, rfl⟩
      rw [hz] at g
      have HZ := Lib.hid hz
      clear hz
      obtain ⟨X0, X1, Xl⟩ := blk hY
      have cX := X0 0
      have fX := X1 0
      have HY := Lib.hid hY
      clear X0 X1 hY
      go_wp2_with fail
      go_region_law (first | (go_simp; go_at_call 29; refine (put_set t z q _ (by first | exact hi.drew | exact hi.drewN _) (by omega)).mono ?_; rintro e w3 ⟨q2, rfl, hi2, hb2⟩; replace hb2 := below_of_drew hb2; have y0 := blk_below HY.out hb2; have e0 := (blk y0).1 0; have e1 := (blk y0).2.1 0))
      all_goals
        have y2 := blk_below hX hb2
        have hs2 := hs.below hb2
        have hb3 := below_then hb hb2
        have z2 := put_size t z
        go_wp2_with fail
        go_roundw
        case rel => exact ⟨k + 1, TRP.put t z, q2, by omega, by go_num, put_good gt z, by omega, Lib.hid (fun y => by rw [put_mem gt, HM.out, take_mem _ _ (by have := L2.out; omega), HZ.out]), hi2.keep (.setCell y0 (by decide)), hs2.keep (.setCell y0 (by decide)), blk_far y2 h01, blk_set y0, hb3.setCell (p := ⟨B1, 0, none⟩) hw1 _⟩
        case measure => simp [intOf]; omega
    · skip
      have he : k = n2 := by omega
      have HM0 : Hid (∀ y, y ∈ t.toL ↔ y ∈ x2 ∨ y ∈ x1.drop n1) := Lib.hid (fun y => by rw [HM.out, he, List.take_of_length_le (by have := L2.out; omega), List.drop_eq_nil_of_le (by have := L1.out; omega)]; simp [List.not_mem_nil])
      have zt0 : t.size ≤ n2 + (n1 - n1) := by omega
      clear HM zt
      have ew : wrap64 ((n1 : Int) - 1) = (n1 : Int) - 1 := by unfold wrap64; omega
      go_wp2_with fail
      go_loopw [11] (fun i wr => ∃ (k : Nat) (t : ST) (q : Option Addr), k ≤ n1 ∧ i = .int .i64 ((k : Int) - 1) ∧ Fit t ∧ t.size ≤ n2 + (n1 - k) ∧ Hid (∀ y, y ∈ t.toL ↔ y ∈ x2 ∨ y ∈ x1.drop k) ∧ In wr q t ∧ In wr qs U ∧ wr.heap[B0]? = some (.cells #[.pointer qs] 49) ∧ wr.heap[B1]? = some (.cells #[.pointer q] 49) ∧ Below w.heap.size w wr) (fun i _ => ((intOf i) + 1).toNat)
      case atStart =>
        exact ⟨n1, t, q, Nat.le_refl _, rfl, gt, zt0, HM0, hi, hs, hX, hY, hb⟩
      case round =>
        clear ew hi hs hX hY hb HM0 zt0 gt he hlt hk
        obtain ⟨k, t, q, hk, rfl, gt, zt, HM, hi, hs, hX, hY, hb⟩ := hrel
        cases k with
        | succ j =>
          have ht : (((j + 1 : Nat) : Int)) - 1 = (j : Int) := by omega
          rw [ht]
          clear ht
          obtain ⟨b, off, rfl, hbl, hc⟩ := S1.out.hat (by omega)
          have g := (hb.cell (p := ⟨b, off + j, none⟩) hbl).trans (hc j (by omega))
          clear hc
          have hlti : (j : Int) < (n1 : Int) := by omega
          obtain ⟨z, hz⟩ : ∃ z, x1[j]?.getD 0 = z := ⟨_, rfl⟩
          rw [hz] at g
          have HZ := Lib.hid hz
          clear hz
          have e9 : wrap64 ((j : Int) - 1) = (j : Int) - 1 := by unfold wrap64; omega
          obtain ⟨X0, X1, Xl⟩ := blk hY
          have cX := X0 0
          have fX := X1 0
          have HY := Lib.hid hY
          clear X0 X1 hY
          go_wp2_with fail
          go_region_law (first | (go_simp; go_at_call 29; refine (put_set t z q _ (by first | exact hi.drew | exact hi.drewN _) (by omega)).mono ?_; rintro e w3 ⟨q2, rfl, hi2, hb2⟩; replace hb2 := below_of_drew hb2; have y0 := blk_below HY.out hb2; have e0 := (blk y0).1 0; have e1 := (blk y0).2.1 0))
          all_goals
            have y2 := blk_below hX hb2
            have hs2 := hs.below hb2
            have hb3 := below_then hb hb2
            have z2 := put_size t z
            go_wp2_with fail
            go_roundw
            case rel => exact ⟨j, TRP.put t z, q2, by omega, by first | rfl | simp, put_good gt z, by omega, Lib.hid (fun y => by rw [put_mem gt, HM.out, drop_mem' _ j (by have := L1.out; omega), HZ.out]; exact or_left_comm), hi2.keep (.setCell y0 (by decide)), hs2.keep (.setCell y0 (by decide)), blk_far y2 h01, blk_set y0, hb3.setCell (p := ⟨B1, 0, none⟩) hw1 _⟩
            case measure => simp [intOf]; try omega
        | zero =>
          have hlt : ¬ (0 : Nat) < 0 := by omega
          have hk : (0 : Nat) ≤ 0 := by omega
          have he : (0 : Nat) = 0 := rfl
          skip
          have HM0 : Hid (∀ y, y ∈ t.toL ↔ (y ∈ x2 ∨ y ∈ x1) ∨ y ∈ x0.drop n0) := Lib.hid (fun y => by rw [HM.out, List.drop_zero, List.drop_eq_nil_of_le (by have := L0.out; omega)]; simp [List.not_mem_nil])
          have zt0 : t.size ≤ n2 + n1 + (n0 - n0) := by omega
          clear HM zt
          have ew : wrap64 ((n0 : Int) - 1) = (n0 : Int) - 1 := by unfold wrap64; omega
          go_wp2_with fail
          go_loopw [12] (fun i wr => ∃ (k : Nat) (t : ST) (q : Option Addr), k ≤ n0 ∧ i = .int .i64 ((k : Int) - 1) ∧ Fit t ∧ t.size ≤ n2 + n1 + (n0 - k) ∧ Hid (∀ y, y ∈ t.toL ↔ (y ∈ x2 ∨ y ∈ x1) ∨ y ∈ x0.drop k) ∧ In wr q t ∧ In wr qs U ∧ wr.heap[B0]? = some (.cells #[.pointer qs] 49) ∧ wr.heap[B1]? = some (.cells #[.pointer q] 49) ∧ Below w.heap.size w wr) (fun i _ => ((intOf i) + 1).toNat)
          case atStart =>
            exact ⟨n0, t, q, Nat.le_refl _, rfl, gt, zt0, HM0, hi, hs, hX, hY, hb⟩
          case round =>
            clear ew hi hs hX hY hb HM0 zt0 gt he hlt hk
            obtain ⟨k, t, q, hk, rfl, gt, zt, HM, hi, hs, hX, hY, hb⟩ := hrel
            cases k with
            | succ j =>
              have ht : (((j + 1 : Nat) : Int)) - 1 = (j : Int) := by omega
              rw [ht]
              clear ht
              obtain ⟨b, off, rfl, hbl, hc⟩ := S0.out.hat (by omega)
              have g := (hb.cell (p := ⟨b, off + j, none⟩) hbl).trans (hc j (by omega))
              clear hc
              have hlti : (j : Int) < (n0 : Int) := by omega
              obtain ⟨z, hz⟩ : ∃ z, x0[j]?.getD 0 = z := ⟨_, rfl⟩
              rw [hz] at g
              have HZ := Lib.hid hz
              clear hz
              have e9 : wrap64 ((j : Int) - 1) = (j : Int) - 1 := by unfold wrap64; omega
              obtain ⟨X0, X1, Xl⟩ := blk hY
              have cX := X0 0
              have fX := X1 0
              have HY := Lib.hid hY
              clear X0 X1 hY
              go_wp2_with fail
              go_region_law (first | (go_simp; go_at_call 29; refine (put_set t z q _ (by first | exact hi.drew | exact hi.drewN _) (by omega)).mono ?_; rintro e w3 ⟨q2, rfl, hi2, hb2⟩; replace hb2 := below_of_drew hb2; have y0 := blk_below HY.out hb2; have e0 := (blk y0).1 0; have e1 := (blk y0).2.1 0))
              all_goals
                have y2 := blk_below hX hb2
                have hs2 := hs.below hb2
                have hb3 := below_then hb hb2
                have z2 := put_size t z
                go_wp2_with fail
                go_roundw
                case rel => exact ⟨j, TRP.put t z, q2, by omega, by first | rfl | simp, put_good gt z, by omega, Lib.hid (fun y => by rw [put_mem gt, HM.out, drop_mem' _ j (by have := L0.out; omega), HZ.out]; exact or_left_comm), hi2.keep (.setCell y0 (by decide)), hs2.keep (.setCell y0 (by decide)), blk_far y2 h01, blk_set y0, hb3.setCell (p := ⟨B1, 0, none⟩) hw1 _⟩
                case measure => simp [intOf]; try omega
            | zero =>
              have hlt : ¬ (0 : Nat) < 0 := by omega
              have hk : (0 : Nat) ≤ 0 := by omega
              have he : (0 : Nat) = 0 := rfl
              have HM0 : Hid (∀ y, y ∈ t.toL ↔ (y ∈ x0 ∨ y ∈ x1) ∨ (y ∈ x2 ∧ y ∉ x2.take 0)) := Lib.hid (fun y => by rw [HM.out, List.drop_zero, List.take_zero]; simp only [List.not_mem_nil, not_false_eq_true, and_true]; simp only [or_assoc, or_comm])
              have zt0 : t.size ≤ n2 + n1 + n0 := by omega
              clear HM zt
              go_wp2_with fail
              go_loopw [13] (fun i wr => ∃ (k : Nat) (t : ST) (q : Option Addr), k ≤ n2 ∧ i = .int .i64 k ∧ Fit t ∧ t.size ≤ n2 + n1 + n0 ∧ Hid (∀ y, y ∈ t.toL ↔ (y ∈ x0 ∨ y ∈ x1) ∨ (y ∈ x2 ∧ y ∉ x2.take k)) ∧ In wr q t ∧ In wr qs U ∧ wr.heap[B0]? = some (.cells #[.pointer qs] 49) ∧ wr.heap[B1]? = some (.cells #[.pointer q] 49) ∧ Below w.heap.size w wr) (fun i _ => n2 - (intOf i).toNat)
              case atStart =>
                exact ⟨0, t, q, Nat.zero_le _, rfl, gt, zt0, HM0, hi, hs, hX, hY, hb⟩
              case round =>
                clear hi hs hX hY hb HM0 zt0 gt he hlt hk
                obtain ⟨k, t, q, hk, rfl, gt, zt, HM, hi, hs, hX, hY, hb⟩ := hrel
                by_cases hlt : k < n2
                · skip
                  obtain ⟨b, off, rfl, hbl, hc⟩ := S2.out.hat (by omega)
                  have g := (hb.cell (p := ⟨b, off + k, none⟩) hbl).trans (hc k (by omega))
                  clear hc
                  have hlti : (k : Int) < (n2 : Int) := by omega
                  obtain ⟨z, hz⟩ : ∃ z, x2[k]?.getD 0 = z := ⟨_, rfl⟩
                  rw [hz] at g
                  have HZ := Lib.hid hz
                  clear hz
                  have SO0 := S0.out.below hb
                  have SO1 := S1.out.below hb
                  have OL0 := often_le x0 z
                  have OL1 := often_le x1 z
                  rw [L0.out] at OL0
                  rw [L1.out] at OL1
                  obtain ⟨f0, hf0⟩ : ∃ f, oftenN x0 z = f := ⟨_, rfl⟩
                  obtain ⟨f1, hf1⟩ : ∃ f, oftenN x1 z = f := ⟨_, rfl⟩
                  rw [hf0] at OL0
                  rw [hf1] at OL1
                  have OA0 := fun W h => often_any a0 n0 c0 x0 z W h
                  have OA1 := fun W h => often_any a1 n1 c1 x1 z W h
                  rw [hf0] at OA0
                  rw [hf1] at OA1
                  have OH0 := Lib.hid OA0
                  have OH1 := Lib.hid OA1
                  have HF0 := Lib.hid hf0
                  have HF1 := Lib.hid hf1
                  have HSO0 := Lib.hid SO0
                  have HSO1 := Lib.hid SO1
                  have ew : IntKind.i64.wrap ((f0 : Int) + (f1 : Int)) = (f0 : Int) + (f1 : Int) := IntWalk.i64_in _ (by omega)
                  clear OA0 OA1 hf0 hf1 SO0 SO1
                  by_cases hz0 : f0 + f1 = 0
                  · have ez : ((f0 : Int) + (f1 : Int) == 0) = true := by simp; omega
                    have nz0 : z ∉ x0 := often_zero.1 (by have := HF0.out; omega)
                    have nz1 : z ∉ x1 := often_zero.1 (by have := HF1.out; omega)
                    have NZ := Lib.hid (And.intro nz0 nz1)
                    clear nz0 nz1
                    go_wp2_with fail
                    have calm0 : ∀ u : Grown wr, _ := fun u => u.cell g
                    refine wp_region_calm (by kernel_rfl) (by kernel_rfl) ?_
                    repeat (go_big_quiet_step ((first | (go_at_call 22; with_reducible exact calm_of_same (OH0.out _ (HSO0.out.below (Grown.below _)))) | (go_at_call 22; with_reducible exact calm_of_same (OH1.out _ (HSO1.out.below (Grown.below _)))))))
                    refine wpQuiet_nil ?_
                    intro wq hw'
                    have bc : Below wr.heap.size wr wq := by obtain ⟨u, rfl⟩ := hw'; exact u.below
                    clear hw' calm0
                    have hi := hi.below bc
                    have hs := hs.below bc
                    have hY' := blk_below hY bc
                    have hX' := blk_below hX bc
                    have hb' := below_then hb bc
                    have g' : wq.cell? ⟨b, off + k, none⟩ = some (.int .i64 z) := (bc.cell (p := ⟨b, off + k, none⟩) (Nat.lt_of_lt_of_le hbl hb.size)).trans g
                    clear hY hX hb g ew ez bc
                    have hY := hY'
                    have hX := hX'
                    have hb := hb'
                    have g := g'
                    clear hY' hX' hb' g'
                    obtain ⟨X0, X1, Xl⟩ := blk hY
                    have cX := X0 0
                    have fX := X1 0
                    have HY := Lib.hid hY
                    clear X0 X1 hY
                    go_wp2_with fail
                    go_region_law (first | (go_simp; go_at_call 30; refine (drop_set t z q _ (by first | exact hi.drew | exact hi.drewN _) (by omega)).mono ?_; rintro e w3 ⟨q2, rfl, hi2, hb2⟩; replace hb2 := below_of_drew hb2; have y0 := blk_below HY.out hb2; have e0 := (blk y0).1 0; have e1 := (blk y0).2.1 0))
                    all_goals
                      have y2 := blk_below hX hb2
                      have hs2 := hs.below hb2
                      have hb3 := below_then hb hb2
                      have z2 := drop_size t z
                      go_wp2_with fail
                      go_roundw
                      case rel =>
                        refine ⟨k + 1, TRP.drop t z, q2, by omega, by go_num, drop_good gt z, by omega, Lib.hid (fun y => ?_), hi2.keep (.setCell y0 (by decide)), hs2.keep (.setCell y0 (by decide)), blk_far y2 h01, blk_set y0, hb3.setCell (p := ⟨B1, 0, none⟩) hw1 _⟩
                        rw [drop_mem gt, HM.out, take_mem _ _ (by have := L2.out; omega), HZ.out]
                        have hnz := NZ.out
                        by_cases hyz : y = z
                        · subst hyz; simp [hnz.1, hnz.2]
                        · simp [hyz]
                      case measure => simp [intOf]; omega
                  · have ez : ((f0 : Int) + (f1 : Int) == 0) = false := by simp; omega
                    have yz : z ∈ x0 ∨ z ∈ x1 := by
                      by_cases hp : 0 < f0
                      · exact .inl (often_pos.1 (by have := HF0.out; omega))
                      · exact .inr (often_pos.1 (by have := HF1.out; omega))
                    have YZ := Lib.hid yz
                    clear yz
                    go_wp2_with fail
                    have calm0 : ∀ u : Grown wr, _ := fun u => u.cell g
                    refine wp_region_calm (by kernel_rfl) (by kernel_rfl) ?_
                    repeat (go_big_quiet_step ((first | (go_at_call 22; with_reducible exact calm_of_same (OH0.out _ (HSO0.out.below (Grown.below _)))) | (go_at_call 22; with_reducible exact calm_of_same (OH1.out _ (HSO1.out.below (Grown.below _)))))))
                    refine wpQuiet_nil ?_
                    intro wq hw'
                    have bc : Below wr.heap.size wr wq := by obtain ⟨u, rfl⟩ := hw'; exact u.below
                    clear hw' calm0
                    go_wp2_with fail
                    go_roundw
                    case rel =>
                      refine ⟨k + 1, t, q, by omega, by go_num, gt, zt, Lib.hid (fun y => ?_), hi.below bc, hs.below bc, blk_below hX bc, blk_below hY bc, below_then hb bc⟩
                      rw [HM.out, take_mem _ _ (by have := L2.out; omega), HZ.out]
                      have hnz := YZ.out
                      by_cases hyz : y = z
                      · subst hyz; simp [hnz]
                      · simp [hyz]
                    case measure => simp [intOf]; omega
                · have he : k = n2 := by omega
                  have EQ : t = U := TRP0.tp_unique prioI t.size t U (Nat.le_refl _) gt gU (fun y => by
                    rw [HM.out, MU.out, he, List.take_of_length_le (by have := L2.out; omega)]
                    simp)
                  subst EQ
                  have cX := (blk hX).1 0
                  have cY := (blk hY).1 0
                  have Xl := (blk hX).2.2
                  have Yl := (blk hY).2.2
                  clear HM he
                  go_wp2_with fail
                  go_region_held3 (fun w' => w'.cell? ⟨B0, 0, none⟩ = some (.pointer qs) ∧ w'.cell? ⟨B1, 0, none⟩ = some (.pointer q)) (go_keep) (first
                    | (have _t := bwp2; go_at_call 36; refine (nodes_yes _ _ _ _ _ _ _ _ _ (by first | exact (N1.below hbp2) | exact (N1.below hbp2).drew) (by first | exact N2 | exact N2.drew) rfl).mono ?_; rintro e wp3 ⟨rfl, hbp3⟩; have bwp3 := below_then bwp2 hbp3; have sp3_0 := (bwp3.cell (p := ⟨B0, 0, none⟩) Xl).trans cX; have sp3_1 := (bwp3.cell (p := ⟨B1, 0, none⟩) Yl).trans cY)
                    | (have _t := bwp1; go_at_call 33; refine (shape_any t q _ (by first | exact hi.below bwp1 | exact (hi.below bwp1).drew) (by omega)).mono ?_; rintro e wp2 ⟨la, lc, rfl, N2, hbp2⟩; have bwp2 := below_then bwp1 hbp2; have sp2_0 := (bwp2.cell (p := ⟨B0, 0, none⟩) Xl).trans cX; have sp2_1 := (bwp2.cell (p := ⟨B1, 0, none⟩) Yl).trans cY)
                    | (go_at_call 33; refine (shape_any t qs _ (by first | exact hs | exact hs.drew | exact hs.drewN _ | exact (hs.drewN _).drew | exact (hs.drewN _).drewN _ | exact ((hs.drewN _).drewN _).drew) (by omega)).mono ?_; rintro e wp1 ⟨ka, kc, rfl, N1, hbp1⟩; have bwp1 : Below wr.heap.size wr wp1 := (by first | exact hbp1 | exact below_of_drewN hbp1 | exact below_of_drew hbp1 | exact below_of_drewN (below_of_drew hbp1) | exact below_of_drewN (below_of_drewN hbp1) | exact below_of_drewN (below_of_drewN (below_of_drew hbp1))); have sp1_0 := (bwp1.cell (p := ⟨B0, 0, none⟩) Xl).trans cX; have sp1_1 := (bwp1.cell (p := ⟨B1, 0, none⟩) Yl).trans cY))
                  have X3 := blk_below hX bwp3
                  have hs3 := hs.below bwp3
                  have B3 := below_then hb bwp3
                  clear cX cY Xl Yl bwp1 bwp2 bwp3 hbp1 hbp2 hbp3 N1 N2 hi hY
                  have cX := (blk X3).1 0
                  go_wp2_with fail
                  refine (ints_sl t qs _ hs3 (by omega)).mono ?_
                  rintro e w5 ⟨a5, m5, c5, rfl, s5, b5⟩
                  have B5 := below_then B3 b5
                  go_wp2_with fail
                  refine (cat_any a0 a1 n0 n1 c0 c1 x0 x1 _ (S0.out.below B5) (S1.out.below B5) (by omega)).mono ?_
                  rintro e w6 ⟨v6, rfl, o6, b6⟩
                  obtain ⟨a6, c6, rfl, s6⟩ := Sl.of_own o6
                  have O6 := Lib.hid o6
                  have B6 := below_then B5 b6
                  have s56 := s5.below b6
                  clear o6 s5 cX
                  go_wp2_with fail
                  refine (once_any _ _ _ (x0 ++ x1) _ s6 (by omega)).mono ?_
                  rintro e w7 ⟨v7, m7, rfl, o7, hm7, b7⟩
                  obtain ⟨a7, c7, rfl, s7⟩ := Sl.of_own o7
                  have O7 := Lib.hid o7
                  have B7 := below_then B6 b7
                  have s57 := s56.below b7
                  clear o7 s56
                  go_wp2_with fail
                  refine (same_yes _ _ _ _ _ _ _ _ _ s57 s7 ONEH.out).mono ?_
                  rintro e w8 ⟨rfl, b8⟩
                  go_wp2_with fail
                  go_ret
                  exact ⟨rfl, below_then B7 b8⟩
end Go.Proofs.Ytdhknhhahdjeeaa
