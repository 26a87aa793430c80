/-
  The walk of the law RalTells. Conditions: the list has at most 2^44 - 512 numbers (the row's own reach).
-/
import Derived.Test.YthjghbifcnfcmaaRalInts
import Derived.Test.YthjghbifcnfcmaaRalOf
import Derived.Test.YthjghbifcnfcmaaRefPut
import Derived.Test.YthjghbifcnfcmaaSame
namespace Go.Proofs.Ythjghbifcnfcmaa
open Go.RowKit Go.Deep Go.BigFrame
open Go.Proofs.Ythjghbifcnfcmaa.RA
set_option linter.unusedVariables false
set_option maxHeartbeats 4000000 in
set_option maxRecDepth 100000 in
theorem RalTells_walk (a0 : Option Addr) (n0 c0 : Nat) (x0 : List Int) (x1 x2 : Int) (w : World)
    (s0 : Sl w a0 n0 c0 x0) (i0 : ∀ n ∈ x0, I64 n) (e0 : n0 ≤ 17592186043904) (i1 : I64 x1) (i2 : I64 x2) :
    Calls Try.prog 8 #[.slice a0 n0 c0, .int .i64 x1, .int .i64 x2] w fun e w' => e = .returned (.bool true) ∧ Below w.heap.size w w' := by
  obtain ⟨t0, hi0, hz0, hz1, hz2⟩ := info_parts Try.infoInt
  have L0 := Lib.hid s0.hlen
  have S0 := Lib.hid s0
  clear s0 i0 i1 i2
  go_enter Try.func8, Try.ntmps8
  go_wp2_with fail
  refine (of_any a0 n0 c0 x0 _ S0.out (by omega)).mono ?_
  rintro e w1 ⟨q0, m0, rfl, h0, B⟩
  have hm0 : m0 = (n0 : Int) := by rw [h0.size, L0.out]
  have fm0 : (m0 != (n0 : Int)) = false := by rw [bne_eq_false_iff_eq]; exact hm0
  have HM0 := Lib.hid hm0
  clear hm0
  go_wp2_with fail
  refine (ints_any q0 m0 x0 _ (h0.alloc _) (by have := L0.out; (try simp only [List.length_set]); (try simp only [List.length_cons]); omega)).mono ?_
  rintro e w2 ⟨ap, np, cp, rfl, sp, bx⟩
  obtain ⟨bx, A⟩ := hold1 bx ⟨rfl, rfl, rfl, rfl⟩
  replace h0 := h0.below bx
  replace B := below_then B bx
  clear bx
  go_wp2_with fail
  refine (same_yes _ _ _ _ _ _ _ _ _ sp (S0.out.below B) rfl).mono ?_
  rintro e w3 ⟨rfl, bx⟩
  replace h0 := h0.below bx
  replace A := blk_below A bx
  replace sp := sp.below bx
  replace B := below_then B bx
  clear bx
  clear sp
  obtain ⟨u0, uu0, uuu0⟩ := blk A
  go_wp2_with fail
  refine (push_any x1 q0 m0 x0 _ h0 (by have := L0.out; omega)).mono ?_
  rintro e w4 ⟨q1, m1, rfl, h1, bx⟩
  clear u0 uu0 uuu0
  replace h0 := h0.below bx
  replace A := blk_below A bx
  replace B := below_then B bx
  clear bx
  go_wp2_with fail
  refine (ints_any q1 m1 (x1 :: x0) _ h1 (by have := L0.out; (try simp only [List.length_set]); (try simp only [List.length_cons]); omega)).mono ?_
  rintro e w5 ⟨ap, np, cp, rfl, sp, bx⟩
  replace h0 := h0.below bx
  replace A := blk_below A bx
  replace h1 := h1.below bx
  replace B := below_then B bx
  clear bx
  go_wp2_with (at_builtin; refine wpList_append_any _ rfl (.tmp 30) (.tmp 31) _ rfl w5.heap.size 3 t0 (.int .i64 0) 1 8 Try.underlying22 hi0 hz0 hz1 hz2 rfl (by omega) (.slice (some ⟨w5.heap.size, 0, none⟩) 1 1) 1 [.int .i64 x1] rfl (World.ownsRow_lit (base := w5.heap.size) (e := 3) (size := 1) _ #[.int .i64 x1] 1 (Nat.le_refl _) (by decide) rfl) _ a0 n0 c0 _ rfl (((S0.out.below B).below ((Below.refl _ _).alloc (Nat.le_refl _) _)).reads) (one_cells x0) (by simp only [maxLen]; omega) (by omega) (by simp) ?_; intro vv w6 hown hg hat)
  have bx : Below w5.heap.size w5 w6 := below_grown ((Below.refl _ _).alloc (Nat.le_refl _) _) (World.ownsRow_lit (base := w5.heap.size) (e := 3) (size := 1) w5 #[.int .i64 x1] 1 (Nat.le_refl _) (by decide) rfl) hg (Nat.le_refl _) (by simp)
  obtain ⟨aq, cq, rfl, sq⟩ := Sl.of_own (xs := x1 :: x0) (n := 1 + n0) (by simpa using hown)
  clear hown hg hat
  replace h0 := h0.below bx
  replace A := blk_below A bx
  replace h1 := h1.below bx
  replace sp := sp.below bx
  replace B := below_then B bx
  clear bx
  go_wp2_with fail
  refine (same_yes _ _ _ _ _ _ _ _ _ sp sq rfl).mono ?_
  rintro e w7 ⟨rfl, bx⟩
  replace h0 := h0.below bx
  replace A := blk_below A bx
  replace h1 := h1.below bx
  replace sp := sp.below bx
  replace sq := sq.below bx
  replace B := below_then B bx
  clear bx
  clear sp sq
  go_wp2_with fail
  refine (of_any _ 2 2 [5, 3] _ (Sl.two _ _ _ _) (by decide)).mono ?_
  rintro e w8 ⟨qf, mf, rfl, hf, bx⟩
  obtain ⟨bx, Lf⟩ := hold1 bx ⟨rfl, rfl, rfl, rfl⟩
  replace h0 := h0.below bx
  replace A := blk_below A bx
  replace h1 := h1.below bx
  replace B := below_then B bx
  clear bx
  have hmf : mf = 2 := hf.size
  subst hmf
  clear Lf
  obtain ⟨u0, uu0, uuu0⟩ := blk A
  go_wp2_with fail
  refine (len_any q0 m0 _).mono ?_
  rintro e w9 ⟨rfl, bx⟩
  obtain ⟨bx, F⟩ := hold1 bx ⟨rfl, rfl, rfl, rfl⟩
  clear u0 uu0 uuu0
  replace h0 := h0.below bx
  replace A := blk_below A bx
  replace h1 := h1.below bx
  replace hf := hf.below bx
  replace B := below_then B bx
  clear bx
  obtain ⟨u0, uu0, uuu0⟩ := blk F
  go_wp2_with fail
  refine (len_any qf 2 _).mono ?_
  rintro e w10 ⟨rfl, bx⟩
  clear u0 uu0 uuu0
  replace h0 := h0.below bx
  replace A := blk_below A bx
  replace h1 := h1.below bx
  replace hf := hf.below bx
  replace F := blk_below F bx
  replace B := below_then B bx
  clear bx
  clear F hf
  by_cases hin : 0 ≤ x2 ∧ x2 < (n0 : Int)
  · obtain ⟨i, rfl⟩ : ∃ i : Nat, x2 = (i : Int) := ⟨x2.toNat, by omega⟩
    obtain ⟨hx0, hx1⟩ := hin
    have hi2 : i < n0 := by omega
    have hn0 : 0 < n0 := by omega
    obtain ⟨b, off, rfl, hbl, hc⟩ := S0.out.hat hn0
    obtain ⟨y, hy⟩ : ∃ y, x0[i]?.getD 0 = y := ⟨_, rfl⟩
    have gi := hc i hi2
    rw [hy] at gi
    have hxi : x0[i]? = some y := by
      rw [List.getElem?_eq_getElem (by have := L0.out; omega)] at hy ⊢
      exact congrArg some hy
    have HXI := Lib.hid hxi
    have GI := Lib.hid gi
    have HC := Lib.hid (hc 0 hn0)
    clear hxi gi hy hc
    obtain ⟨u0, uu0, uuu0⟩ := blk A
    go_wp2_with fail
    refine (at_in i y q0 m0 x0 _ h0 HXI.out (by have := L0.out; omega)).mono ?_
    rintro e w11 ⟨rfl, bx⟩
    clear u0 uu0 uuu0
    replace h0 := h0.below bx
    replace A := blk_below A bx
    replace h1 := h1.below bx
    replace B := below_then B bx
    clear bx
    obtain ⟨u0, uu0, uuu0⟩ := blk A
    go_wp2_with fail
    refine (set_in i x1 q0 m0 x0 _ h0 (by have := L0.out; omega) (by have := L0.out; omega)).mono ?_
    rintro e w12 ⟨qs, rfl, hs, bx⟩
    clear u0 uu0 uuu0
    replace h0 := h0.below bx
    replace A := blk_below A bx
    replace h1 := h1.below bx
    replace B := below_then B bx
    clear bx
    go_wp2_with fail
    refine (ints_any qs m0 (x0.set i x1) _ (hs.alloc _) (by have := L0.out; (try simp only [List.length_set]); (try simp only [List.length_cons]); omega)).mono ?_
    rintro e w13 ⟨ap, np, cp, rfl, sp, bx⟩
    obtain ⟨bx, T⟩ := hold1 bx ⟨rfl, rfl, rfl, rfl⟩
    replace h0 := h0.below bx
    replace A := blk_below A bx
    replace h1 := h1.below bx
    replace hs := hs.below bx
    replace B := below_then B bx
    clear bx
    go_wp2_with fail
    refine (put_any _ n0 c0 i x0 x1 _ (S0.out.below B) hi2 (by omega)).mono ?_
    rintro e w14 ⟨aq, nq, cq, rfl, sq, bx⟩
    replace h0 := h0.below bx
    replace A := blk_below A bx
    replace h1 := h1.below bx
    replace hs := hs.below bx
    replace T := blk_below T bx
    replace sp := sp.below bx
    replace B := below_then B bx
    clear bx
    go_wp2_with fail
    refine (same_yes _ _ _ _ _ _ _ _ _ sp sq rfl).mono ?_
    rintro e w15 ⟨rfl, bx⟩
    replace h0 := h0.below bx
    replace A := blk_below A bx
    replace h1 := h1.below bx
    replace hs := hs.below bx
    replace T := blk_below T bx
    replace sp := sp.below bx
    replace sq := sq.below bx
    replace B := below_then B bx
    clear bx
    clear sp sq
    obtain ⟨u0, uu0, uuu0⟩ := blk A
    go_wp2_with fail
    refine (ints_any q0 m0 x0 _ h0 (by have := L0.out; (try simp only [List.length_set]); (try simp only [List.length_cons]); omega)).mono ?_
    rintro e w16 ⟨ap, np, cp, rfl, sp, bx⟩
    clear u0 uu0 uuu0
    replace h0 := h0.below bx
    replace A := blk_below A bx
    replace h1 := h1.below bx
    replace hs := hs.below bx
    replace T := blk_below T bx
    replace B := below_then B bx
    clear bx
    go_wp2_with fail
    refine (same_yes _ _ _ _ _ _ _ _ _ sp (S0.out.below B) rfl).mono ?_
    rintro e w17 ⟨rfl, bx⟩
    replace h0 := h0.below bx
    replace A := blk_below A bx
    replace h1 := h1.below bx
    replace hs := hs.below bx
    replace T := blk_below T bx
    replace sp := sp.below bx
    replace B := below_then B bx
    clear bx
    clear sp
    have gi := (B.cell (p := ⟨b, off + i, none⟩) hbl).trans GI.out
    have hblB := Nat.lt_of_lt_of_le hbl B.size
    obtain ⟨z, r, hyr⟩ : ∃ z r, x0 = z :: r := by
      cases x0 with
      | nil => have := L0.out; simp at this; omega
      | cons z r => exact ⟨z, r, rfl⟩
    have h0' := h0
    rw [hyr] at h0'
    have HYR := Lib.hid hyr
    have hrl : r.length + 1 = n0 := by rw [← L0.out, hyr]; rfl
    have HRL := Lib.hid hrl
    clear hyr hrl
    have hn0i : ((n0 : Int) == 0) = false := by rw [beq_eq_false_iff_ne]; omega
    obtain ⟨u0, uu0, uuu0⟩ := blk A
    go_wp2_with fail
    refine (pop_cons z q0 m0 r _ h0' (by have := HRL.out; omega)).mono ?_
    rintro e w18 ⟨qc, mc, rfl, hc', bx⟩
    clear u0 uu0 uuu0
    replace h0 := h0.below bx
    replace A := blk_below A bx
    replace h1 := h1.below bx
    replace hs := hs.below bx
    replace T := blk_below T bx
    replace h0' := h0'.below bx
    replace B := below_then B bx
    clear bx
    try clear gi
    obtain ⟨of1, hof1, hof2⟩ : ∃ o' : Nat, cutAt (some ⟨b, off, none⟩) c0 1 = some ⟨b, o', none⟩ ∧ (if c0 = 1 then (some ⟨b, off, none⟩ : Option Addr) else some ⟨b, off + 1, none⟩) = some ⟨b, o', none⟩ := by
      by_cases hc1 : c0 = 1
      · exact ⟨off, by simp [cutAt, hc1], by simp [hc1]⟩
      · exact ⟨off + 1, by simp [cutAt, hc1, Addr.add], by simp [hc1]⟩
    have st := (S0.out.below B).rest (k := 1) hn0
    rw [hof1, HYR.out, List.drop_one, List.tail_cons] at st
    have ST := Lib.hid (st.alloc (.cells #[.pointer qc, .int .i64 mc] 44))
    have hni1 : (1 : Int) ≤ (n0 : Int) := by omega
    have hnc : (n0 : Int) ≤ (c0 : Int) := by have := S0.out.hcap; omega
    have gz0 := HC.out
    rw [Nat.add_zero] at gz0
    have gz := (B.cell (p := ⟨b, off, none⟩) hbl).trans gz0
    clear gz0
    have hz : x0[0]?.getD 0 = z := by rw [HYR.out]; rfl
    rw [hz] at gz
    have hcc := hc'.alloc (.cells #[.pointer qc, .int .i64 mc] 44)
    have BA := B.alloc B.size (.cells #[.pointer qc, .int .i64 mc] 44)
    obtain ⟨uc, vc, lc⟩ := blk (Box.new w18 qc mc)
    have k0 : (w18.alloc (.cells #[.pointer qc, .int .i64 mc] 44)).cell? ⟨w18.heap.size, 0, none⟩ = some (.pointer qc) := uc 0
    have k1 : (w18.alloc (.cells #[.pointer qc, .int .i64 mc] 44)).cell? ⟨w18.heap.size, 1, none⟩ = some (.int .i64 mc) := uc 1
    have gz' : (w18.alloc (.cells #[.pointer qc, .int .i64 mc] 44)).cell? ⟨b, off, none⟩ = some (.int .i64 z) := (((Below.refl w18.heap.size w18).alloc (Nat.le_refl _) (.cells #[.pointer qc, .int .i64 mc] 44)).cell (p := ⟨b, off, none⟩) (Nat.lt_of_lt_of_le hbl B.size)).trans gz
    have hblA := Nat.lt_of_lt_of_le hbl BA.size
    obtain ⟨V, hV⟩ : ∃ V, w18.alloc (.cells #[.pointer qc, .int .i64 mc] 44) = V := ⟨_, rfl⟩
    rw [hV] at ST hcc BA k0 k1 gz' hblA lc
    clear st hof1 A h0 h0' hc' uc vc gz hz B
    go_wp2_with fail
    (try rw [hV])
    clear hV
    go_region_held3 (fun w' => w'.cell? ⟨w18.heap.size, 0, none⟩ = some (.pointer qc) ∧ w'.cell? ⟨w18.heap.size, 1, none⟩ = some (.int .i64 mc)) (go_keep) (first
      | (have _t := bwz1; go_at_call 13; refine (same_yes _ _ _ _ _ _ _ _ _ sz (by first | exact ST.out.below bwz1 | exact (ST.out.below bwz1).drew) rfl).mono ?_; rintro e wz2 ⟨rfl, hbz2⟩; have bwz2 := below_then bwz1 hbz2; have sz2_0 := (bwz2.cell (p := ⟨w18.heap.size, 0, none⟩) lc).trans k0; have sz2_1 := (bwz2.cell (p := ⟨w18.heap.size, 1, none⟩) lc).trans k1)
      | (go_at_call 25; refine (ints_any qc mc r _ (by first | exact hcc | exact hcc.drew | exact hcc.drewN _ | exact (hcc.drewN _).drew | exact (hcc.drewN _).drewN _ | exact ((hcc.drewN _).drewN _).drew) (by have := HRL.out; omega)).mono ?_; rintro e wz1 ⟨az, nz, cz, rfl, sz, hbz1⟩; have bwz1 : Below V.heap.size V wz1 := (by first | exact hbz1 | exact below_of_drewN hbz1 | exact below_of_drew hbz1 | exact below_of_drewN (below_of_drew hbz1) | exact below_of_drewN (below_of_drewN hbz1) | exact below_of_drewN (below_of_drewN (below_of_drew hbz1))); have sz1_0 := (bwz1.cell (p := ⟨w18.heap.size, 0, none⟩) lc).trans k0; have sz1_1 := (bwz1.cell (p := ⟨w18.heap.size, 1, none⟩) lc).trans k1))
    all_goals
      have gz2 := (bwz2.cell (p := ⟨b, off, none⟩) hblA).trans gz'
      go_wp2_with fail
      go_ret
      exact ⟨rfl, below_then BA bwz2⟩
  · have hout : x2 < 0 ∨ (0 ≤ x2 ∧ (n0 : Int) ≤ x2) := by omega
    have hni : ¬ (0 ≤ x2 ∧ x2 < (x0.length : Int)) := by have := L0.out; omega
    have HNI := Lib.hid hni
    clear hin hni
    rcases hout with hx1 | ⟨hx1, hx2⟩
    all_goals
      obtain ⟨u0, uu0, uuu0⟩ := blk A
      go_wp2_with fail
      refine (at_out x2 q0 m0 x0 _ h0 HNI.out).mono ?_
      rintro e w11 ⟨rfl, bx⟩
      clear u0 uu0 uuu0
      replace h0 := h0.below bx
      replace A := blk_below A bx
      replace h1 := h1.below bx
      replace B := below_then B bx
      clear bx
      obtain ⟨u0, uu0, uuu0⟩ := blk A
      go_wp2_with fail
      refine (set_out x2 x1 q0 m0 x0 _ h0 HNI.out).mono ?_
      rintro e w12 ⟨rfl, bx⟩
      clear u0 uu0 uuu0
      replace h0 := h0.below bx
      replace A := blk_below A bx
      replace h1 := h1.below bx
      replace B := below_then B bx
      clear bx
      go_wp2_with fail
      refine (len_any none 0 _).mono ?_
      rintro e w13 ⟨rfl, bx⟩
      obtain ⟨bx, T⟩ := hold1 bx ⟨rfl, rfl, rfl, rfl⟩
      replace h0 := h0.below bx
      replace A := blk_below A bx
      replace h1 := h1.below bx
      replace B := below_then B bx
      clear bx
      clear T
      rcases Nat.eq_zero_or_pos n0 with hz0 | hn0
      · have hn0i : ((n0 : Int) == 0) = true := by rw [hz0]; rfl
        have h0' := h0
        rw [List.eq_nil_of_length_eq_zero (L0.out.trans hz0)] at h0'
        clear hz0
        obtain ⟨u0, uu0, uuu0⟩ := blk A
        go_wp2_with fail
        refine (pop_nil q0 m0 _ h0').mono ?_
        rintro e w14 ⟨rfl, bx⟩
        clear u0 uu0 uuu0
        replace h0 := h0.below bx
        replace A := blk_below A bx
        replace h1 := h1.below bx
        replace h0' := h0'.below bx
        replace B := below_then B bx
        clear bx
        go_wp2_with fail
        refine (len_any none 0 _).mono ?_
        rintro e w15 ⟨rfl, bx⟩
        obtain ⟨bx, P⟩ := hold1 bx ⟨rfl, rfl, rfl, rfl⟩
        replace h0 := h0.below bx
        replace A := blk_below A bx
        replace h1 := h1.below bx
        replace h0' := h0'.below bx
        replace B := below_then B bx
        clear bx
        go_wp2_with fail
        go_ret
        exact ⟨rfl, B⟩
      · obtain ⟨b, off, rfl, hbl, hc⟩ := S0.out.hat hn0
        have HC := Lib.hid (hc 0 hn0)
        clear hc
        obtain ⟨z, r, hyr⟩ : ∃ z r, x0 = z :: r := by
          cases x0 with
          | nil => have := L0.out; simp at this; omega
          | cons z r => exact ⟨z, r, rfl⟩
        have h0' := h0
        rw [hyr] at h0'
        have HYR := Lib.hid hyr
        have hrl : r.length + 1 = n0 := by rw [← L0.out, hyr]; rfl
        have HRL := Lib.hid hrl
        clear hyr hrl
        have hn0i : ((n0 : Int) == 0) = false := by rw [beq_eq_false_iff_ne]; omega
        obtain ⟨u0, uu0, uuu0⟩ := blk A
        go_wp2_with fail
        refine (pop_cons z q0 m0 r _ h0' (by have := HRL.out; omega)).mono ?_
        rintro e w14 ⟨qc, mc, rfl, hc', bx⟩
        clear u0 uu0 uuu0
        replace h0 := h0.below bx
        replace A := blk_below A bx
        replace h1 := h1.below bx
        replace h0' := h0'.below bx
        replace B := below_then B bx
        clear bx
        try clear gi
        obtain ⟨of1, hof1, hof2⟩ : ∃ o' : Nat, cutAt (some ⟨b, off, none⟩) c0 1 = some ⟨b, o', none⟩ ∧ (if c0 = 1 then (some ⟨b, off, none⟩ : Option Addr) else some ⟨b, off + 1, none⟩) = some ⟨b, o', none⟩ := by
          by_cases hc1 : c0 = 1
          · exact ⟨off, by simp [cutAt, hc1], by simp [hc1]⟩
          · exact ⟨off + 1, by simp [cutAt, hc1, Addr.add], by simp [hc1]⟩
        have st := (S0.out.below B).rest (k := 1) hn0
        rw [hof1, HYR.out, List.drop_one, List.tail_cons] at st
        have ST := Lib.hid (st.alloc (.cells #[.pointer qc, .int .i64 mc] 44))
        have hni1 : (1 : Int) ≤ (n0 : Int) := by omega
        have hnc : (n0 : Int) ≤ (c0 : Int) := by have := S0.out.hcap; omega
        have gz0 := HC.out
        rw [Nat.add_zero] at gz0
        have gz := (B.cell (p := ⟨b, off, none⟩) hbl).trans gz0
        clear gz0
        have hz : x0[0]?.getD 0 = z := by rw [HYR.out]; rfl
        rw [hz] at gz
        have hcc := hc'.alloc (.cells #[.pointer qc, .int .i64 mc] 44)
        have BA := B.alloc B.size (.cells #[.pointer qc, .int .i64 mc] 44)
        obtain ⟨uc, vc, lc⟩ := blk (Box.new w14 qc mc)
        have k0 : (w14.alloc (.cells #[.pointer qc, .int .i64 mc] 44)).cell? ⟨w14.heap.size, 0, none⟩ = some (.pointer qc) := uc 0
        have k1 : (w14.alloc (.cells #[.pointer qc, .int .i64 mc] 44)).cell? ⟨w14.heap.size, 1, none⟩ = some (.int .i64 mc) := uc 1
        have gz' : (w14.alloc (.cells #[.pointer qc, .int .i64 mc] 44)).cell? ⟨b, off, none⟩ = some (.int .i64 z) := (((Below.refl w14.heap.size w14).alloc (Nat.le_refl _) (.cells #[.pointer qc, .int .i64 mc] 44)).cell (p := ⟨b, off, none⟩) (Nat.lt_of_lt_of_le hbl B.size)).trans gz
        have hblA := Nat.lt_of_lt_of_le hbl BA.size
        obtain ⟨V, hV⟩ : ∃ V, w14.alloc (.cells #[.pointer qc, .int .i64 mc] 44) = V := ⟨_, rfl⟩
        rw [hV] at ST hcc BA k0 k1 gz' hblA lc
        clear st hof1 A h0 h0' hc' uc vc gz hz B
        go_wp2_with fail
        (try rw [hV])
        clear hV
        go_region_held3 (fun w' => w'.cell? ⟨w14.heap.size, 0, none⟩ = some (.pointer qc) ∧ w'.cell? ⟨w14.heap.size, 1, none⟩ = some (.int .i64 mc)) (go_keep) (first
          | (have _t := bwz1; go_at_call 13; refine (same_yes _ _ _ _ _ _ _ _ _ sz (by first | exact ST.out.below bwz1 | exact (ST.out.below bwz1).drew) rfl).mono ?_; rintro e wz2 ⟨rfl, hbz2⟩; have bwz2 := below_then bwz1 hbz2; have sz2_0 := (bwz2.cell (p := ⟨w14.heap.size, 0, none⟩) lc).trans k0; have sz2_1 := (bwz2.cell (p := ⟨w14.heap.size, 1, none⟩) lc).trans k1)
          | (go_at_call 25; refine (ints_any qc mc r _ (by first | exact hcc | exact hcc.drew | exact hcc.drewN _ | exact (hcc.drewN _).drew | exact (hcc.drewN _).drewN _ | exact ((hcc.drewN _).drewN _).drew) (by have := HRL.out; omega)).mono ?_; rintro e wz1 ⟨az, nz, cz, rfl, sz, hbz1⟩; have bwz1 : Below V.heap.size V wz1 := (by first | exact hbz1 | exact below_of_drewN hbz1 | exact below_of_drew hbz1 | exact below_of_drewN (below_of_drew hbz1) | exact below_of_drewN (below_of_drewN hbz1) | exact below_of_drewN (below_of_drewN (below_of_drew hbz1))); have sz1_0 := (bwz1.cell (p := ⟨w14.heap.size, 0, none⟩) lc).trans k0; have sz1_1 := (bwz1.cell (p := ⟨w14.heap.size, 1, none⟩) lc).trans k1))
        all_goals
          have gz2 := (bwz2.cell (p := ⟨b, off, none⟩) hblA).trans gz'
          go_wp2_with fail
          go_ret
          exact ⟨rfl, below_then BA bwz2⟩
end Go.Proofs.Ythjghbifcnfcmaa
