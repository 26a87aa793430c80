/-
  The walk of the law QueueTells. Conditions: the list has at most 2^44 - 512 numbers (the row's own reach).
-/
import Derived.Test.YthjghbifcnfcmaaQueued
import Derived.Test.YthjghbifcnfcmaaApp
import Derived.Test.YthjghbifcnfcmaaTail
namespace Go.Proofs.Ythjghbifcnfcmaa
open Go.RowKit Go.Deep Go.BigFrame
open Go.Proofs.Ythjghbifcnfcmaa.QU
set_option linter.unusedVariables false
set_option maxHeartbeats 4000000 in
set_option maxRecDepth 100000 in
theorem QueueTells_walk (a0 : Option Addr) (n0 c0 : Nat) (x0 : List Int) (a1 : Option Addr) (n1 c1 : Nat) (x1 : List Bool) (w : World)
    (s0 : Sl w a0 n0 c0 x0) (i0 : ∀ n ∈ x0, I64 n) (e0 : n0 ≤ 17592186043904) (s1 : Bl w a1 n1 c1 x1) :
    Calls Try.prog 5 #[.slice a0 n0 c0, .slice a1 n1 c1] w fun e w' => e = .returned (.bool true) ∧ Below w.heap.size w w' := by
  obtain ⟨t0, hi0, hz0, hz1, hz2⟩ := info_parts Try.infoInt
  have L0 := Lib.hid s0.hlen
  have S0 := Lib.hid s0
  have S1 := Lib.hid s1
  have sc0 := s0.hcap
  have sm0 := s0.hmax
  unfold maxLen at sm0
  clear s0 i0 s1
  go_enter Try.func5, Try.ntmps5
  go_wp2_with fail
  refine (queued_any _).mono ?_
  rintro e w1 ⟨rfl, b1⟩
  go_wp2_with fail
  obtain ⟨B0, hB0⟩ : ∃ k, w1.heap.size = k := ⟨_, rfl⟩
  have X : Box (w1.alloc (.cells #[.pointer none, .int .i64 0, .pointer none, .int .i64 0] 28)) B0 none 0 none 0 := by rw [← hB0]; exact Box.new _ _ _ _ _
  have bX : Below w.heap.size w (w1.alloc (.cells #[.pointer none, .int .i64 0, .pointer none, .int .i64 0] 28)) := b1.alloc b1.size _
  have hBw : w.heap.size ≤ B0 := by rw [← hB0]; exact b1.size
  rw [hB0]
  clear hB0 b1
  go_loopw [7, 8] (fun v i wr => ∃ (k : Nat) (p : Option Addr) (m : Int) (q : Option Addr) (j : Int) (zs : List Int) (N : Nat), k ≤ n0 ∧ i = .int .i64 k ∧ In wr p m q j zs ∧ Box wr B0 p m q j ∧ Tl wr w.heap.size v N zs ∧ N ≤ k ∧ Below w.heap.size w wr) (fun _ i _ => n0 - (intOf i).toNat)
  case atStart =>
    exact ⟨0, none, 0, none, 0, [], 0, Nat.zero_le _, rfl, In.nil _, X, Tl.nil _ _, Nat.le_refl _, bX⟩
  case round =>
    obtain ⟨k, p, m, q, j, zs, N, hk, rfl, hi, hX, hT, hN, hb⟩ := hrel
    clear X bX
    by_cases hlt : k < n0
    · obtain ⟨b, off, rfl, hbl, hc⟩ := S0.out.hat (by omega)
      have g := (hb.cell (p := ⟨b, off + k, none⟩) hbl).trans (hc k hlt)
      clear hc
      have hlti : (k : Int) < (n0 : Int) := by omega
      obtain ⟨y, hy⟩ : ∃ y, x0[k]?.getD 0 = y := ⟨_, rfl⟩
      rw [hy] at g
      clear hy
      obtain ⟨d, hd⟩ : ∃ d, (decide (k < n1) && x1[k]?.getD false) = d := ⟨_, rfl⟩
      have HD := Lib.hid hd
      have hzl := hT.1
      obtain ⟨va, vc, rfl, _⟩ := hT.sl
      have hzl2 : zs.length + 1 ≤ 1152921504606846976 := by omega
      obtain ⟨uc, vc, lc⟩ := blk hX
      have c0 : wr.cell? ⟨B0, 0, none⟩ = some (.pointer p) := uc 0
      have cf0 := vc 0
      have c1 : wr.cell? ⟨B0, 1, none⟩ = some (.int .i64 m) := uc 1
      have cf1 := vc 1
      have c2 : wr.cell? ⟨B0, 2, none⟩ = some (.pointer q) := uc 2
      have cf2 := vc 2
      have c3 : wr.cell? ⟨B0, 3, none⟩ = some (.int .i64 j) := uc 3
      have cf3 := vc 3
      clear uc vc
      have HX := Lib.hid hX
      have HT := Lib.hid hT
      have hbs := hb.size
      have hBr : B0 ≤ wr.heap.size := Nat.le_of_lt lc
      have HZL := Lib.hid hzl
      clear hX hd hT hzl
      go_wp2_with fail
      go_cut [] (fun wx => ∃ (p2 : Option Addr) (m2 : Int) (q2 : Option Addr) (j2 : Int), In wx p2 m2 q2 j2 (zs ++ [y]) ∧ Box wx B0 p2 m2 q2 j2 ∧ Tl wx w.heap.size (.slice va N vc) N zs ∧ wx.cell? ⟨b, off + k, none⟩ = some (.int .i64 y) ∧ Below w.heap.size w wx)
      case first =>
        go_region_law (first | (go_simp; go_at_call 10; refine (push_any y p m q j _ _ (by first | exact hi.drew | exact hi.drewN _) (by omega)).mono ?_; rintro e w2 ⟨p2, m2, q2, j2, rfl, hi2, hb2⟩; replace hb2 := below_of_drew hb2; have y0 := HX.out.below hb2; obtain ⟨uy, vy, ly⟩ := blk y0; have e0 := uy 0; have ef0 := vy 0; have e1 := uy 1; have ef1 := vy 1; have e2 := uy 2; have ef2 := vy 2; have e3 := uy 3; have ef3 := vy 3; clear uy vy))
        all_goals
          go_wp2_with fail
          go_meet
          exact ⟨p2, m2, q2, j2, hi2.keep (box_keep y0 _ (by decide)), box_set y0, (HT.out.below hb2).keep (box_keep y0 _ (by decide)), ((below_set4 (B := w.heap.size) (below_then hb hb2) hBw _ _ _ _).cell (p := ⟨b, off + k, none⟩) hbl).trans ((hb.cell (p := ⟨b, off + k, none⟩) hbl).symm.trans g), below_set4 (below_then hb hb2) hBw _ _ _ _⟩
      case rest =>
      obtain ⟨p2, m2, q2, j2, hi2, hX2, hT2, g2, hb2⟩ := hcut
      clear c0 cf0 c1 cf1 c2 cf2 c3 cf3 lc hi g HT HX hb hbs hBr
      have hbs2 := hb2.size
      have hbl2 : b < wc.heap.size := Nat.lt_of_lt_of_le hbl hbs2
      have hNb : N + 1 ≤ 17592186043904 := by omega
      have HT2 := Lib.hid hT2
      have HX2 := Lib.hid hX2
      clear hT2 hX2
      go_upto_region 11 with (at_builtin; refine wpList_append_tail _ rfl _ _ 22 rfl w.heap.size t0 Try.underlying22 hi0 hz0 hz1 hz2 _ N zs rfl (HT2.out.alloc _) ⟨wc.heap.size, 0, none⟩ 1 y rfl ((blk (heap_alloc_new _ _)).1 0) (by unfold maxLen; omega) (by omega) (by simp; omega) ?_; intro v3 w3 hT3 hg3)
      have hi3 := (hi2.alloc (.cells #[.int .i64 y] 3)).keep ((HT2.out.alloc (.cells #[.int .i64 y] 3)).grown_keep hg3 82 (by decide))
      have hX3 : Box w3 B0 p2 m2 q2 j2 := (HT2.out.alloc (.cells #[.int .i64 y] 3)).grown_keep hg3 28 (by decide) _ _ (HX2.out.below ((Below.refl _ _).alloc (Nat.le_refl _) _))
      have hb3 : Below w.heap.size w w3 := Tl.grown_below (hb2.alloc hbs2 (.cells #[.int .i64 y] 3)) (HT2.out.alloc (.cells #[.int .i64 y] 3)) hg3 (Nat.le_refl _) (by simp; omega)
      have hzl3 := hT3.1
      clear hi2 g2 hb2 hbs2 hbl2 HT2 HX2 hg3
      obtain ⟨zs', hzs⟩ : ∃ zs', zs ++ [y] = zs' := ⟨_, rfl⟩
      rw [hzs] at hi3 hT3 hzl3
      clear hzs hzl2
      go_cut [47] (fun v wx => v = .bool d ∧ w3 = wx)
      case first =>
        by_cases hk1 : k < n1
        · obtain ⟨b', off', rfl, hbl', hc'⟩ := S1.out.hat (by omega)
          have g' := (hb3.cell (p := ⟨b', off' + k, none⟩) hbl').trans (hc' k hk1)
          have hd' : x1[k]?.getD false = d := by rw [← HD.out, decide_eq_true hk1]; rfl
          rw [hd'] at g'
          have hki : (k : Int) < (n1 : Int) := by omega
          clear hc' hd'
          go_wp2_with fail
          go_meet
          exact ⟨rfl, rfl⟩
        · have hd' : d = false := by rw [← HD.out, decide_eq_false hk1]; rfl
          subst hd'
          have hki : ¬ (k : Int) < (n1 : Int) := by omega
          go_wp2_with fail
          go_meet
          exact ⟨rfl, rfl⟩
      case rest =>
      obtain ⟨rfl, rfl⟩ := hcut
      clear HD
      go_upto_if 47 with (fail)
      go_cut [7] (fun v wx => ∃ (p' : Option Addr) (m' : Int) (q' : Option Addr) (j' : Int) (zs' : List Int) (N' : Nat), In wx p' m' q' j' zs' ∧ Box wx B0 p' m' q' j' ∧ Tl wx w.heap.size v N' zs' ∧ N' ≤ k + 1 ∧ Below w.heap.size w wx)
      case first =>
        cases d
        · go_wp2_with fail
          go_meet
          exact ⟨p2, m2, q2, j2, zs', N + 1, hi3, hX3, hT3, by omega, hb3⟩
        · go_wp2_with fail
          go_loopw [7, 9] (fun v i wx => ∃ (t : Nat) (p' : Option Addr) (m' : Int) (q' : Option Addr) (j' : Int) (zs' : List Int) (N' : Nat), t ≤ 2 ∧ i = .int .i64 t ∧ In wx p' m' q' j' zs' ∧ Box wx B0 p' m' q' j' ∧ Tl wx w.heap.size v N' zs' ∧ N' ≤ k + 1 ∧ Below w.heap.size w wx) (fun _ i _ => 2 - (intOf i).toNat)
          case atStart => exact ⟨0, p2, m2, q2, j2, zs', N + 1, by omega, rfl, hi3, hX3, hT3, by omega, hb3⟩
          case round =>
            clear hi3 hX3 hT3 hb3 hzl3
            obtain ⟨t, p', m', q', j', zs'', N', ht, rfl, hi, hX, hT, hN', hb⟩ := hrel
            by_cases ht2 : t < 2
            · have ht2i : (t : Int) < 2 := by omega
              obtain ⟨uc, vc, lc⟩ := blk hX
              have c0 : wr.cell? ⟨B0, 0, none⟩ = some (.pointer p') := uc 0
              have cf0 := vc 0
              have c1 : wr.cell? ⟨B0, 1, none⟩ = some (.int .i64 m') := uc 1
              have cf1 := vc 1
              have c2 : wr.cell? ⟨B0, 2, none⟩ = some (.pointer q') := uc 2
              have cf2 := vc 2
              have c3 : wr.cell? ⟨B0, 3, none⟩ = some (.int .i64 j') := uc 3
              have cf3 := vc 3
              clear uc vc
              have HX := Lib.hid hX
              have hzl := hT.1
              clear hX
              cases zs'' with
              | nil =>
                obtain rfl : 0 = N' := hzl
                obtain ⟨va', vc', rfl, _⟩ := hT.sl
                go_wp2_with fail
                refine (pop_nil p' m' q' j' _ hi).mono ?_
                rintro e w4 ⟨rfl, hb4⟩
                have Y := HX.out.below hb4
                have HT4 := Lib.hid ((hT.below hb4).alloc (.cells #[.pointer none, .int .i64 0, .pointer none, .int .i64 0] 28))
                have HI4 := Lib.hid ((hi.below hb4).alloc (.cells #[.pointer none, .int .i64 0, .pointer none, .int .i64 0] 28))
                have HY4 := Lib.hid (Y.below ((Below.refl _ _).alloc (Nat.le_refl _) (.cells #[.pointer none, .int .i64 0, .pointer none, .int .i64 0] 28)))
                have B4 := below_then hb hb4
                have hB4 := B4.alloc B4.size (.cells #[.pointer none, .int .i64 0, .pointer none, .int .i64 0] 28)
                clear Y hT hi
                go_wp2_with fail
                go_roundw
                case rel => exact ⟨t + 1, p', m', q', j', [], 0, by omega, by go_num, HI4.out, HY4.out, HT4.out, by omega, hB4⟩
                case measure => simp [intOf]; omega
              | cons z r =>
                simp only [List.length_cons] at hzl
                obtain ⟨va', vc', rfl, hsl⟩ := hT.sl
                obtain ⟨bz, oz, rfl, hbz, hcz⟩ := hsl.hat (by omega)
                have gz := hcz 0 (by omega)
                rw [Nat.add_zero] at gz
                simp only [List.getElem?_cons_zero, Option.getD_some] at gz
                have hN0 : 0 < N' := by omega
                have hN0i : (0 : Int) < (N' : Int) := by omega
                have hN0d : decide ((0 : Int) < (N' : Int)) = true := by simp; omega
                have hN1i : (1 : Int) ≤ (N' : Int) := by omega
                have hNv : (N' : Int) ≤ (vc' : Int) := by have := hsl.hcap; omega
                have hvm : (vc' : Int) ≤ 9223372036854775807 := by have := hsl.hmax; unfold maxLen at this; omega
                have hrl : r.length ≤ 1152921504606846975 := by omega
                have HZL := Lib.hid hzl
                have TR := Lib.hid hT.rest
                clear hcz hzl hsl hT
                go_wp2_with fail
                refine (pop_cons z p' m' q' j' r _ hi hrl).mono ?_
                rintro e w4 ⟨p4, m4, q4, j4, rfl, hi4, hb4⟩
                have gz4 := (hb4.cell (p := ⟨bz, oz, none⟩) hbz).trans gz
                have hbz4 : bz < w4.heap.size := Nat.lt_of_lt_of_le hbz hb4.size
                have D := Box.new w4 p4 q4 m4 j4
                have BA : Below w4.heap.size w4 (w4.alloc (.cells #[.pointer p4, .int .i64 m4, .pointer q4, .int .i64 j4] 28)) := (Below.refl _ _).alloc (Nat.le_refl _) _
                have Y := (HX.out.below hb4).below BA
                have TR4 := Lib.hid ((TR.out.below hb4).below BA)
                have HI4 := Lib.hid (hi4.below BA)
                have B4 := below_then hb hb4
                have hB4 := B4.alloc B4.size (.cells #[.pointer p4, .int .i64 m4, .pointer q4, .int .i64 j4] 28)
                have hs1 : ∀ W : World, (Instr.slice 22 (.slice (some ⟨bz, oz, none⟩) N' vc') (some (.int .i64 1)) none none).run Try.prog W = .ok (.slice (cutAt (some ⟨bz, oz, none⟩) vc' 1) (N' - 1) (vc' - 1)) W := by simpa using Try.slice_from (some ⟨bz, oz, none⟩) N' vc' 1 hN0
                obtain ⟨ud, vd, ld⟩ := blk D
                have d0 : (w4.alloc (.cells #[.pointer p4, .int .i64 m4, .pointer q4, .int .i64 j4] 28)).cell? ⟨w4.heap.size, 0, none⟩ = some (.pointer p4) := ud 0
                have df0 := vd 0
                have d1 : (w4.alloc (.cells #[.pointer p4, .int .i64 m4, .pointer q4, .int .i64 j4] 28)).cell? ⟨w4.heap.size, 1, none⟩ = some (.int .i64 m4) := ud 1
                have df1 := vd 1
                have d2 : (w4.alloc (.cells #[.pointer p4, .int .i64 m4, .pointer q4, .int .i64 j4] 28)).cell? ⟨w4.heap.size, 2, none⟩ = some (.pointer q4) := ud 2
                have df2 := vd 2
                have d3 : (w4.alloc (.cells #[.pointer p4, .int .i64 m4, .pointer q4, .int .i64 j4] 28)).cell? ⟨w4.heap.size, 3, none⟩ = some (.int .i64 j4) := ud 3
                have df3 := vd 3
                clear ud vd
                obtain ⟨ue, ve, le⟩ := blk Y
                have e0 : (w4.alloc (.cells #[.pointer p4, .int .i64 m4, .pointer q4, .int .i64 j4] 28)).cell? ⟨B0, 0, none⟩ = some (.pointer p') := ue 0
                have ef0 := ve 0
                have e1 : (w4.alloc (.cells #[.pointer p4, .int .i64 m4, .pointer q4, .int .i64 j4] 28)).cell? ⟨B0, 1, none⟩ = some (.int .i64 m') := ue 1
                have ef1 := ve 1
                have e2 : (w4.alloc (.cells #[.pointer p4, .int .i64 m4, .pointer q4, .int .i64 j4] 28)).cell? ⟨B0, 2, none⟩ = some (.pointer q') := ue 2
                have ef2 := ve 2
                have e3 : (w4.alloc (.cells #[.pointer p4, .int .i64 m4, .pointer q4, .int .i64 j4] 28)).cell? ⟨B0, 3, none⟩ = some (.int .i64 j') := ue 3
                have ef3 := ve 3
                clear ue ve
                have HY := Lib.hid Y
                clear Y D gz c0 cf0 c1 cf1 c2 cf2 c3 cf3 lc hi hi4
                go_wp2_with fail
                go_roundw
                case rel => exact ⟨t + 1, p4, m4, q4, j4, r, N' - 1, by omega, by go_num, HI4.out.keep (box_keep HY.out _ (by decide)), box_set HY.out, TR4.out.keep (box_keep HY.out _ (by decide)), by omega, below_set4 hB4 hBw _ _ _ _⟩
                case measure => simp [intOf]; omega
            · go_wp2_with fail
              go_meet
              exact ⟨p', m', q', j', zs'', N', hi, hX, hT, hN', hb⟩
      case rest =>
      obtain ⟨p', m', q', j', zs'', N', hi, hX, hT, hN', hb⟩ := hcut
      clear hi3 hX3 hT3 hb3 hzl3
      obtain ⟨va', vc', rfl, hsl⟩ := hT.sl
      obtain ⟨hh1, hh2, hh3⟩ := hi.halves
      have hzl := hT.1
      rw [hzl] at hh1
      have hl1 : zs''.length ≤ 17592186044416 := by omega
      have hl2 : zs''.length ≤ 1152921504606846976 := by omega
      have f1 : (((zs''.length : Nat) : Int) != (N' : Int)) = false := by rw [bne_eq_false_iff_eq]; omega
      have f2 : (m' + j' != (N' : Int)) = false := by rw [bne_eq_false_iff_eq]; omega
      have f3 : ¬ m' < j' := by omega
      have f3' : decide (m' < j') = false := by rw [decide_eq_false_iff_not]; omega
      have m0 : 0 ≤ m' := by omega
      have m1 : m' ≤ 17592186044416 := by omega
      have j1 : j' ≤ 17592186044416 := by omega
      have j0 : 0 ≤ j' := by omega
      obtain ⟨uc, vc, lc⟩ := blk hX
      have c0 : wc.cell? ⟨B0, 0, none⟩ = some (.pointer p') := uc 0
      have cf0 := vc 0
      have c1 : wc.cell? ⟨B0, 1, none⟩ = some (.int .i64 m') := uc 1
      have cf1 := vc 1
      have c2 : wc.cell? ⟨B0, 2, none⟩ = some (.pointer q') := uc 2
      have cf2 := vc 2
      have c3 : wc.cell? ⟨B0, 3, none⟩ = some (.int .i64 j') := uc 3
      have cf3 := vc 3
      clear uc vc
      have HT := Lib.hid hT
      have HX := Lib.hid hX
      clear hh1 hh2 hh3 hzl hT hX
      go_wp2_with fail
      refine (ints_any p' m' q' j' zs'' _ hi hl1).mono ?_
      rintro e w5 ⟨a5, n5, c5, rfl, s5, b5⟩
      go_wp2_with fail
      refine (same_yes _ _ _ _ _ _ _ _ _ s5 (hsl.below b5) rfl).mono ?_
      rintro e w6 ⟨rfl, b6⟩
      have B6 := below_then b5 b6
      have X6 := HX.out.below B6
      have hi6 := hi.below B6
      clear c0 cf0 c1 cf1 c2 cf2 c3 cf3 lc s5 b5 b6
      obtain ⟨uc, vc, lc⟩ := blk X6
      have c0 : w6.cell? ⟨B0, 0, none⟩ = some (.pointer p') := uc 0
      have cf0 := vc 0
      have c1 : w6.cell? ⟨B0, 1, none⟩ = some (.int .i64 m') := uc 1
      have cf1 := vc 1
      have c2 : w6.cell? ⟨B0, 2, none⟩ = some (.pointer q') := uc 2
      have cf2 := vc 2
      have c3 : w6.cell? ⟨B0, 3, none⟩ = some (.int .i64 j') := uc 3
      have cf3 := vc 3
      clear uc vc
      go_wp2_with fail
      refine (halves_any p' m' q' j' zs'' _ hi6 hl2).mono ?_
      rintro e w7 ⟨rfl, b7⟩
      have B7 := below_then B6 b7
      have X7 := HX.out.below B7
      have hi7 := hi.below B7
      clear c0 cf0 c1 cf1 c2 cf2 c3 cf3 lc b7 X6 hi6
      obtain ⟨uc, vc, lc⟩ := blk X7
      have c0 : w7.cell? ⟨B0, 0, none⟩ = some (.pointer p') := uc 0
      have cf0 := vc 0
      have c1 : w7.cell? ⟨B0, 1, none⟩ = some (.int .i64 m') := uc 1
      have cf1 := vc 1
      have c2 : w7.cell? ⟨B0, 2, none⟩ = some (.pointer q') := uc 2
      have cf2 := vc 2
      have c3 : w7.cell? ⟨B0, 3, none⟩ = some (.int .i64 j') := uc 3
      have cf3 := vc 3
      clear uc vc
      go_wp2_with fail
      refine (len_any p' m' q' j' zs'' _ hi7 hl2).mono ?_
      rintro e w8 ⟨rfl, b8⟩
      have B8 := below_then B7 b8
      have HI := Lib.hid (hi.below B8)
      clear c0 cf0 c1 cf1 c2 cf2 c3 cf3 lc b8 X7 hi7 hi hsl
      go_wp2_with fail
      go_roundw
      case rel => exact ⟨k + 1, p', m', q', j', zs'', N', by omega, by go_num, HI.out, HX.out.below B8, HT.out.below B8, by omega, below_then hb B8⟩
      case measure => simp [intOf]; omega
    · go_wp2_with fail
      go_ret
      exact ⟨rfl, hb⟩
end Go.Proofs.Ythjghbifcnfcmaa
