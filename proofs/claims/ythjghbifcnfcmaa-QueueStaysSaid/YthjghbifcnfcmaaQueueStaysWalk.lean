/-
  The walk of the law QueueStays. Conditions: the list has at most 2^44 - 512 numbers (the row's own reach).
-/
import Derived.Test.YthjghbifcnfcmaaQueued
import Derived.Test.YthjghbifcnfcmaaApp
import Derived.Test.YthjghbifcnfcmaaCat
namespace Go.Proofs.Ythjghbifcnfcmaa
open Go.RowKit Go.Deep Go.BigFrame
open Go.Proofs.Ythjghbifcnfcmaa.QU
set_option linter.unusedVariables false
set_option maxHeartbeats 4000000 in
set_option maxRecDepth 100000 in
theorem QueueStays_walk (a0 : Option Addr) (n0 c0 : Nat) (x0 : List Int) (x1 x2 : Int) (w : World)
    (s0 : Sl w a0 n0 c0 x0) (i0 : ∀ n ∈ x0, I64 n) (e0 : n0 ≤ 17592186043904) (i1 : I64 x1) (i2 : I64 x2) :
    Calls Try.prog 4 #[.slice a0 n0 c0, .int .i64 x1, .int .i64 x2] w fun e w' => e = .returned (.bool true) ∧ Below w.heap.size w w' := by
  obtain ⟨t0, hi0, hz0, hz1, hz2⟩ := info_parts Try.infoInt
  have L0 := Lib.hid s0.hlen
  have S0 := Lib.hid s0
  have sc0 := s0.hcap
  have sm0 := s0.hmax
  unfold maxLen at sm0
  clear s0 i0 i1 i2
  go_enter Try.func4, Try.ntmps4
  go_wp2_with fail
  refine (queued_any _).mono ?_
  rintro e w1 ⟨rfl, b1⟩
  go_wp2_with fail
  obtain ⟨B0, hB0⟩ : ∃ k, w1.heap.size = k := ⟨_, rfl⟩
  have X : Box (w1.alloc (.cells #[.pointer none, .int .i64 0, .pointer none, .int .i64 0] 28)) B0 none 0 none 0 := by rw [← hB0]; exact Box.new _ _ _ _ _
  have bX : Below w.heap.size w (w1.alloc (.cells #[.pointer none, .int .i64 0, .pointer none, .int .i64 0] 28)) := b1.alloc b1.size _
  have hBw : w.heap.size ≤ B0 := by rw [← hB0]; exact b1.size
  rw [hB0]
  clear hB0 b1
  go_loopw [9] (fun i wr => ∃ (k : Nat) (p : Option Addr) (m : Int) (q : Option Addr) (j : Int), k ≤ n0 ∧ i = .int .i64 k ∧ In wr p m q j (x0.take k) ∧ Box wr B0 p m q j ∧ Below w.heap.size w wr) (fun i _ => n0 - (intOf i).toNat)
  case atStart =>
    exact ⟨0, none, 0, none, 0, Nat.zero_le _, rfl, In.nil _, X, bX⟩
  case round =>
    obtain ⟨k, p, m, q, j, hk, rfl, hi, hX, hb⟩ := hrel
    clear X bX
    by_cases hlt : k < n0
    · obtain ⟨b, off, rfl, hbl, hc⟩ := S0.out.hat (by omega)
      have g := (hb.cell (p := ⟨b, off + k, none⟩) hbl).trans (hc k hlt)
      clear hc
      have hlti : (k : Int) < (n0 : Int) := by omega
      obtain ⟨y, hy⟩ : ∃ y, x0[k]?.getD 0 = y := ⟨_, rfl⟩
      rw [hy] at g
      have ht : x0.take (k + 1) = x0.take k ++ [y] := by rw [take_snoc' x0 k (by have := L0.out; omega), hy]
      have HT := Lib.hid ht
      have hln : (x0.take k).length ≤ k := List.length_take_le _ _
      clear hy ht
      obtain ⟨uc, vc, lc⟩ := blk hX
      have c0 : wr.cell? ⟨B0, 0, none⟩ = some (.pointer p) := uc 0
      have cf0 := vc 0
      have c1 : wr.cell? ⟨B0, 1, none⟩ = some (.int .i64 m) := uc 1
      have cf1 := vc 1
      have c2 : wr.cell? ⟨B0, 2, none⟩ = some (.pointer q) := uc 2
      have cf2 := vc 2
      have c3 : wr.cell? ⟨B0, 3, none⟩ = some (.int .i64 j) := uc 3
      have cf3 := vc 3
      clear uc vc
      have HX := Lib.hid hX
      clear hX
      go_wp2_with fail
      go_region_law (first | (go_simp; go_at_call 10; refine (push_any y p m q j _ _ (by first | exact hi.drew | exact hi.drewN _) (by omega)).mono ?_; rintro e w2 ⟨p2, m2, q2, j2, rfl, hi2, hb2⟩; replace hb2 := below_of_drew hb2; have y0 := HX.out.below hb2; obtain ⟨uy, vy, ly⟩ := blk y0; have e0 := uy 0; have ef0 := vy 0; have e1 := uy 1; have ef1 := vy 1; have e2 := uy 2; have ef2 := vy 2; have e3 := uy 3; have ef3 := vy 3; clear uy vy))
      all_goals
        go_wp2_with fail
        go_roundw
        case rel => exact ⟨k + 1, p2, m2, q2, j2, by omega, by go_num, by rw [HT.out]; exact hi2.keep (box_keep y0 _ (by decide)), box_set y0, below_set4 (below_then hb hb2) hBw _ _ _ _⟩
        case measure => simp [intOf]; omega
    · have hx0 : x0.take k = x0 := List.take_of_length_le (by have := L0.out; omega)
      rw [hx0] at hi
      clear hx0
      have B := hb
      clear hb
      obtain ⟨u0, uu0, uuu0⟩ := blk hX
      go_wp2_with fail
      refine (push_any x1 p m q j x0 _ hi (by have := L0.out; omega)).mono ?_
      rintro e w6 ⟨pa, ma, qa, ja, rfl, ha, bx⟩
      clear u0 uu0 uuu0
      replace hX := blk_below hX bx
      replace hi := hi.below bx
      replace B := below_then B bx
      clear bx
      obtain ⟨u0, uu0, uuu0⟩ := blk hX
      go_wp2_with fail
      refine (push_any x2 p m q j x0 _ (hi.alloc _) (by have := L0.out; omega)).mono ?_
      rintro e w7 ⟨pb, mb, qb, jb, rfl, hbb, bx⟩
      obtain ⟨bx, A⟩ := hold1 bx ⟨rfl, rfl, rfl, rfl⟩
      clear u0 uu0 uuu0
      replace hX := blk_below hX bx
      replace hi := hi.below bx
      replace ha := ha.below bx
      replace B := below_then B bx
      clear bx
      rcases Nat.eq_zero_or_pos n0 with h0 | h0
      · have hn0i : ¬ (0 : Int) < (n0 : Int) := by omega
        have hi' := hi
        rw [List.eq_nil_of_length_eq_zero (L0.out.trans h0)] at hi'
        clear h0
        obtain ⟨u0, uu0, uuu0⟩ := blk hX
        go_wp2_with fail
        refine (pop_nil p m q j _ (hi'.alloc _)).mono ?_
        rintro e w8 ⟨rfl, bx⟩
        obtain ⟨bx, Bb⟩ := hold1 bx ⟨rfl, rfl, rfl, rfl⟩
        clear u0 uu0 uuu0
        replace hX := blk_below hX bx
        replace hi := hi.below bx
        replace ha := ha.below bx
        replace A := blk_below A bx
        replace hbb := hbb.below bx
        replace hi' := hi'.below bx
        replace B := below_then B bx
        clear bx
        obtain ⟨u0, uu0, uuu0⟩ := blk A
        go_wp2_with fail
        refine (ints_any pa ma qa ja (x0 ++ [x1]) _ (ha.alloc _) (by have := L0.out; (try simp only [List.length_append, List.length_cons, List.length_nil]); omega)).mono ?_
        rintro e w9 ⟨ap, np, cp, rfl, sp, bx⟩
        obtain ⟨bx, C⟩ := hold1 bx ⟨rfl, rfl, rfl, rfl⟩
        clear u0 uu0 uuu0
        replace hX := blk_below hX bx
        replace hi := hi.below bx
        replace ha := ha.below bx
        replace A := blk_below A bx
        replace hbb := hbb.below bx
        replace hi' := hi'.below bx
        replace Bb := blk_below Bb bx
        replace B := below_then B bx
        clear bx
        go_wp2_with fail
        refine (cat_any a0 none n0 0 c0 0 x0 [] _ (S0.out.below B) (Sl.nil _) (by omega)).mono ?_
        rintro e wk ⟨vr, rfl, or, bx⟩
        have hszk := bx.size
        go_wp2_with (at_builtin; refine wpList_append_own _ rfl _ _ 22 rfl w9.heap.size 3 t0 (.int .i64 0) 1 8 Try.underlying22 hi0 hz0 hz1 hz2 rfl (by decide) _ _ _ rfl (or.alloc _) ⟨wk.heap.size, 0, none⟩ 1 1 [.int .i64 x1] rfl rfl (cell_one_new _ _ _) (by simp [Value.oneCell']) (by unfold maxLen; omega) (by omega) (by simp; omega) ?_; intro vs ws ors hgs _)
        replace bx := below_grown (bx.alloc hszk _) (or.alloc _) hgs (Nat.le_refl _) (by simp; omega)
        obtain ⟨aq, cq, rfl, sq⟩ := Sl.of_own (xs := x0 ++ [x1]) (by simpa using ors)
        clear or ors hgs hszk
        replace hX := blk_below hX bx
        replace hi := hi.below bx
        replace ha := ha.below bx
        replace A := blk_below A bx
        replace hbb := hbb.below bx
        replace hi' := hi'.below bx
        replace Bb := blk_below Bb bx
        replace C := blk_below C bx
        replace sp := sp.below bx
        replace B := below_then B bx
        clear bx
        go_wp2_with fail
        refine (same_yes _ _ _ _ _ _ _ _ _ sp sq rfl).mono ?_
        rintro e w10 ⟨rfl, bx⟩
        replace hX := blk_below hX bx
        replace hi := hi.below bx
        replace ha := ha.below bx
        replace A := blk_below A bx
        replace hbb := hbb.below bx
        replace hi' := hi'.below bx
        replace Bb := blk_below Bb bx
        replace C := blk_below C bx
        replace sp := sp.below bx
        replace sq := sq.below bx
        replace B := below_then B bx
        clear bx
        clear sp sq
        obtain ⟨u0, uu0, uuu0⟩ := blk Bb
        go_wp2_with fail
        refine (ints_any pb mb qb jb (x0 ++ [x2]) _ hbb (by have := L0.out; (try simp only [List.length_append, List.length_cons, List.length_nil]); omega)).mono ?_
        rintro e w11 ⟨ap, np, cp, rfl, sp, bx⟩
        clear u0 uu0 uuu0
        replace hX := blk_below hX bx
        replace hi := hi.below bx
        replace ha := ha.below bx
        replace A := blk_below A bx
        replace hbb := hbb.below bx
        replace hi' := hi'.below bx
        replace Bb := blk_below Bb bx
        replace C := blk_below C bx
        replace B := below_then B bx
        clear bx
        go_wp2_with fail
        refine (cat_any a0 none n0 0 c0 0 x0 [] _ (S0.out.below B) (Sl.nil _) (by omega)).mono ?_
        rintro e wk ⟨vr, rfl, or, bx⟩
        have hszk := bx.size
        go_wp2_with (at_builtin; refine wpList_append_own _ rfl _ _ 22 rfl w11.heap.size 3 t0 (.int .i64 0) 1 8 Try.underlying22 hi0 hz0 hz1 hz2 rfl (by decide) _ _ _ rfl (or.alloc _) ⟨wk.heap.size, 0, none⟩ 1 1 [.int .i64 x2] rfl rfl (cell_one_new _ _ _) (by simp [Value.oneCell']) (by unfold maxLen; omega) (by omega) (by simp; omega) ?_; intro vs ws ors hgs _)
        replace bx := below_grown (bx.alloc hszk _) (or.alloc _) hgs (Nat.le_refl _) (by simp; omega)
        obtain ⟨aq, cq, rfl, sq⟩ := Sl.of_own (xs := x0 ++ [x2]) (by simpa using ors)
        clear or ors hgs hszk
        replace hX := blk_below hX bx
        replace hi := hi.below bx
        replace ha := ha.below bx
        replace A := blk_below A bx
        replace hbb := hbb.below bx
        replace hi' := hi'.below bx
        replace Bb := blk_below Bb bx
        replace C := blk_below C bx
        replace sp := sp.below bx
        replace B := below_then B bx
        clear bx
        go_wp2_with fail
        refine (same_yes _ _ _ _ _ _ _ _ _ sp sq rfl).mono ?_
        rintro e w12 ⟨rfl, bx⟩
        replace hX := blk_below hX bx
        replace hi := hi.below bx
        replace ha := ha.below bx
        replace A := blk_below A bx
        replace hbb := hbb.below bx
        replace hi' := hi'.below bx
        replace Bb := blk_below Bb bx
        replace C := blk_below C bx
        replace sp := sp.below bx
        replace sq := sq.below bx
        replace B := below_then B bx
        clear bx
        clear sp sq
        obtain ⟨u0, uu0, uuu0⟩ := blk hX
        go_wp2_with fail
        refine (ints_any p m q j x0 _ hi (by have := L0.out; (try simp only [List.length_append, List.length_cons, List.length_nil]); omega)).mono ?_
        rintro e w13 ⟨ap, np, cp, rfl, sp, bx⟩
        clear u0 uu0 uuu0
        replace hX := blk_below hX bx
        replace hi := hi.below bx
        replace ha := ha.below bx
        replace A := blk_below A bx
        replace hbb := hbb.below bx
        replace hi' := hi'.below bx
        replace Bb := blk_below Bb bx
        replace C := blk_below C bx
        replace B := below_then B bx
        clear bx
        go_wp2_with fail
        refine (same_yes _ _ _ _ _ _ _ _ _ sp (S0.out.below B) rfl).mono ?_
        rintro e w14 ⟨rfl, bx⟩
        replace hX := blk_below hX bx
        replace hi := hi.below bx
        replace ha := ha.below bx
        replace A := blk_below A bx
        replace hbb := hbb.below bx
        replace hi' := hi'.below bx
        replace Bb := blk_below Bb bx
        replace C := blk_below C bx
        replace sp := sp.below bx
        replace B := below_then B bx
        clear bx
        clear sp
        go_wp2_with fail
        go_ret
        exact ⟨rfl, B⟩
      · obtain ⟨y, r, hyr⟩ : ∃ y r, x0 = y :: r := by
          cases x0 with
          | nil => have := L0.out; simp at this; omega
          | cons y r => exact ⟨y, r, rfl⟩
        have hi' := hi
        rw [hyr] at hi'
        have HYR := Lib.hid hyr
        have hrl : r.length + 1 = n0 := by rw [← L0.out, hyr]; rfl
        have HRL := Lib.hid hrl
        clear hyr hrl
        have hn0i : (0 : Int) < (n0 : Int) := by omega
        obtain ⟨u0, uu0, uuu0⟩ := blk hX
        go_wp2_with fail
        refine (pop_cons y p m q j r _ (hi'.alloc _) (by have := HRL.out; omega)).mono ?_
        rintro e w8 ⟨pc, mc, qc, jc, rfl, hc', bx⟩
        obtain ⟨bx, Bb⟩ := hold1 bx ⟨rfl, rfl, rfl, rfl⟩
        clear u0 uu0 uuu0
        replace hX := blk_below hX bx
        replace hi := hi.below bx
        replace ha := ha.below bx
        replace A := blk_below A bx
        replace hbb := hbb.below bx
        replace hi' := hi'.below bx
        replace B := below_then B bx
        clear bx
        obtain ⟨u0, uu0, uuu0⟩ := blk A
        go_wp2_with fail
        refine (ints_any pa ma qa ja (x0 ++ [x1]) _ (ha.alloc _) (by have := L0.out; (try simp only [List.length_append, List.length_cons, List.length_nil]); omega)).mono ?_
        rintro e w9 ⟨ap, np, cp, rfl, sp, bx⟩
        obtain ⟨bx, C⟩ := hold1 bx ⟨rfl, rfl, rfl, rfl⟩
        clear u0 uu0 uuu0
        replace hX := blk_below hX bx
        replace hi := hi.below bx
        replace ha := ha.below bx
        replace A := blk_below A bx
        replace hbb := hbb.below bx
        replace hi' := hi'.below bx
        replace Bb := blk_below Bb bx
        replace hc' := hc'.below bx
        replace B := below_then B bx
        clear bx
        go_wp2_with fail
        refine (cat_any a0 none n0 0 c0 0 x0 [] _ (S0.out.below B) (Sl.nil _) (by omega)).mono ?_
        rintro e wk ⟨vr, rfl, or, bx⟩
        have hszk := bx.size
        go_wp2_with (at_builtin; refine wpList_append_own _ rfl _ _ 22 rfl w9.heap.size 3 t0 (.int .i64 0) 1 8 Try.underlying22 hi0 hz0 hz1 hz2 rfl (by decide) _ _ _ rfl (or.alloc _) ⟨wk.heap.size, 0, none⟩ 1 1 [.int .i64 x1] rfl rfl (cell_one_new _ _ _) (by simp [Value.oneCell']) (by unfold maxLen; omega) (by omega) (by simp; omega) ?_; intro vs ws ors hgs _)
        replace bx := below_grown (bx.alloc hszk _) (or.alloc _) hgs (Nat.le_refl _) (by simp; omega)
        obtain ⟨aq, cq, rfl, sq⟩ := Sl.of_own (xs := x0 ++ [x1]) (by simpa using ors)
        clear or ors hgs hszk
        replace hX := blk_below hX bx
        replace hi := hi.below bx
        replace ha := ha.below bx
        replace A := blk_below A bx
        replace hbb := hbb.below bx
        replace hi' := hi'.below bx
        replace Bb := blk_below Bb bx
        replace hc' := hc'.below bx
        replace C := blk_below C bx
        replace sp := sp.below bx
        replace B := below_then B bx
        clear bx
        go_wp2_with fail
        refine (same_yes _ _ _ _ _ _ _ _ _ sp sq rfl).mono ?_
        rintro e w10 ⟨rfl, bx⟩
        replace hX := blk_below hX bx
        replace hi := hi.below bx
        replace ha := ha.below bx
        replace A := blk_below A bx
        replace hbb := hbb.below bx
        replace hi' := hi'.below bx
        replace Bb := blk_below Bb bx
        replace hc' := hc'.below bx
        replace C := blk_below C bx
        replace sp := sp.below bx
        replace sq := sq.below bx
        replace B := below_then B bx
        clear bx
        clear sp sq
        obtain ⟨u0, uu0, uuu0⟩ := blk Bb
        go_wp2_with fail
        refine (ints_any pb mb qb jb (x0 ++ [x2]) _ hbb (by have := L0.out; (try simp only [List.length_append, List.length_cons, List.length_nil]); omega)).mono ?_
        rintro e w11 ⟨ap, np, cp, rfl, sp, bx⟩
        clear u0 uu0 uuu0
        replace hX := blk_below hX bx
        replace hi := hi.below bx
        replace ha := ha.below bx
        replace A := blk_below A bx
        replace hbb := hbb.below bx
        replace hi' := hi'.below bx
        replace Bb := blk_below Bb bx
        replace hc' := hc'.below bx
        replace C := blk_below C bx
        replace B := below_then B bx
        clear bx
        go_wp2_with fail
        refine (cat_any a0 none n0 0 c0 0 x0 [] _ (S0.out.below B) (Sl.nil _) (by omega)).mono ?_
        rintro e wk ⟨vr, rfl, or, bx⟩
        have hszk := bx.size
        go_wp2_with (at_builtin; refine wpList_append_own _ rfl _ _ 22 rfl w11.heap.size 3 t0 (.int .i64 0) 1 8 Try.underlying22 hi0 hz0 hz1 hz2 rfl (by decide) _ _ _ rfl (or.alloc _) ⟨wk.heap.size, 0, none⟩ 1 1 [.int .i64 x2] rfl rfl (cell_one_new _ _ _) (by simp [Value.oneCell']) (by unfold maxLen; omega) (by omega) (by simp; omega) ?_; intro vs ws ors hgs _)
        replace bx := below_grown (bx.alloc hszk _) (or.alloc _) hgs (Nat.le_refl _) (by simp; omega)
        obtain ⟨aq, cq, rfl, sq⟩ := Sl.of_own (xs := x0 ++ [x2]) (by simpa using ors)
        clear or ors hgs hszk
        replace hX := blk_below hX bx
        replace hi := hi.below bx
        replace ha := ha.below bx
        replace A := blk_below A bx
        replace hbb := hbb.below bx
        replace hi' := hi'.below bx
        replace Bb := blk_below Bb bx
        replace hc' := hc'.below bx
        replace C := blk_below C bx
        replace sp := sp.below bx
        replace B := below_then B bx
        clear bx
        go_wp2_with fail
        refine (same_yes _ _ _ _ _ _ _ _ _ sp sq rfl).mono ?_
        rintro e w12 ⟨rfl, bx⟩
        replace hX := blk_below hX bx
        replace hi := hi.below bx
        replace ha := ha.below bx
        replace A := blk_below A bx
        replace hbb := hbb.below bx
        replace hi' := hi'.below bx
        replace Bb := blk_below Bb bx
        replace hc' := hc'.below bx
        replace C := blk_below C bx
        replace sp := sp.below bx
        replace sq := sq.below bx
        replace B := below_then B bx
        clear bx
        clear sp sq
        obtain ⟨u0, uu0, uuu0⟩ := blk hX
        go_wp2_with fail
        refine (ints_any p m q j x0 _ hi (by have := L0.out; (try simp only [List.length_append, List.length_cons, List.length_nil]); omega)).mono ?_
        rintro e w13 ⟨ap, np, cp, rfl, sp, bx⟩
        clear u0 uu0 uuu0
        replace hX := blk_below hX bx
        replace hi := hi.below bx
        replace ha := ha.below bx
        replace A := blk_below A bx
        replace hbb := hbb.below bx
        replace hi' := hi'.below bx
        replace Bb := blk_below Bb bx
        replace hc' := hc'.below bx
        replace C := blk_below C bx
        replace B := below_then B bx
        clear bx
        go_wp2_with fail
        refine (same_yes _ _ _ _ _ _ _ _ _ sp (S0.out.below B) rfl).mono ?_
        rintro e w14 ⟨rfl, bx⟩
        replace hX := blk_below hX bx
        replace hi := hi.below bx
        replace ha := ha.below bx
        replace A := blk_below A bx
        replace hbb := hbb.below bx
        replace hi' := hi'.below bx
        replace Bb := blk_below Bb bx
        replace hc' := hc'.below bx
        replace C := blk_below C bx
        replace sp := sp.below bx
        replace B := below_then B bx
        clear bx
        clear sp
        obtain ⟨b, off, rfl, hbl, _⟩ := S0.out.hat (by omega)
        obtain ⟨of1, hof1, hof2⟩ : ∃ o' : Nat, cutAt (some ⟨b, off, none⟩) c0 1 = some ⟨b, o', none⟩ ∧ (if c0 = 1 then (some ⟨b, off, none⟩ : Option Addr) else some ⟨b, off + 1, none⟩) = some ⟨b, o', none⟩ := by
          by_cases hc1 : c0 = 1
          · exact ⟨off, by simp [cutAt, hc1], by simp [hc1]⟩
          · exact ⟨off + 1, by simp [cutAt, hc1, Addr.add], by simp [hc1]⟩
        have st := (S0.out.below B).rest (k := 1) h0
        rw [hof1, HYR.out, List.drop_one, List.tail_cons] at st
        have ST := Lib.hid st
        have hni1 : (1 : Int) ≤ (n0 : Int) := by omega
        have hnc : (n0 : Int) ≤ (c0 : Int) := by omega
        clear st hof1 hX A Bb hi ha hbb hi'
        obtain ⟨uc, vc, lc⟩ := blk C
        have k0 : w14.cell? ⟨w8.heap.size, 0, none⟩ = some (.pointer pc) := uc 0
        have k1 : w14.cell? ⟨w8.heap.size, 1, none⟩ = some (.int .i64 mc) := uc 1
        have k2 : w14.cell? ⟨w8.heap.size, 2, none⟩ = some (.pointer qc) := uc 2
        have k3 : w14.cell? ⟨w8.heap.size, 3, none⟩ = some (.int .i64 jc) := uc 3
        clear uc vc C
        go_wp2_with fail
        go_region_held3 (fun w' => w'.cell? ⟨w8.heap.size, 0, none⟩ = some (.pointer pc) ∧ w'.cell? ⟨w8.heap.size, 1, none⟩ = some (.int .i64 mc) ∧ w'.cell? ⟨w8.heap.size, 2, none⟩ = some (.pointer qc) ∧ w'.cell? ⟨w8.heap.size, 3, none⟩ = some (.int .i64 jc)) (go_keep) (first
          | (have _t := bwz1; go_at_call 13; refine (same_yes _ _ _ _ _ _ _ _ _ sz (by first | exact ST.out.below bwz1 | exact (ST.out.below bwz1).drew) rfl).mono ?_; rintro e wz2 ⟨rfl, hbz2⟩; have bwz2 := below_then bwz1 hbz2; have sz2_0 := (bwz2.cell (p := ⟨w8.heap.size, 0, none⟩) lc).trans k0; have sz2_1 := (bwz2.cell (p := ⟨w8.heap.size, 1, none⟩) lc).trans k1; have sz2_2 := (bwz2.cell (p := ⟨w8.heap.size, 2, none⟩) lc).trans k2; have sz2_3 := (bwz2.cell (p := ⟨w8.heap.size, 3, none⟩) lc).trans k3)
          | (go_at_call 14; refine (ints_any pc mc qc jc r _ (by first | exact hc' | exact hc'.drew | exact hc'.drewN _ | exact (hc'.drewN _).drew | exact (hc'.drewN _).drewN _ | exact ((hc'.drewN _).drewN _).drew) (by have := HRL.out; omega)).mono ?_; rintro e wz1 ⟨az, nz, cz, rfl, sz, hbz1⟩; have bwz1 : Below w14.heap.size w14 wz1 := (by first | exact hbz1 | exact below_of_drewN hbz1 | exact below_of_drew hbz1 | exact below_of_drewN (below_of_drew hbz1) | exact below_of_drewN (below_of_drewN hbz1) | exact below_of_drewN (below_of_drewN (below_of_drew hbz1))); have sz1_0 := (bwz1.cell (p := ⟨w8.heap.size, 0, none⟩) lc).trans k0; have sz1_1 := (bwz1.cell (p := ⟨w8.heap.size, 1, none⟩) lc).trans k1; have sz1_2 := (bwz1.cell (p := ⟨w8.heap.size, 2, none⟩) lc).trans k2; have sz1_3 := (bwz1.cell (p := ⟨w8.heap.size, 3, none⟩) lc).trans k3))
        all_goals
          go_wp2_with fail
          go_ret
          exact ⟨rfl, below_then B bwz2⟩
end Go.Proofs.Ythjghbifcnfcmaa
