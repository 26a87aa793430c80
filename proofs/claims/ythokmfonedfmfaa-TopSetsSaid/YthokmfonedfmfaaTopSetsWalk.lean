/-
  The walk of the law TopSets. Conditions: the list has at most 2^44 - 512 numbers (the row's own reach).
-/
import Derived.Test.YthokmfonedfmfaaTopState
namespace Go.Proofs.Ythokmfonedfmfaa
open Go.RowKit Go.Deep Go.BigFrame
open Go.Proofs.Ythokmfonedfmfaa.ST
set_option linter.unusedVariables false
set_option maxHeartbeats 8000000 in
set_option maxRecDepth 100000 in
theorem TopSets_walk (a0 : Option Addr) (n0 c0 : Nat) (x0 : List Int) (a1 : Option Addr) (n1 c1 : Nat) (x1 : List Bool) (x : Int) (w : World)
    (s0 : Sl w a0 n0 c0 x0) (i0 : ∀ n ∈ x0, I64 n) (e0 : n0 ≤ 17592186043904) (s1 : Bl w a1 n1 c1 x1) (i2 : I64 x) :
    Calls Try.prog 4 #[.slice a0 n0 c0, .slice a1 n1 c1, .int .i64 x] w fun e w' => e = .returned (.bool true) ∧ Below w.heap.size w w' := by
  have S0 := Lib.hid s0
  have S1 := Lib.hid s1
  have sm0 := s0.hmax
  have sc0 := s0.hcap
  unfold maxLen at sm0
  clear s0 s1 i0 i2
  go_enter Try.func4, Try.ntmps4
  go_wp2_with fail
  obtain ⟨W, hW⟩ : ∃ W, (((((w.alloc (.cells #[.pointer none] 53)).alloc (.cells #[.pointer none] 56)).alloc (.cells #[.pointer none] 59)).alloc (.cells #[.pointer none] 62)).alloc (.cells #[.pointer none] 65)) = W := ⟨_, rfl⟩
  obtain ⟨b3, y0, y1, y2⟩ := hold3 (w := w) (o1 := .cells #[.pointer none] 53) (o2 := .cells #[.pointer none] 56) (o3 := .cells #[.pointer none] 59) (Below.refl _ _) ⟨rfl, rfl, rfl, rfl⟩
  obtain ⟨b5, y3, y4⟩ := hold2 (w := ((w.alloc (.cells #[.pointer none] 53)).alloc (.cells #[.pointer none] 56)).alloc (.cells #[.pointer none] 59)) (o1 := .cells #[.pointer none] 62) (o2 := .cells #[.pointer none] 65) (Below.refl _ _) ⟨rfl, rfl, rfl, rfl⟩
  have Y0 := blk_below y0 b5
  have Y1 := blk_below y1 b5
  have Y2 := blk_below y2 b5
  have bW := below_then b3 b5
  rw [World.size_alloc, World.size_alloc, World.size_alloc] at y3 y4
  rw [hW] at Y0 Y1 Y2 y3 y4 bW
  rw [hW]
  clear hW y0 y1 y2 b3 b5
  obtain ⟨B1, hB1⟩ : ∃ B, w.heap.size + 1 = B := ⟨_, rfl⟩
  rw [hB1] at Y1 Y2 y3 y4 ⊢
  obtain ⟨B2, hB2⟩ : ∃ B, B1 + 1 = B := ⟨_, rfl⟩
  rw [hB2] at Y2 y3 y4 ⊢
  obtain ⟨B3, hB3⟩ : ∃ B, B2 + 1 = B := ⟨_, rfl⟩
  rw [hB3] at y3 y4 ⊢
  obtain ⟨B4, hB4⟩ : ∃ B, B3 + 1 = B := ⟨_, rfl⟩
  rw [hB4] at y4 ⊢
  have o1 : w.heap.size < B1 := by omega
  have o2 : B1 < B2 := by omega
  have o3 : B2 < B3 := by omega
  have o4 : B3 < B4 := by omega
  clear hB1 hB2 hB3 hB4
  have z0 : AVL.Bx W w.heap.size [] := ⟨.nil, none, AVL.good_nil, rfl, rfl, Y0⟩
  have z1 : RED.Bx W B1 [] := ⟨.nil, none, RED.good_nil, rfl, rfl, Y1⟩
  have z2 : WBT.Bx W B2 [] := ⟨.nil, none, WBT.good_nil, rfl, rfl, Y2⟩
  have z3 : TRP.Bx W B3 [] := ⟨.nil, none, TRP.good_nil, rfl, rfl, y3⟩
  have z4 : SPL.Bx W B4 [] := ⟨.nil, none, SPL.good_nil, rfl, rfl, y4⟩
  clear Y0 Y1 Y2 y3 y4
  go_loopw [12] (fun i wr => ∃ (k : Nat) (xs : List Int), k ≤ n0 ∧ i = .int .i64 k ∧ xs.length ≤ k ∧ AVL.Bx wr w.heap.size xs ∧ RED.Bx wr B1 xs ∧ WBT.Bx wr B2 xs ∧ TRP.Bx wr B3 xs ∧ SPL.Bx wr B4 xs ∧ Below w.heap.size w wr) (fun i _ => n0 - (intOf i).toNat)
  case atStart => exact ⟨0, [], Nat.zero_le _, rfl, Nat.le_refl _, z0, z1, z2, z3, z4, bW⟩
  case round =>
    clear z0 z1 z2 z3 z4 bW
    obtain ⟨k, xs, hk, rfl, hln, s0, s1, s2, s3, s4, hb⟩ := hrel
    by_cases hlt : k < n0
    · obtain ⟨b, off, rfl, hbl, hc⟩ := S0.out.hat (by omega)
      have g := (hb.cell (p := ⟨b, off + k, none⟩) hbl).trans (hc k hlt)
      clear hc
      have hlti : (k : Int) < (n0 : Int) := by omega
      obtain ⟨y, hy⟩ : ∃ y, x0[k]?.getD 0 = y := ⟨_, rfl⟩
      rw [hy] at g
      have gw : w.cell? ⟨b, off + k, none⟩ = some (.int .i64 y) := (hb.cell (p := ⟨b, off + k, none⟩) hbl).symm.trans g
      clear hy
      obtain ⟨d, hd⟩ : ∃ d, (decide (k < n1) && x1[k]?.getD false) = d := ⟨_, rfl⟩
      have HD := Lib.hid hd
      clear hd
      go_upto_region 9 with (fail)
      go_cut [33] (fun v wx => v = .bool d ∧ wr = wx)
      case first =>
        by_cases hk1 : k < n1
        · obtain ⟨b', off', rfl, hbl', hc'⟩ := S1.out.hat (by omega)
          have g' := (hb.cell (p := ⟨b', off' + k, none⟩) hbl').trans (hc' k hk1)
          have hd' : x1[k]?.getD false = d := by rw [← HD.out, decide_eq_true hk1]; rfl
          rw [hd'] at g'
          have hki : (k : Int) < (n1 : Int) := by omega
          clear hc' hd' g s0 s1 s2 s3 s4
          go_wp2_with fail
          go_meet
          exact ⟨rfl, rfl⟩
        · have hd' : d = false := by rw [← HD.out, decide_eq_false hk1]; rfl
          subst hd'
          have hki : ¬ (k : Int) < (n1 : Int) := by omega
          go_wp2_with fail
          go_meet
          exact ⟨rfl, rfl⟩
      case rest =>
      obtain ⟨rfl, rfl⟩ := hcut
      clear HD
      cases d
      · have hnl : (onceL (xs ++ [y])).length ≤ xs.length + 1 := by have := onceL_length (xs ++ [y]); rwa [List.length_append] at this
        have HNL := Lib.hid hnl
        clear hnl
        go_wp2_with fail
        go_cut [] (fun wx => AVL.Bx wx w.heap.size (onceL (xs ++ [y])) ∧ RED.Bx wx B1 xs ∧ WBT.Bx wx B2 xs ∧ TRP.Bx wx B3 xs ∧ SPL.Bx wx B4 xs ∧ wx.cell? ⟨b, off + k, none⟩ = some (.int .i64 y) ∧ Below w.heap.size w wx)
        case first =>
          obtain ⟨t, q, gt, ht, hi, hX⟩ := s0
          have hsz : t.size ≤ 17592186044414 := by rw [← toL_length, ht]; omega
          obtain ⟨X0, X1, Xl⟩ := blk hX
          have cX := X0 0
          have fX := X1 0
          have HX := Lib.hid hX
          have HT := Lib.hid ht
          clear X0 X1 hX ht
          go_region_law (first | (go_simp; go_at_call 26; refine (AVL.put_set t y q _ (by first | exact hi.drew | exact hi.drewN _) (by omega)).mono ?_; rintro e w3 ⟨q2, rfl, hi2, hb2⟩; replace hb2 := below_of_drew hb2; have y0 := blk_below HX.out hb2; have e0 := (blk y0).1 0; have e1 := (blk y0).2.1 0))
          all_goals
            go_wp2_with fail
            go_meet
            have ht := HT.out
            have bb := (below_then hb hb2).setCell (p := ⟨w.heap.size, 0, none⟩) (show w.heap.size ≤ w.heap.size by omega) (.pointer q2)
            exact ⟨⟨_, q2, AVL.put_good gt y, (AVL.put_list gt y).trans (by rw [ht]), hi2.keep (.setCell y0 (by decide)), blk_set y0⟩, (s1.below hb2).far y0 (by decide) (by omega), (s2.below hb2).far y0 (by decide) (by omega), (s3.below hb2).far y0 (by decide) (by omega), (s4.below hb2).far y0 (by decide) (by omega), (bb.cell (p := ⟨b, off + k, none⟩) hbl).trans gw, bb⟩
        case rest =>
        obtain ⟨s0, s1, s2, s3, s4, g, hb⟩ := hcut
        go_wp2_with fail
        go_cut [] (fun wx => AVL.Bx wx w.heap.size (onceL (xs ++ [y])) ∧ RED.Bx wx B1 (onceL (xs ++ [y])) ∧ WBT.Bx wx B2 xs ∧ TRP.Bx wx B3 xs ∧ SPL.Bx wx B4 xs ∧ wx.cell? ⟨b, off + k, none⟩ = some (.int .i64 y) ∧ Below w.heap.size w wx)
        case first =>
          obtain ⟨t, q, gt, ht, hi, hX⟩ := s1
          have hsz : t.size ≤ 17592186044414 := by rw [← toL_length, ht]; omega
          obtain ⟨X0, X1, Xl⟩ := blk hX
          have cX := X0 0
          have fX := X1 0
          have HX := Lib.hid hX
          have HT := Lib.hid ht
          clear X0 X1 hX ht
          go_region_law (first | (go_simp; go_at_call 27; refine (RED.put_set t y q _ (by first | exact hi.drew | exact hi.drewN _) (by omega)).mono ?_; rintro e w3 ⟨q2, rfl, hi2, hb2⟩; replace hb2 := below_of_drew hb2; have y0 := blk_below HX.out hb2; have e0 := (blk y0).1 0; have e1 := (blk y0).2.1 0))
          all_goals
            go_wp2_with fail
            go_meet
            have ht := HT.out
            have bb := (below_then hb hb2).setCell (p := ⟨B1, 0, none⟩) (show w.heap.size ≤ B1 by omega) (.pointer q2)
            exact ⟨(s0.below hb2).far y0 (by decide) (by omega), ⟨_, q2, RED.put_good gt y, (RED.put_list gt y).trans (by rw [ht]), hi2.keep (.setCell y0 (by decide)), blk_set y0⟩, (s2.below hb2).far y0 (by decide) (by omega), (s3.below hb2).far y0 (by decide) (by omega), (s4.below hb2).far y0 (by decide) (by omega), (bb.cell (p := ⟨b, off + k, none⟩) hbl).trans gw, bb⟩
        case rest =>
        obtain ⟨s0, s1, s2, s3, s4, g, hb⟩ := hcut
        go_wp2_with fail
        go_cut [] (fun wx => AVL.Bx wx w.heap.size (onceL (xs ++ [y])) ∧ RED.Bx wx B1 (onceL (xs ++ [y])) ∧ WBT.Bx wx B2 (onceL (xs ++ [y])) ∧ TRP.Bx wx B3 xs ∧ SPL.Bx wx B4 xs ∧ wx.cell? ⟨b, off + k, none⟩ = some (.int .i64 y) ∧ Below w.heap.size w wx)
        case first =>
          obtain ⟨t, q, gt, ht, hi, hX⟩ := s2
          have hsz : t.size ≤ 17592186044414 := by rw [← toL_length, ht]; omega
          obtain ⟨X0, X1, Xl⟩ := blk hX
          have cX := X0 0
          have fX := X1 0
          have HX := Lib.hid hX
          have HT := Lib.hid ht
          clear X0 X1 hX ht
          go_region_law (first | (go_simp; go_at_call 28; refine (WBT.put_set t y q _ (by first | exact hi.drew | exact hi.drewN _) (by omega)).mono ?_; rintro e w3 ⟨q2, rfl, hi2, hb2⟩; replace hb2 := below_of_drew hb2; have y0 := blk_below HX.out hb2; have e0 := (blk y0).1 0; have e1 := (blk y0).2.1 0))
          all_goals
            go_wp2_with fail
            go_meet
            have ht := HT.out
            have bb := (below_then hb hb2).setCell (p := ⟨B2, 0, none⟩) (show w.heap.size ≤ B2 by omega) (.pointer q2)
            exact ⟨(s0.below hb2).far y0 (by decide) (by omega), (s1.below hb2).far y0 (by decide) (by omega), ⟨_, q2, WBT.put_good gt y, (WBT.put_list gt y).trans (by rw [ht]), hi2.keep (.setCell y0 (by decide)), blk_set y0⟩, (s3.below hb2).far y0 (by decide) (by omega), (s4.below hb2).far y0 (by decide) (by omega), (bb.cell (p := ⟨b, off + k, none⟩) hbl).trans gw, bb⟩
        case rest =>
        obtain ⟨s0, s1, s2, s3, s4, g, hb⟩ := hcut
        go_wp2_with fail
        go_cut [] (fun wx => AVL.Bx wx w.heap.size (onceL (xs ++ [y])) ∧ RED.Bx wx B1 (onceL (xs ++ [y])) ∧ WBT.Bx wx B2 (onceL (xs ++ [y])) ∧ TRP.Bx wx B3 (onceL (xs ++ [y])) ∧ SPL.Bx wx B4 xs ∧ wx.cell? ⟨b, off + k, none⟩ = some (.int .i64 y) ∧ Below w.heap.size w wx)
        case first =>
          obtain ⟨t, q, gt, ht, hi, hX⟩ := s3
          have hsz : t.size ≤ 17592186044414 := by rw [← toL_length, ht]; omega
          obtain ⟨X0, X1, Xl⟩ := blk hX
          have cX := X0 0
          have fX := X1 0
          have HX := Lib.hid hX
          have HT := Lib.hid ht
          clear X0 X1 hX ht
          go_region_law (first | (go_simp; go_at_call 29; refine (TRP.put_set t y q _ (by first | exact hi.drew | exact hi.drewN _) (by omega)).mono ?_; rintro e w3 ⟨q2, rfl, hi2, hb2⟩; replace hb2 := below_of_drew hb2; have y0 := blk_below HX.out hb2; have e0 := (blk y0).1 0; have e1 := (blk y0).2.1 0))
          all_goals
            go_wp2_with fail
            go_meet
            have ht := HT.out
            have bb := (below_then hb hb2).setCell (p := ⟨B3, 0, none⟩) (show w.heap.size ≤ B3 by omega) (.pointer q2)
            exact ⟨(s0.below hb2).far y0 (by decide) (by omega), (s1.below hb2).far y0 (by decide) (by omega), (s2.below hb2).far y0 (by decide) (by omega), ⟨_, q2, TRP.put_good gt y, (TRP.put_list gt y).trans (by rw [ht]), hi2.keep (.setCell y0 (by decide)), blk_set y0⟩, (s4.below hb2).far y0 (by decide) (by omega), (bb.cell (p := ⟨b, off + k, none⟩) hbl).trans gw, bb⟩
        case rest =>
        obtain ⟨s0, s1, s2, s3, s4, g, hb⟩ := hcut
        go_wp2_with fail
        obtain ⟨t, q, gt, ht, hi, hX⟩ := s4
        have hsz : t.size ≤ 17592186044414 := by rw [← toL_length, ht]; omega
        obtain ⟨X0, X1, Xl⟩ := blk hX
        have cX := X0 0
        have fX := X1 0
        have HX := Lib.hid hX
        have HT := Lib.hid ht
        clear X0 X1 hX ht
        go_region_law (first | (go_simp; go_at_call 30; refine (SPL.put_set t y q _ (by first | exact hi.drew | exact hi.drewN _) (by omega)).mono ?_; rintro e w3 ⟨q2, rfl, hi2, hb2⟩; replace hb2 := below_of_drew hb2; have y0 := blk_below HX.out hb2; have e0 := (blk y0).1 0; have e1 := (blk y0).2.1 0))
        all_goals
          go_wp2_with fail
          have ht := HT.out
          have HT2 := Lib.hid ht
          clear ht
          go_roundw
          case rel =>
            have ht := HT2.out
            have bb := (below_then hb hb2).setCell (p := ⟨B4, 0, none⟩) (show w.heap.size ≤ B4 by omega) (.pointer q2)
            exact ⟨k + 1, (onceL (xs ++ [y])), by omega, by go_num, by have := HNL.out; omega, (s0.below hb2).far y0 (by decide) (by omega), (s1.below hb2).far y0 (by decide) (by omega), (s2.below hb2).far y0 (by decide) (by omega), (s3.below hb2).far y0 (by decide) (by omega), ⟨_, q2, SPL.put_good gt y, (SPL.put_list gt y).trans (by rw [ht]), hi2.keep (.setCell y0 (by decide)), blk_set y0⟩, bb⟩
          case measure => simp [intOf]; omega
      · have HNL := Lib.hid (dropL_length xs y)
        go_wp2_with fail
        go_cut [] (fun wx => AVL.Bx wx w.heap.size (dropL xs y) ∧ RED.Bx wx B1 xs ∧ WBT.Bx wx B2 xs ∧ TRP.Bx wx B3 xs ∧ SPL.Bx wx B4 xs ∧ wx.cell? ⟨b, off + k, none⟩ = some (.int .i64 y) ∧ Below w.heap.size w wx)
        case first =>
          obtain ⟨t, q, gt, ht, hi, hX⟩ := s0
          have hsz : t.size ≤ 17592186044414 := by rw [← toL_length, ht]; omega
          obtain ⟨X0, X1, Xl⟩ := blk hX
          have cX := X0 0
          have fX := X1 0
          have HX := Lib.hid hX
          have HT := Lib.hid ht
          clear X0 X1 hX ht
          go_region_law (first | (go_simp; go_at_call 21; refine (AVL.drop_set t y q _ (by first | exact hi.drew | exact hi.drewN _) (by omega)).mono ?_; rintro e w3 ⟨q2, rfl, hi2, hb2⟩; replace hb2 := below_of_drew hb2; have y0 := blk_below HX.out hb2; have e0 := (blk y0).1 0; have e1 := (blk y0).2.1 0))
          all_goals
            go_wp2_with fail
            go_meet
            have ht := HT.out
            have bb := (below_then hb hb2).setCell (p := ⟨w.heap.size, 0, none⟩) (show w.heap.size ≤ w.heap.size by omega) (.pointer q2)
            exact ⟨⟨_, q2, AVL.drop_good gt y, (AVL.drop_list gt y).trans (by rw [ht]), hi2.keep (.setCell y0 (by decide)), blk_set y0⟩, (s1.below hb2).far y0 (by decide) (by omega), (s2.below hb2).far y0 (by decide) (by omega), (s3.below hb2).far y0 (by decide) (by omega), (s4.below hb2).far y0 (by decide) (by omega), (bb.cell (p := ⟨b, off + k, none⟩) hbl).trans gw, bb⟩
        case rest =>
        obtain ⟨s0, s1, s2, s3, s4, g, hb⟩ := hcut
        go_wp2_with fail
        go_cut [] (fun wx => AVL.Bx wx w.heap.size (dropL xs y) ∧ RED.Bx wx B1 (dropL xs y) ∧ WBT.Bx wx B2 xs ∧ TRP.Bx wx B3 xs ∧ SPL.Bx wx B4 xs ∧ wx.cell? ⟨b, off + k, none⟩ = some (.int .i64 y) ∧ Below w.heap.size w wx)
        case first =>
          obtain ⟨t, q, gt, ht, hi, hX⟩ := s1
          have hsz : t.size ≤ 17592186044414 := by rw [← toL_length, ht]; omega
          obtain ⟨X0, X1, Xl⟩ := blk hX
          have cX := X0 0
          have fX := X1 0
          have HX := Lib.hid hX
          have HT := Lib.hid ht
          clear X0 X1 hX ht
          go_region_law (first | (go_simp; go_at_call 22; refine (RED.drop_set t y q _ (by first | exact hi.drew | exact hi.drewN _) (by omega)).mono ?_; rintro e w3 ⟨q2, rfl, hi2, hb2⟩; replace hb2 := below_of_drew hb2; have y0 := blk_below HX.out hb2; have e0 := (blk y0).1 0; have e1 := (blk y0).2.1 0))
          all_goals
            go_wp2_with fail
            go_meet
            have ht := HT.out
            have bb := (below_then hb hb2).setCell (p := ⟨B1, 0, none⟩) (show w.heap.size ≤ B1 by omega) (.pointer q2)
            exact ⟨(s0.below hb2).far y0 (by decide) (by omega), ⟨_, q2, RED.drop_good gt y, (RED.drop_list gt y).trans (by rw [ht]), hi2.keep (.setCell y0 (by decide)), blk_set y0⟩, (s2.below hb2).far y0 (by decide) (by omega), (s3.below hb2).far y0 (by decide) (by omega), (s4.below hb2).far y0 (by decide) (by omega), (bb.cell (p := ⟨b, off + k, none⟩) hbl).trans gw, bb⟩
        case rest =>
        obtain ⟨s0, s1, s2, s3, s4, g, hb⟩ := hcut
        go_wp2_with fail
        go_cut [] (fun wx => AVL.Bx wx w.heap.size (dropL xs y) ∧ RED.Bx wx B1 (dropL xs y) ∧ WBT.Bx wx B2 (dropL xs y) ∧ TRP.Bx wx B3 xs ∧ SPL.Bx wx B4 xs ∧ wx.cell? ⟨b, off + k, none⟩ = some (.int .i64 y) ∧ Below w.heap.size w wx)
        case first =>
          obtain ⟨t, q, gt, ht, hi, hX⟩ := s2
          have hsz : t.size ≤ 17592186044414 := by rw [← toL_length, ht]; omega
          obtain ⟨X0, X1, Xl⟩ := blk hX
          have cX := X0 0
          have fX := X1 0
          have HX := Lib.hid hX
          have HT := Lib.hid ht
          clear X0 X1 hX ht
          go_region_law (first | (go_simp; go_at_call 23; refine (WBT.drop_set t y q _ (by first | exact hi.drew | exact hi.drewN _) (by omega)).mono ?_; rintro e w3 ⟨q2, rfl, hi2, hb2⟩; replace hb2 := below_of_drew hb2; have y0 := blk_below HX.out hb2; have e0 := (blk y0).1 0; have e1 := (blk y0).2.1 0))
          all_goals
            go_wp2_with fail
            go_meet
            have ht := HT.out
            have bb := (below_then hb hb2).setCell (p := ⟨B2, 0, none⟩) (show w.heap.size ≤ B2 by omega) (.pointer q2)
            exact ⟨(s0.below hb2).far y0 (by decide) (by omega), (s1.below hb2).far y0 (by decide) (by omega), ⟨_, q2, WBT.drop_good gt y, (WBT.drop_list gt y).trans (by rw [ht]), hi2.keep (.setCell y0 (by decide)), blk_set y0⟩, (s3.below hb2).far y0 (by decide) (by omega), (s4.below hb2).far y0 (by decide) (by omega), (bb.cell (p := ⟨b, off + k, none⟩) hbl).trans gw, bb⟩
        case rest =>
        obtain ⟨s0, s1, s2, s3, s4, g, hb⟩ := hcut
        go_wp2_with fail
        go_cut [] (fun wx => AVL.Bx wx w.heap.size (dropL xs y) ∧ RED.Bx wx B1 (dropL xs y) ∧ WBT.Bx wx B2 (dropL xs y) ∧ TRP.Bx wx B3 (dropL xs y) ∧ SPL.Bx wx B4 xs ∧ wx.cell? ⟨b, off + k, none⟩ = some (.int .i64 y) ∧ Below w.heap.size w wx)
        case first =>
          obtain ⟨t, q, gt, ht, hi, hX⟩ := s3
          have hsz : t.size ≤ 17592186044414 := by rw [← toL_length, ht]; omega
          obtain ⟨X0, X1, Xl⟩ := blk hX
          have cX := X0 0
          have fX := X1 0
          have HX := Lib.hid hX
          have HT := Lib.hid ht
          clear X0 X1 hX ht
          go_region_law (first | (go_simp; go_at_call 24; refine (TRP.drop_set t y q _ (by first | exact hi.drew | exact hi.drewN _) (by omega)).mono ?_; rintro e w3 ⟨q2, rfl, hi2, hb2⟩; replace hb2 := below_of_drew hb2; have y0 := blk_below HX.out hb2; have e0 := (blk y0).1 0; have e1 := (blk y0).2.1 0))
          all_goals
            go_wp2_with fail
            go_meet
            have ht := HT.out
            have bb := (below_then hb hb2).setCell (p := ⟨B3, 0, none⟩) (show w.heap.size ≤ B3 by omega) (.pointer q2)
            exact ⟨(s0.below hb2).far y0 (by decide) (by omega), (s1.below hb2).far y0 (by decide) (by omega), (s2.below hb2).far y0 (by decide) (by omega), ⟨_, q2, TRP.drop_good gt y, (TRP.drop_list gt y).trans (by rw [ht]), hi2.keep (.setCell y0 (by decide)), blk_set y0⟩, (s4.below hb2).far y0 (by decide) (by omega), (bb.cell (p := ⟨b, off + k, none⟩) hbl).trans gw, bb⟩
        case rest =>
        obtain ⟨s0, s1, s2, s3, s4, g, hb⟩ := hcut
        go_wp2_with fail
        obtain ⟨t, q, gt, ht, hi, hX⟩ := s4
        have hsz : t.size ≤ 17592186044414 := by rw [← toL_length, ht]; omega
        obtain ⟨X0, X1, Xl⟩ := blk hX
        have cX := X0 0
        have fX := X1 0
        have HX := Lib.hid hX
        have HT := Lib.hid ht
        clear X0 X1 hX ht
        go_region_law (first | (go_simp; go_at_call 25; refine (SPL.drop_set t y q _ (by first | exact hi.drew | exact hi.drewN _) (by omega)).mono ?_; rintro e w3 ⟨q2, rfl, hi2, hb2⟩; replace hb2 := below_of_drew hb2; have y0 := blk_below HX.out hb2; have e0 := (blk y0).1 0; have e1 := (blk y0).2.1 0))
        all_goals
          go_wp2_with fail
          have ht := HT.out
          have HT2 := Lib.hid ht
          clear ht
          go_roundw
          case rel =>
            have ht := HT2.out
            have bb := (below_then hb hb2).setCell (p := ⟨B4, 0, none⟩) (show w.heap.size ≤ B4 by omega) (.pointer q2)
            exact ⟨k + 1, (dropL xs y), by omega, by go_num, by have := HNL.out; omega, (s0.below hb2).far y0 (by decide) (by omega), (s1.below hb2).far y0 (by decide) (by omega), (s2.below hb2).far y0 (by decide) (by omega), (s3.below hb2).far y0 (by decide) (by omega), ⟨_, q2, SPL.drop_good gt y, (SPL.drop_list gt y).trans (by rw [ht]), hi2.keep (.setCell y0 (by decide)), blk_set y0⟩, bb⟩
          case measure => simp [intOf]; omega
    · have hxl : xs.length ≤ 17592186043904 := by omega
      obtain ⟨t0, q0, g0, e0, h0, x0'⟩ := s0
      have z0 : t0.size ≤ 17592186044414 := by rw [← toL_length, e0]; omega
      have E0 := Lib.hid e0
      have X0 := Lib.hid x0'
      clear e0 x0'
      obtain ⟨t1, q1, g1, e1, h1, x1'⟩ := s1
      have z1 : t1.size ≤ 17592186044414 := by rw [← toL_length, e1]; omega
      have E1 := Lib.hid e1
      have X1 := Lib.hid x1'
      clear e1 x1'
      obtain ⟨t2, q2, g2, e2, h2, x2'⟩ := s2
      have z2 : t2.size ≤ 17592186044414 := by rw [← toL_length, e2]; omega
      have E2 := Lib.hid e2
      have X2 := Lib.hid x2'
      clear e2 x2'
      obtain ⟨t3, q3, g3, e3, h3, x3'⟩ := s3
      have z3 : t3.size ≤ 17592186044414 := by rw [← toL_length, e3]; omega
      have E3 := Lib.hid e3
      have X3 := Lib.hid x3'
      clear e3 x3'
      obtain ⟨t4, q4, g4, e4, h4, x4'⟩ := s4
      have z4 : t4.size ≤ 17592186044414 := by rw [← toL_length, e4]; omega
      have E4 := Lib.hid e4
      have X4 := Lib.hid x4'
      clear e4 x4'
      obtain ⟨u0, _, l0⟩ := blk X0.out
      have c0 : wr.cell? ⟨w.heap.size, 0, none⟩ = some (.pointer q0) := u0 0
      clear u0
      obtain ⟨u1, _, l1⟩ := blk X1.out
      have c1 : wr.cell? ⟨B1, 0, none⟩ = some (.pointer q1) := u1 0
      clear u1
      go_wp2_with fail
      go_region_held3 (fun w' => w'.cell? ⟨w.heap.size, 0, none⟩ = some (.pointer q0) ∧ w'.cell? ⟨B1, 0, none⟩ = some (.pointer q1)) (go_keep) (first
        | (have _t := bwz02; go_at_call 10; refine (same_yes _ _ _ _ _ _ _ _ _ (by first | exact (sl1.below hbz02) | exact (sl1.below hbz02).drew) (by first | exact sl2 | exact sl2.drew) (E0.out.trans E1.out.symm)).mono ?_; rintro e wz03 ⟨rfl, hbz03⟩; have bwz03 := below_then bwz02 hbz03; have sz03_0 := (bwz03.cell (p := ⟨w.heap.size, 0, none⟩) l0).trans c0; have sz03_1 := (bwz03.cell (p := ⟨B1, 0, none⟩) l1).trans c1)
        | (have _t := bwz01; go_at_call 32; refine (RED.ints_sl t1 q1 _ (by first | exact h1.below bwz01 | exact (h1.below bwz01).drew) (by omega)).mono ?_; rintro e wz02 ⟨a2, n2, c2', rfl, sl2, hbz02⟩; have bwz02 := below_then bwz01 hbz02; have sz02_0 := (bwz02.cell (p := ⟨w.heap.size, 0, none⟩) l0).trans c0; have sz02_1 := (bwz02.cell (p := ⟨B1, 0, none⟩) l1).trans c1)
        | (go_at_call 31; refine (AVL.ints_sl t0 q0 _ (by first | exact h0 | exact h0.drew | exact h0.drewN _ | exact (h0.drewN _).drew | exact (h0.drewN _).drewN _ | exact ((h0.drewN _).drewN _).drew) (by omega)).mono ?_; rintro e wz01 ⟨a1, n1, c1', rfl, sl1, hbz01⟩; have bwz01 : Below wr.heap.size wr wz01 := (by first | exact hbz01 | exact below_of_drewN hbz01 | exact below_of_drew hbz01 | exact below_of_drewN (below_of_drew hbz01) | exact below_of_drewN (below_of_drewN hbz01) | exact below_of_drewN (below_of_drewN (below_of_drew hbz01))); have sz01_0 := (bwz01.cell (p := ⟨w.heap.size, 0, none⟩) l0).trans c0; have sz01_1 := (bwz01.cell (p := ⟨B1, 0, none⟩) l1).trans c1))
      replace h0 := h0.below bwz03
      replace X0 := Lib.hid (blk_below X0.out bwz03)
      replace h1 := h1.below bwz03
      replace X1 := Lib.hid (blk_below X1.out bwz03)
      replace h2 := h2.below bwz03
      replace X2 := Lib.hid (blk_below X2.out bwz03)
      replace h3 := h3.below bwz03
      replace X3 := Lib.hid (blk_below X3.out bwz03)
      replace h4 := h4.below bwz03
      replace X4 := Lib.hid (blk_below X4.out bwz03)
      replace hb := below_then hb bwz03
      clear c0 l0 c1 l1 sl1 sl2 hbz01 hbz02 hbz03 sz01_0 sz01_1 sz02_0 sz02_1 sz03_0 sz03_1 bwz01 bwz02 bwz03
      obtain ⟨u1, _, l1⟩ := blk X1.out
      have c1 : wz03.cell? ⟨B1, 0, none⟩ = some (.pointer q1) := u1 0
      clear u1
      obtain ⟨u2, _, l2⟩ := blk X2.out
      have c2 : wz03.cell? ⟨B2, 0, none⟩ = some (.pointer q2) := u2 0
      clear u2
      go_wp2_with fail
      go_region_held3 (fun w' => w'.cell? ⟨B1, 0, none⟩ = some (.pointer q1) ∧ w'.cell? ⟨B2, 0, none⟩ = some (.pointer q2)) (go_keep) (first
        | (have _t := bwz12; go_at_call 10; refine (same_yes _ _ _ _ _ _ _ _ _ (by first | exact (sl1.below hbz12) | exact (sl1.below hbz12).drew) (by first | exact sl2 | exact sl2.drew) (E1.out.trans E2.out.symm)).mono ?_; rintro e wz13 ⟨rfl, hbz13⟩; have bwz13 := below_then bwz12 hbz13; have sz13_0 := (bwz13.cell (p := ⟨B1, 0, none⟩) l1).trans c1; have sz13_1 := (bwz13.cell (p := ⟨B2, 0, none⟩) l2).trans c2)
        | (have _t := bwz11; go_at_call 33; refine (WBT.ints_sl t2 q2 _ (by first | exact h2.below bwz11 | exact (h2.below bwz11).drew) (by omega)).mono ?_; rintro e wz12 ⟨a2, n2, c2', rfl, sl2, hbz12⟩; have bwz12 := below_then bwz11 hbz12; have sz12_0 := (bwz12.cell (p := ⟨B1, 0, none⟩) l1).trans c1; have sz12_1 := (bwz12.cell (p := ⟨B2, 0, none⟩) l2).trans c2)
        | (go_at_call 32; refine (RED.ints_sl t1 q1 _ (by first | exact h1 | exact h1.drew | exact h1.drewN _ | exact (h1.drewN _).drew | exact (h1.drewN _).drewN _ | exact ((h1.drewN _).drewN _).drew) (by omega)).mono ?_; rintro e wz11 ⟨a1, n1, c1', rfl, sl1, hbz11⟩; have bwz11 : Below wz03.heap.size wz03 wz11 := (by first | exact hbz11 | exact below_of_drewN hbz11 | exact below_of_drew hbz11 | exact below_of_drewN (below_of_drew hbz11) | exact below_of_drewN (below_of_drewN hbz11) | exact below_of_drewN (below_of_drewN (below_of_drew hbz11))); have sz11_0 := (bwz11.cell (p := ⟨B1, 0, none⟩) l1).trans c1; have sz11_1 := (bwz11.cell (p := ⟨B2, 0, none⟩) l2).trans c2))
      replace h0 := h0.below bwz13
      replace X0 := Lib.hid (blk_below X0.out bwz13)
      replace h1 := h1.below bwz13
      replace X1 := Lib.hid (blk_below X1.out bwz13)
      replace h2 := h2.below bwz13
      replace X2 := Lib.hid (blk_below X2.out bwz13)
      replace h3 := h3.below bwz13
      replace X3 := Lib.hid (blk_below X3.out bwz13)
      replace h4 := h4.below bwz13
      replace X4 := Lib.hid (blk_below X4.out bwz13)
      replace hb := below_then hb bwz13
      clear c1 l1 c2 l2 sl1 sl2 hbz11 hbz12 hbz13 sz11_0 sz11_1 sz12_0 sz12_1 sz13_0 sz13_1 bwz11 bwz12 bwz13
      obtain ⟨u2, _, l2⟩ := blk X2.out
      have c2 : wz13.cell? ⟨B2, 0, none⟩ = some (.pointer q2) := u2 0
      clear u2
      obtain ⟨u3, _, l3⟩ := blk X3.out
      have c3 : wz13.cell? ⟨B3, 0, none⟩ = some (.pointer q3) := u3 0
      clear u3
      go_wp2_with fail
      go_region_held3 (fun w' => w'.cell? ⟨B2, 0, none⟩ = some (.pointer q2) ∧ w'.cell? ⟨B3, 0, none⟩ = some (.pointer q3)) (go_keep) (first
        | (have _t := bwz22; go_at_call 10; refine (same_yes _ _ _ _ _ _ _ _ _ (by first | exact (sl1.below hbz22) | exact (sl1.below hbz22).drew) (by first | exact sl2 | exact sl2.drew) (E2.out.trans E3.out.symm)).mono ?_; rintro e wz23 ⟨rfl, hbz23⟩; have bwz23 := below_then bwz22 hbz23; have sz23_0 := (bwz23.cell (p := ⟨B2, 0, none⟩) l2).trans c2; have sz23_1 := (bwz23.cell (p := ⟨B3, 0, none⟩) l3).trans c3)
        | (have _t := bwz21; go_at_call 34; refine (TRP.ints_sl t3 q3 _ (by first | exact h3.below bwz21 | exact (h3.below bwz21).drew) (by omega)).mono ?_; rintro e wz22 ⟨a2, n2, c2', rfl, sl2, hbz22⟩; have bwz22 := below_then bwz21 hbz22; have sz22_0 := (bwz22.cell (p := ⟨B2, 0, none⟩) l2).trans c2; have sz22_1 := (bwz22.cell (p := ⟨B3, 0, none⟩) l3).trans c3)
        | (go_at_call 33; refine (WBT.ints_sl t2 q2 _ (by first | exact h2 | exact h2.drew | exact h2.drewN _ | exact (h2.drewN _).drew | exact (h2.drewN _).drewN _ | exact ((h2.drewN _).drewN _).drew) (by omega)).mono ?_; rintro e wz21 ⟨a1, n1, c1', rfl, sl1, hbz21⟩; have bwz21 : Below wz13.heap.size wz13 wz21 := (by first | exact hbz21 | exact below_of_drewN hbz21 | exact below_of_drew hbz21 | exact below_of_drewN (below_of_drew hbz21) | exact below_of_drewN (below_of_drewN hbz21) | exact below_of_drewN (below_of_drewN (below_of_drew hbz21))); have sz21_0 := (bwz21.cell (p := ⟨B2, 0, none⟩) l2).trans c2; have sz21_1 := (bwz21.cell (p := ⟨B3, 0, none⟩) l3).trans c3))
      replace h0 := h0.below bwz23
      replace X0 := Lib.hid (blk_below X0.out bwz23)
      replace h1 := h1.below bwz23
      replace X1 := Lib.hid (blk_below X1.out bwz23)
      replace h2 := h2.below bwz23
      replace X2 := Lib.hid (blk_below X2.out bwz23)
      replace h3 := h3.below bwz23
      replace X3 := Lib.hid (blk_below X3.out bwz23)
      replace h4 := h4.below bwz23
      replace X4 := Lib.hid (blk_below X4.out bwz23)
      replace hb := below_then hb bwz23
      clear c2 l2 c3 l3 sl1 sl2 hbz21 hbz22 hbz23 sz21_0 sz21_1 sz22_0 sz22_1 sz23_0 sz23_1 bwz21 bwz22 bwz23
      obtain ⟨u3, _, l3⟩ := blk X3.out
      have c3 : wz23.cell? ⟨B3, 0, none⟩ = some (.pointer q3) := u3 0
      clear u3
      obtain ⟨u4, _, l4⟩ := blk X4.out
      have c4 : wz23.cell? ⟨B4, 0, none⟩ = some (.pointer q4) := u4 0
      clear u4
      go_wp2_with fail
      go_region_held3 (fun w' => w'.cell? ⟨B3, 0, none⟩ = some (.pointer q3) ∧ w'.cell? ⟨B4, 0, none⟩ = some (.pointer q4)) (go_keep) (first
        | (have _t := bwz32; go_at_call 10; refine (same_yes _ _ _ _ _ _ _ _ _ (by first | exact (sl1.below hbz32) | exact (sl1.below hbz32).drew) (by first | exact sl2 | exact sl2.drew) (E3.out.trans E4.out.symm)).mono ?_; rintro e wz33 ⟨rfl, hbz33⟩; have bwz33 := below_then bwz32 hbz33; have sz33_0 := (bwz33.cell (p := ⟨B3, 0, none⟩) l3).trans c3; have sz33_1 := (bwz33.cell (p := ⟨B4, 0, none⟩) l4).trans c4)
        | (have _t := bwz31; go_at_call 35; refine (SPL.ints_sl t4 q4 _ (by first | exact h4.below bwz31 | exact (h4.below bwz31).drew) (by omega)).mono ?_; rintro e wz32 ⟨a2, n2, c2', rfl, sl2, hbz32⟩; have bwz32 := below_then bwz31 hbz32; have sz32_0 := (bwz32.cell (p := ⟨B3, 0, none⟩) l3).trans c3; have sz32_1 := (bwz32.cell (p := ⟨B4, 0, none⟩) l4).trans c4)
        | (go_at_call 34; refine (TRP.ints_sl t3 q3 _ (by first | exact h3 | exact h3.drew | exact h3.drewN _ | exact (h3.drewN _).drew | exact (h3.drewN _).drewN _ | exact ((h3.drewN _).drewN _).drew) (by omega)).mono ?_; rintro e wz31 ⟨a1, n1, c1', rfl, sl1, hbz31⟩; have bwz31 : Below wz23.heap.size wz23 wz31 := (by first | exact hbz31 | exact below_of_drewN hbz31 | exact below_of_drew hbz31 | exact below_of_drewN (below_of_drew hbz31) | exact below_of_drewN (below_of_drewN hbz31) | exact below_of_drewN (below_of_drewN (below_of_drew hbz31))); have sz31_0 := (bwz31.cell (p := ⟨B3, 0, none⟩) l3).trans c3; have sz31_1 := (bwz31.cell (p := ⟨B4, 0, none⟩) l4).trans c4))
      replace h0 := h0.below bwz33
      replace X0 := Lib.hid (blk_below X0.out bwz33)
      replace h1 := h1.below bwz33
      replace X1 := Lib.hid (blk_below X1.out bwz33)
      replace h2 := h2.below bwz33
      replace X2 := Lib.hid (blk_below X2.out bwz33)
      replace h3 := h3.below bwz33
      replace X3 := Lib.hid (blk_below X3.out bwz33)
      replace h4 := h4.below bwz33
      replace X4 := Lib.hid (blk_below X4.out bwz33)
      replace hb := below_then hb bwz33
      clear c3 l3 c4 l4 sl1 sl2 hbz31 hbz32 hbz33 sz31_0 sz31_1 sz32_0 sz32_1 sz33_0 sz33_1 bwz31 bwz32 bwz33
      obtain ⟨bb, hbb⟩ : ∃ bb, decide (x ∈ xs) = bb := ⟨_, rfl⟩
      have HBB := Lib.hid hbb
      have hbe : (bb == bb) = true := by simp
      clear hbb
      obtain ⟨u0, _, l0⟩ := blk X0.out
      have c0 : wz33.cell? ⟨w.heap.size, 0, none⟩ = some (.pointer q0) := u0 0
      clear u0
      have HD := Lib.hid (show decide (x ∈ t0.toL) = bb by rw [E0.out]; exact HBB.out)
      go_wp2_with fail
      refine (AVL.has_b t0 x bb q0 _ h0 g0 HD.out).mono ?_
      rintro e wa ⟨rfl, bh⟩
      replace h0 := h0.below bh
      replace X0 := Lib.hid (blk_below X0.out bh)
      replace h1 := h1.below bh
      replace X1 := Lib.hid (blk_below X1.out bh)
      replace h2 := h2.below bh
      replace X2 := Lib.hid (blk_below X2.out bh)
      replace h3 := h3.below bh
      replace X3 := Lib.hid (blk_below X3.out bh)
      replace h4 := h4.below bh
      replace X4 := Lib.hid (blk_below X4.out bh)
      replace hb := below_then hb bh
      clear HD c0 l0 bh
      obtain ⟨u1, _, l1⟩ := blk X1.out
      have c1 : wa.cell? ⟨B1, 0, none⟩ = some (.pointer q1) := u1 0
      clear u1
      have HD := Lib.hid (show decide (x ∈ t1.toL) = bb by rw [E1.out]; exact HBB.out)
      go_wp2_with fail
      refine (RED.has_b t1 x bb q1 _ h1 g1 (by omega) HD.out).mono ?_
      rintro e wb ⟨rfl, bh⟩
      replace h0 := h0.below bh
      replace X0 := Lib.hid (blk_below X0.out bh)
      replace h1 := h1.below bh
      replace X1 := Lib.hid (blk_below X1.out bh)
      replace h2 := h2.below bh
      replace X2 := Lib.hid (blk_below X2.out bh)
      replace h3 := h3.below bh
      replace X3 := Lib.hid (blk_below X3.out bh)
      replace h4 := h4.below bh
      replace X4 := Lib.hid (blk_below X4.out bh)
      replace hb := below_then hb bh
      clear HD c1 l1 bh
      obtain ⟨u2, _, l2⟩ := blk X2.out
      have c2 : wb.cell? ⟨B2, 0, none⟩ = some (.pointer q2) := u2 0
      clear u2
      have HD := Lib.hid (show decide (x ∈ t2.toL) = bb by rw [E2.out]; exact HBB.out)
      go_wp2_with fail
      refine (WBT.has_b t2 x bb q2 _ h2 g2 (by omega) HD.out).mono ?_
      rintro e wc ⟨rfl, bh⟩
      replace h0 := h0.below bh
      replace X0 := Lib.hid (blk_below X0.out bh)
      replace h1 := h1.below bh
      replace X1 := Lib.hid (blk_below X1.out bh)
      replace h2 := h2.below bh
      replace X2 := Lib.hid (blk_below X2.out bh)
      replace h3 := h3.below bh
      replace X3 := Lib.hid (blk_below X3.out bh)
      replace h4 := h4.below bh
      replace X4 := Lib.hid (blk_below X4.out bh)
      replace hb := below_then hb bh
      clear HD c2 l2 bh
      obtain ⟨u3, _, l3⟩ := blk X3.out
      have c3 : wc.cell? ⟨B3, 0, none⟩ = some (.pointer q3) := u3 0
      clear u3
      have HD := Lib.hid (show decide (x ∈ t3.toL) = bb by rw [E3.out]; exact HBB.out)
      go_wp2_with fail
      refine (TRP.has_b t3 x bb q3 _ h3 g3 (by omega) HD.out).mono ?_
      rintro e wd ⟨rfl, bh⟩
      replace h0 := h0.below bh
      replace X0 := Lib.hid (blk_below X0.out bh)
      replace h1 := h1.below bh
      replace X1 := Lib.hid (blk_below X1.out bh)
      replace h2 := h2.below bh
      replace X2 := Lib.hid (blk_below X2.out bh)
      replace h3 := h3.below bh
      replace X3 := Lib.hid (blk_below X3.out bh)
      replace h4 := h4.below bh
      replace X4 := Lib.hid (blk_below X4.out bh)
      replace hb := below_then hb bh
      clear HD c3 l3 bh
      obtain ⟨u4, _, l4⟩ := blk X4.out
      have c4 : wd.cell? ⟨B4, 0, none⟩ = some (.pointer q4) := u4 0
      clear u4
      have HD := Lib.hid (show decide (x ∈ t4.toL) = bb by rw [E4.out]; exact HBB.out)
      go_wp2_with fail
      refine (SPL.has_b t4 x bb q4 _ h4 g4 (by omega) HD.out).mono ?_
      rintro e we ⟨rfl, bh⟩
      replace h0 := h0.below bh
      replace X0 := Lib.hid (blk_below X0.out bh)
      replace h1 := h1.below bh
      replace X1 := Lib.hid (blk_below X1.out bh)
      replace h2 := h2.below bh
      replace X2 := Lib.hid (blk_below X2.out bh)
      replace h3 := h3.below bh
      replace X3 := Lib.hid (blk_below X3.out bh)
      replace h4 := h4.below bh
      replace X4 := Lib.hid (blk_below X4.out bh)
      replace hb := below_then hb bh
      clear HD c4 l4 bh
      obtain ⟨u0, _, l0⟩ := blk X0.out
      have c0 : we.cell? ⟨w.heap.size, 0, none⟩ = some (.pointer q0) := u0 0
      clear u0
      have hz : (AVL.put t0 x).size ≤ 17592186044415 := by rw [← toL_length, AVL.put_list g0, E0.out]; have := onceL_length (xs ++ [x]); rw [List.length_append] at this; simp only [List.length_cons, List.length_nil] at this; omega
      have HD := Lib.hid (show decide (x ∈ (AVL.put t0 x).toL) = true from decide_eq_true ((AVL.put_mem g0 x x).2 (.inl rfl)))
      go_wp2_with fail
      refine (AVL.put_set t0 x q0 _ h0 (by omega)).mono ?_
      rintro e wfp ⟨qp, rfl, ip, bp⟩
      go_wp2_with fail
      refine (AVL.has_b (AVL.put t0 x) x true qp _ ip (AVL.put_good g0 x) HD.out).mono ?_
      rintro e wf ⟨rfl, bh⟩
      replace bh := below_then bp bh
      replace h0 := h0.below bh
      replace X0 := Lib.hid (blk_below X0.out bh)
      replace h1 := h1.below bh
      replace X1 := Lib.hid (blk_below X1.out bh)
      replace h2 := h2.below bh
      replace X2 := Lib.hid (blk_below X2.out bh)
      replace h3 := h3.below bh
      replace X3 := Lib.hid (blk_below X3.out bh)
      replace h4 := h4.below bh
      replace X4 := Lib.hid (blk_below X4.out bh)
      replace hb := below_then hb bh
      clear HD ip hz bp c0 l0 bh
      obtain ⟨u4, _, l4⟩ := blk X4.out
      have c4 : wf.cell? ⟨B4, 0, none⟩ = some (.pointer q4) := u4 0
      clear u4
      have hz : (SPL.put t4 x).size ≤ 17592186044415 := by rw [← toL_length, SPL.put_list g4, E4.out]; have := onceL_length (xs ++ [x]); rw [List.length_append] at this; simp only [List.length_cons, List.length_nil] at this; omega
      have HD := Lib.hid (show decide (x ∈ (SPL.put t4 x).toL) = true from decide_eq_true ((SPL.put_mem g4 x x).2 (.inl rfl)))
      go_wp2_with fail
      refine (SPL.put_set t4 x q4 _ h4 (by omega)).mono ?_
      rintro e wgp ⟨qp, rfl, ip, bp⟩
      go_wp2_with fail
      refine (SPL.has_b (SPL.put t4 x) x true qp _ ip (SPL.put_good g4 x) (by omega) HD.out).mono ?_
      rintro e wg ⟨rfl, bh⟩
      replace bh := below_then bp bh
      replace h0 := h0.below bh
      replace X0 := Lib.hid (blk_below X0.out bh)
      replace h1 := h1.below bh
      replace X1 := Lib.hid (blk_below X1.out bh)
      replace h2 := h2.below bh
      replace X2 := Lib.hid (blk_below X2.out bh)
      replace h3 := h3.below bh
      replace X3 := Lib.hid (blk_below X3.out bh)
      replace h4 := h4.below bh
      replace X4 := Lib.hid (blk_below X4.out bh)
      replace hb := below_then hb bh
      clear HD ip hz bp c4 l4 bh
      go_wp2_with fail
      go_ret
      exact ⟨rfl, hb⟩
end Go.Proofs.Ythokmfonedfmfaa
