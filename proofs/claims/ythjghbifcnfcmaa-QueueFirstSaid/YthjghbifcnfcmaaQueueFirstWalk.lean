/-
  The walk of the law QueueFirst. Conditions: the list has at most 2^44 - 512 numbers (the row's own reach).
-/
import Derived.Test.YthjghbifcnfcmaaQueued
import Derived.Test.YthjghbifcnfcmaaApp
namespace Go.Proofs.Ythjghbifcnfcmaa
open Go.RowKit Go.Deep Go.BigFrame
open Go.Proofs.Ythjghbifcnfcmaa.QU
set_option linter.unusedVariables false
set_option maxHeartbeats 4000000 in
set_option maxRecDepth 100000 in
theorem QueueFirst_walk (a0 : Option Addr) (n0 c0 : Nat) (x0 : List Int) (w : World)
    (s0 : Sl w a0 n0 c0 x0) (i0 : ∀ n ∈ x0, I64 n) (e0 : n0 ≤ 17592186043904) :
    Calls Try.prog 3 #[.slice a0 n0 c0] w fun e w' => e = .returned (.bool true) ∧ Below w.heap.size w w' := by
  have L0 := Lib.hid s0.hlen
  have S0 := Lib.hid s0
  have sc0 := s0.hcap
  have sm0 := s0.hmax
  unfold maxLen at sm0
  clear s0 i0
  go_enter Try.func3, Try.ntmps3
  go_wp2_with fail
  refine (queued_any _).mono ?_
  rintro e w1 ⟨rfl, b1⟩
  go_wp2_with fail
  obtain ⟨B0, hB0⟩ : ∃ k, w1.heap.size = k := ⟨_, rfl⟩
  have X : Box (w1.alloc (.cells #[.pointer none, .int .i64 0, .pointer none, .int .i64 0] 28)) B0 none 0 none 0 := by rw [← hB0]; exact Box.new _ _ _ _ _
  have bX : Below w.heap.size w (w1.alloc (.cells #[.pointer none, .int .i64 0, .pointer none, .int .i64 0] 28)) := b1.alloc b1.size _
  have hBw : w.heap.size ≤ B0 := by rw [← hB0]; exact b1.size
  rw [hB0]
  clear hB0 b1
  go_loopw [5] (fun i wr => ∃ (k : Nat) (p : Option Addr) (m : Int) (q : Option Addr) (j : Int), k ≤ n0 ∧ i = .int .i64 k ∧ In wr p m q j (x0.take k) ∧ Box wr B0 p m q j ∧ Below w.heap.size w wr) (fun i _ => n0 - (intOf i).toNat)
  case atStart =>
    exact ⟨0, none, 0, none, 0, Nat.zero_le _, rfl, In.nil _, X, bX⟩
  case round =>
    obtain ⟨k, p, m, q, j, hk, rfl, hi, hX, hb⟩ := hrel
    clear X bX
    by_cases hlt : k < n0
    · obtain ⟨b, off, rfl, hbl, hc⟩ := S0.out.hat (by omega)
      have g := (hb.cell (p := ⟨b, off + k, none⟩) hbl).trans (hc k hlt)
      clear hc
      have hlti : (k : Int) < (n0 : Int) := by omega
      obtain ⟨y, hy⟩ : ∃ y, x0[k]?.getD 0 = y := ⟨_, rfl⟩
      rw [hy] at g
      have ht : x0.take (k + 1) = x0.take k ++ [y] := by rw [take_snoc' x0 k (by have := L0.out; omega), hy]
      have HT := Lib.hid ht
      have hln : (x0.take k).length ≤ k := List.length_take_le _ _
      clear hy ht
      obtain ⟨uc, vc, lc⟩ := blk hX
      have c0 : wr.cell? ⟨B0, 0, none⟩ = some (.pointer p) := uc 0
      have cf0 := vc 0
      have c1 : wr.cell? ⟨B0, 1, none⟩ = some (.int .i64 m) := uc 1
      have cf1 := vc 1
      have c2 : wr.cell? ⟨B0, 2, none⟩ = some (.pointer q) := uc 2
      have cf2 := vc 2
      have c3 : wr.cell? ⟨B0, 3, none⟩ = some (.int .i64 j) := uc 3
      have cf3 := vc 3
      clear uc vc
      have HX := Lib.hid hX
      clear hX
      go_wp2_with fail
      go_region_law (first | (go_simp; go_at_call 10; refine (push_any y p m q j _ _ (by first | exact hi.drew | exact hi.drewN _) (by omega)).mono ?_; rintro e w2 ⟨p2, m2, q2, j2, rfl, hi2, hb2⟩; replace hb2 := below_of_drew hb2; have y0 := HX.out.below hb2; obtain ⟨uy, vy, ly⟩ := blk y0; have e0 := uy 0; have ef0 := vy 0; have e1 := uy 1; have ef1 := vy 1; have e2 := uy 2; have ef2 := vy 2; have e3 := uy 3; have ef3 := vy 3; clear uy vy))
      all_goals
        go_wp2_with fail
        go_roundw
        case rel => exact ⟨k + 1, p2, m2, q2, j2, by omega, by go_num, by rw [HT.out]; exact hi2.keep (box_keep y0 _ (by decide)), box_set y0, below_set4 (below_then hb hb2) hBw _ _ _ _⟩
        case measure => simp [intOf]; omega
    · have hx0 : x0.take k = x0 := List.take_of_length_le (by have := L0.out; omega)
      rw [hx0] at hi
      clear hx0
      go_wp2_with fail
      go_loopw [6] (fun i wx => ∃ (k : Nat) (p : Option Addr) (m : Int) (q : Option Addr) (j : Int), k ≤ n0 ∧ i = .int .i64 k ∧ In wx p m q j (x0.drop k) ∧ Box wx B0 p m q j ∧ Below w.heap.size w wx) (fun i _ => n0 - (intOf i).toNat)
      case atStart => exact ⟨0, p, m, q, j, Nat.zero_le _, rfl, hi, hX, hb⟩
      case round =>
        clear hi hX hb
        obtain ⟨k, p, m, q, j, hk, rfl, hi, hX, hb⟩ := hrel
        by_cases hlt : k < n0
        · obtain ⟨b, off, rfl, hbl, hc⟩ := S0.out.hat (by omega)
          have g := (hb.cell (p := ⟨b, off + k, none⟩) hbl).trans (hc k hlt)
          clear hc
          have hlti : (k : Int) < (n0 : Int) := by omega
          obtain ⟨y, hy⟩ : ∃ y, x0[k]?.getD 0 = y := ⟨_, rfl⟩
          rw [hy] at g
          have hd : x0.drop k = y :: x0.drop (k + 1) := by
            rw [List.drop_eq_getElem_cons (by have := L0.out; omega), ← hy, List.getElem?_eq_getElem (by have := L0.out; omega)]
            rfl
          have hdl : (x0.drop (k + 1)).length = n0 - (k + 1) := by rw [List.length_drop, L0.out]
          rw [hd] at hi
          obtain ⟨r, hr⟩ : ∃ r, x0.drop (k + 1) = r := ⟨_, rfl⟩
          rw [hr] at hi hdl
          have HR := Lib.hid hr
          have hlen : (((r.length : Nat) : Int) != (n0 : Int) - (k : Int) - 1) = false := by rw [bne_eq_false_iff_eq]; omega
          have HDL := Lib.hid hdl
          clear hd hdl hy hr
          obtain ⟨uc, vc, lc⟩ := blk hX
          have c0 : wr.cell? ⟨B0, 0, none⟩ = some (.pointer p) := uc 0
          have cf0 := vc 0
          have c1 : wr.cell? ⟨B0, 1, none⟩ = some (.int .i64 m) := uc 1
          have cf1 := vc 1
          have c2 : wr.cell? ⟨B0, 2, none⟩ = some (.pointer q) := uc 2
          have cf2 := vc 2
          have c3 : wr.cell? ⟨B0, 3, none⟩ = some (.int .i64 j) := uc 3
          have cf3 := vc 3
          clear uc vc
          have HX := Lib.hid hX
          clear hX
          go_wp2_with fail
          refine (pop_cons y p m q j _ _ hi (by have := HDL.out; omega)).mono ?_
          rintro e w2 ⟨p2, m2, q2, j2, rfl, hi2, hb2⟩
          have y0 := HX.out.below hb2
          have gg := (hb2.cell (p := ⟨b, off + k, none⟩) (Nat.lt_of_lt_of_le hbl hb.size)).trans g
          have B2 := below_then hb hb2
          have hbl2 := Nat.lt_of_lt_of_le hbl B2.size
          have Y0 := Lib.hid y0
          clear y0 hb2 c0 cf0 c1 cf1 c2 cf2 c3 cf3 lc g
          go_wp2_with fail
          refine (len_any p2 m2 q2 j2 _ _ (hi2.alloc _) (by have := HDL.out; omega)).mono ?_
          rintro e w3 ⟨rfl, hb3⟩
          obtain ⟨hb3, D⟩ := hold1 hb3 ⟨rfl, rfl, rfl, rfl⟩
          have y0 := Y0.out.below hb3
          have B3 := below_then B2 hb3
          have hi3 := hi2.below hb3
          obtain ⟨ud, vd, ld⟩ := blk D
          have d0 : w3.cell? ⟨w2.heap.size, 0, none⟩ = some (.pointer p2) := ud 0
          have df0 := vd 0
          have d1 : w3.cell? ⟨w2.heap.size, 1, none⟩ = some (.int .i64 m2) := ud 1
          have df1 := vd 1
          have d2 : w3.cell? ⟨w2.heap.size, 2, none⟩ = some (.pointer q2) := ud 2
          have df2 := vd 2
          have d3 : w3.cell? ⟨w2.heap.size, 3, none⟩ = some (.int .i64 j2) := ud 3
          have df3 := vd 3
          clear ud vd
          obtain ⟨ue, ve, le⟩ := blk y0
          have e0 : w3.cell? ⟨B0, 0, none⟩ = some (.pointer p) := ue 0
          have ef0 := ve 0
          have e1 : w3.cell? ⟨B0, 1, none⟩ = some (.int .i64 m) := ue 1
          have ef1 := ve 1
          have e2 : w3.cell? ⟨B0, 2, none⟩ = some (.pointer q) := ue 2
          have ef2 := ve 2
          have e3 : w3.cell? ⟨B0, 3, none⟩ = some (.int .i64 j) := ue 3
          have ef3 := ve 3
          clear ue ve
          have Y3 := Lib.hid y0
          clear y0 D
          go_wp2_with fail
          go_roundw
          case rel => exact ⟨k + 1, p2, m2, q2, j2, by omega, by go_num, by rw [HR.out]; exact hi3.keep (box_keep Y3.out _ (by decide)), box_set Y3.out, below_set4 B3 hBw _ _ _ _⟩
          case measure => simp [intOf]; omega
        · have hd : x0.drop k = [] := List.drop_of_length_le (by have := L0.out; omega)
          rw [hd] at hi
          clear hd
          obtain ⟨uc, vc, lc⟩ := blk hX
          have c0 : wr.cell? ⟨B0, 0, none⟩ = some (.pointer p) := uc 0
          have cf0 := vc 0
          have c1 : wr.cell? ⟨B0, 1, none⟩ = some (.int .i64 m) := uc 1
          have cf1 := vc 1
          have c2 : wr.cell? ⟨B0, 2, none⟩ = some (.pointer q) := uc 2
          have cf2 := vc 2
          have c3 : wr.cell? ⟨B0, 3, none⟩ = some (.int .i64 j) := uc 3
          have cf3 := vc 3
          clear uc vc
          go_wp2_with fail
          refine (pop_nil p m q j _ hi).mono ?_
          rintro e w2 ⟨rfl, b2⟩
          replace hb := below_then hb b2
          go_wp2_with fail
          go_ret
          exact ⟨rfl, hb.alloc hb.size _⟩
end Go.Proofs.Ythjghbifcnfcmaa
