/-
  Lists of trees: the trees' sizes. Conditions: at most 2^40 numbers.
-/
import Derived.Test.YthjghbifcnfcmaaRalInts
namespace Go.Proofs.Ythjghbifcnfcmaa
open Go.RowKit Go.Deep Go.BigFrame
open SK
set_option linter.unusedVariables false
namespace RA
set_option maxHeartbeats 2000000 in
set_option maxRecDepth 100000 in
theorem sizes_any (p : Option Addr) (m : Int) (xs : List Int) (w : World) (h : In w p m xs) (hs : xs.length ≤ 1099511627776) :
    Calls Try.prog 22 #[.agg #[.pointer p, .int .i64 m]] w fun e w' => ∃ a n c L, e = .returned (.slice a n c) ∧ Sl w' a n c L ∧ valid L ∧ L.sum = (xs.length : Int) ∧ Below w.heap.size w w' := by
  obtain ⟨i0, hi0, hz0, hz1, hz2⟩ := info_parts Try.infoInt
  obtain ⟨ss, h1, hg, rfl, hm⟩ := h
  have hv := sizes_valid hg hs
  have hsum := sizes_sum hg.perf
  have hlen := valid_length hv
  have HV := Lib.hid hv
  have HSM := Lib.hid hsum
  have H1 := Lib.hid (h1.below ((Below.refl w.heap.size w).alloc (Nat.le_refl _) (.cells #[.pointer p, .int .i64 m] 44)))
  clear h1 hg hm hv hsum
  go_enter Try.func22, Try.ntmps22
  go_wp2_with fail
  go_loopg [3, 4] ss.length (fun g v s wr => ∃ (pre rest : List Sp) (q : Option Addr), g = rest.length ∧ s = .pointer q ∧ Hid (ss = pre ++ rest) ∧ InS wr q rest ∧ wr.ownsRow w.heap.size 3 1 v pre.length ((sizesS pre).map (Value.int .i64)) ∧ Below w.heap.size w wr)
  case atStart => exact ⟨[], ss, p, rfl, rfl, Lib.hid rfl, H1.out, World.ownsRow_nil _ _ _ _, (Below.refl _ _).alloc (Nat.le_refl _) _⟩
  case round =>
    obtain ⟨pre, rest, q, hgm, rfl, HE, hi, hown, hb⟩ := hrel
    cases rest with
    | nil =>
      obtain rfl : q = none := hi
      go_wp2_with fail
      go_ret
      have he := HE.out
      rw [List.append_nil] at he
      subst he
      obtain ⟨a, c, rfl, hsl⟩ := Sl.of_own hown
      exact ⟨a, _, c, _, rfl, hsl, HV.out, HSM.out, hb⟩
    | cons s r =>
      obtain ⟨b, pt, q', rfl, hbk, hit, hir⟩ := hi
      obtain ⟨z, _, klt⟩ := blk hbk
      have k0 : wr.cell? ⟨b, 0, none⟩ = some (.int .i64 (D s.1)) := z 0
      obtain ⟨na, hna⟩ : ∃ na, D s.1 = na := ⟨_, rfl⟩
      rw [hna] at k0
      have HNA := Lib.hid hna
      have HBK := Lib.hid hbk
      have HG := Lib.hid hgm
      have hbs := hb.size
      have hln : pre.length + 1 ≤ 41 := by
        have hl := hlen
        rw [HE.out] at hl
        simp only [sizesS, List.length_map, List.length_append, List.length_cons] at hl
        omega
      clear z hbk hgm hna
      go_wp2_with (at_builtin; refine wpList_append_own _ rfl _ _ 22 rfl w.heap.size 3 i0 (.int .i64 0) 1 8 Try.underlying22 hi0 hz0 hz1 hz2 rfl (by decide) _ _ _ rfl (hown.alloc _) ⟨wr.heap.size, 0, none⟩ 1 1 [.int .i64 na] rfl rfl (cell_one_new _ _ _) (by simp [Value.oneCell']) (by unfold maxLen; omega) (by omega) (by simp; omega) ?_; intro v' w2 hown' hgrow _; have kb := KeepT.of_grown (T := 71) (hown.alloc (.cells #[.int .i64 na] 3)) hgrow (by decide) _ _ ((Below.heap_alloc _ _ _ klt).trans HBK.out); have N2 : w2.cell? ⟨b, 2, none⟩ = some (.pointer q') := (blk kb).1 2)
      go_roundg r.length
      case measure => have := HG.out; simp only [List.length_cons] at this; omega
      case rel =>
        have kT := KeepT.of_grown (T := 73) (hown.alloc (.cells #[.int .i64 na] 3)) hgrow (by decide)
        have kS := KeepT.of_grown (T := 71) (hown.alloc (.cells #[.int .i64 na] 3)) hgrow (by decide)
        refine ⟨pre ++ [s], r, q', rfl, rfl, Lib.hid (by rw [HE.out]; simp), (hir.below ((Below.refl _ _).alloc (Nat.le_refl _) _)).keep kT kS, ?_, below_grown (hb.alloc hbs _) (hown.alloc _) hgrow (Nat.le_refl _) (by simp; omega)⟩
        have e : sizesS (pre ++ [s]) = sizesS pre ++ [na] := by simp [sizesS, HNA.out]
        rw [e, List.map_append]
        simpa using hown'
end RA
end Go.Proofs.Ythjghbifcnfcmaa
