/-
  Lists of trees: the number at a place. Conditions: at most 2^60 numbers.
-/
import Derived.Test.YthjghbifcnfcmaaRalPop
namespace Go.Proofs.Ythjghbifcnfcmaa
open Go.RowKit Go.Deep Go.BigFrame
open SK
set_option linter.unusedVariables false
namespace RA
set_option maxHeartbeats 1000000 in
theorem at_tree (t0 : RT) (k0 i : Nat) (y : Int) (p : Option Addr) (w : World) (h : InT w p t0) (hp : RT.Perf k0 t0) (hy : t0.pre[i]? = some y) (hs : t0.pre.length ≤ 1152921504606846976) :
    Calls Try.prog 38 #[.pointer p, .int .i64 (D k0), .int .i64 (i : Int)] w fun e w' => e = .returned (.int .i64 y) ∧ w = w' := by
  have hil := (List.getElem?_eq_some_iff.1 hy).1
  have H := Lib.hid h
  have HP := Lib.hid hp
  have HY := Lib.hid hy
  clear h hp hy
  go_enter Try.func38, Try.ntmps38
  go_wp2_with fail
  go_loop [0, 1, 2] (fun t n i => ∃ (t' : RT) (k : Nat) (j : Nat) (q : Option Addr), t = .pointer q ∧ n = .int .i64 (D k) ∧ i = .int .i64 (j : Int) ∧ InT w q t' ∧ Hid (RT.Perf k t' ∧ t'.pre[j]? = some y) ∧ t'.pre.length ≤ 1152921504606846976) (fun _ _ i => (intOf i).toNat)
  case atStart => exact ⟨t0, k0, i, p, rfl, rfl, rfl, H.out, Lib.hid ⟨HP.out, HY.out⟩, hs⟩
  case round =>
    obtain ⟨t', k, j, q, rfl, rfl, rfl, hi, hh, hl⟩ := hrel
    obtain ⟨hpf, hy⟩ := hh.out
    have hjl := (List.getElem?_eq_some_iff.1 hy).1
    cases k with
    | zero =>
      obtain rfl : t' = .nil := hpf
      simp [RT.pre] at hjl
    | succ k =>
      obtain ⟨x, l, r, rfl, hpl, hpr⟩ := hpf
      obtain ⟨b, pl, pr, rfl, hb, hil', hir⟩ := hi
      obtain ⟨z, _, hlt⟩ := blk hb
      have z0 : w.cell? ⟨b, 0, none⟩ = some (.int .i64 x) := z 0
      have z1 : w.cell? ⟨b, 1, none⟩ = some (.pointer pl) := z 1
      have z2 : w.cell? ⟨b, 2, none⟩ = some (.pointer pr) := z 2
      clear z hb
      have hll := RT.perf_len hpl
      have hd0 := D_nonneg k
      have hdk : D (k + 1) = 2 * D k + 1 := rfl
      simp only [RT.pre, List.length_cons, List.length_append] at hjl hl
      obtain ⟨nb, hnb⟩ : ∃ nb, D k = nb := ⟨_, rfl⟩
      obtain ⟨na, hna⟩ : ∃ na, D (k + 1) = na := ⟨_, rfl⟩
      rw [hna, hnb] at hdk
      rw [hnb] at hll hd0
      rw [hna]
      have hdiv : na / 2 = nb := by omega
      have na0 : 0 ≤ na := by omega
      have na1 : na ≤ 2305843009213693953 := by omega
      have HNB := Lib.hid hnb
      have HLL := Lib.hid hll
      have HDV := Lib.hid hdiv
      have HPL := Lib.hid hpl
      have HPR := Lib.hid hpr
      have HIL := Lib.hid hil'
      have HIR := Lib.hid hir
      have HY2 := Lib.hid hy
      clear hdk hna hnb hpl hpr hil' hir hh hll hy hdiv
      cases j with
      | zero =>
        have hyx : x = y := by have := HY2.out; simpa [RT.pre] using this
        subst hyx
        go_wp2_with fail
        go_ret
        exact ⟨rfl, rfl⟩
      | succ j =>
        have hy2 := HY2.out
        simp only [RT.pre, List.getElem?_cons_succ] at hy2
        have hji : (0 : Int) < ((j + 1 : Nat) : Int) := by omega
        by_cases hlt2 : (j : Int) < nb
        · have hy3 : l.pre[j]? = some y := by
            rw [List.getElem?_append_left (by have := HLL.out; omega)] at hy2
            exact hy2
          have HY3 := Lib.hid hy3
          have hlt3 : (j : Int) < na / 2 := by rw [HDV.out]; exact hlt2
          clear hy2 hy3
          go_wp2_with fail
          go_round
          case rel => exact ⟨l, k, j, pl, rfl, by rw [HNB.out]; first | rfl | rw [HDV.out], by go_num, HIL.out, Lib.hid ⟨HPL.out, HY3.out⟩, by omega⟩
          case measure => simp [intOf]
        · have hy3 : r.pre[j - l.pre.length]? = some y := by
            rw [List.getElem?_append_right (by have := HLL.out; omega)] at hy2
            exact hy2
          have HY3 := Lib.hid hy3
          have hlt3 : ¬ (j : Int) < na / 2 := by rw [HDV.out]; exact hlt2
          have hsub : (j : Int) - nb = ((j - l.pre.length : Nat) : Int) := by have := HLL.out; omega
          have HS := Lib.hid hsub
          clear hy2 hy3 hsub
          go_wp2_with fail
          go_round
          case rel => exact ⟨r, k, j - l.pre.length, pr, rfl, by rw [HNB.out]; first | rfl | rw [HDV.out], by rw [← HS.out]; first | rfl | (congr 1; have := HDV.out; omega), HIR.out, Lib.hid ⟨HPR.out, HY3.out⟩, by omega⟩
          case measure => have := HDV.out; simp [intOf]; omega
end RA
end Go.Proofs.Ythjghbifcnfcmaa
