/-
  Lists of trees: the first one goes. Conditions: at most 2^60 numbers.
  Lists of trees: the number at a place. Conditions: at most 2^60 numbers.
  Lists of trees: the number at a place of the list. Conditions: at most 2^60 numbers.
-/
import Derived.Test.YtpkfakndlbngbaaRalWalks
namespace Go.Proofs.Ytpkfakndlbngbaa
open Go.RowKit Go.Deep Go.BigFrame
open SK
set_option linter.unusedVariables false
namespace RA
end RA
end Go.Proofs.Ytpkfakndlbngbaa

namespace Go.Proofs.Ytpkfakndlbngbaa
open Go.RowKit Go.Deep Go.BigFrame
open SK
set_option linter.unusedVariables false
namespace RA
set_option maxHeartbeats 1000000 in
theorem at_tree (t0 : RT) (k0 i : Nat) (y : Int) (p : Option Addr) (w : World) (h : InT w p t0) (hp : RT.Perf k0 t0) (hy : t0.pre[i]? = some y) (hs : t0.pre.length ≤ 1152921504606846976) :
    Calls Try.prog 32 #[.pointer p, .int .i64 (D k0), .int .i64 (i : Int)] w fun e w' => e = .returned (.int .i64 y) ∧ w = w' := by
  have hil := (List.getElem?_eq_some_iff.1 hy).1
  have H := Lib.hid h
  have HP := Lib.hid hp
  have HY := Lib.hid hy
  clear h hp hy
  go_enter Try.func32, Try.ntmps32
  go_wp2_with fail
  go_loop [0, 1, 2] (fun t n i => ∃ (t' : RT) (k : Nat) (j : Nat) (q : Option Addr), t = .pointer q ∧ n = .int .i64 (D k) ∧ i = .int .i64 (j : Int) ∧ InT w q t' ∧ Hid (RT.Perf k t' ∧ t'.pre[j]? = some y) ∧ t'.pre.length ≤ 1152921504606846976) (fun _ _ i => (intOf i).toNat)
  case atStart => exact ⟨t0, k0, i, p, rfl, rfl, rfl, H.out, Lib.hid ⟨HP.out, HY.out⟩, hs⟩
  case round =>
    obtain ⟨t', k, j, q, rfl, rfl, rfl, hi, hh, hl⟩ := hrel
    obtain ⟨hpf, hy⟩ := hh.out
    have hjl := (List.getElem?_eq_some_iff.1 hy).1
    cases k with
    | zero =>
      obtain rfl : t' = .nil := hpf
      simp [RT.pre] at hjl
    | succ k =>
      obtain ⟨x, l, r, rfl, hpl, hpr⟩ := hpf
      obtain ⟨b, pl, pr, rfl, hb, hil', hir⟩ := hi
      obtain ⟨z, _, hlt⟩ := blk hb
      have z0 : w.cell? ⟨b, 0, none⟩ = some (.int .i64 x) := z 0
      have z1 : w.cell? ⟨b, 1, none⟩ = some (.pointer pl) := z 1
      have z2 : w.cell? ⟨b, 2, none⟩ = some (.pointer pr) := z 2
      clear z hb
      have hll := RT.perf_len hpl
      have hd0 := D_nonneg k
      have hdk : D (k + 1) = 2 * D k + 1 := rfl
      simp only [RT.pre, List.length_cons, List.length_append] at hjl hl
      obtain ⟨nb, hnb⟩ : ∃ nb, D k = nb := ⟨_, rfl⟩
      obtain ⟨na, hna⟩ : ∃ na, D (k + 1) = na := ⟨_, rfl⟩
      rw [hna, hnb] at hdk
      rw [hnb] at hll hd0
      rw [hna]
      have hdiv : na / 2 = nb := by omega
      have na0 : 0 ≤ na := by omega
      have na1 : na ≤ 2305843009213693953 := by omega
      have HNB := Lib.hid hnb
      have HLL := Lib.hid hll
      have HDV := Lib.hid hdiv
      have HPL := Lib.hid hpl
      have HPR := Lib.hid hpr
      have HIL := Lib.hid hil'
      have HIR := Lib.hid hir
      have HY2 := Lib.hid hy
      clear hdk hna hnb hpl hpr hil' hir hh hll hy hdiv
      cases j with
      | zero =>
        have hyx : x = y := by have := HY2.out; simpa [RT.pre] using this
        subst hyx
        go_wp2_with fail
        go_ret
        exact ⟨rfl, rfl⟩
      | succ j =>
        have hy2 := HY2.out
        simp only [RT.pre, List.getElem?_cons_succ] at hy2
        have hji : (0 : Int) < ((j + 1 : Nat) : Int) := by omega
        by_cases hlt2 : (j : Int) < nb
        · have hy3 : l.pre[j]? = some y := by
            rw [List.getElem?_append_left (by have := HLL.out; omega)] at hy2
            exact hy2
          have HY3 := Lib.hid hy3
          have hlt3 : (j : Int) < na / 2 := by rw [HDV.out]; exact hlt2
          clear hy2 hy3
          go_wp2_with fail
          go_round
          case rel => exact ⟨l, k, j, pl, rfl, by rw [HNB.out]; first | rfl | rw [HDV.out], by go_num, HIL.out, Lib.hid ⟨HPL.out, HY3.out⟩, by omega⟩
          case measure => simp [intOf]
        · have hy3 : r.pre[j - l.pre.length]? = some y := by
            rw [List.getElem?_append_right (by have := HLL.out; omega)] at hy2
            exact hy2
          have HY3 := Lib.hid hy3
          have hlt3 : ¬ (j : Int) < na / 2 := by rw [HDV.out]; exact hlt2
          have hsub : (j : Int) - nb = ((j - l.pre.length : Nat) : Int) := by have := HLL.out; omega
          have HS := Lib.hid hsub
          clear hy2 hy3 hsub
          go_wp2_with fail
          go_round
          case rel => exact ⟨r, k, j - l.pre.length, pr, rfl, by rw [HNB.out]; first | rfl | rw [HDV.out], by rw [← HS.out]; first | rfl | (congr 1; have := HDV.out; omega), HIR.out, Lib.hid ⟨HPR.out, HY3.out⟩, by omega⟩
          case measure => have := HDV.out; simp [intOf]; omega
end RA
end Go.Proofs.Ytpkfakndlbngbaa

namespace Go.Proofs.Ytpkfakndlbngbaa
open Go.RowKit Go.Deep Go.BigFrame
open SK
set_option linter.unusedVariables false
namespace RA
set_option maxHeartbeats 1000000 in
theorem at_in (i : Nat) (y : Int) (p : Option Addr) (m : Int) (xs : List Int) (w : World) (h : In w p m xs) (hy : xs[i]? = some y) (hs : xs.length ≤ 1152921504606846976) :
    Calls Try.prog 17 #[.agg #[.pointer p, .int .i64 m], .int .i64 (i : Int)] w fun e w' => e = .returned (.tuple #[.int .i64 y, .bool true]) ∧ Below w.heap.size w w' := by
  obtain ⟨ss, h1, hg, rfl, hm⟩ := h
  have hil := (List.getElem?_eq_some_iff.1 hy).1
  have him : (i : Int) < m := by omega
  have hi0 : (0 : Int) ≤ (i : Int) := by omega
  have H1 := Lib.hid (h1.below ((Below.refl w.heap.size w).alloc (Nat.le_refl _) (.cells #[.pointer p, .int .i64 m] 29)))
  have HG := Lib.hid hg.perf
  have HY := Lib.hid hy
  have HM := Lib.hid hm
  clear h1 hg hy hm
  go_enter Try.func17, Try.ntmps17
  go_wp2_with fail
  go_loop [1, 6] (fun i s => ∃ (ss' : List Sp) (j : Nat) (q : Option Addr), i = .int .i64 (j : Int) ∧ s = .pointer q ∧ InS (w.alloc (.cells #[.pointer p, .int .i64 m] 29)) q ss' ∧ Hid ((∀ s ∈ ss', 1 ≤ s.1 ∧ RT.Perf s.1 s.2) ∧ (allS ss')[j]? = some y) ∧ (allS ss').length ≤ 1152921504606846976) (fun i _ => (intOf i).toNat)
  case atStart => exact ⟨ss, i, p, rfl, rfl, H1.out, Lib.hid ⟨HG.out, HY.out⟩, hs⟩
  case round =>
    obtain ⟨ss', j, q, rfl, rfl, hi, hh, hl⟩ := hrel
    obtain ⟨hpf, hy⟩ := hh.out
    have hjl := (List.getElem?_eq_some_iff.1 hy).1
    cases ss' with
    | nil => simp [allS] at hjl
    | cons s r =>
      have hps := hpf s (List.mem_cons_self ..)
      have hpr : ∀ t ∈ r, 1 ≤ t.1 ∧ RT.Perf t.1 t.2 := fun t ht => hpf t (List.mem_cons_of_mem _ ht)
      obtain ⟨b, pt, q', rfl, hb, hit, hir⟩ := hi
      obtain ⟨z, _, hlt⟩ := blk hb
      have z0 := z 0
      have z1 := z 1
      have z2 := z 2
      clear z hb
      have hll := RT.perf_len hps.2
      have hd1 := D_pos s.1 hps.1
      rw [allS_cons, List.length_append] at hjl hl
      rw [allS_cons] at hy
      have HPS := Lib.hid hps
      have HPR := Lib.hid hpr
      have HIT := Lib.hid hit
      have HIR := Lib.hid hir
      obtain ⟨na, hna⟩ : ∃ na, D s.1 = na := ⟨_, rfl⟩
      rw [hna] at hll hd1 z0
      have HNA := Lib.hid hna
      have HLL := Lib.hid hll
      clear hps hpr hit hir hh hpf hna hll
      by_cases hc : na ≤ (j : Int)
      · have hy2 : (allS r)[j - s.2.pre.length]? = some y := by
          rw [List.getElem?_append_right (by have := HLL.out; omega)] at hy
          exact hy
        have HY2 := Lib.hid hy2
        have hsub : (j : Int) - na = ((j - s.2.pre.length : Nat) : Int) := by have := HLL.out; omega
        have HS := Lib.hid hsub
        clear hy hy2 hsub
        go_wp2_with fail
        go_round
        case rel => exact ⟨r, j - s.2.pre.length, q', by rw [HS.out], rfl, HIR.out, Lib.hid ⟨HPR.out, HY2.out⟩, by omega⟩
        case measure => simp [intOf]; omega
      · have hy2 : s.2.pre[j]? = some y := by
          rw [List.getElem?_append_left (by have := HLL.out; omega)] at hy
          exact hy
        have AT_ := Lib.hid (fun W (hW : InT W pt s.2) => by
          have := at_tree s.2 s.1 j y pt W hW HPS.out.2 hy2 (by omega)
          rw [HNA.out] at this
          exact this)
        have hit0 := HIT.out
        clear hy hy2
        go_wp2_with fail
        obtain ⟨W, hW⟩ : ∃ W, w.alloc (.cells #[.pointer p, .int .i64 m] 29) = W := ⟨_, rfl⟩
        have bW : Below w.heap.size w W := by rw [← hW]; exact (Below.refl _ _).alloc (Nat.le_refl _) _
        rw [hW] at z0 z1 hit0
        rw [hW]
        clear hW z2 hlt HIT HIR H1
        have calm0 : ∀ u : Grown W, _ := fun u => u.cell z0
        have calm1 : ∀ u : Grown W, _ := fun u => u.cell z1
        refine wp_region_calm (by kernel_rfl) (by kernel_rfl) ?_
        repeat (go_big_quiet_step ((first | (go_at_call 32; with_reducible exact calm_of_same (AT_.out _ (hit0.below (Grown.below _)))))))
        refine wpQuiet_nil ?_
        intro wq hw'
        have bc : Below W.heap.size W wq := by obtain ⟨u, rfl⟩ := hw'; exact u.below
        clear hw' calm0 calm1
        go_wp2_with fail
        go_ret2
        exact ⟨rfl, below_then bW bc⟩
set_option maxHeartbeats 800000 in
theorem at_out (i : Int) (p : Option Addr) (m : Int) (xs : List Int) (w : World) (h : In w p m xs) (hn : ¬ (0 ≤ i ∧ i < (xs.length : Int))) : Calls Try.prog 17 #[.agg #[.pointer p, .int .i64 m], .int .i64 i] w fun e w' =>
    e = .returned (.tuple #[.int .i64 0, .bool false]) ∧ Below w.heap.size w w' := by
  rw [← h.size] at hn
  by_cases h0 : i < 0
  · clear h
    go_enter Try.func17, Try.ntmps17
    go_wp2_with fail
    go_ret2
    exact ⟨rfl, (Below.refl _ _).alloc (Nat.le_refl _) _⟩
  · have h0' : (0 : Int) ≤ i := by omega
    have h1 : m ≤ i := by omega
    clear hn h
    go_enter Try.func17, Try.ntmps17
    go_wp2_with fail
    go_ret2
    exact ⟨rfl, (Below.refl _ _).alloc (Nat.le_refl _) _⟩
end RA
end Go.Proofs.Ytpkfakndlbngbaa
