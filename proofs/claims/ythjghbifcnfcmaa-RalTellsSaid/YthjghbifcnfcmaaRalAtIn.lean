/-
  Lists of trees: the number at a place of the list. Conditions: at most 2^60 numbers.
-/
import Derived.Test.YthjghbifcnfcmaaRalAt
namespace Go.Proofs.Ythjghbifcnfcmaa
open Go.RowKit Go.Deep Go.BigFrame
open SK
set_option linter.unusedVariables false
namespace RA
set_option maxHeartbeats 1000000 in
theorem at_in (i : Nat) (y : Int) (p : Option Addr) (m : Int) (xs : List Int) (w : World) (h : In w p m xs) (hy : xs[i]? = some y) (hs : xs.length ≤ 1152921504606846976) :
    Calls Try.prog 24 #[.agg #[.pointer p, .int .i64 m], .int .i64 (i : Int)] w fun e w' => e = .returned (.tuple #[.int .i64 y, .bool true]) ∧ Below w.heap.size w w' := by
  obtain ⟨ss, h1, hg, rfl, hm⟩ := h
  have hil := (List.getElem?_eq_some_iff.1 hy).1
  have him : (i : Int) < m := by omega
  have hi0 : (0 : Int) ≤ (i : Int) := by omega
  have H1 := Lib.hid (h1.below ((Below.refl w.heap.size w).alloc (Nat.le_refl _) (.cells #[.pointer p, .int .i64 m] 44)))
  have HG := Lib.hid hg.perf
  have HY := Lib.hid hy
  have HM := Lib.hid hm
  clear h1 hg hy hm
  go_enter Try.func24, Try.ntmps24
  go_wp2_with fail
  go_loop [1, 6] (fun i s => ∃ (ss' : List Sp) (j : Nat) (q : Option Addr), i = .int .i64 (j : Int) ∧ s = .pointer q ∧ InS (w.alloc (.cells #[.pointer p, .int .i64 m] 44)) q ss' ∧ Hid ((∀ s ∈ ss', 1 ≤ s.1 ∧ RT.Perf s.1 s.2) ∧ (allS ss')[j]? = some y) ∧ (allS ss').length ≤ 1152921504606846976) (fun i _ => (intOf i).toNat)
  case atStart => exact ⟨ss, i, p, rfl, rfl, H1.out, Lib.hid ⟨HG.out, HY.out⟩, hs⟩
  case round =>
    obtain ⟨ss', j, q, rfl, rfl, hi, hh, hl⟩ := hrel
    obtain ⟨hpf, hy⟩ := hh.out
    have hjl := (List.getElem?_eq_some_iff.1 hy).1
    cases ss' with
    | nil => simp [allS] at hjl
    | cons s r =>
      have hps := hpf s (List.mem_cons_self ..)
      have hpr : ∀ t ∈ r, 1 ≤ t.1 ∧ RT.Perf t.1 t.2 := fun t ht => hpf t (List.mem_cons_of_mem _ ht)
      obtain ⟨b, pt, q', rfl, hb, hit, hir⟩ := hi
      obtain ⟨z, _, hlt⟩ := blk hb
      have z0 := z 0
      have z1 := z 1
      have z2 := z 2
      clear z hb
      have hll := RT.perf_len hps.2
      have hd1 := D_pos s.1 hps.1
      rw [allS_cons, List.length_append] at hjl hl
      rw [allS_cons] at hy
      have HPS := Lib.hid hps
      have HPR := Lib.hid hpr
      have HIT := Lib.hid hit
      have HIR := Lib.hid hir
      obtain ⟨na, hna⟩ : ∃ na, D s.1 = na := ⟨_, rfl⟩
      rw [hna] at hll hd1 z0
      have HNA := Lib.hid hna
      have HLL := Lib.hid hll
      clear hps hpr hit hir hh hpf hna hll
      by_cases hc : na ≤ (j : Int)
      · have hy2 : (allS r)[j - s.2.pre.length]? = some y := by
          rw [List.getElem?_append_right (by have := HLL.out; omega)] at hy
          exact hy
        have HY2 := Lib.hid hy2
        have hsub : (j : Int) - na = ((j - s.2.pre.length : Nat) : Int) := by have := HLL.out; omega
        have HS := Lib.hid hsub
        clear hy hy2 hsub
        go_wp2_with fail
        go_round
        case rel => exact ⟨r, j - s.2.pre.length, q', by rw [HS.out], rfl, HIR.out, Lib.hid ⟨HPR.out, HY2.out⟩, by omega⟩
        case measure => simp [intOf]; omega
      · have hy2 : s.2.pre[j]? = some y := by
          rw [List.getElem?_append_left (by have := HLL.out; omega)] at hy
          exact hy
        have AT_ := Lib.hid (fun W (hW : InT W pt s.2) => by
          have := at_tree s.2 s.1 j y pt W hW HPS.out.2 hy2 (by omega)
          rw [HNA.out] at this
          exact this)
        have hit0 := HIT.out
        clear hy hy2
        go_wp2_with fail
        obtain ⟨W, hW⟩ : ∃ W, w.alloc (.cells #[.pointer p, .int .i64 m] 44) = W := ⟨_, rfl⟩
        have bW : Below w.heap.size w W := by rw [← hW]; exact (Below.refl _ _).alloc (Nat.le_refl _) _
        rw [hW] at z0 z1 hit0
        rw [hW]
        clear hW z2 hlt HIT HIR H1
        have calm0 : ∀ u : Grown W, _ := fun u => u.cell z0
        have calm1 : ∀ u : Grown W, _ := fun u => u.cell z1
        refine wp_region_calm (by kernel_rfl) (by kernel_rfl) ?_
        repeat (go_big_quiet_step ((first | (go_at_call 38; with_reducible exact calm_of_same (AT_.out _ (hit0.below (Grown.below _)))))))
        refine wpQuiet_nil ?_
        intro wq hw'
        have bc : Below W.heap.size W wq := by obtain ⟨u, rfl⟩ := hw'; exact u.below
        clear hw' calm0 calm1
        go_wp2_with fail
        go_ret2
        exact ⟨rfl, below_then bW bc⟩
set_option maxHeartbeats 800000 in
theorem at_out (i : Int) (p : Option Addr) (m : Int) (xs : List Int) (w : World) (h : In w p m xs) (hn : ¬ (0 ≤ i ∧ i < (xs.length : Int))) : Calls Try.prog 24 #[.agg #[.pointer p, .int .i64 m], .int .i64 i] w fun e w' =>
    e = .returned (.tuple #[.int .i64 0, .bool false]) ∧ Below w.heap.size w w' := by
  rw [← h.size] at hn
  by_cases h0 : i < 0
  · clear h
    go_enter Try.func24, Try.ntmps24
    go_wp2_with fail
    go_ret2
    exact ⟨rfl, (Below.refl _ _).alloc (Nat.le_refl _) _⟩
  · have h0' : (0 : Int) ≤ i := by omega
    have h1 : m ≤ i := by omega
    clear hn h
    go_enter Try.func24, Try.ntmps24
    go_wp2_with fail
    go_ret2
    exact ⟨rfl, (Below.refl _ _).alloc (Nat.le_refl _) _⟩
end RA
end Go.Proofs.Ythjghbifcnfcmaa
