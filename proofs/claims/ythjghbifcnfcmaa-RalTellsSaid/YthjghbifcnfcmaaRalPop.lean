/-
  Lists of trees: the first one goes. Conditions: at most 2^60 numbers.
-/
import Derived.Test.YthjghbifcnfcmaaRalWalks
namespace Go.Proofs.Ythjghbifcnfcmaa
open Go.RowKit Go.Deep Go.BigFrame
open SK
set_option linter.unusedVariables false
namespace RA
set_option maxHeartbeats 2000000 in
theorem pop_nil (p : Option Addr) (m : Int) (w : World) (h : In w p m []) :
    Calls Try.prog 20 #[.agg #[.pointer p, .int .i64 m]] w fun e w' => e = .returned (.tuple #[.int .i64 0, .agg #[.pointer none, .int .i64 0], .bool false]) ∧ Below w.heap.size w w' := by
  obtain ⟨ss, h1, hg, he, hm⟩ := h
  have hp : p = none := by
    cases ss with
    | nil => exact h1
    | cons s r =>
      have hs := hg.perf s (List.mem_cons_self ..)
      have hl := RT.perf_len hs.2
      have hd := D_pos s.1 hs.1
      have h0 := congrArg List.length he
      rw [allS_cons, List.length_append] at h0
      simp only [List.length_nil] at h0
      omega
  subst hp
  clear h1 hg he hm
  go_enter Try.func20, Try.ntmps20
  go_wp2_with fail
  refine bodyPost_ret (v := .tuple #[.int .i64 0, .agg #[.pointer none, .int .i64 0], .bool false]) (by simp [results, Try.results20, go_sem]) rfl ⟨rfl, ((Below.refl _ _).alloc (Nat.le_refl _) _).alloc (by simp) _⟩
set_option maxHeartbeats 4000000 in
set_option maxRecDepth 100000 in
theorem pop_cons (x : Int) (p : Option Addr) (m : Int) (xs : List Int) (w : World) (h : In w p m (x :: xs)) (hs : xs.length + 1 ≤ 1152921504606846976) :
    Calls Try.prog 20 #[.agg #[.pointer p, .int .i64 m]] w fun e w' => ∃ q k, e = .returned (.tuple #[.int .i64 x, .agg #[.pointer q, .int .i64 k], .bool true]) ∧ In w' q k xs ∧ Below w.heap.size w w' := by
  obtain ⟨ss, h1, hg, he, hm⟩ := h
  simp only [List.length_cons] at hm
  have hm0 : 1 ≤ m := by omega
  have hm1 : m ≤ 1152921504606846976 := by omega
  have hw : IntKind.i64.wrap (m - 1) = m - 1 := IntWalk.i64_in _ (by omega)
  obtain ⟨hpa, k, ta, tb, rest, rfl, pfa, pfb⟩ := popS_all hg he.symm
  have PG := Lib.hid (popS_good hg)
  have PA := Lib.hid hpa
  have HM := Lib.hid hm
  have fin : ∀ (W : World) (q : Option Addr), InS W q (popS ((k + 1, .node x ta tb) :: rest)) → In W q (m - 1) xs := fun W q h => ⟨_, h, PG.out, PA.out.symm, by have := HM.out; omega⟩
  have FIN := Lib.hid fin
  have hle : D (k + 1) ≤ 1152921504606846976 := by
    have hl := RT.perf_len (hg.perf _ (List.mem_cons_self ..)).2
    have h0 := congrArg List.length he
    rw [allS_cons, List.length_append] at h0
    simp only [List.length_cons] at h0
    simp only at hl
    omega
  clear fin hm hpa hg he
  obtain ⟨b, pt, q, rfl, hb, ht, hr⟩ := h1
  obtain ⟨bt, pl, pr, rfl, hbt, htl, htr⟩ := ht
  obtain ⟨z, _, hlt⟩ := blk hb
  have z0 : w.cell? ⟨b, 0, none⟩ = some (.int .i64 (D (k + 1))) := z 0
  have z1 : w.cell? ⟨b, 1, none⟩ = some (.pointer (some ⟨bt, 0, none⟩)) := z 1
  have z2 : w.cell? ⟨b, 2, none⟩ = some (.pointer q) := z 2
  clear z hb
  obtain ⟨z, _, hltt⟩ := blk hbt
  have t0 : w.cell? ⟨bt, 0, none⟩ = some (.int .i64 x) := z 0
  have t1 : w.cell? ⟨bt, 1, none⟩ = some (.pointer pl) := z 1
  have t2 : w.cell? ⟨bt, 2, none⟩ = some (.pointer pr) := z 2
  clear z hbt
  have hdk : D (k + 1) = 2 * D k + 1 := rfl
  have hd0 := D_nonneg k
  obtain ⟨nb, hnb⟩ : ∃ nb, D k = nb := ⟨_, rfl⟩
  obtain ⟨na, hna⟩ : ∃ na, D (k + 1) = na := ⟨_, rfl⟩
  rw [hna] at z0 hle hdk
  rw [hnb] at hdk hd0
  have HNA := Lib.hid hna
  have HNB := Lib.hid hnb
  have HDK := Lib.hid hdk
  have na0 : 1 ≤ na := by omega
  clear hna hnb hdk
  by_cases hk : k = 0
  · have hna1 : ¬ 1 < na := by
      subst hk
      have := HNB.out
      have := HDK.out
      have e : D 0 = 0 := rfl
      omega
    have hpp : popS ((k + 1, .node x ta tb) :: rest) = rest := by simp only [popS]; rw [if_neg (by omega)]
    have HP := Lib.hid hpp
    clear hk hd0 hpp
    go_enter Try.func20, Try.ntmps20
    go_wp2_with fail
    obtain ⟨W, hW⟩ : ∃ W, ((w.alloc (.cells #[.pointer (some ⟨b, 0, none⟩), .int .i64 m] 44)).alloc (.cells #[.pointer none, .int .i64 0] 44)) = W := ⟨_, rfl⟩
    obtain ⟨bW, x0, x1⟩ := hold2 (w := w) (o1 := .cells #[.pointer (some ⟨b, 0, none⟩), .int .i64 m] 44) (o2 := .cells #[.pointer none, .int .i64 0] 44) (w1 := W) (by rw [← hW]; exact Below.refl _ _) ⟨rfl, rfl, rfl, rfl⟩
    rw [hW]
    clear hW
    clear z0 z2 t1 t2
    obtain ⟨uz, _, lz⟩ := blk x0
    have c1 : W.cell? ⟨w.heap.size, 1, none⟩ = some (.int .i64 m) := uz 1
    obtain ⟨uy, vy, ly⟩ := blk x1
    have d0 := uy 0
    have d1 := uy 1
    have df0 := vy 0
    have df1 := vy 1
    have k1' := (bW.cell (p := ⟨b, 1, none⟩) hlt).trans z1
    have i0' := (bW.cell (p := ⟨bt, 0, none⟩) hltt).trans t0
    have hsz := bW.size
    have hlt' := Nat.lt_of_lt_of_le hlt hsz
    have hltt' := Nat.lt_of_lt_of_le hltt hsz
    have g1 : ¬ b = w.heap.size + 1 := by omega
    have g2 : ¬ w.heap.size + 1 = b := by omega
    have g3 : ¬ bt = w.heap.size + 1 := by omega
    have g4 : ¬ w.heap.size + 1 = bt := by omega
    have g5 : ¬ w.heap.size = w.heap.size + 1 := by omega
    have g6 : ¬ w.heap.size + 1 = w.heap.size := by omega
    have BV := Lib.hid bW
    have Y1 : Hid (Box W (w.heap.size + 1) none 0) := Lib.hid x1
    clear uy vy uz x0 x1 bW
    go_region_held3 (fun w' => w'.cell? ⟨b, 1, none⟩ = some (.pointer (some ⟨bt, 0, none⟩)) ∧ w'.cell? ⟨bt, 0, none⟩ = some (.int .i64 x) ∧ w'.cell? ⟨w.heap.size, 1, none⟩ = some (.int .i64 m)) (go_keep) (fail)
    all_goals
      go_wp2_with fail
      have FI := Lib.hid (((hr.below BV.out).box (p' := q) (m' := m - 1) Y1.out).below (Below.refl _ _).drew)
      rw [← HP.out] at FI
      exact bodyPost_ret (v := .tuple #[.int .i64 x, .agg #[.pointer q, .int .i64 (m - 1)], .bool true]) (by simp [results, Try.results20, go_sem, d0, d1]) rfl ⟨_, _, rfl, FIN.out _ _ FI.out, (below_set2 BV.out (by omega) _ _).drew⟩
  · obtain ⟨k, rfl⟩ : ∃ j, k = j + 1 := ⟨k - 1, by omega⟩
    have hnb1 : 1 ≤ nb := by
      have := HNB.out
      have := D_pos (k + 1) (by omega)
      omega
    have hna1 : (1 : Int) < na := by have := HDK.out; omega
    have hpp : popS ((k + 1 + 1, .node x ta tb) :: rest) = (k + 1, ta) :: (k + 1, tb) :: rest := by simp only [popS]; rw [if_pos (by omega)]; rfl
    have HP := Lib.hid hpp
    clear hpp
    have hdiv : na / 2 = nb := by have := HDK.out; omega
    have hdiv2 : IntKind.i64.wrap (na.tdiv 2) = nb := by
      rw [Int.tdiv_eq_ediv_of_nonneg (by omega), hdiv]
      exact IntWalk.i64_in _ (by omega)
    clear hk hd0
    go_enter Try.func20, Try.ntmps20
    go_wp2_with fail
    obtain ⟨W, hW⟩ : ∃ W, ((w.alloc (.cells #[.pointer (some ⟨b, 0, none⟩), .int .i64 m] 44)).alloc (.cells #[.pointer none, .int .i64 0] 44)) = W := ⟨_, rfl⟩
    obtain ⟨bW, x0, x1⟩ := hold2 (w := w) (o1 := .cells #[.pointer (some ⟨b, 0, none⟩), .int .i64 m] 44) (o2 := .cells #[.pointer none, .int .i64 0] 44) (w1 := W) (by rw [← hW]; exact Below.refl _ _) ⟨rfl, rfl, rfl, rfl⟩
    rw [hW]
    clear hW
    have k0 := (bW.cell (p := ⟨b, 0, none⟩) hlt).trans z0
    have k1 := (bW.cell (p := ⟨b, 1, none⟩) hlt).trans z1
    have i1 := (bW.cell (p := ⟨bt, 1, none⟩) hltt).trans t1
    have i2 := (bW.cell (p := ⟨bt, 2, none⟩) hltt).trans t2
    have hWs := bW.size
    go_region_held3 (fun w' => w'.cell? ⟨b, 0, none⟩ = some (.int .i64 na) ∧ w'.cell? ⟨b, 1, none⟩ = some (.pointer (some ⟨bt, 0, none⟩)) ∧ w'.cell? ⟨bt, 1, none⟩ = some (.pointer pl) ∧ w'.cell? ⟨bt, 2, none⟩ = some (.pointer pr)) (go_keep) (fail)
    all_goals
      go_wp2_with fail
      clear k0 k1 i1 i2
      obtain ⟨V, hV⟩ : ∃ V, ((W.alloc (.cells #[.int .i64 nb, .pointer pr, .pointer q] 71)).alloc (.cells #[.int .i64 nb, .pointer pl, .pointer (some ⟨W.heap.size, 0, none⟩)] 71)).drew = V := ⟨_, rfl⟩
      have bV : Below W.heap.size W V := by rw [← hV]; exact (((Below.refl _ _).alloc (Nat.le_refl _) _).alloc (by simp) _).drew
      have v0 : V.heap[W.heap.size]? = some (.cells #[.int .i64 nb, .pointer pr, .pointer q] 71 (0, 0)) := by rw [← hV]; exact (Below.heap_alloc _ _ _ (by simp)).trans (heap_alloc_new _ _)
      have v1 : V.heap[W.heap.size + 1]? = some (.cells #[.int .i64 nb, .pointer pl, .pointer (some ⟨W.heap.size, 0, none⟩)] 71 (0, 0)) := by
        rw [← hV]
        have := heap_alloc_new (W.alloc (.cells #[.int .i64 nb, .pointer pr, .pointer q] 71)) (.cells #[.int .i64 nb, .pointer pl, .pointer (some ⟨W.heap.size, 0, none⟩)] 71)
        rw [World.size_alloc] at this
        exact this
      rw [hV]
      clear hV
      have x0' := blk_below x0 bV
      have x1' := blk_below x1 bV
      have bwV := below_then bW bV
      have hins : InS V (some ⟨W.heap.size + 1, 0, none⟩) ((k + 1, ta) :: (k + 1, tb) :: rest) := by
        have e := HNB.out
        exact ⟨W.heap.size + 1, pl, some ⟨W.heap.size, 0, none⟩, rfl, by rw [e]; exact v1, htl.below bwV, W.heap.size, pr, q, rfl, by rw [e]; exact v0, htr.below bwV, hr.below bwV⟩
      have HINS := Lib.hid hins
      clear x0 x1 bW bV v0 v1 hins
      obtain ⟨uz, _, lz⟩ := blk x0'
      have c1 : V.cell? ⟨w.heap.size, 1, none⟩ = some (.int .i64 m) := uz 1
      obtain ⟨uy, vy, ly⟩ := blk x1'
      have d0 := uy 0
      have d1 := uy 1
      have df0 := vy 0
      have df1 := vy 1
      have k1' := (bwV.cell (p := ⟨b, 1, none⟩) hlt).trans z1
      have i0' := (bwV.cell (p := ⟨bt, 0, none⟩) hltt).trans t0
      have hsz := bwV.size
      have hlt' := Nat.lt_of_lt_of_le hlt hsz
      have hltt' := Nat.lt_of_lt_of_le hltt hsz
      have g1 : ¬ b = w.heap.size + 1 := by omega
      have g2 : ¬ w.heap.size + 1 = b := by omega
      have g3 : ¬ bt = w.heap.size + 1 := by omega
      have g4 : ¬ w.heap.size + 1 = bt := by omega
      have g5 : ¬ w.heap.size = w.heap.size + 1 := by omega
      have g6 : ¬ w.heap.size + 1 = w.heap.size := by omega
      have BV := Lib.hid bwV
      have Y1 : Hid (Box V (w.heap.size + 1) none 0) := Lib.hid x1'
      clear uy vy uz x0' x1' bwV
      go_region_held3 (fun w' => w'.cell? ⟨b, 1, none⟩ = some (.pointer (some ⟨bt, 0, none⟩)) ∧ w'.cell? ⟨bt, 0, none⟩ = some (.int .i64 x) ∧ w'.cell? ⟨w.heap.size, 1, none⟩ = some (.int .i64 m)) (go_keep) (fail)
      all_goals
        go_wp2_with fail
        have FI := Lib.hid (((HINS.out).box (p' := (some ⟨W.heap.size + 1, 0, none⟩)) (m' := m - 1) Y1.out).below (Below.refl _ _).drew)
        rw [← HP.out] at FI
        exact bodyPost_ret (v := .tuple #[.int .i64 x, .agg #[.pointer (some ⟨W.heap.size + 1, 0, none⟩), .int .i64 (m - 1)], .bool true]) (by simp [results, Try.results20, go_sem, d0, d1]) rfl ⟨_, _, rfl, FIN.out _ _ FI.out, (below_set2 BV.out (by omega) _ _).drew⟩
end RA
end Go.Proofs.Ythjghbifcnfcmaa
