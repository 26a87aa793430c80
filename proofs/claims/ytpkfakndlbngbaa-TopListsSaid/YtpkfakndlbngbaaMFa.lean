/-
  Finger trees: are there more than so many? the question that seq's cut asks of a measure. Conditions: none.
  Finger trees: the place in some things at which there are more than so many. Conditions: at most 2^44 numbers.
-/
import Derived.Test.YtpkfakndlbngbaaFinPopR
import Derived.Deep.RegionLaw
import Derived.Deep.DeepCutAuto
namespace Go.Proofs.Ytpkfakndlbngbaa
open Go.RowKit Go.Deep
open Go.Proofs.Ytpkfakndlbngbaa.MN
set_option linter.unusedVariables false
namespace FG

theorem ask_any (m : Ms) (i : Int) (A : Nat) (w : World) (h : w.cell? ⟨A, 0, none⟩ = some (.int .i64 i)) :
    Calls Try.prog 39 #[m.val, .pointer (some ⟨A, 0, none⟩)] w fun e w' => e = .returned (.bool (decide (i < m.n))) ∧ Below w.heap.size w w' := by
  have hlt : A < w.heap.size := World.block_lt_of_cell? w ⟨A, 0, none⟩ h
  have hne : ¬ w.heap.size = A := by omega
  obtain ⟨n, s, lo, hi, hh⟩ := m
  go_enter Try.func39, Try.ntmps39
  go_wp2_with fail
  go_ret
  exact ⟨rfl, (Below.refl _ _).alloc (Nat.le_refl _) _⟩
end FG
end Go.Proofs.Ytpkfakndlbngbaa

namespace Go.Proofs.Ytpkfakndlbngbaa
open Go.RowKit Go.Deep
open Go.Proofs.Ytpkfakndlbngbaa.MN
set_option linter.unusedVariables false
namespace FG

theorem place_step (i so : Nat) (l : List Th) (k : Nat) (h : k + 1 < l.length) : place i so (l.drop k) = if i < so + (l[k]?.getD (.leaf 0)).size then 0 else place i (so + (l[k]?.getD (.leaf 0)).size) (l.drop (k + 1)) + 1 := by
  have e : l.drop k = (l[k]?.getD (.leaf 0)) :: l.drop (k + 1) := by
    rw [List.getElem?_eq_getElem (by omega), Option.getD_some, List.getElem_cons_drop]
  obtain ⟨u, r, e2⟩ : ∃ u r, l.drop (k + 1) = u :: r := by
    cases hd : l.drop (k + 1) with
    | nil => have := congrArg List.length hd; simp at this; omega
    | cons u r => exact ⟨u, r, rfl⟩
  rw [e, e2, place]
theorem place_end (i so : Nat) (l : List Th) (k : Nat) (h : k + 1 = l.length) : place i so (l.drop k) = 0 := by
  have e : (l.drop k).length = 1 := by simp; omega
  match hl : l.drop k, e with
  | [t], _ => rfl
set_option maxHeartbeats 4000000 in
set_option maxRecDepth 100000 in
theorem place_any (i : Nat) (A : Nat) (so : Nat) (m : Ms) (a : Option Addr) (n c : Nat) (l : List Th) (w : World) (hm : m.n = (so : Int)) (h : Dg w a n c l) (h0 : 1 ≤ n) (hA : w.cell? ⟨A, 0, none⟩ = some (.int .i64 (i : Int))) (hs : so + tsN l ≤ 17592186044416) :
    Calls Try.prog 64 #[.func (.func 39) #[] #[.pointer (some ⟨A, 0, none⟩)], m.val, .slice a n c] w fun e w' => ∃ m' : Ms, e = .returned (.tuple #[.int .i64 (place i so l : Int), m'.val]) ∧ Below w.heap.size w w' := by
  have hlen := h.len
  obtain ⟨ps, hp, hl⟩ := h
  have hcap := hp.hcap
  have hmax := hp.hmax
  unfold maxLen at hmax
  obtain ⟨b, off, rfl, hbl, hc⟩ := hp.cell (by omega)
  have hAl : A < w.heap.size := World.block_lt_of_cell? w ⟨A, 0, none⟩ hA
  have HC := Lib.hid hc
  have HI := Lib.hid hl
  have HLEN := Lib.hid hlen
  have HSZ := Lib.hid hs
  have HM := Lib.hid hm
  have HA := Lib.hid hA
  obtain ⟨K, rfl⟩ : ∃ K, n = K + 1 := ⟨n - 1, by omega⟩
  have hsl : ∀ W : World, (Instr.slice 90 (.slice (some ⟨b, off, none⟩) (K + 1) c) none (some (.int .i64 (K : Int))) none).run Try.prog W = .ok (.slice (some ⟨b, off, none⟩) K c) W := fun W => Try.things_to (some ⟨b, off, none⟩) (K + 1) c K (by omega) W
  have hw : IntKind.i64.wrap (((K + 1 : Nat) : Int) - 1) = (K : Int) := by rw [IntWalk.i64_in _ (by omega)]; omega
  clear hc hl hlen hs hm hA h0 hp
  go_enter Try.func64, Try.ntmps64
  go_wp2_with fail
  go_loopw [17] (fun j wr => ∃ (k : Nat) (mk : Ms) (sk : Nat), k ≤ K ∧ j = .int .i64 k ∧ Hid (mk.n = (sk : Int) ∧ sk = so + tsN (l.take k) ∧ place i so l = k + place i sk (l.drop k)) ∧ At wr w.heap.size mk ∧ At wr (w.heap.size + 1) ⟨0, 0, 0, 0, 0⟩ ∧ Below w.heap.size w wr) (fun j _ => K - (intOf j).toNat)
  case atStart =>
    refine ⟨0, m, so, Nat.zero_le _, rfl, Lib.hid ⟨HM.out, by simp [tsN], by simp⟩, (Below.heap_alloc _ _ _ (by simp)).trans (heap_alloc_new _ _), ?_, ((Below.refl _ _).alloc (Nat.le_refl _) _).alloc (by simp) _⟩
    have := heap_alloc_new (w.alloc (.cells #[.int .i64 m.n, .int .i64 m.s, .int .i64 m.lo, .int .i64 m.hi, .int .i64 m.h] 77)) (.cells #[.int .i64 0, .int .i64 0, .int .i64 0, .int .i64 0, .int .i64 0] 77)
    rwa [World.size_alloc] at this
  case round =>
    obtain ⟨k, mk, sk, hk, rfl, HK, x0, x1, hb⟩ := hrel
    obtain ⟨⟨o0, o1, o2, o3, o4⟩, d1, d2⟩ := x0.cells
    have X0 := Lib.hid x0
    have X1 := Lib.hid x1
    clear x0
    by_cases hlt : k < K
    · have g := (hb.cell (p := ⟨b, off + k, none⟩) hbl).trans (HC.out k (by omega))
      obtain ⟨b', m', hq, hn', hlt', r0, r1, r2, r3, r4⟩ := (HI.out.get k (by have := HLEN.out; omega)).cells
      rw [hq] at g
      have e1 := tsN_take_snoc l k (by have := HLEN.out; omega)
      have e2 := tsN_take_le l (k + 1)
      have HNX := Lib.hid (join_n mk m' _ _ HK.out.1 hn' (by have := HSZ.out; have := HK.out.2.1; omega))
      have hst := place_step i sk l k (by have := HLEN.out; omega)
      have HST : Hid (place i so l = if i < sk + (l[k]?.getD (.leaf 0)).size then k else (k + 1) + place i (sk + (l[k]?.getD (.leaf 0)).size) (l.drop (k + 1))) := Lib.hid (by
        rw [HK.out.2.2, hst]
        split <;> omega)
      have HSK : Hid (sk + (l[k]?.getD (.leaf 0)).size = so + tsN (l.take (k + 1))) := Lib.hid (by have := HK.out.2.1; omega)
      have H1 := Lib.hid (i64_n hn' (by have := HSZ.out; omega))
      obtain ⟨sz, hsz⟩ : ∃ sz, (l[k]?.getD (.leaf 0)).size = sz := ⟨_, rfl⟩
      rw [hsz] at HNX HST HSK
      replace r0 := (hb.cell (p := ⟨b', 0, none⟩) hlt').trans r0
      replace r1 := (hb.cell (p := ⟨b', 1, none⟩) hlt').trans r1
      replace r2 := (hb.cell (p := ⟨b', 2, none⟩) hlt').trans r2
      replace r3 := (hb.cell (p := ⟨b', 3, none⟩) hlt').trans r3
      replace r4 := (hb.cell (p := ⟨b', 4, none⟩) hlt').trans r4
      have hltw : b' < wr.heap.size := Nat.lt_of_lt_of_le hlt' hb.size
      have hnew : ¬ wr.heap.size = b' := by omega
      have hlti : (k : Int) < (K : Int) := by omega
      obtain ⟨mj, hmj⟩ : ∃ mj, join mk m' = mj := ⟨_, rfl⟩
      rw [hmj] at HNX
      have JC : Hid (∀ W, Calls Try.prog 62 #[mk.val, m'.val] W fun e w' => e = .returned mj.val ∧ Below W.heap.size W w') := Lib.hid (fun W => by rw [← hmj]; exact join_any mk m' W H1.out)
      clear hq hn' hlt' e1 e2 hst hsz hmj
      go_upto_region 4 with fail
      go_cut [8, 10] (fun s8 t wx => ∃ (C : Nat), s8 = .int .i64 k ∧ t = .pointer (some ⟨C, 0, none⟩) ∧ w.heap.size + 2 ≤ C ∧ At wx C mj ∧ At wx w.heap.size mk ∧ At wx (w.heap.size + 1) ⟨0, 0, 0, 0, 0⟩ ∧ Below w.heap.size w wx)
      case first =>
        have hws := (X1.out.cells).2.2
        clear X1
        have X1 := Lib.hid x1
        go_region_law (first
          | (go_simp; go_at_call 62; refine (JC.out _).mono ?_; rintro e w1 ⟨rfl, hb1⟩; (first | (have z3 : At w1 wr.heap.size ⟨0, 0, 0, 0, 0⟩ := blk_below (heap_alloc_new _ _) hb1; obtain ⟨⟨y0, y1, y2, y3, y4⟩, y5, y6⟩ := z3.cells; have Z3 := Lib.hid z3; clear z3) | (have z3 : At w1 wr.heap.size ⟨0, 0, 0, 0, 0⟩ := blk_below (heap_alloc_new _ _) (below_of_drew hb1); obtain ⟨⟨y0, y1, y2, y3, y4⟩, y5, y6⟩ := z3.cells; have Z3 := Lib.hid z3; clear z3) | skip); replace hb1 : Below wr.heap.size wr w1 := (by first | exact hb1 | exact below_of_drew hb1 | exact below_of_drewN hb1 | exact below_of_alloc hb1 | exact below_of_alloc (below_of_drew hb1)); have z1 : At w1 w.heap.size mk := blk_below (by exact X0.out) hb1; have z2 : At w1 (w.heap.size + 1) ⟨0, 0, 0, 0, 0⟩ := blk_below (by exact X1.out) hb1; obtain ⟨⟨q0, q1, q2, q3, q4⟩, q5, q6⟩ := z1.cells; have Z1 := Lib.hid z1; have Z2 := Lib.hid z2; clear z1 z2))
        all_goals (go_wp2_with fail; go_meet)
        all_goals
          have hn0 : ¬ w.heap.size = wr.heap.size := by omega
          have hn1 : ¬ w.heap.size + 1 = wr.heap.size := by omega
          have hbb := below_then hb hb1
        all_goals first
          | exact ⟨wr.heap.size, rfl, rfl, by omega, blk_set (blk_set (blk_set (blk_set (blk_set (Z3.out))))), blk_far (blk_far (blk_far (blk_far (blk_far (Z1.out) hn0) hn0) hn0) hn0) hn0, blk_far (blk_far (blk_far (blk_far (blk_far (Z2.out) hn1) hn1) hn1) hn1) hn1, (((((hbb).setCell (p := ⟨wr.heap.size, 0, none⟩) hb.size _).setCell (p := ⟨wr.heap.size, 1, none⟩) hb.size _).setCell (p := ⟨wr.heap.size, 2, none⟩) hb.size _).setCell (p := ⟨wr.heap.size, 3, none⟩) hb.size _).setCell (p := ⟨wr.heap.size, 4, none⟩) hb.size _⟩
          | exact ⟨w1.heap.size, rfl, rfl, by have := hb1.size; omega, heap_alloc_new _ _, (Below.heap_alloc _ _ _ (Z1.out.cells).2.2).trans Z1.out, (Below.heap_alloc _ _ _ (Z2.out.cells).2.2).trans Z2.out, hbb.alloc hbb.size _⟩
          | trace_state
      case rest =>
        obtain ⟨C, rfl, rfl, hC, y0, y1, y2, yb⟩ := hcut
        have hAc : wc.cell? ⟨A, 0, none⟩ = some (.int .i64 (i : Int)) := (yb.cell (p := ⟨A, 0, none⟩) hAl).trans HA.out
        have AC := Lib.hid (ask_any mj (i : Int) A wc hAc)
        have Y0 := Lib.hid y0
        have Y1 := Lib.hid y1
        have Y2 := Lib.hid y2
        obtain ⟨⟨a0, a1, a2, a3, a4⟩, af, al⟩ := y0.cells
        clear y0 y1 y2 hAc x1
        go_wp2_with fail
        refine AC.out.mono ?_
        rintro e w4 ⟨rfl, b4⟩
        have z0 := blk_below Y0.out b4
        have z1 := blk_below Y1.out b4
        have z2 := blk_below Y2.out b4
        have zb := below_then yb b4
        have Z0 := Lib.hid z0
        have Z1 := Lib.hid z1
        have Z2 := Lib.hid z2
        obtain ⟨⟨p0, p1, p2, p3, p4⟩, pf, plt⟩ := At.cells z0
        obtain ⟨⟨q0, q1, q2, q3, q4⟩, qf, qlt⟩ := At.cells z1
        obtain ⟨⟨t0, t1, t2, t3, t4⟩, tf, tlt⟩ := At.cells z2
        clear z0 z1 z2 a0 a1 a2 a3 a4
        have hsw := zb.size
        by_cases hi : i < sk + sz
        · have hd : decide ((i : Int) < mj.n) = true := by rw [HNX.out]; simp; omega
          rw [hd]
          have HPL : Hid (place i so l = k) := Lib.hid (by rw [HST.out, if_pos hi])
          clear hd hi
          go_wp2_with fail
          go_region
          all_goals
            go_wp2_with fail
            refine bodyPost_ret (v := .tuple #[.int .i64 (k : Int), mk.val]) (by simp [results, Try.results64, go_sem, t0, t1, t2, t3, t4]) rfl ⟨mk, by rw [HPL.out], ?_⟩
            first
              | exact (((((zb).setCell (p := ⟨w.heap.size + 1, 0, none⟩) (by simp) _).setCell (p := ⟨w.heap.size + 1, 1, none⟩) (by simp) _).setCell (p := ⟨w.heap.size + 1, 2, none⟩) (by simp) _).setCell (p := ⟨w.heap.size + 1, 3, none⟩) (by simp) _).setCell (p := ⟨w.heap.size + 1, 4, none⟩) (by simp) _
              | exact ((((((zb).setCell (p := ⟨w.heap.size + 1, 0, none⟩) (by simp) _).setCell (p := ⟨w.heap.size + 1, 1, none⟩) (by simp) _).setCell (p := ⟨w.heap.size + 1, 2, none⟩) (by simp) _).setCell (p := ⟨w.heap.size + 1, 3, none⟩) (by simp) _).setCell (p := ⟨w.heap.size + 1, 4, none⟩) (by simp) _).drew
        · have hd : decide ((i : Int) < mj.n) = false := by rw [HNX.out]; simp; omega
          rw [hd]
          have HPL : Hid (place i so l = k + 1 + place i (sk + sz) (l.drop (k + 1))) := Lib.hid (by rw [HST.out, if_neg hi])
          clear hd hi
          go_wp2_with fail
          go_roundw
          case rel => exact ⟨k + 1, mj, sk + sz, by omega, by go_num, Lib.hid ⟨HNX.out, HSK.out, by rw [HPL.out]⟩, blk_set (blk_set (blk_set (blk_set (blk_set (Z1.out))))), blk_far (blk_far (blk_far (blk_far (blk_far (Z2.out) (by omega)) (by omega)) (by omega)) (by omega)) (by omega), (((((zb).setCell (p := ⟨w.heap.size, 0, none⟩) (Nat.le_refl _) _).setCell (p := ⟨w.heap.size, 1, none⟩) (Nat.le_refl _) _).setCell (p := ⟨w.heap.size, 2, none⟩) (Nat.le_refl _) _).setCell (p := ⟨w.heap.size, 3, none⟩) (Nat.le_refl _) _).setCell (p := ⟨w.heap.size, 4, none⟩) (Nat.le_refl _) _⟩
          case measure => simp [intOf]; omega
    · obtain rfl : k = K := by omega
      have HPL : Hid (place i so l = k) := Lib.hid (by rw [HK.out.2.2, place_end i sk l k (by have := HLEN.out; omega)]; rfl)
      obtain ⟨⟨t0, t1, t2, t3, t4⟩, tf, tlt⟩ := x1.cells
      have hsw := hb.size
      clear x1
      go_wp2_with fail
      go_region
      all_goals
        go_wp2_with fail
        refine bodyPost_ret (v := .tuple #[.int .i64 (k : Int), mk.val]) (by simp [results, Try.results64, go_sem, t0, t1, t2, t3, t4]) rfl ⟨mk, by rw [HPL.out], ?_⟩
        first
          | exact (((((hb).setCell (p := ⟨w.heap.size + 1, 0, none⟩) (by simp) _).setCell (p := ⟨w.heap.size + 1, 1, none⟩) (by simp) _).setCell (p := ⟨w.heap.size + 1, 2, none⟩) (by simp) _).setCell (p := ⟨w.heap.size + 1, 3, none⟩) (by simp) _).setCell (p := ⟨w.heap.size + 1, 4, none⟩) (by simp) _
          | exact ((((((hb).setCell (p := ⟨w.heap.size + 1, 0, none⟩) (by simp) _).setCell (p := ⟨w.heap.size + 1, 1, none⟩) (by simp) _).setCell (p := ⟨w.heap.size + 1, 2, none⟩) (by simp) _).setCell (p := ⟨w.heap.size + 1, 3, none⟩) (by simp) _).setCell (p := ⟨w.heap.size + 1, 4, none⟩) (by simp) _).drew
end FG
end Go.Proofs.Ytpkfakndlbngbaa
