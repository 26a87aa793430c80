/-
  Finger trees: the beginning of so many numbers, and the others. Conditions: at most 2^44 numbers.
-/
import Derived.Test.YtpkfakndlbngbaaFinCut
import Derived.Test.YtpkfakndlbngbaaMFk
namespace Go.Proofs.Ytpkfakndlbngbaa
open Go.RowKit Go.Deep
open Go.Proofs.Ytpkfakndlbngbaa.MN
set_option linter.unusedVariables false
namespace FG

open Lv
/-- What Split tells of a level's numbers. -/
def Halves (i : Nat) (v a b : Lv) : Prop := a.Ok 0 ∧ b.Ok 0 ∧ v.toL = a.toL ++ b.toL ∧ a.size = min i v.size
theorem halves_all {i : Nat} {v : Lv} (h : v.Ok 0) (hi : v.size ≤ i) : Halves i v v .nil := ⟨h, trivial, by simp [toL], by omega⟩
theorem halves_cut {i : Nat} {v : Lv} (h : v.Ok 0) (hi : i < v.size) : (cut i 0 v).1.Ok 0 ∧ (cut i 0 v).2.1.Dp 0 ∧ (cut i 0 v).2.2.Ok 0 ∧ (cut i 0 v).2.1.size + (cut i 0 v).2.2.size ≤ v.size ∧ Halves i v (cut i 0 v).1 (pushL (cut i 0 v).2.1 (cut i 0 v).2.2) := by
  obtain ⟨h1, h2, h3, h4, h5, h6⟩ := cut_ok i v 0 0 h (Nat.zero_le _) (by omega)
  obtain ⟨p1, p2⟩ := pushL_ok (cut i 0 v).2.2 (cut i 0 v).2.1 0 h3 h2
  obtain ⟨x, hx⟩ := h2.zero
  have hs := congrArg List.length h4
  simp only [List.length_append, Lv.len, Th.len] at hs
  have h1x : (cut i 0 v).2.1.size = 1 := by rw [hx]; rfl
  exact ⟨h1, h2, h3, by omega, h1, p1, by rw [p2, h4], by omega⟩
set_option maxHeartbeats 4000000 in
set_option maxRecDepth 100000 in
theorem split_tree (i A : Nat) (v : Lv) (p : Option Addr) (w : World) (h : InV w p v) (ok : v.Ok 0) (hs : v.size ≤ 17592186044416) (hA : w.cell? ⟨A, 0, none⟩ = some (.int .i64 (i : Int))) :
    Calls Try.prog 38 #[.agg #[.pointer p], .func (.func 39) #[] #[.pointer (some ⟨A, 0, none⟩)]] w fun e w' => ∃ (pa pb : Option Addr) (a b : Lv), e = .returned (.tuple #[.agg #[.pointer pa], .agg #[.pointer pb]]) ∧ InV w' pa a ∧ InV w' pb b ∧ Halves i v a b ∧ Below w.heap.size w w' := by
  have hAl : A < w.heap.size := World.block_lt_of_cell? w ⟨A, 0, none⟩ hA
  have hca : CA w A i := ⟨hA, hAl⟩
  have HV := Lib.hid h
  have OK := Lib.hid ok
  have HS := Lib.hid hs
  have CA0 := Lib.hid hca
  clear h ok hs hA hca
  by_cases hv : v = .nil
  · have hp := HV.out
    rw [hv] at hp
    obtain rfl : p = none := hp
    have HH : Hid (Halves i v v .nil) := Lib.hid (halves_all OK.out (by rw [hv]; exact Nat.zero_le _))
    go_enter Try.func38, Try.ntmps38
    go_wp2_with fail
    refine bodyPost_ret (v := .tuple #[.agg #[.pointer none], .agg #[.pointer none]]) (by simp [results, Try.results38, go_sem]) rfl ⟨none, none, v, .nil, rfl, ?_, rfl, HH.out, ?_⟩
    · rw [hv]; rfl
    · exact (((Below.refl _ w).alloc (by simp) _).alloc (by simp; try omega) _).alloc (by simp; try omega) _
  · obtain ⟨b, mv, rfl, hmv, hb, r0, r1, r2, r3, r4⟩ := HV.out.cells hv
    go_enter Try.func38, Try.ntmps38
    go_upto_region 1 with fail
    obtain ⟨w0, hw0⟩ : ∃ w0, (((w.alloc (.cells #[.pointer (some ⟨b, 0, none⟩)] 33)).alloc (.cells #[.pointer none] 33)).alloc (.cells #[.pointer none] 33)) = w0 := ⟨_, rfl⟩
    have x0 : w0.heap[w.heap.size]? = some (.cells #[.pointer (some ⟨b, 0, none⟩)] 33 (0, 0)) := by
      rw [← hw0]
      have := heap_alloc_new w (.cells #[.pointer (some ⟨b, 0, none⟩)] 33)
      exact (Below.heap_alloc _ _ _ (by simp; try omega)).trans ((Below.heap_alloc _ _ _ (by simp; try omega)).trans (this))
    have x1 : w0.heap[w.heap.size + 1]? = some (.cells #[.pointer none] 33 (0, 0)) := by
      rw [← hw0]
      have := heap_alloc_new (w.alloc (.cells #[.pointer (some ⟨b, 0, none⟩)] 33)) (.cells #[.pointer none] 33)
      rw [World.size_alloc] at this
      exact (Below.heap_alloc _ _ _ (by simp; try omega)).trans (this)
    have x2 : w0.heap[w.heap.size + 1 + 1]? = some (.cells #[.pointer none] 33 (0, 0)) := by
      rw [← hw0]
      have := heap_alloc_new ((w.alloc (.cells #[.pointer (some ⟨b, 0, none⟩)] 33)).alloc (.cells #[.pointer none] 33)) (.cells #[.pointer none] 33)
      rw [World.size_alloc, World.size_alloc] at this
      exact this
    have b0 : Below w.heap.size w w0 := by rw [← hw0]; exact (((Below.refl _ _).alloc (by simp; try omega) _).alloc (by simp; try omega) _).alloc (by simp; try omega) _
    rw [hw0]
    have hz : w0.heap.size = w.heap.size + 3 := by rw [← hw0]; simp
    clear hw0
    have hbn0 : b < w0.heap.size := Nat.lt_of_lt_of_le hb b0.size
    replace r0 := (b0.cell (p := ⟨b, 0, none⟩) hb).trans r0
    replace r1 := (b0.cell (p := ⟨b, 1, none⟩) hb).trans r1
    replace r2 := (b0.cell (p := ⟨b, 2, none⟩) hb).trans r2
    replace r3 := (b0.cell (p := ⟨b, 3, none⟩) hb).trans r3
    replace r4 := (b0.cell (p := ⟨b, 4, none⟩) hb).trans r4
    replace HV := Lib.hid (HV.out.below b0)
    replace CA0 := Lib.hid (CA0.out.below b0)
    have HM := Lib.hid hmv
    have X0 := Lib.hid x0
    have X1 := Lib.hid x1
    have X2 := Lib.hid x2
    obtain ⟨g0, f0, l0⟩ := blk x0
    have d0 := g0 0
    clear x0 x1 x2 g0 hb hmv
    have AV := Lib.hid (ask_any mv (i : Int) A w0 CA0.out.1)
    go_wp2_with fail
    refine AV.out.mono ?_
    rintro e w1 ⟨rfl, hb1⟩
    have y0 := blk_below X0.out hb1
    have y1 := blk_below X1.out hb1
    have y2 := blk_below X2.out hb1
    have b01 := below_then b0 hb1
    clear AV r0 r1 r2 r3 r4 d0 f0 X0 X1 X2
    replace HV := Lib.hid (HV.out.below hb1)
    replace CA0 := Lib.hid (CA0.out.below hb1)
    have Y1 := Lib.hid y1
    have Y2 := Lib.hid y2
    have Y0 := Lib.hid y0
    obtain ⟨g0, f0, l0⟩ := blk y0
    have d0 := g0 0
    obtain ⟨g1, f1, l1⟩ := blk y1
    have d1 := g1 0
    obtain ⟨g2, f2, l2⟩ := blk y2
    have d2 := g2 0
    clear g0 g1 g2 y0 y1 y2
    by_cases hi : i < v.size
    · have hd : decide ((i : Int) < mv.n) = true := by rw [HM.out]; simp; omega
      rw [hd]
      obtain ⟨ca, ct, cb, chh, chalf⟩ := halves_cut OK.out hi
      have CF : Hid (∀ W, InV W (some ⟨b, 0, none⟩) v → CA W A i → Calls Try.prog 51 #[.func (.func 39) #[] #[.pointer (some ⟨A, 0, none⟩)], zero.val, .pointer (some ⟨b, 0, none⟩)] W fun e w' => ∃ p t r, e = .returned (.tuple #[.pointer p, .pointer t, .pointer r]) ∧ InV w' p (cut i 0 v).1 ∧ InT w' t (cut i 0 v).2.1 ∧ InV w' r (cut i 0 v).2.2 ∧ Below W.heap.size W w') := Lib.hid (fun W g1 g2 => cut_any i A v 0 zero _ 0 W g1 hv OK.out rfl (Nat.zero_le _) (by omega) g2.1 (by have := HS.out; omega))
      obtain ⟨cc, hcc⟩ : ∃ cc, cut i 0 v = cc := ⟨_, rfl⟩
      rw [hcc] at CF ca ct cb chh chalf
      obtain ⟨vA, vT, vB⟩ := cc
      have CP : Hid (∀ (pt pr : Option Addr) (W : World), InT W pt vT → InV W pr vB → Calls Try.prog 52 #[.pointer pt, .pointer pr] W fun e w' => ∃ r, e = .returned (.pointer r) ∧ InV w' r (pushL vT vB) ∧ Below W.heap.size W w') := Lib.hid (fun pt pr W g1 g2 => pushL_any vB vT pt pr 0 W g1 g2 cb (by have := HS.out; have : vT.size + vB.size ≤ v.size := chh; omega))
      have CH : Hid (Halves i v vA (pushL vT vB)) := Lib.hid chalf
      have AZ : Hid (∀ W, CA W A i → Calls Try.prog 39 #[zero.val, .pointer (some ⟨A, 0, none⟩)] W fun e w' => e = .returned (.bool false) ∧ Below W.heap.size W w') := Lib.hid (fun W g => by
        have := ask_any zero (i : Int) A W g.1
        rw [decide_eq_false (show ¬ (i : Int) < zero.n by show ¬ (i : Int) < 0; omega)] at this
        exact this)
      clear hd hi ca ct cb chh chalf hcc hv
      go_wp2_with fail
      refine (none_any _).mono ?_
      rintro e w2 ⟨rfl, hb2⟩
      go_wp2_with fail
      refine (AZ.out _ (CA0.out.below hb2)).mono ?_
      rintro e w3 ⟨rfl, hb3⟩
      have b13 := below_then hb2 hb3
      have b03 := below_then b01 b13
      replace HV := Lib.hid (HV.out.below b13)
      replace CA0 := Lib.hid (CA0.out.below b13)
      have y0 := blk_below Y0.out b13
      have y1 := blk_below Y1.out b13
      have y2 := blk_below Y2.out b13
      clear Y0 Y1 Y2 d0 d1 d2 f0 f1 f2 AZ HM
      have Y1 := Lib.hid y1
      have Y2 := Lib.hid y2
      obtain ⟨g0, f0, k0⟩ := blk y0
      have d0 := g0 0
      obtain ⟨g1, f1, k1⟩ := blk y1
      have d1 := g1 0
      obtain ⟨g2, f2, k2⟩ := blk y2
      have d2 := g2 0
      clear g0 g1 g2 y0 y1 y2
      go_upto_region 5 with fail
      go_cut [6, 7, 8] (fun s1 s2 s3 wx => ∃ (pa pt pr : Option Addr), s1 = .pointer pa ∧ s2 = .pointer pt ∧ s3 = .pointer pr ∧ InV wx pa vA ∧ InT wx pt vT ∧ InV wx pr vB ∧ Below w3.heap.size w3 wx)
      case first =>
        have : ¬ w3.heap.size = w.heap.size := by omega
        have : ¬ w.heap.size = w3.heap.size := by omega
        go_region_held3 (fun w' => w'.cell? ⟨w.heap.size, 0, none⟩ = some (.pointer (some ⟨b, 0, none⟩))) (go_keep) (first
          | (have _t := bw4; go_at_call 51; refine (CF.out _ (by first | exact (HV.out.below bw4) | exact (HV.out.below bw4).below (Below.refl _ _).drew | exact (HV.out.below bw4).below (below_drewN (Below.refl _ _) _) | exact (HV.out.below bw4).below ((Below.refl _ _).alloc (Nat.le_refl _) _) | exact ((HV.out.below bw4).below ((Below.refl _ _).alloc (Nat.le_refl _) _)).below (Below.refl _ _).drew | exact ((HV.out.below bw4).below ((Below.refl _ _).alloc (Nat.le_refl _) _)).below (below_drewN (Below.refl _ _) _)) (by first | exact (CA0.out.below bw4) | exact (CA0.out.below bw4).below (Below.refl _ _).drew | exact (CA0.out.below bw4).below (below_drewN (Below.refl _ _) _) | exact (CA0.out.below bw4).below ((Below.refl _ _).alloc (Nat.le_refl _) _) | exact ((CA0.out.below bw4).below ((Below.refl _ _).alloc (Nat.le_refl _) _)).below (Below.refl _ _).drew | exact ((CA0.out.below bw4).below ((Below.refl _ _).alloc (Nat.le_refl _) _)).below (below_drewN (Below.refl _ _) _))).mono ?_; rintro e w5 ⟨pa, pt, pr, rfl, G1, G2, G3, hx5⟩; have bw5 : Below w4.heap.size w4 w5 := (by first | exact hx5 | exact below_of_drew hx5 | exact below_of_drewN hx5 | exact below_of_alloc hx5 | exact below_of_alloc (below_of_drew hx5) | exact below_of_alloc (below_of_drewN hx5)); have bw35 := below_then bw4 bw5; have : ¬ w5.heap.size = w.heap.size := (by have := bw35.size; omega); have : ¬ w.heap.size = w5.heap.size := (by have := bw35.size; omega); have c1_0 := (bw35.cell (p := ⟨w.heap.size, 0, none⟩) k0).trans d0)
          | (go_at_call 50; refine (none_any _).mono ?_; rintro e w4 ⟨rfl, hx4⟩; have bw4 : Below w3.heap.size w3 w4 := (by first | exact hx4 | exact below_of_drew hx4 | exact below_of_drewN hx4 | exact below_of_alloc hx4 | exact below_of_alloc (below_of_drew hx4) | exact below_of_alloc (below_of_drewN hx4)); have : ¬ w4.heap.size = w.heap.size := (by have := bw4.size; omega); have : ¬ w.heap.size = w4.heap.size := (by have := bw4.size; omega); have c0_0 := (bw4.cell (p := ⟨w.heap.size, 0, none⟩) k0).trans d0))
        all_goals
          go_wp2_with fail
          go_meet
          exact ⟨pa, pt, pr, rfl, rfl, rfl, G1, G2, G3, bw35⟩
      obtain ⟨pa, pt, pr, rfl, rfl, rfl, G1, G2, G3, b3c⟩ := hcut
      have CPP := Lib.hid (CP.out pt pr wc G2 G3)
      have G1 := Lib.hid G1
      have z1 := blk_below Y1.out b3c
      have z2 := blk_below Y2.out b3c
      clear CF CP G2 G3 d0 f0 d1 f1 d2 f2 Y1 Y2
      go_wp2_with fail
      refine CPP.out.mono ?_
      rintro e w6 ⟨r, rfl, V6, hb6⟩
      have t1 := blk_below z1 hb6
      have t2 := blk_below z2 hb6
      have bw6 := below_then b03 (below_then b3c hb6)
      replace G1 := Lib.hid (G1.out.below hb6)
      have V6 := Lib.hid V6
      have T1 := Lib.hid t1
      have T2 := Lib.hid t2
      obtain ⟨g1, f1, m1⟩ := blk t1
      have d1 := g1 0
      obtain ⟨g2, f2, m2⟩ := blk t2
      have d2 := g2 0
      clear g1 g2 t1 t2 z1 z2 CPP
      go_wp2_with fail
      refine bodyPost_ret (v := .tuple #[.agg #[.pointer pa], .agg #[.pointer r]]) (by simp [results, Try.results38, go_sem, d1, d2]) rfl ⟨pa, r, vA, pushL vT vB, rfl, ?_, ?_, CH.out, ?_⟩
      · exact (G1.out.keep (.set T1.out (by decide))).keep (.set (blk_far T2.out (by simp)) (by decide))
      · exact (V6.out.keep (.set T1.out (by decide))).keep (.set (blk_far T2.out (by simp)) (by decide))
      · exact (bw6.setCell (p := ⟨w.heap.size + 1, 0, none⟩) (by simp) _).setCell (p := ⟨w.heap.size + 1 + 1, 0, none⟩) (by simp; try omega) _
    · have hd : decide ((i : Int) < mv.n) = false := by rw [HM.out]; simp; omega
      rw [hd]
      have HH : Hid (Halves i v v .nil) := Lib.hid (halves_all OK.out (by omega))
      clear hd hi
      go_wp2_with fail
      refine bodyPost_ret (v := .tuple #[.agg #[.pointer (some ⟨b, 0, none⟩)], .agg #[.pointer none]]) (by simp [results, Try.results38, go_sem, d1, d2]) rfl ⟨_, none, v, .nil, rfl, ?_, rfl, HH.out, ?_⟩
      · exact (HV.out.keep (.set Y1.out (by decide))).keep (.set (blk_far Y2.out (by simp)) (by decide))
      · exact (b01.setCell (p := ⟨w.heap.size + 1, 0, none⟩) (by simp) _).setCell (p := ⟨w.heap.size + 1 + 1, 0, none⟩) (by simp; try omega) _
end FG
end Go.Proofs.Ytpkfakndlbngbaa
