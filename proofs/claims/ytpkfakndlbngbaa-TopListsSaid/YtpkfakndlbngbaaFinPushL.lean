/-
  Finger trees: a thing ahead. Conditions: at most 2^44 numbers.
-/
import Derived.Test.YtpkfakndlbngbaaFinMake
import Derived.Test.YtpkfakndlbngbaaMQu
import Derived.Laws.Cover3
namespace Go.Proofs.Ytpkfakndlbngbaa
open Go.RowKit Go.Deep
open Go.Proofs.Ytpkfakndlbngbaa.MN
set_option linter.unusedVariables false
namespace FG

theorem eql_things_nil (a : Option Addr) (l c : Nat) (w : World) : (binOp .eql 90 (.slice a l c) (.slice none 0 0)).run Try.prog w = .ok (.bool a.isNone) w := by
  simp only [binOp]
  simp [run_equal_slice_nil w 90 84 a l c Try.underlying90]
theorem below_of_alloc {w w1 : World} {o : Obj} (h : Below (w.alloc o).heap.size (w.alloc o) w1) : Below w.heap.size w w1 := ((Below.refl _ _).alloc (Nat.le_refl _) _).trans (h.mono (by simp))
theorem cutAt_some (b off c k : Nat) (h : k < c) : cutAt (some ⟨b, off, none⟩) c k = some ⟨b, off + k, none⟩ := by
  unfold cutAt
  rw [if_neg (by omega)]
  simp only [Option.map_some, Option.some.injEq]
  unfold Addr.add
  split <;> simp_all
set_option maxHeartbeats 4000000 in
set_option maxRecDepth 100000 in
theorem pushL_any (v : Lv) : ∀ (t : Th) (p q : Option Addr) (d : Nat) (w : World), InT w p t → InV w q v → v.Ok d → t.size + v.size ≤ 17592186044416 →
    Calls Try.prog 52 #[.pointer p, .pointer q] w fun e w' => ∃ r, e = .returned (.pointer r) ∧ InV w' r (Lv.pushL t v) ∧ Below w.heap.size w w' := by
  obtain ⟨i0, hi0, hz0, hz1, hz2⟩ := info_parts Try.infoThing
  induction v with
  | nil =>
    intro t p q d w ht hv ok hs
    obtain rfl : q = none := hv
    have HT := Lib.hid ht
    clear ht
    go_enter Try.func52, Try.ntmps52
    go_wp2_with fail
    refine (alone_any p t _ HT.out).mono ?_
    rintro e w1 ⟨r, rfl, hr, hb⟩
    go_wp2_with fail
    go_ret
    exact ⟨r, rfl, hr, hb⟩
  | one s =>
    intro t p q d w ht hv ok hs
    obtain ⟨b, m, x, a, c, rfl, hn, hh, hp, hx⟩ := hv
    obtain ⟨c1, _, c3⟩ := blk hh
    have k5 : w.cell? ⟨b, 5, none⟩ = some (.slice a 1 c) := c1 5
    have k6 : w.cell? ⟨b, 6, none⟩ = some (.slice none 0 0) := c1 6
    have hq : ∀ W : World, (binOp .eql 90 (.slice none 0 0) (.slice none 0 0)).run Try.prog W = .ok (.bool true) W := fun W => eql_things_nil none 0 0 W
    have HT := Lib.hid ht
    have hD : Dg w a 1 c [s] := ⟨[x], hp, hx, trivial⟩
    have HP := Lib.hid hD
    clear hh c1 hp hx ht hn hD
    go_enter Try.func52, Try.ntmps52
    go_wp2_with fail
    refine (deep_any _ 1 1 [t] none .nil a 1 c [s] _ (Dg.one HT.out) rfl (HP.out.below ((Below.refl _ _).alloc (Nat.le_refl _) _)) (by simp only [Lv.size, tsN] at *; omega)).mono ?_
    rintro e w1 ⟨r, rfl, hr, hb⟩
    go_wp2_with fail
    go_ret
    exact ⟨r, rfl, hr, ((Below.refl _ _).alloc (Nat.le_refl _) _).trans (hb.mono (by simp))⟩
  | deep l v r ih =>
    intro t p q d w ht hv ok hs
    obtain ⟨⟨o1, o2, o3⟩, o4, ⟨o5, o6, o7⟩⟩ := ok
    obtain ⟨b, m, a, a', x, n, c, n', c', rfl, hn, hh, hl, hr, hm⟩ := hv
    have ln := hl.len
    have rn := hr.len
    obtain ⟨c1, _, c3⟩ := blk hh
    obtain ⟨b6, off6, rfl⟩ : ∃ b6 off6, a' = some ⟨b6, off6, none⟩ := by
      obtain ⟨psr, hpr, hir⟩ := hr
      obtain ⟨b6, off6, e, _⟩ := hpr.cell (by omega)
      exact ⟨b6, off6, e⟩
    have hq : ∀ W : World, (binOp .eql 90 (.slice (some ⟨b6, off6, none⟩) n' c') (.slice none 0 0)).run Try.prog W = .ok (.bool false) W := fun W => eql_things_nil (some ⟨b6, off6, none⟩) n' c' W
    have k5 : w.cell? ⟨b, 5, none⟩ = some (.slice a n c) := c1 5
    have k6 : w.cell? ⟨b, 6, none⟩ = some (.slice (some ⟨b6, off6, none⟩) n' c') := c1 6
    have k7 : w.cell? ⟨b, 7, none⟩ = some (.pointer x) := c1 7
    have HT := Lib.hid ht
    have HL := Lib.hid hl
    have HR := Lib.hid hr
    have HM := Lib.hid hm
    have HH := Lib.hid hh
    have HS := Lib.hid hs
    have HLN := Lib.hid ln
    have H4 := Lib.hid o4
    clear hh c1 hr ht hl hm hn hs
    by_cases hlen : l.length < 4
    · rw [Lv.pushL_few _ _ _ _ hlen]
      obtain ⟨pl, hpl, hil⟩ := HL.out
      have RD := Lib.hid hpl.reads
      have HIL := Lib.hid hil
      have o1' := Lib.hid (ptr_cells pl)
      have hcap := hpl.hmax
      have hnc := hpl.hcap
      unfold maxLen at hcap
      clear hpl hil
      have hn4 : (n : Int) < 4 := by omega
      clear ih o1 o2 o3 o4 o5 o6 o7 hlen ln rn
      go_enter Try.func52, Try.ntmps52
      go_wp2_with fail
      go_region_held3 (fun w' => w'.cell? ⟨b, 5, none⟩ = some (.slice a n c) ∧ w'.cell? ⟨b, 6, none⟩ = some (.slice (some ⟨b6, off6, none⟩) n' c') ∧ w'.cell? ⟨b, 7, none⟩ = some (.pointer x)) (go_keep) (first
        | (have _t := B4; go_at_call 54; refine (deep_any a4 (1 + n) k4 (t :: l) x v (some ⟨b6, off6, none⟩) n' c' r _ (by first | exact DG | exact DG.below (Below.refl _ _).drew | exact DG.below (below_drewN (Below.refl _ _) _)) (by first | exact (HM.out.below B4) | exact (HM.out.below B4).below ((Below.refl _ _).alloc (Nat.le_refl _) _) | exact (HM.out.below B4).below ((below_drewN (Below.refl _ _) _)) | exact (HM.out.below B4).below (Below.refl _ _).drew | exact ((HM.out.below B4).below ((Below.refl _ _).alloc (Nat.le_refl _) _)).below (below_drewN (Below.refl _ _) _) | exact ((HM.out.below B4).below ((Below.refl _ _).alloc (Nat.le_refl _) _)).below (Below.refl _ _).drew) (by first | exact (HR.out.below B4) | exact (HR.out.below B4).below ((Below.refl _ _).alloc (Nat.le_refl _) _) | exact (HR.out.below B4).below ((below_drewN (Below.refl _ _) _)) | exact (HR.out.below B4).below (Below.refl _ _).drew | exact ((HR.out.below B4).below ((Below.refl _ _).alloc (Nat.le_refl _) _)).below (below_drewN (Below.refl _ _) _) | exact ((HR.out.below B4).below ((Below.refl _ _).alloc (Nat.le_refl _) _)).below (Below.refl _ _).drew) (by have := HS.out; simp only [Lv.size, tsN] at *; omega)).mono ?_; rintro e w3 ⟨r3, rfl, hr3, hb3⟩; have B5 : Below w2.heap.size w2 w3 := (by first | exact hb3 | exact below_of_drew hb3 | exact below_of_drewN hb3); have y5 := (B5.cell (p := ⟨b, 5, none⟩) (Nat.lt_of_lt_of_le c3 B4.size)).trans z5; have y6 := (B5.cell (p := ⟨b, 6, none⟩) (Nat.lt_of_lt_of_le c3 B4.size)).trans z6; have y7 := (B5.cell (p := ⟨b, 7, none⟩) (Nat.lt_of_lt_of_le c3 B4.size)).trans z7)
        | (refine step_append_any _ rfl (.tmp 31) (.tmp 35) 90 rfl w.heap.size 84 i0 (.pointer none) 1 8 Try.underlying90 hi0 hz0 hz1 hz2 rfl (by decide) (.slice (some ⟨w.heap.size, 0, none⟩) 1 1) 1 [.pointer p] rfl (by exact World.ownsRow_lit (base := w.heap.size) (e := 84) (size := 1) w #[.pointer p] 1 (Nat.le_refl _) (by decide) rfl) w.heap.size a n c _ rfl (by first | exact RD.out.alloc (Nat.le_refl _) _ | exact (RD.out.drewN _).alloc (Nat.le_refl _) _) o1'.out (by simp only [maxLen]; omega) (by omega) (by simp) ?_; intro v2 w2 hown2 hg2 hat2; obtain ⟨a4, k4, rfl, P4⟩ := Pl.of_own (ps := p :: pl) (n := 1 + n) (by simpa using hown2); have B4 : Below w.heap.size w w2 := (by refine below_grown (xs := [.pointer p]) (n := 1) (e := 84) (size := 1) (base := w.heap.size) ?_ ?_ hg2 (Nat.le_refl _) (by simp); (first | exact (Below.refl w.heap.size w).alloc (Nat.le_refl _) _ | exact (below_drewN (Below.refl w.heap.size w) _).alloc (Nat.le_refl _) _); exact World.ownsRow_lit (base := w.heap.size) (e := 84) (size := 1) w #[.pointer p] 1 (Nat.le_refl _) (by decide) rfl); have DG : Dg w2 a4 (1 + n) k4 (t :: l) := ⟨p :: pl, P4, HT.out.below B4, HIL.out.below B4⟩; have z5 := (blk (blk_below HH.out B4)).1 5; have z6 := (blk (blk_below HH.out B4)).1 6; have z7 := (blk (blk_below HH.out B4)).1 7))
      go_wp2_with fail
      go_ret
      exact ⟨r3, rfl, hr3, below_then B4 B5⟩
    · obtain ⟨y1, y2, y3, y4, rfl⟩ := Lv.four (l := l) (by omega)
      obtain rfl : 4 = n := ln
      have hrest := HL.out.rest (k := 1) (by omega)
      have hcc : 4 ≤ c := by obtain ⟨pl, hpl, _⟩ := HL.out; exact hpl.hcap
      obtain ⟨ba, oa, q1, rfl, hba, ka, hy1⟩ : ∃ ba oa q1, a = some ⟨ba, oa, none⟩ ∧ ba < w.heap.size ∧ w.cell? ⟨ba, oa, none⟩ = some (.pointer q1) ∧ InT w q1 y1 := by
        obtain ⟨pl, hpl, hil⟩ := HL.out
        obtain ⟨ba, oa, e, hb, hcl⟩ := hpl.cell (by omega)
        exact ⟨ba, oa, _, e, hb, by simpa using hcl 0 (by omega), by simpa using hil.get 0 (by simp)⟩
      rw [cutAt_some _ _ _ _ (by omega)] at hrest
      have HK := Lib.hid hrest
      have HY1 := Lib.hid hy1
      have hsl : ∀ W : World, (Instr.slice 90 (.slice (some ⟨ba, oa, none⟩) 4 c) (some (.int .i64 1)) none none).run Try.prog W = .ok (.slice (some ⟨ba, oa + 1, none⟩) 3 (c - 1)) W := fun W => by
        have := Try.things_from (some ⟨ba, oa, none⟩) 4 c 1 (by omega) W
        rw [cutAt_some _ _ _ _ (by omega)] at this
        simpa using this
      have hs := HS.out
      simp only [Lv.size, tsN] at hs
      have HS1 : Hid ((Th.node y2 y3 y4).size ≤ 17592186044416) := Lib.hid (by simp only [Th.size]; omega)
      have HS2 : Hid ((Th.node y2 y3 y4).size + v.size ≤ 17592186044416) := Lib.hid (by simp only [Th.size]; omega)
      have hpl := (Lv.pushL_ok v (.node y2 y3 y4) (d + 1) H4.out ⟨d, rfl, o3 _ (by simp), o3 _ (by simp), o3 _ (by simp)⟩).2
      have HS3 : Hid ((Lv.deep [t, y1] (Lv.pushL (.node y2 y3 y4) v) r).size ≤ 17592186044416) := Lib.hid (by
        have e := congrArg List.length hpl
        simp only [Lv.len, Th.len, List.length_append, Th.size] at e
        simp only [Lv.size, tsN]
        omega)
      have IH := Lib.hid ih
      rw [show Lv.pushL t (.deep [y1, y2, y3, y4] v r) = .deep [t, y1] (Lv.pushL (.node y2 y3 y4) v) r from rfl]
      clear ih o1 o2 o3 o4 o5 o6 o7 hlen rn hrest hs hpl hy1 HLN
      go_enter Try.func52, Try.ntmps52
      go_wp2_with fail
      go_region_held3 (fun w' => w'.cell? ⟨b, 5, none⟩ = some (.slice (some ⟨ba, oa, none⟩) 4 c) ∧ w'.cell? ⟨b, 6, none⟩ = some (.slice (some ⟨b6, off6, none⟩) n' c') ∧ w'.cell? ⟨b, 7, none⟩ = some (.pointer x) ∧ w'.cell? ⟨ba, oa, none⟩ = some (.pointer q1)) (go_keep) (first
        | (have _t := bw2; go_at_call 54; refine (deep_any _ 2 2 [t, y1] x2 (Lv.pushL (.node y2 y3 y4) v) (some ⟨b6, off6, none⟩) n' c' r _ (by first | exact DG | exact DG.below (Below.refl _ _).drew | exact DG.below (below_drewN (Below.refl _ _) _) | exact Dg.two (HT.out.below bw12) (HY1.out.below bw12) | exact (Dg.two (HT.out.below bw12) (HY1.out.below bw12)).below (Below.refl _ _).drew | exact (Dg.two (HT.out.below bw12) (HY1.out.below bw12)).below (below_drewN (Below.refl _ _) _)) (by first | exact hv2 | exact hv2.below ((Below.refl _ _).alloc (Nat.le_refl _) _) | exact hv2.below ((below_drewN (Below.refl _ _) _)) | exact hv2.below (Below.refl _ _).drew | exact (hv2.below ((Below.refl _ _).alloc (Nat.le_refl _) _)).below (below_drewN (Below.refl _ _) _) | exact (hv2.below ((Below.refl _ _).alloc (Nat.le_refl _) _)).below (Below.refl _ _).drew) (by first | exact (HR.out.below bw12) | exact (HR.out.below bw12).below ((Below.refl _ _).alloc (Nat.le_refl _) _) | exact (HR.out.below bw12).below ((below_drewN (Below.refl _ _) _)) | exact (HR.out.below bw12).below (Below.refl _ _).drew | exact ((HR.out.below bw12).below ((Below.refl _ _).alloc (Nat.le_refl _) _)).below (below_drewN (Below.refl _ _) _) | exact ((HR.out.below bw12).below ((Below.refl _ _).alloc (Nat.le_refl _) _)).below (Below.refl _ _).drew) HS3.out).mono ?_; rintro e w3 ⟨x3, rfl, hv3, hb3⟩; have bw3 : Below w2.heap.size w2 w3 := (by first | exact hb3 | exact below_of_drew hb3 | exact below_of_drewN hb3 | exact below_of_alloc hb3 | exact below_of_alloc (below_of_drew hb3) | exact below_of_alloc (below_of_drewN hb3)); have bw123 := below_then bw12 bw3; have zc_0 := (bw123.cell (p := ⟨b, 5, none⟩) c3).trans k5; have zc_1 := (bw123.cell (p := ⟨b, 6, none⟩) c3).trans k6; have zc_2 := (bw123.cell (p := ⟨b, 7, none⟩) c3).trans k7; have zc_3 := (bw123.cell (p := ⟨ba, oa, none⟩) hba).trans ka)
        | (have _t := bw1; go_at_call 52; refine (IH.out (.node y2 y3 y4) p1 x (d + 1) _ (by first | exact hv1 | exact hv1.below ((Below.refl _ _).alloc (Nat.le_refl _) _) | exact hv1.below ((below_drewN (Below.refl _ _) _)) | exact hv1.below (Below.refl _ _).drew | exact (hv1.below ((Below.refl _ _).alloc (Nat.le_refl _) _)).below (below_drewN (Below.refl _ _) _) | exact (hv1.below ((Below.refl _ _).alloc (Nat.le_refl _) _)).below (Below.refl _ _).drew) (by first | exact (HM.out.below bw1) | exact (HM.out.below bw1).below ((Below.refl _ _).alloc (Nat.le_refl _) _) | exact (HM.out.below bw1).below ((below_drewN (Below.refl _ _) _)) | exact (HM.out.below bw1).below (Below.refl _ _).drew | exact ((HM.out.below bw1).below ((Below.refl _ _).alloc (Nat.le_refl _) _)).below (below_drewN (Below.refl _ _) _) | exact ((HM.out.below bw1).below ((Below.refl _ _).alloc (Nat.le_refl _) _)).below (Below.refl _ _).drew) H4.out HS2.out).mono ?_; rintro e w2 ⟨x2, rfl, hv2, hb2⟩; have bw2 : Below w1.heap.size w1 w2 := (by first | exact hb2 | exact below_of_drew hb2 | exact below_of_drewN hb2 | exact below_of_alloc hb2 | exact below_of_alloc (below_of_drew hb2) | exact below_of_alloc (below_of_drewN hb2)); have bw12 := below_then bw1 bw2; have zb_0 := (bw12.cell (p := ⟨b, 5, none⟩) c3).trans k5; have zb_1 := (bw12.cell (p := ⟨b, 6, none⟩) c3).trans k6; have zb_2 := (bw12.cell (p := ⟨b, 7, none⟩) c3).trans k7; have zb_3 := (bw12.cell (p := ⟨ba, oa, none⟩) hba).trans ka; (first | (replace DG := DG.below hb2) | (replace DG := DG.below (below_of_drew hb2)) | (replace DG := DG.below (below_of_drewN hb2)) | (have DG := (Dg.two (HT.out.below bw1) (HY1.out.below bw1)).below hb2) | (have DG := (Dg.two (HT.out.below bw1) (HY1.out.below bw1)).below (below_of_drew hb2)) | (have DG := (Dg.two (HT.out.below bw1) (HY1.out.below bw1)).below (below_of_drewN hb2)) | skip))
        | (go_at_call 56; refine (group_any (some ⟨ba, oa + 1, none⟩) (c - 1) y2 y3 y4 _ (by first | exact HK.out | exact HK.out.below ((Below.refl _ _).alloc (Nat.le_refl _) _) | exact HK.out.below ((below_drewN (Below.refl _ _) _)) | exact HK.out.below (Below.refl _ _).drew | exact (HK.out.below ((Below.refl _ _).alloc (Nat.le_refl _) _)).below (below_drewN (Below.refl _ _) _) | exact (HK.out.below ((Below.refl _ _).alloc (Nat.le_refl _) _)).below (Below.refl _ _).drew) HS1.out).mono ?_; rintro e w1 ⟨p1, rfl, hv1, hb1⟩; have bw1 : Below w.heap.size w w1 := (by first | exact hb1 | exact below_of_drew hb1 | exact below_of_drewN hb1 | exact below_of_alloc hb1 | exact below_of_alloc (below_of_drew hb1) | exact below_of_alloc (below_of_drewN hb1)); have za_0 := (bw1.cell (p := ⟨b, 5, none⟩) c3).trans k5; have za_1 := (bw1.cell (p := ⟨b, 6, none⟩) c3).trans k6; have za_2 := (bw1.cell (p := ⟨b, 7, none⟩) c3).trans k7; have za_3 := (bw1.cell (p := ⟨ba, oa, none⟩) hba).trans ka; (first | (have DG := (Dg.two HT.out HY1.out).below hb1) | (have DG := (Dg.two HT.out HY1.out).below (below_of_drew hb1)) | (have DG := (Dg.two HT.out HY1.out).below (below_of_drewN hb1)) | skip)))
      all_goals
        go_wp2_with fail
        go_ret
        exact ⟨x3, rfl, hv3, bw123⟩
end FG
end Go.Proofs.Ytpkfakndlbngbaa
