/-
  Wbt: any two are linked. Conditions: sizes below 2^60.
-/
import Derived.Test.YtchglmgbnmdffaaWbtEven
namespace Go.Proofs.Ytchglmgbnmdffaa.WBT
open Go.RowKit Go.Deep
open Go.Proofs.Ytchglmgbnmdffaa Go.Proofs.Ytchglmgbnmdffaa.ST
theorem link_lt {c : Bool} {x y : Int} {l a b : ST} (h : 3 * wt l < wt (ST.node c y a b)) : link l x (.node c y a b) = even (link l x a) y b := by
  rw [link.eq_def, if_pos h]
theorem link_gt {c : Bool} {x y : Int} {r a b : ST} (h : ¬ 3 * wt (ST.node c y a b) < wt r) (h2 : 3 * wt r < wt (ST.node c y a b)) : link (.node c y a b) x r = even a y (link b x r) := by
  rw [link.eq_def, if_neg h, if_pos h2]
theorem link_mk {l r : ST} {x : Int} (h : ¬ 3 * wt l < wt r) (h2 : ¬ 3 * wt r < wt l) : link l x r = mk l x r := by
  rw [link.eq_def, if_neg h, if_neg h2]

set_option linter.unusedVariables false
set_option maxRecDepth 100000 in
set_option maxHeartbeats 1600000 in
theorem link_n (x : Int) : ∀ (n : Nat) (tl tr : ST), tl.size + tr.size ≤ n → n ≤ 1152921504606846975 → ∀ (pl pr : Option Addr) (w : World), In w pl tl → In w pr tr →
    Calls Try.prog 50 #[.pointer pl, .int .i64 x, .pointer pr] w fun e w' => ∃ q, e = .returned (.pointer q) ∧ In w' q (link tl x tr) ∧ Below w.heap.size w w' := by
  intro n
  induction n with
  | zero =>
    intro tl tr hn hN pl pr w hl hr
    have h1 : ¬ 3 * wt tl < wt tr := by simp only [wt]; omega
    have h2 : ¬ 3 * wt tr < wt tl := by simp only [wt]; omega
    have H1 := heavy_b tr tl false pr pl w hr hl (by omega) (by simp; omega)
    have H2 := heavy_b tl tr false pl pr w hl hr (by omega) (by simp; omega)
    have T := made_any tl tr x pl pr w hl hr (by omega)
    rw [link_mk h1 h2]
    have HH := Lib.hid H1
    have HH2 := Lib.hid H2
    have TH := Lib.hid T
    clear H1 H2 T h1 h2
    go_enter Try.func50, Try.ntmps50
    go_wp2_with fail
    refine (HH.out).mono ?_
    rintro e w' ⟨rfl, rfl⟩
    go_wp2_with fail
    refine (HH2.out).mono ?_
    rintro e w' ⟨rfl, rfl⟩
    go_wp2_with fail
    refine (TH.out).mono ?_
    rintro e w1 ⟨p1, rfl, hi1, bw1⟩
    go_wp2_with fail
    go_ret
    exact ⟨_, rfl, hi1, bw1⟩
  | succ n ih =>
    intro tl tr hn hN pl pr w hl hr
    by_cases h1 : 3 * wt tl < wt tr
    · have H1 := heavy_b tr tl true pr pl w hr hl (by omega) (by simp [h1])
      cases tr with
      | nil => have := wt_pos tl; rw [wt_nil] at h1; omega
      | node c y ta tb =>
        rw [link_lt h1]
        simp only [size] at hn
        have hz := link_size tl x ta
        have hr' := hr
        obtain ⟨b, qa, qb, rfl, klt, k0, k1, k2, k3, ha, hb⟩ := hr'.open
        have HH := Lib.hid H1
        clear H1 h1
        go_enter Try.func50, Try.ntmps50
        go_wp2_with fail
        refine (HH.out).mono ?_
        rintro e w' ⟨rfl, rfl⟩
        go_wp2_with fail
        go_region_held3 (fun w' => w'.cell? ⟨b, 2, none⟩ = some (.pointer qa) ∧ w'.cell? ⟨b, 0, none⟩ = some (.int .i64 y) ∧ w'.cell? ⟨b, 3, none⟩ = some (.pointer qb)) (go_keep) (first
          | (have _t := bw1; go_at_call 67; refine (even_any (link tl x ta) tb y p1 qb _ (by first | exact hi1 | exact hi1.drew) (by first | exact hb.below bw1 | exact (hb.below bw1).drew) (by omega)).mono ?_; rintro e w2 ⟨p2, rfl, hi2, hb2⟩; have bw2 := below_then bw1 hb2; have s2_0 := (bw2.cell (p := ⟨b, 2, none⟩) klt).trans k2; have s2_1 := (bw2.cell (p := ⟨b, 0, none⟩) klt).trans k0; have s2_2 := (bw2.cell (p := ⟨b, 3, none⟩) klt).trans k3)
          | (go_at_call 50; refine (ih tl ta (by omega) (by omega) pl qa _ (by first | exact hl | exact hl.drew | exact hl.drewN _ | exact (hl.drewN _).drew | exact (hl.drewN _).drewN _ | exact ((hl.drewN _).drewN _).drew) (by first | exact ha | exact ha.drew | exact ha.drewN _ | exact (ha.drewN _).drew | exact (ha.drewN _).drewN _ | exact ((ha.drewN _).drewN _).drew)).mono ?_; rintro e w1 ⟨p1, rfl, hi1, hb1⟩; have bw1 : Below w.heap.size w w1 := (by first | exact hb1 | exact below_of_drewN hb1 | exact below_of_drew hb1 | exact below_of_drewN (below_of_drew hb1) | exact below_of_drewN (below_of_drewN hb1) | exact below_of_drewN (below_of_drewN (below_of_drew hb1))); have s1_0 := (bw1.cell (p := ⟨b, 2, none⟩) klt).trans k2; have s1_1 := (bw1.cell (p := ⟨b, 0, none⟩) klt).trans k0; have s1_2 := (bw1.cell (p := ⟨b, 3, none⟩) klt).trans k3))
        go_wp2_with fail
        go_ret
        exact ⟨_, rfl, hi2, bw2⟩
    · by_cases h2 : 3 * wt tr < wt tl
      · have H1 := heavy_b tr tl false pr pl w hr hl (by omega) (by simp; omega)
        have H2 := heavy_b tl tr true pl pr w hl hr (by omega) (by simp [h2])
        cases tl with
        | nil => have := wt_pos tr; rw [wt_nil] at h2; omega
        | node c y ta tb =>
          rw [link_gt h1 h2]
          simp only [size] at hn
          have hz := link_size tb x tr
          have hl' := hl
          obtain ⟨b, qa, qb, rfl, klt, k0, k1, k2, k3, ha, hb⟩ := hl'.open
          have HH := Lib.hid H1
          have HH2 := Lib.hid H2
          clear H1 H2 h1 h2
          go_enter Try.func50, Try.ntmps50
          go_wp2_with fail
          refine (HH.out).mono ?_
          rintro e w' ⟨rfl, rfl⟩
          go_wp2_with fail
          refine (HH2.out).mono ?_
          rintro e w' ⟨rfl, rfl⟩
          go_wp2_with fail
          go_region_held3 (fun w' => w'.cell? ⟨b, 2, none⟩ = some (.pointer qa) ∧ w'.cell? ⟨b, 0, none⟩ = some (.int .i64 y) ∧ w'.cell? ⟨b, 3, none⟩ = some (.pointer qb)) (go_keep) (first
            | (have _t := bw1; go_at_call 67; refine (even_any ta (link tb x tr) y qa p1 _ (by first | exact ha.below bw1 | exact (ha.below bw1).drew) (by first | exact hi1 | exact hi1.drew) (by omega)).mono ?_; rintro e w2 ⟨p2, rfl, hi2, hb2⟩; have bw2 := below_then bw1 hb2; have s2_0 := (bw2.cell (p := ⟨b, 2, none⟩) klt).trans k2; have s2_1 := (bw2.cell (p := ⟨b, 0, none⟩) klt).trans k0; have s2_2 := (bw2.cell (p := ⟨b, 3, none⟩) klt).trans k3)
            | (go_at_call 50; refine (ih tb tr (by omega) (by omega) qb pr _ (by first | exact hb | exact hb.drew | exact hb.drewN _ | exact (hb.drewN _).drew | exact (hb.drewN _).drewN _ | exact ((hb.drewN _).drewN _).drew) (by first | exact hr | exact hr.drew | exact hr.drewN _ | exact (hr.drewN _).drew | exact (hr.drewN _).drewN _ | exact ((hr.drewN _).drewN _).drew)).mono ?_; rintro e w1 ⟨p1, rfl, hi1, hb1⟩; have bw1 : Below w.heap.size w w1 := (by first | exact hb1 | exact below_of_drewN hb1 | exact below_of_drew hb1 | exact below_of_drewN (below_of_drew hb1) | exact below_of_drewN (below_of_drewN hb1) | exact below_of_drewN (below_of_drewN (below_of_drew hb1))); have s1_0 := (bw1.cell (p := ⟨b, 2, none⟩) klt).trans k2; have s1_1 := (bw1.cell (p := ⟨b, 0, none⟩) klt).trans k0; have s1_2 := (bw1.cell (p := ⟨b, 3, none⟩) klt).trans k3))
          go_wp2_with fail
          go_ret
          exact ⟨_, rfl, hi2, bw2⟩
      · skip
        have H1 := heavy_b tr tl false pr pl w hr hl (by omega) (by simp; omega)
        have H2 := heavy_b tl tr false pl pr w hl hr (by omega) (by simp; omega)
        have T := made_any tl tr x pl pr w hl hr (by omega)
        rw [link_mk h1 h2]
        have HH := Lib.hid H1
        have HH2 := Lib.hid H2
        have TH := Lib.hid T
        clear H1 H2 T h1 h2
        go_enter Try.func50, Try.ntmps50
        go_wp2_with fail
        refine (HH.out).mono ?_
        rintro e w' ⟨rfl, rfl⟩
        go_wp2_with fail
        refine (HH2.out).mono ?_
        rintro e w' ⟨rfl, rfl⟩
        go_wp2_with fail
        refine (TH.out).mono ?_
        rintro e w1 ⟨p1, rfl, hi1, bw1⟩
        go_wp2_with fail
        go_ret
        exact ⟨_, rfl, hi1, bw1⟩

theorem link_any (tl tr : ST) (x : Int) (pl pr : Option Addr) (w : World) (hl : In w pl tl) (hr : In w pr tr) (hs : tl.size + tr.size ≤ 1152921504606846975) :
    Calls Try.prog 50 #[.pointer pl, .int .i64 x, .pointer pr] w fun e w' => ∃ q, e = .returned (.pointer q) ∧ In w' q (link tl x tr) ∧ Below w.heap.size w w' := link_n x _ tl tr (Nat.le_refl _) hs pl pr w hl hr
end Go.Proofs.Ytchglmgbnmdffaa.WBT
