/-
  Finger trees: the last thing, and the others. Conditions: at most 2^44 numbers.
-/
import Derived.Test.YtpkfakndlbngbaaFinPopL
namespace Go.Proofs.Ytpkfakndlbngbaa
open Go.RowKit Go.Deep
open Go.Proofs.Ytpkfakndlbngbaa.MN
set_option linter.unusedVariables false
namespace FG

open Lv
/-- What popRight is to do at a level. -/
def PopsRAt (v : Lv) (o : Th × Lv) : Prop := ∀ (q : Option Addr) (d : Nat) (w : World), InV w q v → v ≠ .nil → v.Ok d → v.size ≤ 17592186044416 →
    Calls Try.prog 71 #[.pointer q] w fun e w' => ∃ p r, e = .returned (.tuple #[.pointer p, .pointer r]) ∧ InT w' p o.1 ∧ InV w' r o.2 ∧ Below w.heap.size w w'
set_option maxHeartbeats 2000000 in
theorem deepR_any (m : Lv) (o : Th × Lv) (ih : PopsRAt m o) (a : Option Addr) (n c : Nat) (l : List Th) (q : Option Addr) (a' : Option Addr) (n' c' : Nat) (r : List Th) (d : Nat) (w : World)
    (h1 : Dg w a n c l) (h2 : InV w q m) (h3 : Dg w a' n' c' r) (o1 : All d r) (o2 : m.Ok (d + 1)) (o3 : Dig d l) (o4 : PopsR m o (d + 1)) (hs : (Lv.deep l m r).size ≤ 17592186044416) :
    Calls Try.prog 66 #[.slice a n c, .pointer q, .slice a' n' c'] w fun e w' => ∃ p, e = .returned (.pointer p) ∧ InV w' p (deepR' o l m r) ∧ Below w.heap.size w w' := by
  have H1 := Lib.hid h1
  have H2 := Lib.hid h2
  have H3 := Lib.hid h3
  have HS := Lib.hid hs
  have hn := h3.len
  cases r with
  | cons t r =>
    have hpos : (0 : Int) < (n' : Int) := by simp at hn; omega
    clear h1 h2 h3 hn hs ih o1 o2 o3 o4
    go_enter Try.func66, Try.ntmps66
    go_wp2_with fail
    refine (deep_any a n c l q m a' n' c' (t :: r) _ H1.out H2.out H3.out HS.out).mono ?_
    rintro e w1 ⟨p, rfl, hp, hb⟩
    go_wp2_with fail
    go_ret
    exact ⟨p, rfl, hp, hb⟩
  | nil =>
    obtain rfl : 0 = n' := hn
    by_cases hm : m = .nil
    · subst hm
      obtain rfl : q = none := h2
      have HD := Lib.hid o3.2.2
      clear h1 h3 hs ih o1 o2 o3 o4
      go_enter Try.func66, Try.ntmps66
      go_wp2_with fail
      refine (some_any a n c l d _ H1.out HD.out (by have := HS.out; simp only [Lv.size, tsN] at this; omega)).mono ?_
      rintro e w1 ⟨p, rfl, hp, hb⟩
      go_wp2_with fail
      go_ret
      exact ⟨p, rfl, hp, hb⟩
    · have e2 : deepR' o l m [] = .deep l o.2 o.1.kids := by
        cases m with
        | nil => exact absurd rfl hm
        | one t => rfl
        | deep _ _ _ => rfl
      rw [e2]
      obtain ⟨b, mm, rfl, _, hlt, _⟩ := h2.cells hm
      obtain ⟨p1, p2, p3⟩ := o4 hm
      have e3 := congrArg List.length p3
      simp only [Lv.len, Th.len, List.length_append] at e3
      have HC := Lib.hid (ih _ (d + 1) w h2 hm o2 (by simp only [Lv.size] at hs; omega))
      obtain ⟨x, y⟩ := o
      obtain ⟨u1, u2, u3, rfl, _⟩ := p1.open
      simp only at p2 e3 HC
      have HSZ : Hid ((Lv.deep l y [u1, u2, u3]).size ≤ 17592186044416) := Lib.hid (by simp only [Lv.size, tsN, Th.size] at *; omega)
      clear h1 h2 h3 hs ih o1 o2 o3 o4 e2 e3 hm p1 p2 p3
      go_enter Try.func66, Try.ntmps66
      go_wp2_with fail
      refine HC.out.mono ?_
      rintro e w1 ⟨p, s, rfl, hp, hs, hb⟩
      obtain ⟨b1, a1, ca, rfl, hlt1, g6, hd⟩ := hp.kids
      have HKD := Lib.hid hd
      have HSS := Lib.hid hs
      clear hd hs hp
      go_wp2_with fail
      refine (deep_any a n c l s y a1 3 ca [u1, u2, u3] _ (H1.out.below hb) HSS.out HKD.out HSZ.out).mono ?_
      rintro e w2 ⟨p2, rfl, hp2, hb2⟩
      go_wp2_with fail
      go_ret
      exact ⟨p2, rfl, hp2, below_then hb hb2⟩
theorem last_at (r : List Th) (K : Nat) (h : r.length = K + 1) : r.getLastD (.leaf 0) = r[K]?.getD (.leaf 0) := by
  rw [List.getLastD_eq_getLast?, List.getLast?_eq_getElem?, h]
  rfl
set_option maxHeartbeats 2000000 in
set_option maxRecDepth 100000 in
theorem popR_any (v : Lv) : PopsRAt v (popR v) := by
  unfold PopsRAt
  induction v with
  | nil => intro q d w _ h; exact absurd rfl h
  | one s =>
    intro q d w hv _ ok hs
    obtain ⟨b, mm, x, a, c, rfl, hn, hh, hp, hx⟩ := hv
    obtain ⟨c1, _, c3⟩ := blk hh
    obtain ⟨b5, off5, rfl, hb5, hcl⟩ := hp.cell (by omega)
    have ka : w.cell? ⟨b5, off5, none⟩ = some (.pointer x) := hcl 0 (by omega)
    have k5 : w.cell? ⟨b, 5, none⟩ = some (.slice (some ⟨b5, off5, none⟩) 1 c) := c1 5
    have k6 : w.cell? ⟨b, 6, none⟩ = some (.slice none 0 0) := c1 6
    have hq : ∀ W : World, (binOp .eql 90 (.slice none 0 0) (.slice none 0 0)).run Try.prog W = .ok (.bool true) W := fun W => eql_things_nil none 0 0 W
    have HX := Lib.hid hx
    clear hh c1 hp hcl hx hn
    go_enter Try.func71, Try.ntmps71
    go_wp2_with fail
    go_ret2
    exact ⟨x, none, rfl, HX.out, rfl, Below.refl _ _⟩
  | deep l m r ih =>
    intro q d w hv _ ok hs
    obtain ⟨⟨o1, o2, o3⟩, o4, ⟨o5, o6, o7⟩⟩ := ok
    obtain ⟨b, mm, a, a', x, n, c, n', c', rfl, hn, hh, hl, hr, hm⟩ := hv
    have ln := hl.len
    have rn := hr.len
    obtain ⟨c1, _, c3⟩ := blk hh
    obtain ⟨b6, off6, rfl⟩ : ∃ b6 off6, a' = some ⟨b6, off6, none⟩ := by
      obtain ⟨psr, hpr, hir⟩ := hr
      obtain ⟨b6, off6, e, _⟩ := hpr.cell (by omega)
      exact ⟨b6, off6, e⟩
    obtain ⟨b5, off5, rfl⟩ : ∃ b5 off5, a = some ⟨b5, off5, none⟩ := by
      obtain ⟨psr, hpr, hir⟩ := hl
      obtain ⟨b6, off6, e, _⟩ := hpr.cell (by omega)
      exact ⟨b6, off6, e⟩
    obtain ⟨K, rfl⟩ : ∃ K, n' = K + 1 := ⟨n' - 1, by omega⟩
    obtain ⟨q1, hb6, ka, hq1⟩ : ∃ q1, b6 < w.heap.size ∧ w.cell? ⟨b6, off6 + K, none⟩ = some (.pointer q1) ∧ InT w q1 (r[K]?.getD (.leaf 0)) := by
      obtain ⟨pl, hpl, hil⟩ := hr
      obtain ⟨ba, oa, e, hb, hcl⟩ := hpl.cell (by omega)
      obtain ⟨rfl, rfl⟩ : b6 = ba ∧ off6 = oa := by simpa using e
      exact ⟨_, hb, hcl K (by omega), hil.get K (by omega)⟩
    have hcap : K + 1 ≤ c' := by obtain ⟨pl, hpl, _⟩ := hr; exact hpl.hcap
    have hq : ∀ W : World, (binOp .eql 90 (.slice (some ⟨b6, off6, none⟩) (K + 1) c') (.slice none 0 0)).run Try.prog W = .ok (.bool false) W := fun W => eql_things_nil (some ⟨b6, off6, none⟩) (K + 1) c' W
    have k5 : w.cell? ⟨b, 5, none⟩ = some (.slice (some ⟨b5, off5, none⟩) n c) := c1 5
    have k6 : w.cell? ⟨b, 6, none⟩ = some (.slice (some ⟨b6, off6, none⟩) (K + 1) c') := c1 6
    have k7 : w.cell? ⟨b, 7, none⟩ = some (.pointer x) := c1 7
    have hsl : ∀ W : World, (Instr.slice 90 (.slice (some ⟨b6, off6, none⟩) (K + 1) c') none (some (.int .i64 (K : Int))) none).run Try.prog W = .ok (.slice (some ⟨b6, off6, none⟩) K c') W := fun W => Try.things_to (some ⟨b6, off6, none⟩) (K + 1) c' K (by omega) W
    have HK := Lib.hid (hr.front (k := K) (by omega))
    have HL := Lib.hid hl
    have HM := Lib.hid hm
    have IH : Hid (PopsRAt m (popR m)) := Lib.hid ih
    have HO1 := Lib.hid (o7.take K)
    have HO2 := Lib.hid o4
    have HO3 : Hid (Dig d l) := Lib.hid ⟨o1, o2, o3⟩
    have HO4 := Lib.hid (popR_ok m (d + 1) o4)
    have HQ1 := Lib.hid hq1
    have hle := tsN_take_le r K
    have HS2 : Hid ((Lv.deep l m (r.take K)).size ≤ 17592186044416) := Lib.hid (by simp only [Lv.size] at *; omega)
    have hk4 : K ≤ 3 := by omega
    have ed : r.dropLast = r.take K := by rw [List.dropLast_eq_take, rn]; rfl
    show Calls Try.prog 71 #[.pointer (some ⟨b, 0, none⟩)] w fun e w' => ∃ p s, e = .returned (.tuple #[.pointer p, .pointer s]) ∧ InT w' p (r.getLastD (.leaf 0)) ∧ InV w' s (deepR' (popR m) l m r.dropLast) ∧ Below w.heap.size w w'
    rw [ed, last_at r K rn]
    have hki : (K : Int) < (K : Int) + 1 := by omega
    have hk0 : (0 : Int) ≤ (K : Int) := by omega
    clear ih o1 o2 o3 o4 o5 o6 o7 ln rn hl hr hm hh c1 hn hs hq1 ed hle
    go_enter Try.func71, Try.ntmps71
    go_wp2_with fail
    go_region_held3 (fun w' => w'.cell? ⟨b, 5, none⟩ = some (.slice (some ⟨b5, off5, none⟩) n c) ∧ w'.cell? ⟨b, 6, none⟩ = some (.slice (some ⟨b6, off6, none⟩) (K + 1) c') ∧ w'.cell? ⟨b, 7, none⟩ = some (.pointer x) ∧ w'.cell? ⟨b6, off6 + K, none⟩ = some (.pointer q1)) (go_keep) (first
      | (go_at_call 66; refine (deepR_any m (popR m) IH.out (some ⟨b5, off5, none⟩) n c l x (some ⟨b6, off6, none⟩) K c' (r.take K) d _ (by first | exact HL.out | exact HL.out.below (Below.refl _ _).drew | exact HL.out.below (below_drewN (Below.refl _ _) _)) (by first | exact HM.out | exact HM.out.below (Below.refl _ _).drew | exact HM.out.below (below_drewN (Below.refl _ _) _)) (by first | exact HK.out | exact HK.out.below (Below.refl _ _).drew | exact HK.out.below (below_drewN (Below.refl _ _) _)) HO1.out HO2.out HO3.out HO4.out HS2.out).mono ?_; rintro e w1 ⟨p1, rfl, hv1, hb1⟩; have bw1 : Below w.heap.size w w1 := (by first | exact hb1 | exact below_of_drew hb1 | exact below_of_drewN hb1 | exact below_of_alloc hb1 | exact below_of_alloc (below_of_drew hb1) | exact below_of_alloc (below_of_drewN hb1)); have za_0 := (bw1.cell (p := ⟨b, 5, none⟩) c3).trans k5; have za_1 := (bw1.cell (p := ⟨b, 6, none⟩) c3).trans k6; have za_2 := (bw1.cell (p := ⟨b, 7, none⟩) c3).trans k7; have za_3 := (bw1.cell (p := ⟨b6, off6 + K, none⟩) hb6).trans ka))
    all_goals
      go_wp2_with fail
      go_ret2
      exact ⟨q1, p1, rfl, HQ1.out.below bw1, hv1, bw1⟩
end FG
end Go.Proofs.Ytpkfakndlbngbaa
