/-
  Finger trees: the first thing, and the others. Conditions: at most 2^44 numbers.
-/
import Derived.Test.YtpkfakndlbngbaaFinSome
namespace Go.Proofs.Ytpkfakndlbngbaa
open Go.RowKit Go.Deep
open Go.Proofs.Ytpkfakndlbngbaa.MN
set_option linter.unusedVariables false
namespace FG

open Lv
/-- What popLeft is to do at a level. -/
def PopsAt (v : Lv) (o : Th × Lv) : Prop := ∀ (q : Option Addr) (d : Nat) (w : World), InV w q v → v ≠ .nil → v.Ok d → v.size ≤ 17592186044416 →
    Calls Try.prog 48 #[.pointer q] w fun e w' => ∃ p r, e = .returned (.tuple #[.pointer p, .pointer r]) ∧ InT w' p o.1 ∧ InV w' r o.2 ∧ Below w.heap.size w w'
set_option maxHeartbeats 2000000 in
theorem deepL_any (m : Lv) (o : Th × Lv) (ih : PopsAt m o) (a : Option Addr) (n c : Nat) (l : List Th) (q : Option Addr) (a' : Option Addr) (n' c' : Nat) (r : List Th) (d : Nat) (w : World)
    (h1 : Dg w a n c l) (h2 : InV w q m) (h3 : Dg w a' n' c' r) (o1 : All d l) (o2 : m.Ok (d + 1)) (o3 : Dig d r) (o4 : PopsL m o (d + 1)) (hs : (Lv.deep l m r).size ≤ 17592186044416) :
    Calls Try.prog 61 #[.slice a n c, .pointer q, .slice a' n' c'] w fun e w' => ∃ p, e = .returned (.pointer p) ∧ InV w' p (deepL' o l m r) ∧ Below w.heap.size w w' := by
  have H1 := Lib.hid h1
  have H2 := Lib.hid h2
  have H3 := Lib.hid h3
  have HS := Lib.hid hs
  have hn := h1.len
  cases l with
  | cons t l =>
    have hpos : (0 : Int) < (n : Int) := by simp at hn; omega
    clear h1 h2 h3 hn hs ih o1 o2 o3 o4
    go_enter Try.func61, Try.ntmps61
    go_wp2_with fail
    refine (deep_any a n c (t :: l) q m a' n' c' r _ H1.out H2.out H3.out HS.out).mono ?_
    rintro e w1 ⟨p, rfl, hp, hb⟩
    go_wp2_with fail
    go_ret
    exact ⟨p, rfl, hp, hb⟩
  | nil =>
    obtain rfl : 0 = n := hn
    by_cases hm : m = .nil
    · subst hm
      obtain rfl : q = none := h2
      have HD := Lib.hid o3.2.2
      clear h1 h3 hs ih o1 o2 o3 o4
      go_enter Try.func61, Try.ntmps61
      go_wp2_with fail
      refine (some_any a' n' c' r d _ H3.out HD.out (by have := HS.out; simp only [Lv.size, tsN] at this; omega)).mono ?_
      rintro e w1 ⟨p, rfl, hp, hb⟩
      go_wp2_with fail
      go_ret
      exact ⟨p, rfl, hp, hb⟩
    · have e2 : deepL' o [] m r = .deep o.1.kids o.2 r := by
        cases m with
        | nil => exact absurd rfl hm
        | one t => rfl
        | deep _ _ _ => rfl
      rw [e2]
      obtain ⟨b, mm, rfl, _, hlt, _⟩ := h2.cells hm
      obtain ⟨p1, p2, p3⟩ := o4 hm
      have e3 := congrArg List.length p3
      simp only [Lv.len, Th.len, List.length_append] at e3
      have HC := Lib.hid (ih _ (d + 1) w h2 hm o2 (by simp only [Lv.size] at hs; omega))
      obtain ⟨x, y⟩ := o
      obtain ⟨u1, u2, u3, rfl, _⟩ := p1.open
      simp only at p2 e3 HC
      have HSZ : Hid ((Lv.deep [u1, u2, u3] y r).size ≤ 17592186044416) := Lib.hid (by simp only [Lv.size, tsN, Th.size] at *; omega)
      clear h1 h2 h3 hs ih o1 o2 o3 o4 e2 e3 hm p1 p2 p3
      go_enter Try.func61, Try.ntmps61
      go_wp2_with fail
      refine HC.out.mono ?_
      rintro e w1 ⟨p, s, rfl, hp, hs, hb⟩
      obtain ⟨b1, a1, ca, rfl, hlt1, g6, hd⟩ := hp.kids
      have HKD := Lib.hid hd
      have HSS := Lib.hid hs
      clear hd hs hp
      go_wp2_with fail
      refine (deep_any a1 3 ca [u1, u2, u3] s y a' n' c' r _ HKD.out HSS.out (H3.out.below hb) HSZ.out).mono ?_
      rintro e w2 ⟨p2, rfl, hp2, hb2⟩
      go_wp2_with fail
      go_ret
      exact ⟨p2, rfl, hp2, below_then hb hb2⟩
set_option maxHeartbeats 2000000 in
set_option maxRecDepth 100000 in
theorem popL_any (v : Lv) : PopsAt v (popL v) := by
  unfold PopsAt
  induction v with
  | nil => intro q d w _ h; exact absurd rfl h
  | one s =>
    intro q d w hv _ ok hs
    obtain ⟨b, mm, x, a, c, rfl, hn, hh, hp, hx⟩ := hv
    obtain ⟨c1, _, c3⟩ := blk hh
    obtain ⟨b5, off5, rfl, hb5, hcl⟩ := hp.cell (by omega)
    have ka : w.cell? ⟨b5, off5, none⟩ = some (.pointer x) := hcl 0 (by omega)
    have k5 : w.cell? ⟨b, 5, none⟩ = some (.slice (some ⟨b5, off5, none⟩) 1 c) := c1 5
    have k6 : w.cell? ⟨b, 6, none⟩ = some (.slice none 0 0) := c1 6
    have hq : ∀ W : World, (binOp .eql 90 (.slice none 0 0) (.slice none 0 0)).run Try.prog W = .ok (.bool true) W := fun W => eql_things_nil none 0 0 W
    have HX := Lib.hid hx
    clear hh c1 hp hcl hx hn
    go_enter Try.func48, Try.ntmps48
    go_wp2_with fail
    go_ret2
    exact ⟨x, none, rfl, HX.out, rfl, Below.refl _ _⟩
  | deep l m r ih =>
    intro q d w hv _ ok hs
    obtain ⟨⟨o1, o2, o3⟩, o4, ⟨o5, o6, o7⟩⟩ := ok
    obtain ⟨b, mm, a, a', x, n, c, n', c', rfl, hn, hh, hl, hr, hm⟩ := hv
    have ln := hl.len
    have rn := hr.len
    obtain ⟨c1, _, c3⟩ := blk hh
    obtain ⟨b6, off6, rfl⟩ : ∃ b6 off6, a' = some ⟨b6, off6, none⟩ := by
      obtain ⟨psr, hpr, hir⟩ := hr
      obtain ⟨b6, off6, e, _⟩ := hpr.cell (by omega)
      exact ⟨b6, off6, e⟩
    obtain ⟨t, l, rfl⟩ : ∃ t l', l = t :: l' := by
      cases l with
      | nil => simp at o1
      | cons t l => exact ⟨t, l, rfl⟩
    obtain ⟨b5, off5, q1, rfl, hb5, ka, hq1⟩ : ∃ b5 off5 q1, a = some ⟨b5, off5, none⟩ ∧ b5 < w.heap.size ∧ w.cell? ⟨b5, off5, none⟩ = some (.pointer q1) ∧ InT w q1 t := by
      obtain ⟨pl, hpl, hil⟩ := hl
      obtain ⟨ba, oa, e, hb, hcl⟩ := hpl.cell (by omega)
      exact ⟨ba, oa, _, e, hb, by simpa using hcl 0 (by omega), by simpa using hil.get 0 (by simp)⟩
    have hcap : n ≤ c := by obtain ⟨pl, hpl, _⟩ := hl; exact hpl.hcap
    have hq : ∀ W : World, (binOp .eql 90 (.slice (some ⟨b6, off6, none⟩) n' c') (.slice none 0 0)).run Try.prog W = .ok (.bool false) W := fun W => eql_things_nil (some ⟨b6, off6, none⟩) n' c' W
    have k5 : w.cell? ⟨b, 5, none⟩ = some (.slice (some ⟨b5, off5, none⟩) n c) := c1 5
    have k6 : w.cell? ⟨b, 6, none⟩ = some (.slice (some ⟨b6, off6, none⟩) n' c') := c1 6
    have k7 : w.cell? ⟨b, 7, none⟩ = some (.pointer x) := c1 7
    have hsl : ∀ W : World, (Instr.slice 90 (.slice (some ⟨b5, off5, none⟩) n c) (some (.int .i64 1)) none none).run Try.prog W = .ok (.slice (cutAt (some ⟨b5, off5, none⟩) c 1) (n - 1) (c - 1)) W := fun W => by
      simpa using Try.things_from (some ⟨b5, off5, none⟩) n c 1 (by omega) W
    have HK := Lib.hid (hl.rest (k := 1) (by omega))
    have HR := Lib.hid hr
    have HM := Lib.hid hm
    have IH : Hid (PopsAt m (popL m)) := Lib.hid ih
    have HO1 := Lib.hid o3.tail
    have HO2 := Lib.hid o4
    have HO3 : Hid (Dig d r) := Lib.hid ⟨o5, o6, o7⟩
    have HO4 := Lib.hid (popL_ok m (d + 1) o4)
    have HQ1 := Lib.hid hq1
    have HS2 : Hid ((Lv.deep l m r).size ≤ 17592186044416) := Lib.hid (by simp only [Lv.size, tsN] at *; omega)
    have hni : (0 : Int) < (n : Int) := by omega
    have hnn : 0 < n := by omega
    have hn0 : ¬ n = 0 := by omega
    have hle : (1 : Int) ≤ (n : Int) := by omega
    show Calls Try.prog 48 #[.pointer (some ⟨b, 0, none⟩)] w fun e w' => ∃ p s, e = .returned (.tuple #[.pointer p, .pointer s]) ∧ InT w' p t ∧ InV w' s (deepL' (popL m) l m r) ∧ Below w.heap.size w w'
    clear ih o1 o2 o3 o4 o5 o6 o7 ln rn hl hr hm hh c1 hn hs hq1
    go_enter Try.func48, Try.ntmps48
    go_wp2_with fail
    go_region_held3 (fun w' => w'.cell? ⟨b, 5, none⟩ = some (.slice (some ⟨b5, off5, none⟩) n c) ∧ w'.cell? ⟨b, 6, none⟩ = some (.slice (some ⟨b6, off6, none⟩) n' c') ∧ w'.cell? ⟨b, 7, none⟩ = some (.pointer x) ∧ w'.cell? ⟨b5, off5, none⟩ = some (.pointer q1)) (go_keep) (first
      | (go_at_call 61; refine (deepL_any m (popL m) IH.out (cutAt (some ⟨b5, off5, none⟩) c 1) (n - 1) (c - 1) l x (some ⟨b6, off6, none⟩) n' c' r d _ (by first | exact HK.out | exact HK.out.below (Below.refl _ _).drew | exact HK.out.below (below_drewN (Below.refl _ _) _)) (by first | exact HM.out | exact HM.out.below (Below.refl _ _).drew | exact HM.out.below (below_drewN (Below.refl _ _) _)) (by first | exact HR.out | exact HR.out.below (Below.refl _ _).drew | exact HR.out.below (below_drewN (Below.refl _ _) _)) HO1.out HO2.out HO3.out HO4.out HS2.out).mono ?_; rintro e w1 ⟨p1, rfl, hv1, hb1⟩; have bw1 : Below w.heap.size w w1 := (by first | exact hb1 | exact below_of_drew hb1 | exact below_of_drewN hb1 | exact below_of_alloc hb1 | exact below_of_alloc (below_of_drew hb1) | exact below_of_alloc (below_of_drewN hb1)); have za_0 := (bw1.cell (p := ⟨b, 5, none⟩) c3).trans k5; have za_1 := (bw1.cell (p := ⟨b, 6, none⟩) c3).trans k6; have za_2 := (bw1.cell (p := ⟨b, 7, none⟩) c3).trans k7; have za_3 := (bw1.cell (p := ⟨b5, off5, none⟩) hb5).trans ka))
    all_goals
      go_wp2_with fail
      go_ret2
      exact ⟨q1, p1, rfl, HQ1.out.below bw1, hv1, bw1⟩
end FG
end Go.Proofs.Ytpkfakndlbngbaa
