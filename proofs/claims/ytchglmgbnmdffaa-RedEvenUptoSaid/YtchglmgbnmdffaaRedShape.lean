/-
  Red: the shape that a set tells. Conditions: at most 2^42 numbers.
-/
import Derived.Test.YtchglmgbnmdffaaShapeKit
import Derived.Test.YtchglmgbnmdffaaRedIn
namespace Go.Proofs.Ytchglmgbnmdffaa.RED
open Go.RowKit Go.Deep
open Go.Proofs.Ytchglmgbnmdffaa Go.Proofs.Ytchglmgbnmdffaa.ST

theorem row_new (w : World) (o : Obj) (x m : Int) : ∀ (j : Nat) (u : Value), [Value.int .i64 x, .int .i64 0, .int .i64 0, .int .i64 m][j]? = some u → ((w.alloc o).alloc (.cells #[.int .i64 x, .int .i64 0, .int .i64 0, .int .i64 m] 54)).cell? ((⟨w.heap.size + 1, 0, none⟩ : Addr).add j) = some u := by
  intro j u h
  have e : (w.alloc o).heap.size = w.heap.size + 1 := by simp
  have := (blk (heap_alloc_new (w.alloc o) (.cells #[.int .i64 x, .int .i64 0, .int .i64 0, .int .i64 m] 54))).1 j
  rw [e] at this
  have e2 : (⟨w.heap.size + 1, 0, none⟩ : Addr).add j = ⟨w.heap.size + 1, j, none⟩ := by simp [Addr.add]; intro h; exact h.symm
  rw [e2, this]
  simpa using h
/-- What is told of a node beside its number. -/
def mb (c : Bool) : Int := if c then 1 else 0
def mrk : ST → Int
  | .nil => 0
  | .node c _ _ _ => mb c
theorem mrk_node (c : Bool) (x : Int) (l r : ST) : mrk (.node c x l r) = (mb c) := rfl

set_option linter.unusedVariables false
set_option maxRecDepth 100000 in
set_option maxHeartbeats 2000000 in
theorem tell_any (t : ST) : ∀ (p : Option Addr) (A B : Nat) (v0 : Value) (S : List Nd) (n base : Nat) (w : World), In w p t →
    w.heap[A]? = some (.cells #[.func (.func 65) #[] #[.pointer (some ⟨B, 0, none⟩), .pointer (some ⟨A, 0, none⟩)]] 80 (0, 0)) → Rn w B base v0 S → S.length = n → base ≤ B → base ≤ w.heap.size → n + t.size ≤ 4398046511104 →
    Calls Try.prog 65 #[.pointer p, .pointer (some ⟨B, 0, none⟩), .pointer (some ⟨A, 0, none⟩)] w fun e w' => e = .returned (.int .i64 (refOf t n)) ∧ ∃ v', Rn w' B base v' (S ++ shapeL mrk t n) ∧ KeepT 74 w w' ∧ KeepT 80 w w' ∧ Below base w w' := by
  induction t with
  | nil =>
    intro p A B v0 S n base w h hA R hL hB hS hn
    obtain rfl : p = none := h
    rw [ref_nil]
    go_enter Try.func65, Try.ntmps65
    go_wp2_with fail
    go_ret
    exact ⟨rfl, v0, by simpa [shapeL] using R, KeepT.refl _ _, KeepT.refl _ _, Below.refl _ _⟩
  | node c x l r ihl ihr =>
    intro p A B v0 S n base w h hA0 R0 hL hB hS0 hn
    rw [ref_node]
    simp only [size] at hn
    obtain ⟨i0, hi0, hz0, hz1, hz2⟩ := info_parts Try.infoNode
    have hh := h
    obtain ⟨b, pl, pr, rfl, klt, k0, k1, k2, k3, k4, hl, hr⟩ := h.open
    obtain ⟨b', pl', pr', e1, hN0, _, _⟩ := hh
    obtain rfl : b = b' := by cases e1; rfl
    have kk0 := (blk hN0).1 3
    have kk1 := (blk hN0).1 4
    rw [k3] at kk0
    rw [k4] at kk1
    obtain rfl : pl = pl' := by simpa using kk0
    obtain rfl : pr = pr' := by simpa using kk1
    have HN := Lib.hid hN0
    clear e1 hN0 kk0 kk1
    have O0 := R0.own
    rw [hL] at O0
    have HL := Lib.hid hL
    clear hL
    obtain ⟨ad0, cp0, rfl⟩ := own_slice O0
    have Bc := (blk R0.blk).1 0
    have Bf := (blk R0.blk).2.1 0
    have Blt := (blk R0.blk).2.2
    have hne : ¬ B = w.heap.size := by omega
    have hne2 : ¬ b = w.heap.size := by omega
    go_enter Try.func65, Try.ntmps65
    go_upto_if 21 with (fail)
    go_cut [] (fun wx => wx = w.alloc (.cells #[.int .i64 x, .int .i64 0, .int .i64 0, .int .i64 (mb c)] 54))
    case first =>
      cases c
      all_goals
        go_wp2_with fail
        go_meet
        rfl
    case rest =>
    subst hcut
    have hBB : w.heap[B]? = some (.cells #[.slice ad0 n cp0] 43 (0, 0)) := R0.blk
    go_wp2_with (at_builtin; refine wpList_append_own _ rfl (.tmp 23) (.tmp 25) 43 rfl base 54 i0 (.agg #[.int .i64 0, .int .i64 0, .int .i64 0, .int .i64 0]) 4 32 Try.underlying43 hi0 hz0 hz1 hz2 rfl (by decide) (.slice ad0 n cp0) n _ rfl (World.ownsRow.alloc (World.ownsRow.alloc O0 _) _) ⟨w.heap.size + 1, 0, none⟩ 1 1 [.int .i64 x, .int .i64 0, .int .i64 0, .int .i64 (mb c)] rfl rfl (row_new w _ x (mb c)) (by simp [Value.oneCell']) (by unfold maxLen; omega) (by omega) (by simp; omega) ?_; intro v2 w2 hown2 hg2 hat2; obtain ⟨g2, cap2, rfl⟩ := own_succ hown2; obtain ⟨kk, hb2⟩ := app_keeps (w1 := w.alloc (.cells #[.int .i64 x, .int .i64 0, .int .i64 0, .int .i64 (mb c)] 54)) (o := .cells #[.int .i64 x, .int .i64 0, .int .i64 0, .int .i64 (mb c)] 54) (World.ownsRow.alloc O0 _) hg2 (by simp; omega) ⟨rfl, rfl, rfl, rfl⟩; have hB2 := kk 43 (by decide) _ _ ((KeepT.refl _ w).alloc _ _ _ hBB); have Bc2 := (blk hB2).1 0; have Bf2 := (blk hB2).2.1 0)

    obtain ⟨wc, hwc⟩ : ∃ wc, w2.setCell ⟨B, 0, none⟩ (.slice (some ⟨g2, 0, none⟩) (n + 1) cap2) = wc := ⟨_, rfl⟩
    have kn2 : KeepT 74 w wc := by
      rw [← hwc]
      exact (((KeepT.refl _ w).alloc _).trans (kk _ (by decide))).trans (.setCell hB2 (by decide))
    have kf2 : KeepT 80 w wc := by
      rw [← hwc]
      exact (((KeepT.refl _ w).alloc _).trans (kk _ (by decide))).trans (.setCell hB2 (by decide))
    replace hb2 : Below base w wc := by
      rw [← hwc]
      exact (((Below.refl base w).alloc hS0 _).trans hb2).setCell (p := ⟨B, 0, none⟩) hB _
    have R2 : Rn wc B base (.slice (some ⟨g2, 0, none⟩) (n + 1) cap2) (S ++ [(⟨x, 0, 0, mb c⟩ : Nd)]) := by
      rw [← hwc]
      refine ⟨blk_set hB2, ?_⟩
      exact own_keep (by rw [List.length_append, HL.out, node_cells_snoc]; exact hown2) (.setCell hB2 (by decide))
    rw [hwc]
    clear hwc hB2 kk hown2 hg2 hat2 Bc2 Bf2 hBB
    have hA2 := kf2 _ _ hA0
    have hN2 := kn2 _ _ HN.out
    have hl2 := hl.keep kn2
    have hr2 := hr.keep kn2
    have hS2 : base ≤ wc.heap.size := Nat.le_trans hS0 hb2.size
    clear Bc Bf Blt hne hne2 k0 k1 k2 k3 k4
    have A2 := (blk hA2).1 0
    have N2l := (blk hN2).1 3
    have hL2 : (S ++ [(⟨x, 0, 0, (mb c)⟩ : Nd)]).length = n + 1 := by rw [List.length_append, HL.out]; rfl
    have HL2 := Lib.hid hL2
    clear hL2
    go_wp2_with fail
    go_region_held3 (fun w' => w'.cell? ⟨A, 0, none⟩ = some (.func (.func 65) #[] #[.pointer (some ⟨B, 0, none⟩), .pointer (some ⟨A, 0, none⟩)]) ∧ w'.cell? ⟨b, 3, none⟩ = some (.pointer pl)) (go_keep)
      ((go_at_call 65; refine (ihl pl A B _ (S ++ [(⟨x, 0, 0, (mb c)⟩ : Nd)]) (n + 1) base _ (by first | exact hl2 | exact hl2.drew | exact hl2.drewN _) (by exact hA2) (by exact Rn.same (w := wc) R2 ⟨rfl, rfl, rfl, rfl⟩) HL2.out hB (by exact hS2) (by omega)).mono ?_; rintro e w3 ⟨rfl, v3, R3, kn3, kf3, hb3⟩; replace kn3 : KeepT 74 wc w3 := keep_same (Y := wc) kn3 ⟨rfl, rfl, rfl, rfl⟩; replace kf3 : KeepT 80 wc w3 := keep_same (Y := wc) kf3 ⟨rfl, rfl, rfl, rfl⟩; replace hb3 : Below base wc w3 := below_same (Y := wc) hb3 ⟨rfl, rfl, rfl, rfl⟩; have A3 := (blk (kf3 _ _ hA2)).1 0; have N3 := (blk (kn3 _ _ hN2)).1 3))
    have hA3 := kf3 _ _ hA2
    have hN3 := kn3 _ _ hN2
    have hr3 := hr2.keep kn3
    have hS3 : base ≤ w3.heap.size := Nat.le_trans hS2 hb3.size
    have hL3 : (S ++ [(⟨x, 0, 0, (mb c)⟩ : Nd)] ++ shapeL mrk l (n + 1)).length = n + 1 + l.size := by rw [List.length_append, HL2.out, shapeL_length]
    have HL3 := Lib.hid hL3
    clear hL3 A2 N2l N3
    have N3r := (blk hN3).1 4
    go_wp2_with fail
    go_region_held3 (fun w' => w'.cell? ⟨A, 0, none⟩ = some (.func (.func 65) #[] #[.pointer (some ⟨B, 0, none⟩), .pointer (some ⟨A, 0, none⟩)]) ∧ w'.cell? ⟨b, 4, none⟩ = some (.pointer pr)) (go_keep)
      ((go_at_call 65; refine (ihr pr A B v3 (S ++ [(⟨x, 0, 0, (mb c)⟩ : Nd)] ++ shapeL mrk l (n + 1)) (n + 1 + l.size) base _ (by first | exact hr3 | exact hr3.drew | exact hr3.drewN _) (by exact hA3) (by exact Rn.same (w := w3) R3 ⟨rfl, rfl, rfl, rfl⟩) HL3.out hB (by exact hS3) (by omega)).mono ?_; rintro e w4 ⟨rfl, v4, R4, kn4, kf4, hb4⟩; replace kn4 : KeepT 74 w3 w4 := keep_same (Y := w3) kn4 ⟨rfl, rfl, rfl, rfl⟩; replace kf4 : KeepT 80 w3 w4 := keep_same (Y := w3) kf4 ⟨rfl, rfl, rfl, rfl⟩; replace hb4 : Below base w3 w4 := below_same (Y := w3) hb4 ⟨rfl, rfl, rfl, rfl⟩; have A4 := (blk (kf4 _ _ hA3)).1 0; have N4 := (blk (kn4 _ _ hN3)).1 4))
    have eL : S ++ [(⟨x, 0, 0, (mb c)⟩ : Nd)] ++ shapeL mrk l (n + 1) ++ shapeL mrk r (n + 1 + l.size) = S ++ (⟨x, 0, 0, (mb c)⟩ : Nd) :: (shapeL mrk l (n + 1) ++ shapeL mrk r (n + 1 + l.size)) := by simp [List.append_assoc]
    rw [eL] at R4
    have O4 := R4.own
    have hN4 : ∃ N, (S ++ (⟨x, 0, 0, (mb c)⟩ : Nd) :: (shapeL mrk l (n + 1) ++ shapeL mrk r (n + 1 + l.size))).length = N := ⟨_, rfl⟩
    obtain ⟨N, hN5⟩ := hN4
    have hnN : n < N := by rw [← hN5, List.length_append, HL.out, List.length_cons]; omega
    rw [hN5] at O4
    obtain ⟨g4, cap4, rfl⟩ := own_pos O4 (by omega)
    have Bc4 := (blk R4.blk).1 0
    have P1 : w4.cell? ⟨g4, n * 4 + 1, none⟩ = some (.int .i64 0) := by
      rw [O4.cellAt _ (by omega), nodesCells_get _ n (⟨x, 0, 0, (mb c)⟩ : Nd) (by rw [List.getElem?_append_right (by rw [HL.out]; exact Nat.le_refl _), HL.out]; simp) 1 (by omega)]; rfl
    have P2 : w4.cell? ⟨g4, n * 4 + 2, none⟩ = some (.int .i64 0) := by
      rw [O4.cellAt _ (by omega), nodesCells_get _ n (⟨x, 0, 0, (mb c)⟩ : Nd) (by rw [List.getElem?_append_right (by rw [HL.out]; exact Nat.le_refl _), HL.out]; simp) 2 (by omega)]; rfl
    have Q1 := O4.frozenAt (n * 4 + 1)
    have Q2 := O4.frozenAt (n * 4 + 2)
    obtain ⟨hbg, cur4, hg4⟩ := own_type O4
    have hBg : B ≠ g4 := fun e => by
      subst e
      rw [R4.blk] at hg4
      injection hg4 with hg4
      injection hg4 with _ hg4
      exact absurd hg4 (by decide)
    have hBg' : ¬ B = g4 := hBg
    have hBg2 : ¬ g4 = B := fun e => hBg e.symm
    have hni : (0 : Int) ≤ (n : Int) := by omega
    have hnNi : (n : Int) < (N : Int) := by omega
    have HN5 := Lib.hid hN5
    clear hN5 A4 N4 N3r
    go_wp2_with fail
    go_region_held3 (fun w' => w'.cell? ⟨B, 0, none⟩ = some (.slice (some ⟨g4, 0, none⟩) N cap4)) (go_keep) (fail)
    go_wp2_with fail
    go_ret
    have RP := (Rn.places (a := refOf l (n + 1)) (b := refOf r (n + 1 + l.size)) R4 HL.out hBg).1
    have kn5 : KeepT 74 w4 ((w4.setCell ⟨g4, n * 4 + 1, none⟩ (.int .i64 (refOf l (n + 1)))).setCell ⟨g4, n * 4 + 2, none⟩ (.int .i64 (refOf r (n + 1 + l.size)))) := (KeepT.setCell hg4 (by decide)).trans (.setCell (blk_set hg4) (by decide))
    have kf5 : KeepT 80 w4 ((w4.setCell ⟨g4, n * 4 + 1, none⟩ (.int .i64 (refOf l (n + 1)))).setCell ⟨g4, n * 4 + 2, none⟩ (.int .i64 (refOf r (n + 1 + l.size)))) := (KeepT.setCell hg4 (by decide)).trans (.setCell (blk_set hg4) (by decide))
    have hb5 : Below base w4 ((w4.setCell ⟨g4, n * 4 + 1, none⟩ (.int .i64 (refOf l (n + 1)))).setCell ⟨g4, n * 4 + 2, none⟩ (.int .i64 (refOf r (n + 1 + l.size)))) := ((Below.refl _ _).setCell (p := ⟨g4, n * 4 + 1, none⟩) hbg _).setCell (p := ⟨g4, n * 4 + 2, none⟩) hbg _
    exact ⟨rfl, _, RP.same ⟨rfl, rfl, rfl, rfl⟩, ((kn2.trans kn3).trans kn4).trans kn5, ((kf2.trans kf3).trans kf4).trans kf5, (((hb2.trans hb3).trans hb4).trans hb5).drew⟩

set_option maxHeartbeats 800000 in
theorem shape_any (t : ST) (p : Option Addr) (w : World) (h : In w p t) (hs : t.size ≤ 4398046511104) :
    Calls Try.prog 44 #[.agg #[.pointer p]] w fun e w' => ∃ a c, e = .returned (.slice a t.size c) ∧ Nl w' a t.size c (shapeL mrk t 0) ∧ Below w.heap.size w w' := by
  go_enter Try.func44, Try.ntmps44
  go_wp2_with fail
  refine (tell_any t p (w.heap.size + 1 + 1) (w.heap.size + 1) (.slice none 0 0) [] 0 w.heap.size _ (h.below (three_b w _ _ _)) (three_3 w _ _ _) ⟨three_2 w _ _ _, World.ownsRow_nil _ _ _ _⟩ rfl (by omega) (by simp; omega) (by simpa using hs)).mono ?_
  rintro e w1 ⟨rfl, v, R, _, _, hb⟩
  replace hb := (three_b w _ _ _).trans hb
  have c0 := (blk R.blk).1 0
  have O := R.own
  rw [List.nil_append, shapeL_length] at O
  go_wp2_with fail
  go_ret
  obtain ⟨a, c, rfl, N⟩ := Nl.of_own O
  exact ⟨a, c, rfl, N, hb⟩
end Go.Proofs.Ytchglmgbnmdffaa.RED
