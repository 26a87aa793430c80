/-
  Treap: all numbers, rising. Conditions: at most 2^44 numbers.
  Treap: the set's functions, as plain trees. Conditions: sizes below 2^60.
  Treap: the words that the laws use. Conditions: sizes below 2^44.
-/
import Derived.Test.YthokmfonedfmfaaApp
import Derived.Test.YthokmfonedfmfaaTreapIn
import Derived.Test.YthokmfonedfmfaaMTrA
import Derived.Test.YthokmfonedfmfaaSame
import Derived.Test.YthokmfonedfmfaaTreeLaw
namespace Go.Proofs.Ythokmfonedfmfaa.TRP
open Go.RowKit Go.Deep
open Go.Proofs.Ythokmfonedfmfaa Go.Proofs.Ythokmfonedfmfaa.ST

set_option linter.unusedVariables false
set_option maxHeartbeats 1600000 in
theorem walk_any (t : ST) : ∀ (p : Option Addr) (A B : Nat) (v0 : Value) (xs : List Int) (base : Nat) (w : World), In w p t →
    w.heap[A]? = some (.cells #[.func (.func 76) #[] #[.pointer (some ⟨A, 0, none⟩), .pointer (some ⟨B, 0, none⟩)]] 127 (0, 0)) → Rw w B base v0 xs → base ≤ B → base ≤ w.heap.size → xs.length + t.size ≤ 17592186044416 →
    Calls Try.prog 76 #[.pointer p, .pointer (some ⟨A, 0, none⟩), .pointer (some ⟨B, 0, none⟩)] w fun e w' => e = .returned (.tuple #[]) ∧ ∃ v', Rw w' B base v' (xs ++ t.toL) ∧ KeepT 129 w w' ∧ KeepT 127 w w' ∧ Below base w w' := by
  induction t with
  | nil =>
    intro p A B v0 xs base w h hA R hB hS hn
    obtain rfl : p = none := h
    go_enter Try.func76, Try.ntmps76
    go_wp2_with fail
    go_end0
    exact ⟨rfl, v0, by simpa [toL] using R, KeepT.refl _ _, KeepT.refl _ _, Below.refl _ _⟩
  | node c x l r ihl ihr =>
    intro p A B v0 xs base w h hA0 R0 hB hS0 hn
    simp only [size] at hn
    obtain ⟨i0, hi0, hz0, hz1, hz2⟩ := info_parts Try.infoInt
    have hh := h
    obtain ⟨b, pl, pr, rfl, klt, k0, k1, k2, k3, k4, hl, hr⟩ := h.open
    obtain ⟨b', pl', pr', e1, hN0, _, _⟩ := hh
    obtain rfl : b = b' := by cases e1; rfl
    have kk0 := (blk hN0).1 3
    have kk1 := (blk hN0).1 4
    rw [k3] at kk0
    rw [k4] at kk1
    obtain rfl : pl = pl' := by simpa using kk0
    obtain rfl : pr = pr' := by simpa using kk1
    have HN := Lib.hid hN0
    clear e1 hN0 kk0 kk1
    obtain ⟨a0, a1, a2⟩ := blk hA0
    have A0 := a0 0
    clear a0 a1
    go_enter Try.func76, Try.ntmps76
    go_wp2_with fail
    go_region_held3 (fun w' => w'.cell? ⟨A, 0, none⟩ = some (.func (.func 76) #[] #[.pointer (some ⟨A, 0, none⟩), .pointer (some ⟨B, 0, none⟩)]) ∧ w'.cell? ⟨b, 3, none⟩ = some (.pointer pl)) (go_keep)
      ((go_at_call 76; refine (ihl pl A B v0 xs base _ (by first | exact hl | exact hl.drew | exact hl.drewN _) (by exact hA0) (by exact Rw.same (w := w) R0 ⟨rfl, rfl, rfl, rfl⟩) hB (by exact hS0) (by first | omega | (simp only [List.length_append, List.length_cons, List.length_nil, toL_length]; omega))).mono ?_; rintro e w1 ⟨rfl, v1, R1, kn1, kf1, hb1⟩; replace kn1 : KeepT 129 w w1 := keep_same (Y := w) kn1 ⟨rfl, rfl, rfl, rfl⟩; replace kf1 : KeepT 127 w w1 := keep_same (Y := w) kf1 ⟨rfl, rfl, rfl, rfl⟩; replace hb1 : Below base w w1 := below_same (Y := w) hb1 ⟨rfl, rfl, rfl, rfl⟩; have hA1 := kf1 _ _ hA0; have hN1 := kn1 _ _ HN.out; have A1 := (blk hA1).1 0; have N1l := (blk hN1).1 3; have N1x := (blk hN1).1 0; have N1r := (blk hN1).1 4; have Bc := (blk R1.blk).1 0; have Bf := (blk R1.blk).2.1 0; have Blt := (blk R1.blk).2.2; have blt1 := (blk hN1).2.2; have hne : ¬ B = w1.heap.size := (by omega); have hne2 : ¬ b = w1.heap.size := (by omega); have hS1 : base ≤ w1.heap.size := Nat.le_trans hS0 hb1.size))
    go_wp2_with fail
    obtain ⟨n1, hn1⟩ : ∃ n1, (xs ++ l.toL).length = n1 := ⟨_, rfl⟩
    have O1 := R1.own
    rw [hn1] at O1
    have hn1' : n1 + 1 + r.size ≤ 17592186044416 := by rw [← hn1, List.length_append, toL_length]; omega
    have HN1 := Lib.hid hn1
    clear hn1
    go_region_law (refine step_append_any _ rfl (.tmp 12) (.tmp 17) 22 rfl base 3 i0 (.int .i64 0) 1 8 Try.underlying22 hi0 hz0 hz1 hz2 rfl (by decide) v1 n1 _ rfl (by exact World.ownsRow.alloc (own_same (w := w1) O1 ⟨rfl, rfl, rfl, rfl⟩) _) _ (some ⟨w1.heap.size, 0, none⟩) 1 1 [.int .i64 x] rfl (Reads.of_own (World.ownsRow_lit (base := w1.heap.size) (e := 3) (size := 1) _ #[.int .i64 x] 1 (by simp) (by decide) rfl)) (by simp [Value.oneCell']) (by unfold maxLen; omega) (by omega) (by simp; omega) ?_; intro v2 w2 hown2 hg2 hat2; obtain ⟨g2, cap2, rfl⟩ := own_succ hown2; obtain ⟨kk, hb2⟩ := app_keeps (w1 := w1) (o := .cells #[.int .i64 x] 3) O1 hg2 hS1 ⟨rfl, rfl, rfl, rfl⟩; have hB2 := kk 22 (by decide) _ _ R1.blk; have Bc2 := (blk hB2).1 0; have Bf2 := (blk hB2).2.1 0)
    all_goals
      have R2 : Rw (w2.setCell ⟨B, 0, none⟩ (.slice (some ⟨g2, 0, none⟩) (n1 + 1) cap2)) B base (.slice (some ⟨g2, 0, none⟩) (n1 + 1) cap2) (xs ++ l.toL ++ [x]) := ⟨blk_set hB2, own_keep (by rw [List.length_append, HN1.out, List.map_append]; exact hown2) (.setCell hB2 (by decide))⟩
      have kn2 : KeepT 129 w1 (w2.setCell ⟨B, 0, none⟩ (.slice (some ⟨g2, 0, none⟩) (n1 + 1) cap2)) := (kk _ (by decide)).trans (.setCell hB2 (by decide))
      have kf2 : KeepT 127 w1 (w2.setCell ⟨B, 0, none⟩ (.slice (some ⟨g2, 0, none⟩) (n1 + 1) cap2)) := (kk _ (by decide)).trans (.setCell hB2 (by decide))
      have hb22 : Below base w1 (w2.setCell ⟨B, 0, none⟩ (.slice (some ⟨g2, 0, none⟩) (n1 + 1) cap2)) := hb2.setCell (p := ⟨B, 0, none⟩) hB _
      have hS2 : base ≤ (w2.setCell ⟨B, 0, none⟩ (.slice (some ⟨g2, 0, none⟩) (n1 + 1) cap2)).heap.size := Nat.le_trans hS1 hb22.size
      have hA2 := kf2 _ _ hA1
      have hN2 := kn2 _ _ hN1
      have hr2 := hr.keep (kn1.trans kn2)
      obtain ⟨W2, hW2⟩ : ∃ W2, w2.setCell ⟨B, 0, none⟩ (.slice (some ⟨g2, 0, none⟩) (n1 + 1) cap2) = W2 := ⟨_, rfl⟩
      rw [hW2] at R2 kn2 kf2 hb22 hS2 hA2 hN2 hr2 ⊢
      clear hW2 A0 k0 k1 k2 k3 k4 Blt blt1 hne hne2 A1 N1l N1x N1r Bc Bf Bc2 Bf2 hB2
      have A2 := (blk hA2).1 0
      have N2r := (blk hN2).1 4
      go_wp2_with fail
      go_region_held3 (fun w' => w'.cell? ⟨A, 0, none⟩ = some (.func (.func 76) #[] #[.pointer (some ⟨A, 0, none⟩), .pointer (some ⟨B, 0, none⟩)]) ∧ w'.cell? ⟨b, 4, none⟩ = some (.pointer pr)) (go_keep)
        ((go_at_call 76; refine (ihr pr A B (.slice (some ⟨g2, 0, none⟩) (n1 + 1) cap2) (xs ++ l.toL ++ [x]) base _ (by first | exact hr2 | exact hr2.drew | exact hr2.drewN _) (by exact hA2) (by exact Rw.same (w := W2) R2 ⟨rfl, rfl, rfl, rfl⟩) hB (by exact hS2) (by first | omega | (simp only [List.length_append, List.length_cons, List.length_nil, toL_length]; omega))).mono ?_; rintro e w3 ⟨rfl, v3, R3, kn3, kf3, hb3⟩; replace kn3 : KeepT 129 W2 w3 := keep_same (Y := W2) kn3 ⟨rfl, rfl, rfl, rfl⟩; replace kf3 : KeepT 127 W2 w3 := keep_same (Y := W2) kf3 ⟨rfl, rfl, rfl, rfl⟩; replace hb3 : Below base W2 w3 := below_same (Y := W2) hb3 ⟨rfl, rfl, rfl, rfl⟩; have A3 := (blk (kf3 _ _ hA2)).1 0; have N3 := (blk (kn3 _ _ hN2)).1 4))
      go_wp2_with fail
      go_end0
      exact ⟨rfl, v3, by simpa [toL] using R3, (kn1.trans kn2).trans kn3, (kf1.trans kf2).trans kf3, (hb1.trans hb22).trans hb3⟩

set_option maxHeartbeats 800000 in
theorem ints_any (t : ST) (p : Option Addr) (w : World) (h : In w p t) (hs : t.size ≤ 17592186044416) :
    Calls Try.prog 34 #[.agg #[.pointer p]] w fun e w' => ∃ v, e = .returned v ∧ w'.ownsRow w.heap.size 3 1 v t.toL.length (t.toL.map (Value.int .i64)) ∧ Below w.heap.size w w' := by
  go_enter Try.func34, Try.ntmps34
  go_wp2_with fail
  refine (walk_any t p (w.heap.size + 1 + 1) (w.heap.size + 1) (.slice none 0 0) [] w.heap.size _ (h.below (three_b w _ _ _)) (three_3 w _ _ _) ⟨three_2 w _ _ _, World.ownsRow_nil _ _ _ _⟩ (by omega) (by simp; omega) (by simpa using hs)).mono ?_
  rintro e w1 ⟨rfl, v, R, _, _, hb⟩
  replace hb := (three_b w _ _ _).trans hb
  have c0 := (blk R.blk).1 0
  go_wp2_with fail
  go_ret
  exact ⟨v, rfl, by simpa using R.own, hb⟩
end Go.Proofs.Ythokmfonedfmfaa.TRP

namespace Go.Proofs.Ythokmfonedfmfaa.TRP
open Go.RowKit Go.Deep
open Go.Proofs.Ythokmfonedfmfaa Go.Proofs.Ythokmfonedfmfaa.ST

end Go.Proofs.Ythokmfonedfmfaa.TRP

namespace Go.Proofs.Ythokmfonedfmfaa.TRP
open Go.RowKit Go.Deep
open Go.Proofs.Ythokmfonedfmfaa Go.Proofs.Ythokmfonedfmfaa.ST

def Fit (t : ST) : Prop := TRP0.Tp prioI t
theorem Fit.bst {t : ST} (h : Fit t) : t.Bst := TRP0.Tp.bst h
theorem good_nil : Fit .nil := TRP0.tp_nil _
theorem put_good {t : ST} (h : Fit t) (x : Int) : Fit (put t x) := (TRP0.put_tp h x).1
theorem drop_good {t : ST} (h : Fit t) (x : Int) : Fit (drop t x) := (TRP0.drop_tp h x).1
theorem put_mem {t : ST} (h : Fit t) (x : Int) : ∀ y, y ∈ (put t x).toL ↔ y = x ∨ y ∈ t.toL := (TRP0.put_tp h x).2
theorem drop_mem {t : ST} (h : Fit t) (x : Int) : ∀ y, y ∈ (drop t x).toL ↔ y ≠ x ∧ y ∈ t.toL := (TRP0.drop_tp h x).2
theorem ofL_good (l : List Int) : Fit (ofL l) := (TRP0.ofL_tp _ l).1
theorem ofL_mem (l : List Int) : ∀ y, y ∈ (ofL l).toL ↔ y ∈ l := (TRP0.ofL_tp _ l).2

theorem ints_sl (t : ST) (p : Option Addr) (w : World) (h : In w p t) (hs : t.size ≤ 17592186044416) :
    Calls Try.prog 34 #[.agg #[.pointer p]] w fun e w' => ∃ a m c, e = .returned (.slice a m c) ∧ Sl w' a m c t.toL ∧ Below w.heap.size w w' :=
  (ints_any t p w h hs).mono fun e w' ⟨v, he, ho, hb⟩ => by
    obtain ⟨a, c, hv, hs⟩ := Sl.of_own ho
    exact ⟨a, _, c, by rw [he, hv], hs, hb⟩
theorem has_b (t : ST) (x : Int) (b : Bool) (p : Option Addr) (w : World) (h : In w p t) (hg : Fit t) (hs : t.size ≤ 17592186044417) (hb : decide (x ∈ t.toL) = b) :
    Calls Try.prog 39 #[.agg #[.pointer p], .int .i64 x] w fun e w' => e = .returned (.bool b) ∧ Below w.heap.size w w' :=
  (has_set t x p w h hg.bst (by omega)).mono fun e w' ⟨he, hw⟩ => ⟨by rw [he, hb], hw⟩
theorem ofL_once (l : List Int) : (ofL l).toL = onceL l := once_unique (ofL_good l).bst (ofL_mem l)
end Go.Proofs.Ythokmfonedfmfaa.TRP
