/-
  Lists of trees: all numbers, in order. Conditions: at most 2^44 numbers.
-/
import Derived.Test.YtpkfakndlbngbaaMRw
import Derived.Test.YtpkfakndlbngbaaMQu
namespace Go.Proofs.Ytpkfakndlbngbaa
open Go.RowKit Go.Deep Go.BigFrame
open SK
set_option linter.unusedVariables false
namespace RA
/-- Whatever blocks hold neither ints nor slices of them stay. -/
def KA (w w' : World) : Prop := ∀ T, 3 ≠ T → 22 ≠ T → KeepT T w w'
theorem KA.refl (w : World) : KA w w := fun T _ _ => KeepT.refl T w
theorem KA.trans {a b c : World} (h : KA a b) (k : KA b c) : KA a c := fun T h1 h2 => (h T h1 h2).trans (k T h1 h2)
theorem KA.same {X Y w1 : World} (h : KA X w1) (s : Same X Y) : KA Y w1 := fun T h1 h2 => keep_same (h T h1 h2) s
set_option maxHeartbeats 2000000 in
set_option maxRecDepth 100000 in
theorem walk_any (t : RT) : ∀ (p : Option Addr) (A B : Nat) (v0 : Value) (xs : List Int) (base : Nat) (w : World), InT w p t →
    w.heap[A]? = some (.cells #[(.func (.func 28) #[] #[.pointer (some ⟨B, 0, none⟩), .pointer (some ⟨A, 0, none⟩)])] 70 (0, 0)) → Rw w B base v0 xs → base ≤ B → base ≤ w.heap.size → xs.length + t.pre.length ≤ 17592186044416 →
    Calls Try.prog 28 #[.pointer p, .pointer (some ⟨B, 0, none⟩), .pointer (some ⟨A, 0, none⟩)] w fun e w' => e = .returned (.tuple #[]) ∧ ∃ v', Rw w' B base v' (xs ++ t.pre) ∧ KA w w' ∧ Below base w w' := by
  induction t with
  | nil =>
    intro p A B v0 xs base w h hA R hB hS hn
    obtain rfl : p = none := h
    go_enter Try.func28, Try.ntmps28
    go_wp2_with fail
    go_end0
    exact ⟨rfl, v0, by simpa [RT.pre] using R, KA.refl _, Below.refl _ _⟩
  | node x l r ihl ihr =>
    intro p A B v0 xs base w h hA0 R0 hB hS0 hn
    simp only [RT.pre, List.length_cons, List.length_append] at hn
    obtain ⟨i0, hi0, hz0, hz1, hz2⟩ := info_parts Try.infoInt
    obtain ⟨b, pl, pr, rfl, hN0, hl, hr⟩ := h
    have HN := Lib.hid hN0
    obtain ⟨z, _, klt⟩ := blk hN0
    have k0 : w.cell? ⟨b, 0, none⟩ = some (.int .i64 x) := z 0
    have Bc := (blk R0.blk).1 0
    have Bf := (blk R0.blk).2.1 0
    have Blt := (blk R0.blk).2.2
    have hne : ¬ B = w.heap.size := by omega
    have hne2 : ¬ b = w.heap.size := by omega
    obtain ⟨n1, hn1⟩ : ∃ n1, xs.length = n1 := ⟨_, rfl⟩
    have O1 := R0.own
    rw [hn1] at O1
    have hn1' : n1 + 1 + l.pre.length + r.pre.length ≤ 17592186044416 := by omega
    have HN1 := Lib.hid hn1
    clear hn1 z hN0
    go_enter Try.func28, Try.ntmps28
    go_wp2_with fail
    go_region_law (refine step_append_any _ rfl (.tmp 6) (.tmp 11) 22 rfl base 3 i0 (.int .i64 0) 1 8 Try.underlying22 hi0 hz0 hz1 hz2 rfl (by decide) v0 n1 _ rfl (by exact World.ownsRow.alloc (own_same (w := w) O1 ⟨rfl, rfl, rfl, rfl⟩) _) _ (some ⟨w.heap.size, 0, none⟩) 1 1 [.int .i64 x] rfl (Reads.of_own (World.ownsRow_lit (base := w.heap.size) (e := 3) (size := 1) _ #[.int .i64 x] 1 (by simp) (by decide) rfl)) (by simp [Value.oneCell']) (by unfold maxLen; omega) (by omega) (by simp; omega) ?_; intro v2 w2 hown2 hg2 hat2; obtain ⟨g2, cap2, rfl⟩ := own_succ hown2; obtain ⟨kk, hb2⟩ := app_keeps (w1 := w) (o := .cells #[.int .i64 x] 3) O1 hg2 hS0 ⟨rfl, rfl, rfl, rfl⟩; have hB2 := kk 22 (by decide) _ _ R0.blk; have Bc2 := (blk hB2).1 0; have Bf2 := (blk hB2).2.1 0)
    all_goals
      have R2 : Rw (w2.setCell ⟨B, 0, none⟩ (.slice (some ⟨g2, 0, none⟩) (n1 + 1) cap2)) B base (.slice (some ⟨g2, 0, none⟩) (n1 + 1) cap2) (xs ++ [x]) := ⟨blk_set hB2, own_keep (by rw [List.length_append, HN1.out, List.map_append]; exact hown2) (.setCell hB2 (by decide))⟩
      have kn2 : KA w (w2.setCell ⟨B, 0, none⟩ (.slice (some ⟨g2, 0, none⟩) (n1 + 1) cap2)) := fun T h1 h2 => (kk T h1).trans (.setCell hB2 h2)
      have hb22 : Below base w (w2.setCell ⟨B, 0, none⟩ (.slice (some ⟨g2, 0, none⟩) (n1 + 1) cap2)) := hb2.setCell (p := ⟨B, 0, none⟩) hB _
      have hS2 : base ≤ (w2.setCell ⟨B, 0, none⟩ (.slice (some ⟨g2, 0, none⟩) (n1 + 1) cap2)).heap.size := Nat.le_trans hS0 hb22.size
      have hA2 := kn2 _ (by decide) (by decide) _ _ hA0
      have hN2 := kn2 _ (by decide) (by decide) _ _ HN.out
      have hl2 := hl.keep (kn2 _ (by decide) (by decide))
      have hr2 := hr.keep (kn2 _ (by decide) (by decide))
      obtain ⟨W2, hW2⟩ : ∃ W2, w2.setCell ⟨B, 0, none⟩ (.slice (some ⟨g2, 0, none⟩) (n1 + 1) cap2) = W2 := ⟨_, rfl⟩
      rw [hW2] at R2 kn2 hb22 hS2 hA2 hN2 hr2 hl2 ⊢
      clear hW2 k0 Blt hne hne2 Bc Bf Bc2 Bf2 hB2 hb2 kk hg2 hown2 hat2
      have A2 : W2.cell? ⟨A, 0, none⟩ = some (.func (.func 28) #[] #[.pointer (some ⟨B, 0, none⟩), .pointer (some ⟨A, 0, none⟩)]) := (blk hA2).1 0
      have N2l : W2.cell? ⟨b, 1, none⟩ = some (.pointer pl) := (blk hN2).1 1
      have HN2 := Lib.hid hN2
      have HA2 := Lib.hid hA2
      have HR2 := Lib.hid R2
      clear hN2 hA2 R2
      go_wp2_with fail
      go_region_held3 (fun w' => w'.cell? ⟨A, 0, none⟩ = some (.func (.func 28) #[] #[.pointer (some ⟨B, 0, none⟩), .pointer (some ⟨A, 0, none⟩)]) ∧ w'.cell? ⟨b, 1, none⟩ = some (.pointer pl)) (go_keep)
        ((go_at_call 28; refine (ihl pl A B (.slice (some ⟨g2, 0, none⟩) (n1 + 1) cap2) (xs ++ [x]) base _ (by first | exact hl2 | exact hl2.below (Below.refl _ _).drew) (by exact HA2.out) (by exact Rw.same (w := W2) HR2.out ⟨rfl, rfl, rfl, rfl⟩) hB (by exact hS2) (by rw [List.length_append, HN1.out]; simp only [List.length_cons, List.length_nil]; omega)).mono ?_; rintro e w3 ⟨rfl, v3, R3, kn3, hb3⟩; replace kn3 : KA W2 w3 := kn3.same ⟨rfl, rfl, rfl, rfl⟩; replace hb3 : Below base W2 w3 := below_same (Y := W2) hb3 ⟨rfl, rfl, rfl, rfl⟩; have hA3 := kn3 _ (by decide) (by decide) _ _ HA2.out; have hN3 := kn3 _ (by decide) (by decide) _ _ HN2.out; have A3 : w3.cell? ⟨A, 0, none⟩ = some (.func (.func 28) #[] #[.pointer (some ⟨B, 0, none⟩), .pointer (some ⟨A, 0, none⟩)]) := (blk hA3).1 0; have N3l : w3.cell? ⟨b, 1, none⟩ = some (.pointer pl) := (blk hN3).1 1; have N3r : w3.cell? ⟨b, 2, none⟩ = some (.pointer pr) := (blk hN3).1 2; have HA3 := Lib.hid hA3; have HN3 := Lib.hid hN3; have HR3 := Lib.hid R3; clear hA3 hN3 R3))
      clear A2 N2l N3l
      have hr3 := hr2.keep (kn3 _ (by decide) (by decide))
      have hS3 : base ≤ w3.heap.size := Nat.le_trans hS2 hb3.size
      go_wp2_with fail
      go_region_held3 (fun w' => w'.cell? ⟨A, 0, none⟩ = some (.func (.func 28) #[] #[.pointer (some ⟨B, 0, none⟩), .pointer (some ⟨A, 0, none⟩)]) ∧ w'.cell? ⟨b, 2, none⟩ = some (.pointer pr)) (go_keep)
        ((go_at_call 28; refine (ihr pr A B v3 (xs ++ [x] ++ l.pre) base _ (by first | exact hr3 | exact hr3.below (Below.refl _ _).drew) (by exact HA3.out) (by exact Rw.same (w := w3) HR3.out ⟨rfl, rfl, rfl, rfl⟩) hB (by exact hS3) (by rw [List.length_append, List.length_append, HN1.out]; simp only [List.length_cons, List.length_nil]; omega)).mono ?_; rintro e w4 ⟨rfl, v4, R4, kn4, hb4⟩; replace kn4 : KA w3 w4 := kn4.same ⟨rfl, rfl, rfl, rfl⟩; replace hb4 : Below base w3 w4 := below_same (Y := w3) hb4 ⟨rfl, rfl, rfl, rfl⟩; have A4 : w4.cell? ⟨A, 0, none⟩ = some (.func (.func 28) #[] #[.pointer (some ⟨B, 0, none⟩), .pointer (some ⟨A, 0, none⟩)]) := (blk (kn4 _ (by decide) (by decide) _ _ HA3.out)).1 0; have N4 : w4.cell? ⟨b, 2, none⟩ = some (.pointer pr) := (blk (kn4 _ (by decide) (by decide) _ _ HN3.out)).1 2))
      go_wp2_with fail
      go_end0
      exact ⟨rfl, v4, by simpa [RT.pre] using R4, (kn2.trans kn3).trans kn4, (hb22.trans hb3).trans hb4⟩
set_option maxHeartbeats 2000000 in
set_option maxRecDepth 100000 in
theorem ints_any (p : Option Addr) (m : Int) (xs : List Int) (w : World) (h : In w p m xs) (hs : xs.length ≤ 17592186044416) :
    Calls Try.prog 13 #[.agg #[.pointer p, .int .i64 m]] w fun e w' => ∃ a n c, e = .returned (.slice a n c) ∧ Sl w' a n c xs ∧ Below w.heap.size w w' := by
  obtain ⟨ss, h1, hg, rfl, hm⟩ := h
  have H1 := Lib.hid h1
  clear h1 hg hm
  go_enter Try.func13, Try.ntmps13
  go_wp2_with fail
  go_loopg [5] ss.length (fun g s wr => ∃ (pre rest : List Sp) (q : Option Addr) (v : Value), g = rest.length ∧ s = .pointer q ∧ Hid (ss = pre ++ rest) ∧ InS wr q rest ∧ Rw wr (w.heap.size + 1) w.heap.size v (allS pre) ∧ wr.heap[w.heap.size + 1 + 1]? = some (.cells #[(.func (.func 28) #[] #[.pointer (some ⟨w.heap.size + 1, 0, none⟩), .pointer (some ⟨w.heap.size + 1 + 1, 0, none⟩)])] 70 (0, 0)) ∧ Below w.heap.size w wr)
  case atStart => exact ⟨[], ss, p, .slice none 0 0, rfl, rfl, Lib.hid rfl, H1.out.below (three_b w _ _ _), ⟨three_2 w _ _ _, World.ownsRow_nil _ _ _ _⟩, three_3 w _ _ _, three_b w _ _ _⟩
  case round =>
    obtain ⟨pre, rest, q, v, hgm, rfl, HE, hi, R, hA, hb⟩ := hrel
    cases rest with
    | nil =>
      obtain rfl : q = none := hi
      have c0 := (blk R.blk).1 0
      go_wp2_with fail
      go_ret
      have he := HE.out
      rw [List.append_nil] at he
      obtain ⟨a, c, rfl, hsl⟩ := Sl.of_own R.own
      exact ⟨a, _, c, rfl, by rw [he]; exact hsl, hb⟩
    | cons s r =>
      obtain ⟨b, pt, q', rfl, hbk, hit, hir⟩ := hi
      obtain ⟨z, _, klt⟩ := blk hbk
      have k1 : wr.cell? ⟨b, 1, none⟩ = some (.pointer pt) := z 1
      have A1 := (blk hA).1 0
      have HBK := Lib.hid hbk
      have HA := Lib.hid hA
      have HR := Lib.hid R
      have HG := Lib.hid hgm
      have hsz := hb.size
      have hln : (allS pre).length + s.2.pre.length ≤ 17592186044416 := by
        rw [HE.out] at hs
        simp only [allS, List.flatMap_append, List.flatMap_cons, List.length_append] at hs ⊢
        omega
      clear z hbk hA R hgm
      go_wp2_with fail
      go_region_held3 (fun w' => w'.cell? ⟨w.heap.size + 1 + 1, 0, none⟩ = some (.func (.func 28) #[] #[.pointer (some ⟨w.heap.size + 1, 0, none⟩), .pointer (some ⟨w.heap.size + 1 + 1, 0, none⟩)]) ∧ w'.cell? ⟨b, 1, none⟩ = some (.pointer pt)) (go_keep)
        ((go_at_call 28; refine (walk_any s.2 pt (w.heap.size + 1 + 1) (w.heap.size + 1) v (allS pre) w.heap.size _ (by first | exact hit | exact hit.below (Below.refl _ _).drew) (by exact HA.out) (by exact Rw.same (w := wr) HR.out ⟨rfl, rfl, rfl, rfl⟩) (by omega) (by exact hsz) hln).mono ?_; rintro e w3 ⟨rfl, v3, R3, kn3, hb3⟩; replace kn3 : KA wr w3 := kn3.same ⟨rfl, rfl, rfl, rfl⟩; replace hb3 : Below w.heap.size wr w3 := below_same (Y := wr) hb3 ⟨rfl, rfl, rfl, rfl⟩; have hA3 := kn3 _ (by decide) (by decide) _ _ HA.out; have hN3 := kn3 _ (by decide) (by decide) _ _ HBK.out; have A3 := (blk hA3).1 0; have N3l : w3.cell? ⟨b, 1, none⟩ = some (.pointer pt) := (blk hN3).1 1; have N3n : w3.cell? ⟨b, 2, none⟩ = some (.pointer q') := (blk hN3).1 2; have HA3 := Lib.hid hA3; have HR3 := Lib.hid R3; clear hA3 hN3 R3))
      all_goals
        go_wp2_with fail
        go_roundg r.length
        case measure => have := HG.out; simp only [List.length_cons] at this; omega
        case rel => exact ⟨pre ++ [s], r, q', v3, rfl, rfl, Lib.hid (by rw [HE.out]; simp), hir.keep (kn3 _ (by decide) (by decide)) (kn3 _ (by decide) (by decide)), by have e : allS (pre ++ [s]) = allS pre ++ s.2.pre := (by simp [allS]); rw [e]; exact HR3.out, HA3.out, hb.trans hb3⟩
end RA
end Go.Proofs.Ytpkfakndlbngbaa
