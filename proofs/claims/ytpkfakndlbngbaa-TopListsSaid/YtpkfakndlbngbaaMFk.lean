/-
  Finger trees: what a store into a block of another kind leaves. Conditions: none.
  Finger trees: a number put behind all; the measure; the first number and the others. Conditions: at most 2^44 numbers.
-/
import Derived.Test.YtpkfakndlbngbaaFinParts
namespace Go.Proofs.Ytpkfakndlbngbaa
open Go.RowKit Go.Deep
open Go.Proofs.Ytpkfakndlbngbaa.MN
set_option linter.unusedVariables false
namespace FG

open Lv
/-- What is a level's, a thing's or a digit's stays. -/
structure KV (w w' : World) : Prop where
  hv : KeepT 95 w w'
  ht : KeepT 92 w w'
  hp : KeepT 84 w w'
theorem KV.of_below {w w' : World} (h : Below w.heap.size w w') : KV w w' := ⟨.of_below h, .of_below h, .of_below h⟩
theorem KV.trans {a b c : World} (h : KV a b) (k : KV b c) : KV a c := ⟨h.hv.trans k.hv, h.ht.trans k.ht, h.hp.trans k.hp⟩
theorem KV.set {w : World} {k i : Nat} {c : Array Value} {T : TypeId} {v : Value} (hk : w.heap[k]? = some (.cells c T (0, 0))) (hne : T ≠ 95 ∧ T ≠ 92 ∧ T ≠ 84) : KV w (w.setCell ⟨k, i, none⟩ v) := ⟨.setCell hk hne.1, .setCell hk hne.2.1, .setCell hk hne.2.2⟩
theorem InL.keep {w w' : World} (hk : KV w w') : ∀ {ps : List (Option Addr)} {ts : List Th}, InL w ps ts → InL w' ps ts
  | [], [], _ => trivial
  | p :: ps, t :: ts, h => ⟨h.1.keep hk.ht hk.hp, InL.keep hk h.2⟩
  | [], _ :: _, h => h.elim
  | _ :: _, [], h => h.elim
theorem Dg.keep {w w' : World} (hk : KV w w') {a : Option Addr} {n c : Nat} {ts : List Th} (h : Dg w a n c ts) : Dg w' a n c ts := by
  obtain ⟨ps, h1, h2⟩ := h
  exact ⟨ps, h1.keep hk.hp, h2.keep hk⟩
theorem InV.keep {w w' : World} (hk : KV w w') : ∀ {v : Lv} {p : Option Addr}, InV w p v → InV w' p v := by
  intro v
  induction v with
  | nil => intro p h; exact h
  | one t =>
    rintro p ⟨b, m, q, a, c, e, hn, hh, hp, ht⟩
    exact ⟨b, m, q, a, c, e, hn, hk.hv _ _ hh, hp.keep hk.hp, ht.keep hk.ht hk.hp⟩
  | deep l v r ih =>
    rintro p ⟨b, m, a, a', q, n, c, n', c', e, hn, hh, h1, h2, h3⟩
    exact ⟨b, m, a, a', q, n, c, n', c', e, hn, hk.hv _ _ hh, h1.keep hk, h2.keep hk, ih h3⟩
end FG
end Go.Proofs.Ytpkfakndlbngbaa

namespace Go.Proofs.Ytpkfakndlbngbaa
open Go.RowKit Go.Deep
open Go.Proofs.Ytpkfakndlbngbaa.MN
set_option linter.unusedVariables false
namespace FG

open Lv
set_option maxHeartbeats 2000000 in
set_option maxRecDepth 100000 in
theorem push_tree (v : Lv) (x : Int) (p : Option Addr) (w : World) (h : InV w p v) (ok : v.Ok 0) (hs : 1 + v.size ≤ 17592186044416) :
    Calls Try.prog 24 #[.agg #[.pointer p], .int .i64 x] w fun e w' => ∃ q, e = .returned (.agg #[.pointer q]) ∧ InV w' q (pushR (.leaf x) v) ∧ Below w.heap.size w w' := by
  have HV := Lib.hid h
  have OK := Lib.hid ok
  have HS := Lib.hid hs
  clear h ok hs
  go_enter Try.func24, Try.ntmps24
  go_wp2_with fail
  go_upto_region 1 with fail
  obtain ⟨w0, hw0⟩ : ∃ w0, ((w.alloc (.cells #[.pointer p] 33)).alloc (.cells #[.pointer none] 33)) = w0 := ⟨_, rfl⟩
  have x0 : w0.heap[w.heap.size]? = some (.cells #[.pointer p] 33 (0, 0)) := by
    rw [← hw0]
    have := heap_alloc_new w (.cells #[.pointer p] 33)
    exact (Below.heap_alloc _ _ _ (by simp; try omega)).trans (this)
  have x1 : w0.heap[w.heap.size + 1]? = some (.cells #[.pointer none] 33 (0, 0)) := by
    rw [← hw0]
    have := heap_alloc_new (w.alloc (.cells #[.pointer p] 33)) (.cells #[.pointer none] 33)
    rw [World.size_alloc] at this
    exact this
  have b0 : Below w.heap.size w w0 := by rw [← hw0]; exact ((Below.refl _ _).alloc (by simp; try omega) _).alloc (by simp; try omega) _
  rw [hw0]
  have hz : w0.heap.size = w.heap.size + 2 := by rw [← hw0]; simp
  clear hw0
  replace HV := Lib.hid (HV.out.below b0)
  obtain ⟨c0, f0, l0⟩ := blk x0
  obtain ⟨c1, f1, l1⟩ := blk x1
  have d0 := c0 0
  have d1 := c1 0
  have X1 := Lib.hid x1
  clear c0 c1 x0 x1
  have : ¬ w0.heap.size = w.heap.size := by omega
  have : ¬ w.heap.size = w0.heap.size := by omega
  go_region_held3 (fun w' => w'.cell? ⟨w.heap.size, 0, none⟩ = some (.pointer p)) (go_keep) (first
    | (have _t := bw1; go_at_call 40; refine (pushR_any v (.leaf x) pt p 0 _ (by first | exact T1.out | exact T1.out.below (Below.refl _ _).drew | exact T1.out.below (below_drewN (Below.refl _ _) _) | exact T1.out.below ((Below.refl _ _).alloc (Nat.le_refl _) _) | exact (T1.out.below ((Below.refl _ _).alloc (Nat.le_refl _) _)).below (Below.refl _ _).drew | exact (T1.out.below ((Below.refl _ _).alloc (Nat.le_refl _) _)).below (below_drewN (Below.refl _ _) _)) (by first | exact (HV.out.below bw1) | exact (HV.out.below bw1).below (Below.refl _ _).drew | exact (HV.out.below bw1).below (below_drewN (Below.refl _ _) _) | exact (HV.out.below bw1).below ((Below.refl _ _).alloc (Nat.le_refl _) _) | exact ((HV.out.below bw1).below ((Below.refl _ _).alloc (Nat.le_refl _) _)).below (Below.refl _ _).drew | exact ((HV.out.below bw1).below ((Below.refl _ _).alloc (Nat.le_refl _) _)).below (below_drewN (Below.refl _ _) _)) OK.out HS.out).mono ?_; rintro e w2 ⟨r, rfl, V2, hx2⟩; have bw2 : Below w1.heap.size w1 w2 := (by first | exact hx2 | exact below_of_drew hx2 | exact below_of_drewN hx2 | exact below_of_alloc hx2 | exact below_of_alloc (below_of_drew hx2) | exact below_of_alloc (below_of_drewN hx2)); have bw02 := below_then bw1 bw2; have d12 := (bw02.cell (p := ⟨w.heap.size + 1, 0, none⟩) l1).trans d1; have y1 := blk_below (by exact X1.out) bw02; obtain ⟨g0, g1, g2⟩ := blk y1; have d13 := g0 0; clear g0; have Y1 := Lib.hid y1; clear y1; have : ¬ w2.heap.size = w.heap.size := (by have := bw02.size; omega); have : ¬ w.heap.size = w2.heap.size := (by have := bw02.size; omega); have c1_0 := (bw02.cell (p := ⟨w.heap.size, 0, none⟩) l0).trans d0)
    | (go_at_call 41; refine (number_any x _).mono ?_; rintro e w1 ⟨pt, rfl, T1, hx1⟩; have bw1 : Below w0.heap.size w0 w1 := (by first | exact hx1 | exact below_of_drew hx1 | exact below_of_drewN hx1 | exact below_of_alloc hx1 | exact below_of_alloc (below_of_drew hx1) | exact below_of_alloc (below_of_drewN hx1)); have d11 := (bw1.cell (p := ⟨w.heap.size + 1, 0, none⟩) l1).trans d1; have T1 := Lib.hid T1; have : ¬ w1.heap.size = w.heap.size := (by have := bw1.size; omega); have : ¬ w.heap.size = w1.heap.size := (by have := bw1.size; omega); have c0_0 := (bw1.cell (p := ⟨w.heap.size, 0, none⟩) l0).trans d0))
  all_goals
    go_wp2_with fail
    refine bodyPost_ret (v := .agg #[.pointer r]) (by simp [results, Try.results24, go_sem, d13]) rfl ⟨r, rfl, V2.keep (.set Y1.out (by decide)), (below_then b0 bw02).setCell (p := ⟨w.heap.size + 1, 0, none⟩) (by simp) _⟩
set_option maxHeartbeats 1000000 in
set_option maxRecDepth 100000 in
theorem measure_tree (v : Lv) (p : Option Addr) (w : World) (h : InV w p v) :
    Calls Try.prog 34 #[.agg #[.pointer p]] w fun e w' => ∃ m : Ms, m.n = (v.size : Int) ∧ e = .returned m.val ∧ Below w.heap.size w w' := by
  have HV := Lib.hid h
  clear h
  go_enter Try.func34, Try.ntmps34
  go_wp2_with fail
  refine (measure_any p v _ ((HV.out.below ((Below.refl _ _).alloc (Nat.le_refl _) _)).below ((Below.refl _ _).alloc (Nat.le_refl _) _))).mono ?_
  rintro e w1 ⟨m, hm, rfl, hb1⟩
  obtain ⟨hb1, x0, x1⟩ := hold2 hb1 ⟨rfl, rfl, rfl, rfl⟩
  have X1 : At w1 (w.heap.size + 1) ⟨0, 0, 0, 0, 0⟩ := x1
  obtain ⟨⟨o0, o1, o2, o3, o4⟩, o5, o6⟩ := X1.cells
  have HM := Lib.hid hm
  clear x1 X1 hm
  go_wp2_with fail
  refine bodyPost_ret (v := m.val) (by simp [results, Try.results34, go_sem, o0, o1, o2, o3, o4]) rfl ⟨m, HM.out, rfl, (((((hb1.setCell (p := ⟨w.heap.size + 1, 0, none⟩) (by simp) _).setCell (p := ⟨w.heap.size + 1, 1, none⟩) (by simp) _).setCell (p := ⟨w.heap.size + 1, 2, none⟩) (by simp) _).setCell (p := ⟨w.heap.size + 1, 3, none⟩) (by simp) _).setCell (p := ⟨w.heap.size + 1, 4, none⟩) (by simp) _)⟩
set_option maxHeartbeats 1000000 in
set_option maxRecDepth 100000 in
theorem pop_tree (v : Lv) (p : Option Addr) (w : World) (h : InV w p v) (hv : v ≠ .nil) (ok : v.Ok 0) (hs : v.size ≤ 17592186044416) :
    Calls Try.prog 33 #[.agg #[.pointer p]] w fun e w' => ∃ q, e = .returned (.tuple #[.int .i64 (popL v).1.val, .agg #[.pointer q], .bool true]) ∧ InV w' q (popL v).2 ∧ Below w.heap.size w w' := by
  obtain ⟨b, _, rfl, _⟩ := h.cells hv
  have hp := popL_ok v 0 ok hv
  have HV := Lib.hid h
  have OK := Lib.hid ok
  have HS := Lib.hid hs
  obtain ⟨y, hy⟩ : ∃ y, (popL v).1 = Th.leaf y := by
    cases hq : (popL v).1 with
    | leaf y => exact ⟨y, rfl⟩
    | node a b c => have := hp.1; rw [hq] at this; obtain ⟨k, hk, _⟩ := this; omega
  have PC : Hid (∀ W, InV W (some ⟨b, 0, none⟩) v → Calls Try.prog 48 #[.pointer (some ⟨b, 0, none⟩)] W fun e w' => ∃ p s, e = .returned (.tuple #[.pointer p, .pointer s]) ∧ InT w' p (.leaf y) ∧ InV w' s (popL v).2 ∧ Below W.heap.size W w') := Lib.hid (fun W g => by
    have := popL_any v _ 0 W g hv OK.out HS.out
    rw [hy] at this
    exact this)
  rw [hy]
  show Calls Try.prog 33 #[.agg #[.pointer (some ⟨b, 0, none⟩)]] w fun e w' => ∃ q, e = .returned (.tuple #[.int .i64 y, .agg #[.pointer q], .bool true]) ∧ InV w' q (popL v).2 ∧ Below w.heap.size w w'
  clear h ok hs hp hy hv
  go_enter Try.func33, Try.ntmps33
  go_wp2_with fail
  refine (PC.out _ ((HV.out.below ((Below.refl _ _).alloc (Nat.le_refl _) _)).below ((Below.refl _ _).alloc (Nat.le_refl _) _))).mono ?_
  rintro e w1 ⟨q, s, rfl, T1, V1, hb1⟩
  obtain ⟨hb1, x0, x1⟩ := hold2 hb1 ⟨rfl, rfl, rfl, rfl⟩
  obtain ⟨bt, mt, rfl, hmt, hbt⟩ := T1
  obtain ⟨c1, _, c3⟩ := blk hbt
  have k5 : w1.cell? ⟨bt, 5, none⟩ = some (.int .i64 y) := c1 5
  obtain ⟨g0, g1, g2⟩ := blk x1
  have d1 := g0 0
  have X1 := Lib.hid x1
  have V1 := Lib.hid V1
  clear x0 x1 c1 g0 hbt hmt
  go_wp2_with fail
  refine bodyPost_ret (v := .tuple #[.int .i64 y, .agg #[.pointer s], .bool true]) (by simp [results, Try.results33, go_sem, d1]) rfl ⟨s, rfl, V1.out.keep (.set X1.out (by decide)), hb1.setCell (p := ⟨w.heap.size + 1, 0, none⟩) (by simp) _⟩
end FG
end Go.Proofs.Ytpkfakndlbngbaa
