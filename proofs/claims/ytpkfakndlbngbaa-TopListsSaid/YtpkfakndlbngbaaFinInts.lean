/-
  Finger trees: all numbers. Conditions: at most 2^44 numbers.
-/
import Derived.Test.YtpkfakndlbngbaaFinWalk
namespace Go.Proofs.Ytpkfakndlbngbaa
open Go.RowKit Go.Deep
open Go.Proofs.Ytpkfakndlbngbaa.MN
set_option linter.unusedVariables false
namespace FG

open Lv
theorem walks_at (d : Nat) : WalksAt d := by
  induction d with
  | zero => exact walk_step 0 (fun k h => by omega)
  | succ d ih => exact walk_step (d + 1) (fun k h => by obtain rfl : d = k := (by omega); exact ih)
/-- What the walk over a level is to do. -/
def LevelsAt (v : Lv) : Prop := ∀ (d : Nat) (p : Option Addr) (A B L : Nat) (v0 : Value) (xs : List Int) (base : Nat) (w : World), InV w p v → v.Ok d →
    w.heap[A]? = some (.cells #[.func (.func 45) #[] #[.pointer (some ⟨B, 0, none⟩), .pointer (some ⟨A, 0, none⟩)]] 89 (0, 0)) → w.heap[L]? = some (.cells #[.func (.func 46) #[] #[.pointer (some ⟨A, 0, none⟩), .pointer (some ⟨L, 0, none⟩)]] 93 (0, 0)) → Rw w B base v0 xs → base ≤ B → base ≤ w.heap.size → xs.length + v.size ≤ 17592186044416 →
    Calls Try.prog 46 #[.pointer p, .pointer (some ⟨A, 0, none⟩), .pointer (some ⟨L, 0, none⟩)] w fun e w' => e = .returned (.tuple #[]) ∧ ∃ v', Rw w' B base v' (xs ++ v.toL) ∧ KX w w' ∧ Below base w w'
theorem levels_nil : LevelsAt .nil := by
  intro d p A B L v0 xs base w h _ _ _ R _ _ _
  obtain rfl : p = none := h
  go_enter Try.func46, Try.ntmps46
  go_wp2_with fail
  go_end0
  exact ⟨rfl, v0, by simpa [toL] using R, KX.refl _, Below.refl _ _⟩
set_option maxHeartbeats 2000000 in
set_option maxRecDepth 100000 in
theorem levels_open (l r : List Th) (m : Lv) (ih : LevelsAt m) (d b : Nat) (x : Option Addr) (cs : Array Value) (a a' : Option Addr) (n c n' c' A B L : Nat) (v0 : Value) (xs : List Int) (base : Nat) (w : World)
    (hV : w.heap[b]? = some (.cells cs 95 (0, 0))) (q5 : cs[5]? = some (.slice a n c)) (q6 : cs[6]? = some (.slice a' n' c')) (q7 : cs[7]? = some (.pointer x)) (h1 : Dg w a n c l) (h2 : InV w x m) (h3 : Dg w a' n' c' r) (o1 : All d l) (o2 : m.Ok (d + 1)) (o3 : All d r)
    (hA : w.heap[A]? = some (.cells #[.func (.func 45) #[] #[.pointer (some ⟨B, 0, none⟩), .pointer (some ⟨A, 0, none⟩)]] 89 (0, 0))) (hL : w.heap[L]? = some (.cells #[.func (.func 46) #[] #[.pointer (some ⟨A, 0, none⟩), .pointer (some ⟨L, 0, none⟩)]] 93 (0, 0))) (R0 : Rw w B base v0 xs) (hB : base ≤ B) (hS : base ≤ w.heap.size) (hn : xs.length + (tsN l + (m.size + tsN r)) ≤ 17592186044416) :
    Calls Try.prog 46 #[.pointer (some ⟨b, 0, none⟩), .pointer (some ⟨A, 0, none⟩), .pointer (some ⟨L, 0, none⟩)] w fun e w' => e = .returned (.tuple #[]) ∧ ∃ v', Rw w' B base v' (xs ++ (tsL l ++ (m.toL ++ tsL r))) ∧ KX w w' ∧ Below base w w' := by
  have C1 : Hid (∀ W, Same W w → Calls Try.prog 45 #[.slice a n c, .pointer (some ⟨B, 0, none⟩), .pointer (some ⟨A, 0, none⟩)] W fun e w' => e = .returned (.tuple #[]) ∧ ∃ v', Rw w' B base v' (xs ++ tsL l) ∧ KX w w' ∧ Below base w w') := Lib.hid (fun W s => by
    refine (walks_at d l a n c A B v0 xs base W (h1.keep (kx_same s).kv) o1 ((kx_same s).kf _ _ hA) (R0.same s) hB (by rw [s.heap]; exact hS) (by omega)).mono ?_
    rintro e w' ⟨rfl, v', R', kx', hb'⟩
    exact ⟨rfl, v', R', (kx_same s).trans kx', (below_of_same s).trans hb'⟩)
  have C2 : Hid (∀ (w1 : World) (v1 : Value), KX w w1 → Below base w w1 → Rw w1 B base v1 (xs ++ tsL l) → ∀ W, Same W w1 → Calls Try.prog 46 #[.pointer x, .pointer (some ⟨A, 0, none⟩), .pointer (some ⟨L, 0, none⟩)] W fun e w' => e = .returned (.tuple #[]) ∧ ∃ v', Rw w' B base v' (xs ++ tsL l ++ m.toL) ∧ KX w w' ∧ Below base w w') := Lib.hid (fun w1 v1 k1 b1 r1 W s => by
    have k := k1.trans (kx_same s)
    refine (ih (d + 1) x A B L v1 (xs ++ tsL l) base W (h2.keep k.kv) o2 (k.kf _ _ hA) (k.kl _ _ hL) (r1.same s) hB (by rw [s.heap]; exact Nat.le_trans hS b1.size) (by rw [List.length_append, tsL_len]; omega)).mono ?_
    rintro e w' ⟨rfl, v', R', kx', hb'⟩
    exact ⟨rfl, v', R', k.trans kx', (b1.trans (below_of_same s)).trans hb'⟩)
  have C3 : Hid (∀ (w1 : World) (v1 : Value), KX w w1 → Below base w w1 → Rw w1 B base v1 (xs ++ tsL l ++ m.toL) → ∀ W, Same W w1 → Calls Try.prog 45 #[.slice a' n' c', .pointer (some ⟨B, 0, none⟩), .pointer (some ⟨A, 0, none⟩)] W fun e w' => e = .returned (.tuple #[]) ∧ ∃ v', Rw w' B base v' (xs ++ tsL l ++ m.toL ++ tsL r) ∧ KX w w' ∧ Below base w w') := Lib.hid (fun w1 v1 k1 b1 r1 W s => by
    have k := k1.trans (kx_same s)
    refine (walks_at d r a' n' c' A B v1 (xs ++ tsL l ++ m.toL) base W (h3.keep k.kv) o3 (k.kf _ _ hA) (r1.same s) hB (by rw [s.heap]; exact Nat.le_trans hS b1.size) (by rw [List.length_append, List.length_append, tsL_len, Lv.len]; omega)).mono ?_
    rintro e w' ⟨rfl, v', R', kx', hb'⟩
    exact ⟨rfl, v', R', k.trans kx', (b1.trans (below_of_same s)).trans hb'⟩)
  have A0 := (blk hA).1 0
  have L0 := (blk hL).1 0
  have k5 : w.cell? ⟨b, 5, none⟩ = some (.slice a n c) := ((blk hV).1 5).trans q5
  have k6 : w.cell? ⟨b, 6, none⟩ = some (.slice a' n' c') := ((blk hV).1 6).trans q6
  have k7 : w.cell? ⟨b, 7, none⟩ = some (.pointer x) := ((blk hV).1 7).trans q7
  have hA0 := hA
  have hL0 := hL
  have hV0 := hV
  clear h1 h2 h3 o1 o2 o3 hA hL hV R0 ih hn
  go_enter Try.func46, Try.ntmps46
  go_wp2_with fail
  go_region_held3 (fun w' => w'.cell? ⟨A, 0, none⟩ = some (.func (.func 45) #[] #[.pointer (some ⟨B, 0, none⟩), .pointer (some ⟨A, 0, none⟩)]) ∧ w'.cell? ⟨b, 5, none⟩ = some (.slice a n c)) (go_keep) (first
    | (go_at_call 45; refine (C1.out _ (by exact ⟨rfl, rfl, rfl, rfl⟩)).mono ?_; rintro e w1 ⟨rfl, hh1⟩; obtain ⟨v1, R1, kx1, hb1⟩ := hh1; have hA1 := kx1.kf _ _ hA0; have hL1 := kx1.kl _ _ hL0; have hV1 := kx1.kv.hv _ _ hV0; have A1 := (blk hA1).1 0; have L1 := (blk hL1).1 0; have V51 := (blk hV1).1 5; have V61 := (blk hV1).1 6; have V71 := (blk hV1).1 7; have Vl1 := (blk hV1).2.2))
  replace V51 := V51.trans q5
  replace V61 := V61.trans q6
  replace V71 := V71.trans q7
  have D2 := Lib.hid (C2.out w1 v1 kx1 hb1 R1)
  clear A0 L0 k5 k6 k7 C1 C2 hA1 hL1 hV1
  go_wp2_with fail
  go_region_held3 (fun w' => w'.cell? ⟨L, 0, none⟩ = some (.func (.func 46) #[] #[.pointer (some ⟨A, 0, none⟩), .pointer (some ⟨L, 0, none⟩)]) ∧ w'.cell? ⟨b, 7, none⟩ = some (.pointer x)) (go_keep) (first
    | (go_at_call 46; refine (D2.out _ (by exact ⟨rfl, rfl, rfl, rfl⟩)).mono ?_; rintro e w2 ⟨rfl, hh2⟩; obtain ⟨v2, R2, kx2, hb2⟩ := hh2; have hA2 := kx2.kf _ _ hA0; have hL2 := kx2.kl _ _ hL0; have hV2 := kx2.kv.hv _ _ hV0; have A2 := (blk hA2).1 0; have L2 := (blk hL2).1 0; have V52 := (blk hV2).1 5; have V62 := (blk hV2).1 6; have V72 := (blk hV2).1 7; have Vl2 := (blk hV2).2.2))
  replace V52 := V52.trans q5
  replace V62 := V62.trans q6
  replace V72 := V72.trans q7
  have D3 := Lib.hid (C3.out w2 v2 kx2 hb2 R2)
  clear A1 L1 V51 V61 V71 Vl1 D2 C3 hA2 hL2 hV2 R1 kx1 hb1
  go_wp2_with fail
  go_region_held3 (fun w' => w'.cell? ⟨A, 0, none⟩ = some (.func (.func 45) #[] #[.pointer (some ⟨B, 0, none⟩), .pointer (some ⟨A, 0, none⟩)]) ∧ w'.cell? ⟨b, 6, none⟩ = some (.slice a' n' c')) (go_keep) (first
    | (go_at_call 45; refine (D3.out _ (by exact ⟨rfl, rfl, rfl, rfl⟩)).mono ?_; rintro e w3 ⟨rfl, hh3⟩; obtain ⟨v3, R3, kx3, hb3⟩ := hh3; have hA3 := kx3.kf _ _ hA0; have hL3 := kx3.kl _ _ hL0; have hV3 := kx3.kv.hv _ _ hV0; have A3 := (blk hA3).1 0; have L3 := (blk hL3).1 0; have V53 := (blk hV3).1 5; have V63 := (blk hV3).1 6; have V73 := (blk hV3).1 7; have Vl3 := (blk hV3).2.2))
  go_wp2_with fail
  go_end0
  exact ⟨rfl, v3, by simpa using R3, kx3, hb3⟩
theorem levels_any (v : Lv) : LevelsAt v := by
  induction v with
  | nil => exact levels_nil
  | one t =>
    intro d p A B L v0 xs base w h ok hA hL R hB hS hn
    obtain ⟨b, m, q, a, c, rfl, _, hh, hp, ht⟩ := h
    have := levels_open [t] [] .nil levels_nil d b none _ a none 1 c 0 0 A B L v0 xs base w hh rfl rfl rfl ⟨[q], hp, ht, trivial⟩ rfl (Dg.nil w) (All.cons ok (All.nil _)) trivial (All.nil _) hA hL R hB hS (by simpa [tsN, Lv.size] using hn)
    simpa [tsL, Lv.toL] using this
  | deep l m r ih =>
    intro d p A B L v0 xs base w h ok hA hL R hB hS hn
    obtain ⟨⟨_, _, o1⟩, o2, ⟨_, _, o3⟩⟩ := ok
    obtain ⟨b, mm, a, a', q, n, c, n', c', rfl, _, hh, h1, h3, h2⟩ := h
    exact levels_open l r m ih d b q _ a a' n c n' c' A B L v0 xs base w hh rfl rfl rfl h1 h2 h3 o1 o2 o3 hA hL R hB hS hn
theorem four_1 (w : World) (o1 o2 o3 o4 : Obj) : ((((w.alloc o1).alloc o2).alloc o3).alloc o4).heap[w.heap.size + 1]? = some o2 := by
  refine (Below.heap_alloc _ _ _ (by simp; try omega)).trans ((Below.heap_alloc _ _ _ (by simp; try omega)).trans ?_)
  have := heap_alloc_new (w.alloc o1) o2
  rwa [World.size_alloc] at this
theorem four_2 (w : World) (o1 o2 o3 o4 : Obj) : ((((w.alloc o1).alloc o2).alloc o3).alloc o4).heap[w.heap.size + 1 + 1]? = some o3 := by
  refine (Below.heap_alloc _ _ _ (by simp; try omega)).trans ?_
  have := heap_alloc_new ((w.alloc o1).alloc o2) o3
  rwa [World.size_alloc, World.size_alloc] at this
theorem four_3 (w : World) (o1 o2 o3 o4 : Obj) : ((((w.alloc o1).alloc o2).alloc o3).alloc o4).heap[w.heap.size + 1 + 1 + 1]? = some o4 := by
  have := heap_alloc_new (((w.alloc o1).alloc o2).alloc o3) o4
  rwa [World.size_alloc, World.size_alloc, World.size_alloc] at this
theorem four_b (w : World) (o1 o2 o3 o4 : Obj) : Below w.heap.size w ((((w.alloc o1).alloc o2).alloc o3).alloc o4) :=
  ((((Below.refl _ _).alloc (Nat.le_refl _) _).alloc (by simp) _).alloc (by simp; omega) _).alloc (by simp; omega) _
set_option maxHeartbeats 800000 in
set_option maxRecDepth 100000 in
theorem ints_tree (v : Lv) (d : Nat) (p : Option Addr) (w : World) (h : InV w p v) (ok : v.Ok d) (hs : v.size ≤ 17592186044416) :
    Calls Try.prog 29 #[.agg #[.pointer p]] w fun e w' => ∃ u, e = .returned u ∧ w'.ownsRow w.heap.size 3 1 u v.toL.length (v.toL.map (Value.int .i64)) ∧ Below w.heap.size w w' := by
  go_enter Try.func29, Try.ntmps29
  go_wp2_with fail
  refine (levels_any v d p (w.heap.size + 1 + 1) (w.heap.size + 1) (w.heap.size + 1 + 1 + 1) (.slice none 0 0) [] w.heap.size _ (h.below (four_b w _ _ _ _)) ok (four_2 w _ _ _ _) (four_3 w _ _ _ _) ⟨four_1 w _ _ _ _, World.ownsRow_nil _ _ _ _⟩ (by omega) (by simp; omega) (by simpa using hs)).mono ?_
  rintro e w1 ⟨rfl, u, R, _, hb⟩
  replace hb := (four_b w _ _ _ _).trans hb
  have c0 := (blk R.blk).1 0
  go_wp2_with fail
  go_ret
  exact ⟨u, rfl, by simpa using R.own, hb⟩
end FG
end Go.Proofs.Ytpkfakndlbngbaa
