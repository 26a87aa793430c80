/-
  Finger trees: the numbers of a slice of things put behind a row of the call's own. Conditions: at most 2^44 numbers.
-/
import Derived.Test.YtpkfakndlbngbaaMFk
import Derived.Test.YtpkfakndlbngbaaMQu
namespace Go.Proofs.Ytpkfakndlbngbaa
open Go.RowKit Go.Deep
open Go.Proofs.Ytpkfakndlbngbaa.MN
set_option linter.unusedVariables false
namespace FG

open Lv
/-- What the walks over a tree leave. -/
structure KX (w w' : World) : Prop where
  kv : KV w w'
  kf : KeepT 89 w w'
  kl : KeepT 93 w w'
theorem KX.refl (w : World) : KX w w := ⟨⟨.refl _ _, .refl _ _, .refl _ _⟩, .refl _ _, .refl _ _⟩
theorem KX.trans {a b c : World} (h : KX a b) (k : KX b c) : KX a c := ⟨h.kv.trans k.kv, h.kf.trans k.kf, h.kl.trans k.kl⟩
theorem KX.same {X Y w : World} (h : KX X w) (s : Same X Y) : KX Y w := ⟨⟨keep_same h.kv.hv s, keep_same h.kv.ht s, keep_same h.kv.hp s⟩, keep_same h.kf s, keep_same h.kl s⟩
theorem KX.set {w : World} {k i : Nat} {c : Array Value} {v : Value} (hk : w.heap[k]? = some (.cells c 22 (0, 0))) : KX w (w.setCell ⟨k, i, none⟩ v) := ⟨⟨.setCell hk (by decide), .setCell hk (by decide), .setCell hk (by decide)⟩, .setCell hk (by decide), .setCell hk (by decide)⟩
theorem KX.app {w1 w2 : World} (kk : ∀ T, (3 : TypeId) ≠ T → KeepT T w1 w2) : KX w1 w2 := ⟨⟨kk _ (by decide), kk _ (by decide), kk _ (by decide)⟩, kk _ (by decide), kk _ (by decide)⟩
theorem kx_same {w W : World} (s : Same W w) : KX w W := ⟨⟨fun k c h => by rw [s.heap]; exact h, fun k c h => by rw [s.heap]; exact h, fun k c h => by rw [s.heap]; exact h⟩, fun k c h => by rw [s.heap]; exact h, fun k c h => by rw [s.heap]; exact h⟩
theorem below_of_same {n : Nat} {w W : World} (s : Same W w) : Below n w W := ⟨s.os, s.tape, s.output, by rw [s.heap]; exact Nat.le_refl _, fun k _ => by rw [s.heap]⟩
theorem tsL_take_snoc (ts : List Th) (k : Nat) (h : k < ts.length) : tsL (ts.take (k + 1)) = tsL (ts.take k) ++ (ts[k]?.getD (.leaf 0)).toL := by
  rw [List.take_add_one, tsL_append, List.getElem?_eq_getElem h]
  simp [tsL]
theorem walk_nil (A B : Nat) (w : World) : Calls Try.prog 45 #[.slice none 0 0, .pointer (some ⟨B, 0, none⟩), .pointer (some ⟨A, 0, none⟩)] w fun e w' => e = .returned (.tuple #[]) ∧ w' = w := by
  go_enter Try.func45, Try.ntmps45
  go_wp2_with fail
  go_loopw [8] (fun i wr => i = .int .i64 0 ∧ wr = w) (fun i _ => 0)
  case atStart => exact ⟨rfl, rfl⟩
  case round =>
    obtain ⟨rfl, rfl⟩ := hrel
    go_wp2_with fail
    go_end0
    exact ⟨rfl, rfl⟩
/-- What the walk over things of d levels is to do. -/
def WalksAt (d : Nat) : Prop := ∀ (ts : List Th) (a : Option Addr) (n c A B : Nat) (v0 : Value) (xs : List Int) (base : Nat) (w : World), Dg w a n c ts → All d ts →
    w.heap[A]? = some (.cells #[.func (.func 45) #[] #[.pointer (some ⟨B, 0, none⟩), .pointer (some ⟨A, 0, none⟩)]] 89 (0, 0)) → Rw w B base v0 xs → base ≤ B → base ≤ w.heap.size → xs.length + tsN ts ≤ 17592186044416 →
    Calls Try.prog 45 #[.slice a n c, .pointer (some ⟨B, 0, none⟩), .pointer (some ⟨A, 0, none⟩)] w fun e w' => e = .returned (.tuple #[]) ∧ ∃ v', Rw w' B base v' (xs ++ tsL ts) ∧ KX w w' ∧ Below base w w'
set_option maxHeartbeats 2000000 in
set_option maxRecDepth 100000 in
theorem walk_step (d : Nat) (ih : ∀ k, d = k + 1 → WalksAt k) : WalksAt d := by
  intro ts a n c A B v0 xs base w hD hAll hA0 R0 hB hS0 hn
  obtain ⟨i0, hi0, hz0, hz1, hz2⟩ := info_parts Try.infoInt
  have hlen := hD.len
  obtain ⟨ps, hp, hl⟩ := hD
  have hm := hp.hmax
  have hm2 := hp.hcap
  unfold maxLen at hm
  have HP := Lib.hid hp
  have HI := Lib.hid hl
  have HLEN := Lib.hid hlen
  have HALL := Lib.hid hAll
  have HSZ := Lib.hid hn
  have HA := Lib.hid hA0
  have HR := Lib.hid R0
  have IH := Lib.hid ih
  clear hp hl hlen hAll hn hA0 R0 ih
  go_enter Try.func45, Try.ntmps45
  go_wp2_with fail
  go_loopw [8] (fun i wr => ∃ (k : Nat) (v1 : Value), k ≤ n ∧ i = .int .i64 k ∧ Rw wr B base v1 (xs ++ tsL (ts.take k)) ∧ KX w wr ∧ Below base w wr) (fun i _ => n - (intOf i).toNat)
  case atStart => exact ⟨0, v0, Nat.zero_le _, rfl, by simpa [tsL] using HR.out, KX.refl _, Below.refl _ _⟩
  case round =>
    obtain ⟨k, v1, hk, rfl, R1, kx, hbr⟩ := hrel
    by_cases hlt : k < n
    · obtain ⟨bp, offp, rfl, hbl, hc⟩ := (HP.out.keep kx.kv.hp).cell (by omega)
      have g := hc k hlt
      have hT := (HI.out.keep kx.kv).get k (by have := HLEN.out; omega)
      have hdk := at_dp HALL.out (k := k) (by have := HLEN.out; omega)
      have HTK := Lib.hid (tsL_take_snoc ts k (by have := HLEN.out; omega))
      have e1 := tsN_take_snoc ts k (by have := HLEN.out; omega)
      have e2 := tsN_take_le ts (k + 1)
      have hA1 := kx.kf _ _ HA.out
      have hSr : base ≤ wr.heap.size := Nat.le_trans hS0 hbr.size
      have hsz : xs.length + tsN (ts.take k) + (ts[k]?.getD (.leaf 0)).size ≤ 17592186044416 := by have := HSZ.out; omega
      obtain ⟨q, hq⟩ : ∃ q, ps[k]?.getD none = q := ⟨_, rfl⟩
      obtain ⟨t, ht⟩ : ∃ t, ts[k]?.getD (.leaf 0) = t := ⟨_, rfl⟩
      rw [hq] at g hT
      rw [ht] at hT hdk HTK hsz
      have hlti : (k : Int) < (n : Int) := by omega
      have A1 := (blk hA1).1 0
      clear hc hq ht e1 e2
      cases t with
      | leaf y =>
        obtain ⟨bt, mt, rfl, hmt, hbt⟩ := hT
        obtain ⟨c1, _, c3⟩ := blk hbt
        have k5 : wr.cell? ⟨bt, 5, none⟩ = some (.int .i64 y) := c1 5
        have k6 : wr.cell? ⟨bt, 6, none⟩ = some (.slice none 0 0) := c1 6
        have hql : ∀ W : World, (binOp .eql 90 (.slice none 0 0) (.slice none 0 0)).run Try.prog W = .ok (.bool true) W := fun W => eql_things_nil none 0 0 W
        have Bc := (blk R1.blk).1 0
        have Bf := (blk R1.blk).2.1 0
        have Blt := (blk R1.blk).2.2
        have hne : ¬ B = wr.heap.size := by omega
        have hne2 : ¬ bt = wr.heap.size := by omega
        obtain ⟨n1, hn1⟩ : ∃ n1, (xs ++ tsL (ts.take k)).length = n1 := ⟨_, rfl⟩
        have O1 := R1.own
        rw [hn1] at O1
        have hn1' : n1 + 1 ≤ 17592186044416 := by rw [← hn1, List.length_append, tsL_len]; simpa [Th.size] using hsz
        have HN1 := Lib.hid hn1
        have HBT := Lib.hid hbt
        have HA1 := Lib.hid hA1
        clear hn1 c1 hmt hbt hsz hdk hA1
        go_wp2_with fail
        go_region_law (refine step_append_any _ rfl (.tmp 17) (.tmp 22) 22 rfl base 3 i0 (.int .i64 0) 1 8 Try.underlying22 hi0 hz0 hz1 hz2 rfl (by decide) v1 n1 _ rfl (by exact World.ownsRow.alloc (own_same (w := wr) O1 ⟨rfl, rfl, rfl, rfl⟩) _) _ (some ⟨wr.heap.size, 0, none⟩) 1 1 [.int .i64 y] rfl (Reads.of_own (World.ownsRow_lit (base := wr.heap.size) (e := 3) (size := 1) _ #[.int .i64 y] 1 (by simp) (by decide) rfl)) (by simp [Value.oneCell']) (by unfold maxLen; omega) (by omega) (by simp; omega) ?_; intro v2 w2 hown2 hg2 hat2; obtain ⟨g2, cap2, rfl⟩ := own_succ hown2; obtain ⟨kk, hb2⟩ := app_keeps (w1 := wr) (o := .cells #[.int .i64 y] 3) O1 hg2 hSr ⟨rfl, rfl, rfl, rfl⟩; have hB2 := kk 22 (by decide) _ _ R1.blk; have Bc2 := (blk hB2).1 0; have Bf2 := (blk hB2).2.1 0)
        all_goals
          have R2 : Rw (w2.setCell ⟨B, 0, none⟩ (.slice (some ⟨g2, 0, none⟩) (n1 + 1) cap2)) B base (.slice (some ⟨g2, 0, none⟩) (n1 + 1) cap2) (xs ++ tsL (ts.take (k + 1))) := ⟨blk_set hB2, own_keep (by rw [HTK.out, ← List.append_assoc, List.length_append, HN1.out, List.map_append]; exact hown2) (.setCell hB2 (by decide))⟩
          have kx2 : KX wr (w2.setCell ⟨B, 0, none⟩ (.slice (some ⟨g2, 0, none⟩) (n1 + 1) cap2)) := (KX.app kk).trans (.set hB2)
          have hb22 : Below base wr (w2.setCell ⟨B, 0, none⟩ (.slice (some ⟨g2, 0, none⟩) (n1 + 1) cap2)) := hb2.setCell (p := ⟨B, 0, none⟩) hB _
          have hA2 := kx2.kf _ _ HA1.out
          have hT2 := kx2.kv.ht _ _ HBT.out
          obtain ⟨W2, hW2⟩ : ∃ W2, w2.setCell ⟨B, 0, none⟩ (.slice (some ⟨g2, 0, none⟩) (n1 + 1) cap2) = W2 := ⟨_, rfl⟩
          rw [hW2] at R2 kx2 hb22 hA2 hT2 ⊢
          clear hW2 A1 k5 k6 Blt hne hne2 Bc Bf Bc2 Bf2 hB2 c3
          have A2 := (blk hA2).1 0
          have N2 := (blk hT2).1 6
          have N2l := (blk hT2).2.2
          go_wp2_with fail
          go_region_held3 (fun w' => w'.cell? ⟨A, 0, none⟩ = some (.func (.func 45) #[] #[.pointer (some ⟨B, 0, none⟩), .pointer (some ⟨A, 0, none⟩)]) ∧ w'.cell? ⟨bt, 6, none⟩ = some (.slice none 0 0)) (go_keep) (first
            | (go_at_call 45; refine (walk_nil A B _).mono ?_; rintro e w3 ⟨rfl, hw3⟩; have s3 : Same w3 W2 := (by rw [hw3]; exact ⟨rfl, rfl, rfl, rfl⟩); have hA3 := kx_same s3 |>.kf _ _ hA2; have hT3 := kx_same s3 |>.kv.ht _ _ hT2; have A3 := (blk hA3).1 0; have N3 := (blk hT3).1 6))
          go_wp2_with fail
          go_roundw
          case rel => exact ⟨k + 1, _, by omega, by go_num, R2.same (by first | exact s3 | exact ⟨rfl, rfl, rfl, rfl⟩), (kx.trans kx2).trans (kx_same (by first | exact s3 | exact ⟨rfl, rfl, rfl, rfl⟩)), (hbr.trans hb22).trans (below_of_same (by first | exact s3 | exact ⟨rfl, rfl, rfl, rfl⟩))⟩
          case measure => simp [intOf]; omega
      | node t u v =>
        obtain ⟨dk, rfl, dt, du, dv⟩ := hdk
        obtain ⟨bt, mt, pt, pu, pv, ak, ck, rfl, hmt, hbt, hpk, q1, q2, q3⟩ := hT
        obtain ⟨c1, _, c3⟩ := blk hbt
        have k6 : wr.cell? ⟨bt, 6, none⟩ = some (.slice ak 3 ck) := c1 6
        have hkd : Dg wr ak 3 ck [t, u, v] := ⟨_, hpk, q1, q2, q3, trivial⟩
        clear c1 hmt hpk q1 q2 q3
        obtain ⟨bk, ok, rfl⟩ := hkd.addr (by omega)
        have hql : ∀ W : World, (binOp .eql 90 (.slice (some ⟨bk, ok, none⟩) 3 ck) (.slice none 0 0)).run Try.prog W = .ok (.bool false) W := fun W => eql_things_nil (some ⟨bk, ok, none⟩) 3 ck W
        have CALL : Hid (∀ W, Same W wr → Calls Try.prog 45 #[.slice (some ⟨bk, ok, none⟩) 3 ck, .pointer (some ⟨B, 0, none⟩), .pointer (some ⟨A, 0, none⟩)] W fun e w' => e = .returned (.tuple #[]) ∧ ∃ v', Rw w' B base v' (xs ++ tsL (ts.take k) ++ tsL [t, u, v]) ∧ KX wr w' ∧ Below base wr w') := Lib.hid (fun W s => by
          have hk3 : KX wr W := kx_same s
          have := IH.out dk rfl [t, u, v] _ 3 ck A B v1 (xs ++ tsL (ts.take k)) base W (hkd.keep hk3.kv) (All.cons dt (All.cons du (All.cons dv (All.nil _)))) (hk3.kf _ _ hA1) (R1.same s) hB (by rw [s.heap]; exact hSr) (by rw [List.length_append, tsL_len]; have e : tsN [t, u, v] = (Th.node t u v).size := (by simp [tsN, Th.size]); omega)
          refine this.mono ?_
          rintro e w' ⟨rfl, v', R', kx', hb'⟩
          exact ⟨rfl, v', R', hk3.trans kx', (below_of_same s).trans hb'⟩)
        clear hsz
        go_wp2_with fail
        go_region_held3 (fun w' => w'.cell? ⟨A, 0, none⟩ = some (.func (.func 45) #[] #[.pointer (some ⟨B, 0, none⟩), .pointer (some ⟨A, 0, none⟩)]) ∧ w'.cell? ⟨bt, 6, none⟩ = some (.slice (some ⟨bk, ok, none⟩) 3 ck)) (go_keep) (first
          | (go_at_call 45; refine (CALL.out _ (by exact ⟨rfl, rfl, rfl, rfl⟩)).mono ?_; rintro e w3 ⟨rfl, v3, R3, kx3, hb3⟩; have hA3 := kx3.kf _ _ hA1; have A3 := (blk hA3).1 0; have hT3 := kx3.kv.ht _ _ hbt; have N3 := (blk hT3).1 6))
        go_wp2_with fail
        go_roundw
        case rel => exact ⟨k + 1, v3, by omega, by go_num, by rw [HTK.out, ← List.append_assoc]; simpa [tsL, Th.toL] using R3, kx.trans kx3, hbr.trans hb3⟩
        case measure => simp [intOf]; omega
    · have hxs : ts.take k = ts := List.take_of_length_le (by have := HLEN.out; omega)
      rw [hxs] at R1
      clear hxs
      go_wp2_with fail
      go_end0
      exact ⟨rfl, v1, R1, kx, hbr⟩
end FG
end Go.Proofs.Ytpkfakndlbngbaa
