/-
  A loop over one thing from behind, as a contract for whatever body. Conditions: none.
-/
import Derived.Test.YtpkfakndlbngbaaMFk
import Derived.Test.YtpkfakndlbngbaaListRev
namespace Go.Proofs.Ytpkfakndlbngbaa
open Go.RowKit Go.Deep Go.Shelf
open Go.Proofs.Ytpkfakndlbngbaa.MN
set_option linter.unusedVariables false
attribute [local go_sem] Oper.semAt_some
namespace FG

open Lv
theorem backT_any (a : Option Addr) (n c : Nat) (w : World) : Calls Try.prog 58 #[.slice a n c] w fun e w' =>
    e = .returned (.func (.func 68) #[] #[.pointer (some ⟨w.heap.size, 0, none⟩)]) ∧ w' = w.alloc (.cells #[.slice a n c] 90) := by
  go_enter Try.func58, Try.ntmps58
  go_wp2_with fail
  go_ret
  exact ⟨rfl, rfl⟩
/-- What the loop over a slice of one thing reads stays. -/
def KeepJ (Bs Rk : Nat) (x : Option Addr) (W W' : World) : Prop := W.heap.size ≤ W'.heap.size ∧ (W.heap[Bs]? = some (.cells #[.slice (some ⟨Rk, 0, none⟩) 1 1] 90 (0, 0)) → W'.heap[Bs]? = some (.cells #[.slice (some ⟨Rk, 0, none⟩) 1 1] 90 (0, 0))) ∧ (W.heap[Rk]? = some (.cells #[.pointer x] 84 (0, 0)) → W'.heap[Rk]? = some (.cells #[.pointer x] 84 (0, 0)))
theorem KeepJ.trans {Bs Rk : Nat} {x : Option Addr} {A B C : World} (h : KeepJ Bs Rk x A B) (k : KeepJ Bs Rk x B C) : KeepJ Bs Rk x A C := ⟨Nat.le_trans h.1 k.1, fun e => k.2.1 (h.2.1 e), fun e => k.2.2 (h.2.2 e)⟩
theorem KeepJ.below {Bs Rk : Nat} {x : Option Addr} {A B : World} (h : Below A.heap.size A B) : KeepJ Bs Rk x A B := ⟨h.size, fun e => blk_below e h, fun e => blk_below e h⟩
theorem keepJ_b {Bs Rk : Nat} {x : Option Addr} (W : World) (l : Nat) (o o' : Obj) (h : W.heap[l]? = some o) (hc : o.isCells = false) : KeepJ Bs Rk x W (W.putObj l o') := by
  refine ⟨by simp [World.putObj], fun hb => ?_, fun hb => ?_⟩
  · have hne : l ≠ Bs := by
      rintro rfl
      rw [h] at hb
      cases hb
      cases hc
    exact (World.putObj_heap_other (fun e => hne e.symm)).trans hb
  · have hne : l ≠ Rk := by
      rintro rfl
      rw [h] at hb
      cases hb
      cases hc
    exact (World.putObj_heap_other (fun e => hne e.symm)).trans hb
set_option maxRecDepth 100000 in
set_option maxHeartbeats 400000 in
theorem backT_in (F : Fence) (n : Nat) (h6 : F.fn 68) (hro : F.round = none) (hn : 1 ≤ n) (l Bs Rk : Nat) (x : Option Addr) (J Jx : List Unit → World → Prop)
    (hY : ∀ pre u W, J pre W → pre.length < 1 → YieldAt F (n - 1) Try.prog l #[.int .i64 0, .pointer x] W fun e W' =>
      (e = .returned (.bool true) ∧ J (pre ++ [u]) W' ∧ KeepJ Bs Rk x W W') ∨ (e = .returned (.bool false) ∧ Jx (pre ++ [u]) W'))
    (W : World) (hBn : W.heap[Bs]? = some (.cells #[.slice (some ⟨Rk, 0, none⟩) 1 1] 90 (0, 0))) (hRn : W.heap[Rk]? = some (.cells #[.pointer x] 84 (0, 0))) (h0 : J [] W) :
    CallsIn F n Try.prog 68 #[.func (.yield l) #[] #[], .pointer (some ⟨Bs, 0, none⟩)] W fun e W' => (∃ v, e = .returned v) ∧
      ((∃ ys : List Unit, ys.length = 1 ∧ J ys W') ∨ (∃ pre, True ∧ Jx pre W')) := by
  obtain ⟨c0, c1, c2⟩ := blk hBn
  have d0 := c0 0
  clear c0
  refine callsIn_of_wp Try.func68 rfl h6 ?_ hro
  simp only [Try.ntmps68, List.size_toArray, List.length_cons, List.length_nil, Nat.reduceAdd, Nat.reduceSub, Array.replicate_succ, Array.replicate_zero, List.push_toArray, List.append_toArray, List.nil_append, List.cons_append]
  gi_wp2
  gi_loopw [3] (fun i wr => ((i = .int .i64 0 ∧ J [] wr) ∨ (i = .int .i64 (-1) ∧ J [()] wr)) ∧ wr.heap[Bs]? = some (.cells #[.slice (some ⟨Rk, 0, none⟩) 1 1] 90 (0, 0)) ∧ wr.heap[Rk]? = some (.cells #[.pointer x] 84 (0, 0))) (fun i _ => ((intOf i) + 1).toNat)
  case atStart => exact ⟨.inl ⟨rfl, h0⟩, hBn, hRn⟩
  case round =>
    obtain ⟨hj, hbs, hrs⟩ := hrel
    clear d0 c1 c2
    obtain ⟨c0, c1, c2⟩ := blk hbs
    have d0 := c0 0
    obtain ⟨g0, g1, g2⟩ := blk hrs
    have e0 := g0 0
    have HBS := Lib.hid hbs
    have HRS := Lib.hid hrs
    clear c0 g0 hbs hrs
    obtain ⟨rfl, hJ⟩ | ⟨rfl, hJ⟩ := hj
    · obtain ⟨fn, tmps, assign, body, hy, hR⟩ := hY [] () wr hJ (by simp)
      gi_wp2
      refine hR.mono ?_
      rintro e W3 (⟨rfl, hJ3, hk3⟩ | ⟨rfl, hJx3⟩)
      · gi_wp2
        go_roundw
        case rel => exact ⟨.inr ⟨rfl, hJ3⟩, hk3.2.1 HBS.out, hk3.2.2 HRS.out⟩
        case measure => simp [intOf]
      · gi_wp2
        refine bodyPost_ret (results_none rfl _ _ _) rfl ?_
        exact ⟨⟨_, rfl⟩, .inr ⟨_, trivial, hJx3⟩⟩
    · gi_wp2
      go_end0
      exact ⟨⟨_, rfl⟩, .inl ⟨[()], rfl, hJ⟩⟩
theorem backT_stops (F : Fence) (n : Nat) (h6 : F.fn 68) (hro : F.round = none) (hn : 1 ≤ n) (Bs Rk : Nat) (x : Option Addr) (w : World)
    (hc : w.heap[Bs]? = some (.cells #[.slice (some ⟨Rk, 0, none⟩) 1 1] 90 (0, 0))) (hr : w.heap[Rk]? = some (.cells #[.pointer x] 84 (0, 0))) :
    SeqStopsK F n Try.prog 68 #[.pointer (some ⟨Bs, 0, none⟩)] (fun _ : Unit => #[Value.int .i64 0, Value.pointer x]) (KeepJ Bs Rk x) (fun ys => ys.length = 1) (fun _ => True) 1 w := fun l J Jx W hW _ _ hY h0 =>
  backT_in F n h6 hro hn l Bs Rk x J Jx hY W (blk_below hc hW) (blk_below hr hW) h0
end FG
end Go.Proofs.Ytpkfakndlbngbaa
