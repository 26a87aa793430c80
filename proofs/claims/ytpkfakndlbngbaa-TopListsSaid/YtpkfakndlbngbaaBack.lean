/-
  A loop over a slice from behind, as a contract for whatever body. Conditions: no more than 2^44 numbers.
-/
import Derived.Test.YtpkfakndlbngbaaListRev
namespace Go.Proofs.Ytpkfakndlbngbaa
open Go.RowKit Go.Deep Go.Shelf
set_option linter.unusedVariables false
attribute [local go_sem] Oper.semAt_some
namespace LI
theorem backward_any (a : Option Addr) (n c : Nat) (w : World) : Calls Try.prog 20 #[.slice a n c] w fun e w' =>
    e = .returned (.func (.func 35) #[] #[.pointer (some ⟨w.heap.size, 0, none⟩)]) ∧ w' = w.alloc (.cells #[.slice a n c] 22) := by
  go_enter Try.func20, Try.ntmps20
  go_wp2_with fail
  go_ret
  exact ⟨rfl, rfl⟩

/-- What the loop over a slice from behind reads stays. -/
def KeepB (n₀ Bs : Nat) (X : Array Value) (W W' : World) : Prop := Below n₀ W W' ∧ (W.heap[Bs]? = some (.cells X 22 (0, 0)) → W'.heap[Bs]? = some (.cells X 22 (0, 0)))
theorem KeepB.trans {n₀ Bs : Nat} {X : Array Value} {A B C : World} (h : KeepB n₀ Bs X A B) (k : KeepB n₀ Bs X B C) : KeepB n₀ Bs X A C := ⟨h.1.trans k.1, fun e => k.2 (h.2 e)⟩
theorem keepB_b {n₀ Bs : Nat} {X : Array Value} {w : World} (hn : n₀ ≤ w.heap.size) (W : World) (l : Nat) (o o' : Obj) (hl : w.heap.size ≤ l) (h : W.heap[l]? = some o) (hc : o.isCells = false) (hw : o.isWalk = false) : KeepB n₀ Bs X W (W.putObj l o') := ⟨belowK_b hn W l o o' hl h hc hw, fun hb => by
  have hne : l ≠ Bs := by
    rintro rfl
    rw [h] at hb
    cases hb
    cases hc
  exact (World.putObj_heap_other (fun e => hne e.symm)).trans hb⟩

set_option maxRecDepth 100000 in
set_option maxHeartbeats 400000 in
theorem back1_in (F : Fence) (n : Nat) (h6 : F.fn 35) (hro : F.round = none) (hn : 1 ≤ n) (l Bs : Nat) (a : Option Addr) (m c : Nat) (xs : List Int) (w0 : World) (hS : Sl w0 a m c xs) (hm : m ≤ 17592186044416) (J Jx : List (Int × Int) → World → Prop)
    (hY : ∀ pre x W, J pre W → pre.length < m → YieldAt F (n - 1) Try.prog l #[.int .i64 x.1, .int .i64 x.2] W fun e W' =>
      (e = .returned (.bool true) ∧ J (pre ++ [x]) W' ∧ KeepB w0.heap.size Bs #[.slice a m c] W W') ∨ (e = .returned (.bool false) ∧ Jx (pre ++ [x]) W'))
    (W : World) (hW : Below w0.heap.size w0 W) (hBn : W.heap[Bs]? = some (.cells #[.slice a m c] 22 (0, 0))) (h0 : J [] W) :
    CallsIn F n Try.prog 35 #[.func (.yield l) #[] #[], .pointer (some ⟨Bs, 0, none⟩)] W fun e W' => (∃ v, e = .returned v) ∧
      ((∃ ys : List (Int × Int), ys.map Prod.snd = xs.reverse ∧ J ys W') ∨ (∃ pre, True ∧ Jx pre W')) := by
  have hlen := hS.hlen
  obtain ⟨c0, c1, c2⟩ := blk hBn
  have d0 := c0 0
  clear c0
  have e0 : wrap64 ((m : Int) - 1) = (m : Int) - 1 := by unfold wrap64; omega
  refine callsIn_of_wp Try.func35 rfl h6 ?_ hro
  simp only [Try.ntmps35, List.size_toArray, List.length_cons, List.length_nil, Nat.reduceAdd, Nat.reduceSub, Array.replicate_succ, Array.replicate_zero, List.push_toArray, List.append_toArray, List.nil_append, List.cons_append]
  gi_wp2
  gi_loopw [3] (fun i wr => ∃ (j : Nat) (pre : List (Int × Int)), j ≤ m ∧ i = .int .i64 ((j : Int) - 1) ∧ pre.map Prod.snd = (xs.drop j).reverse ∧ pre.length = m - j ∧ J pre wr ∧ Below w0.heap.size w0 wr ∧ wr.heap[Bs]? = some (.cells #[.slice a m c] 22 (0, 0))) (fun i _ => ((intOf i) + 1).toNat)
  case atStart =>
    exact ⟨m, [], Nat.le_refl _, rfl, by rw [List.drop_eq_nil_of_le (by omega)]; rfl, by simp, h0, hW, hBn⟩
  case round =>
    obtain ⟨j, pre, hj, rfl, hp, hpl, hJs, hwr, hbs⟩ := hrel
    clear d0 c1 c2 e0
    obtain ⟨c0, c1, c2⟩ := blk hbs
    have d0 := c0 0
    have HBS := Lib.hid hbs
    clear c0 hbs
    cases j with
    | zero =>
      gi_wp2
      go_end0
      exact ⟨⟨_, rfl⟩, .inl ⟨pre, by simpa using hp, hJs⟩⟩
    | succ t =>
      have ht : (((t + 1 : Nat) : Int)) - 1 = (t : Int) := by omega
      rw [ht]
      clear ht
      obtain ⟨b, off, ha, hbl, hc⟩ := hS.hat (by omega)
      subst ha
      have g := (hwr.cell (p := ⟨b, off + t, none⟩) hbl).trans (hc t (by omega))
      clear hc
      have htm : (t : Int) < (m : Int) := by omega
      have e1 : wrap64 ((t : Int) - 1) = (t : Int) - 1 := by unfold wrap64; omega
      have hdrop : xs.drop t = (xs[t]?.getD 0) :: xs.drop (t + 1) := by
        rw [List.drop_eq_getElem_cons (by omega), List.getElem?_eq_getElem (by omega)]
        rfl
      have HD := Lib.hid hdrop
      have HP := Lib.hid hp
      clear hdrop hp
      obtain ⟨fn, tmps, assign, body, hy, hR⟩ := hY pre ((t : Int), xs[t]?.getD 0) wr hJs (by omega)
      gi_wp2
      refine hR.mono ?_
      rintro e W3 (⟨rfl, hJ3, hk3⟩ | ⟨rfl, hJx3⟩)
      · gi_wp2
        go_roundw
        case rel => exact ⟨t, pre ++ [((t : Int), xs[t]?.getD 0)], by omega, rfl, by rw [List.map_append, HP.out, HD.out]; simp, by simp; omega, hJ3, hwr.trans hk3.1, hk3.2 HBS.out⟩
        case measure => simp [intOf]; try omega
      · gi_wp2
        refine bodyPost_ret (results_none rfl _ _ _) rfl ?_
        exact ⟨⟨_, rfl⟩, .inr ⟨_, trivial, hJx3⟩⟩

theorem back_stops (F : Fence) (n : Nat) (h6 : F.fn 35) (hro : F.round = none) (hn : 1 ≤ n) (Bs : Nat) (a : Option Addr) (m c : Nat) (xs : List Int) (w0 w : World) (hS : Sl w0 a m c xs) (hm : m ≤ 17592186044416) (hw : Below w0.heap.size w0 w)
    (hc : w.heap[Bs]? = some (.cells #[.slice a m c] 22 (0, 0))) :
    SeqStopsK F n Try.prog 35 #[.pointer (some ⟨Bs, 0, none⟩)] (fun x : Int × Int => #[Value.int .i64 x.1, Value.int .i64 x.2]) (KeepB w0.heap.size Bs #[.slice a m c]) (fun ys => ys.map Prod.snd = xs.reverse) (fun _ => True) m w := fun l J Jx W hW _ _ hY h0 =>
  back1_in F n h6 hro hn l Bs a m c xs w0 hS hm J Jx hY W (hw.trans (hW.mono hw.size)) (blk_below hc hW) h0

end LI
end Go.Proofs.Ytpkfakndlbngbaa
