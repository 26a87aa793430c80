/-
  The document's plain lists: turned. Conditions: no more than 2^44 numbers.
-/
import Derived.Test.YtooejhijdjcmkaaWords
import Derived.Test.YtooejhijdjcmkaaSame
namespace Go.Proofs.Ytooejhijdjcmkaa
open Go.RowKit Go.Deep
set_option linter.unusedVariables false
set_option maxHeartbeats 800000 in
theorem refrev_any (a : Option Addr) (n c : Nat) (xs : List Int) (w : World) (h : Sl w a n c xs) (hn : n ≤ 17592186044416) :
    Calls Try.prog 30 #[.slice a n c] w fun e w' => ∃ v, e = .returned v ∧ w'.ownsRow w.heap.size 3 1 v n (xs.reverse.map (Value.int .i64)) ∧ Below w.heap.size w w' := by
  obtain ⟨i0, hi0, hz0, hz1, hz2⟩ := info_parts Try.infoInt
  have HL := Lib.hid h.hlen
  have HH := Lib.hid h
  clear h
  have e0 : wrap64 ((n : Int) - 1) = (n : Int) - 1 := by unfold wrap64; omega
  go_enter Try.func30, Try.ntmps30
  go_wp2_with fail
  go_loopw [3, 4] (fun v i wr => ∃ (j : Nat), j ≤ n ∧ i = .int .i64 ((j : Int) - 1) ∧ wr.ownsRow w.heap.size 3 1 v (n - j) ((xs.drop j).reverse.map (Value.int .i64)) ∧ Below w.heap.size w wr) (fun _ i _ => ((intOf i) + 1).toNat)
  case atStart =>
    refine ⟨n, Nat.le_refl _, rfl, ?_, Below.refl _ _⟩
    rw [List.drop_eq_nil_of_le (by have := HL.out; omega), Nat.sub_self]
    exact World.ownsRow_nil _ _ _ _
  case round =>
    obtain ⟨j, hj, rfl, hown, hb⟩ := hrel
    clear e0
    cases j with
    | zero =>
      go_wp2_with fail
      go_ret
      exact ⟨_, rfl, by simpa using hown, hb⟩
    | succ t =>
      have ht : (((t + 1 : Nat) : Int)) - 1 = (t : Int) := by omega
      rw [ht]
      clear ht
      obtain ⟨b, off, rfl, hbl, hc⟩ := HH.out.hat (by omega)
      have g := (hb.cell (p := ⟨b, off + t, none⟩) hbl).trans (hc t (by omega))
      clear hc
      have htm : (t : Int) < (n : Int) := by omega
      have e1 : wrap64 ((t : Int) - 1) = (t : Int) - 1 := by unfold wrap64; omega
      have hdrop : xs.drop t = (xs[t]?.getD 0) :: xs.drop (t + 1) := by
        have := HL.out
        rw [List.drop_eq_getElem_cons (by omega), List.getElem?_eq_getElem (by omega)]
        rfl
      have HD := Lib.hid hdrop
      clear hdrop
      have hbs := hb.size
      go_wp2_with (at_builtin; refine wpList_append_own _ rfl _ _ 22 rfl w.heap.size 3 i0 (.int .i64 0) 1 8 Try.underlying22 hi0 hz0 hz1 hz2 rfl (by decide) _ _ _ rfl (hown.alloc _) ⟨wr.heap.size, 0, none⟩ 1 1 [.int .i64 (xs[t]?.getD 0)] rfl rfl (cell_one_new _ _ _) (by simp [Value.oneCell']) (by unfold maxLen; omega) (by omega) (by simp; omega) ?_; intro v' w2 hown' hgrow _)
      have hb2 : Below w.heap.size w w2 := below_grown (hb.alloc hbs _) (hown.alloc _) hgrow (Nat.le_refl _) (by simp; omega)
      go_roundw
      case rel =>
        refine ⟨t, by omega, rfl, ?_, hb2⟩
        have e : n - (t + 1) + 1 = n - t := by omega
        rw [e] at hown'
        rw [HD.out]
        simpa using hown'
      case measure => simp [intOf]; try omega
end Go.Proofs.Ytooejhijdjcmkaa
