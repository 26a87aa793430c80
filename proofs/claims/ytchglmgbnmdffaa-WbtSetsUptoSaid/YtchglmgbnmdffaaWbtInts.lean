/-
  Wbt: all, rising. Conditions: sizes below 2^60.
-/
import Derived.Test.YtchglmgbnmdffaaWbtAsk
import Derived.Test.YtchglmgbnmdffaaApp
import Derived.Test.YtchglmgbnmdffaaSame
namespace Go.Proofs.Ytchglmgbnmdffaa.WBT
open Go.RowKit Go.Deep
open Go.Proofs.Ytchglmgbnmdffaa Go.Proofs.Ytchglmgbnmdffaa.ST

theorem own_mono' {w : World} {base base' : Nat} {e : TypeId} {size : Nat} {v : Value} {n : Nat} {xs : List Value} (h : w.ownsRow base' e size v n xs) (hb : base ≤ base' := by omega) : w.ownsRow base e size v n xs := by
  refine ⟨h.1, ?_⟩
  rcases h.2 with hn | ⟨g, cap, cur, hv, hg, r⟩
  · exact .inl hn
  · exact .inr ⟨g, cap, cur, hv, Nat.le_trans hb hg, r⟩

set_option linter.unusedVariables false
set_option maxRecDepth 100000 in
set_option maxHeartbeats 1600000 in
theorem ints_any (t : ST) (p : Option Addr) (w : World) (h : In w p t) (hs : t.size ≤ 17592186044416) :
    Calls Try.prog 20 #[.agg #[.pointer p]] w fun e w' => ∃ v, e = .returned v ∧ w'.ownsRow w.heap.size 3 1 v t.toL.length (t.toL.map (Value.int .i64)) ∧ Below w.heap.size w w' := by
  obtain ⟨i0, hi0, hz0, hz1, hz2⟩ := info_parts Try.infoInt
  obtain ⟨n, hn⟩ : ∃ n, t.size = n := ⟨_, rfl⟩
  have LS := fun W hW => len_set t p W hW
  have AS := fun (k : Nat) (hk : k < t.size) W hW => at_yes t k p W hW (by omega) hk
  have TL := toL_length t
  rw [hn] at LS AS TL hs
  have LSH := Lib.hid LS
  have ASH := Lib.hid AS
  have TLH := Lib.hid TL
  clear hn LS AS TL
  go_enter Try.func20, Try.ntmps20
  go_wp2_with fail
  refine (LSH.out _ (h.alloc _)).mono ?_
  rintro e w1 ⟨rfl, b1⟩
  obtain ⟨b1, x0⟩ := hold1 b1 ⟨rfl, rfl, rfl, rfl⟩
  have h1 := h.below b1
  go_wp2_with fail
  go_loopw [3, 9] (fun v i wr => ∃ k : Nat, k ≤ n ∧ i = .int .i64 (k : Int) ∧ wr.ownsRow (w.heap.size + 1) 3 1 v k ((t.toL.take k).map (Value.int .i64)) ∧ In wr p t ∧ wr.heap[w.heap.size]? = some (.cells #[.pointer p] 26 (0, 0)) ∧ Below w.heap.size w wr) (fun _ i _ => n - (intOf i).toNat)
  case atStart => exact ⟨0, Nat.zero_le _, rfl, World.ownsRow_nil _ _ _ _, h1, x0, b1⟩
  case round =>
    obtain ⟨k, hk, rfl, ho, hi, hx, hb⟩ := hrel
    clear h1 x0
    by_cases hlt : k < n
    · have c0 := (blk hx).1 0
      have hlti : (k : Int) < (n : Int) := by omega
      have tk := take_snoc' t.toL k (by have := TLH.out; omega)
      obtain ⟨y, hy⟩ : ∃ y, t.toL[k]?.getD 0 = y := ⟨_, rfl⟩
      have AS := ASH.out k hlt
      rw [hy] at AS tk
      have AH := Lib.hid AS
      have TK := Lib.hid tk
      have HX := Lib.hid hx
      clear AS tk hx hy
      go_wp2_with fail
      refine (AH.out _ hi).mono ?_
      rintro e w2 ⟨rfl, b2⟩
      have ho2 := own_keep ho (.of_below b2)
      have hi2 := hi.below b2
      have hx2 := blk_below HX.out b2
      have hb2 := below_then hb b2
      have hs2 := hb2.size
      have xlt := (blk hx2).2.2
      clear c0
      go_wp2_with (at_builtin; refine wpList_append_own _ rfl _ _ 22 rfl (w.heap.size + 1) 3 i0 (.int .i64 0) 1 8 Try.underlying22 hi0 hz0 hz1 hz2 rfl (by decide) _ _ _ rfl (ho2.alloc _) ⟨w2.heap.size, 0, none⟩ 1 1 [.int .i64 y] rfl rfl (cell_one_new _ _ _) (by simp [Value.oneCell']) (by unfold maxLen; omega) (by omega) (by simp; omega) ?_; intro v' w3 hown' hgrow _)
      have hb3 : Below w.heap.size w w3 := below_grown (hb2.alloc hs2 _) (ho2.alloc _) hgrow (by omega) (by simp; omega)
      have hbx : Below (w.heap.size + 1) w2 w3 := below_grown ((Below.refl _ _).alloc (by omega) _) (ho2.alloc _) hgrow (Nat.le_refl _) (by simp; omega)
      have hk3 : KeepT 61 w2 w3 := ((KeepT.refl _ _).alloc _).trans (.of_grown (ho2.alloc _) hgrow (by decide))
      have hx3 : w3.heap[w.heap.size]? = some (.cells #[.pointer p] 26 (0, 0)) := (hbx.block _ (by omega)).trans hx2
      go_roundw
      case rel => exact ⟨k + 1, by omega, by go_num, by rw [TK.out, List.map_append]; exact hown', hi2.keep hk3, hx3, hb3⟩
      case measure => simp [intOf]; omega
    · have he : k = n := by omega
      subst he
      go_wp2_with fail
      go_ret
      rw [List.take_of_length_le (by have := TLH.out; omega)] at ho
      exact ⟨_, rfl, own_mono' (by have := TLH.out; rw [this]; exact ho), hb⟩
end Go.Proofs.Ytchglmgbnmdffaa.WBT
