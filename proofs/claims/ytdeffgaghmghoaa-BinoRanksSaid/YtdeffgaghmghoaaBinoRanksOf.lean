/-
  Binomial heaps: the ranks of the trees are the bits of the number. Conditions: at most 2^46 numbers.
-/
import Derived.Test.YtdeffgaghmghoaaBinoed
namespace Go.Proofs.Ytdeffgaghmghoaa
open Go.RowKit Go.Deep
set_option linter.unusedVariables false
namespace BH
open BN
def bitsI (n : Nat) : List Int := (bitsFrom 47 0 n).map (fun k : Nat => (k : Int))
theorem bits_zero (f k : Nat) : bitsFrom f k 0 = [] := by cases f <;> simp [bitsFrom]
theorem bits_step {f m : Nat} (k : Nat) (h0 : 0 < m) (h : m < 2 ^ f) : ∃ f', f = f' + 1 ∧ m / 2 < 2 ^ f' ∧ bitsFrom f k m = (if m % 2 = 1 then [k] else []) ++ bitsFrom f' (k + 1) (m / 2) := by
  cases f with
  | zero => simp at h; omega
  | succ f =>
    rw [Nat.pow_succ] at h
    refine ⟨f, rfl, by omega, ?_⟩
    rw [bitsFrom, if_neg (by omega)]
    split <;> rfl
theorem bits_length : ∀ (f k m : Nat), (bitsFrom f k m).length ≤ f := by
  intro f
  induction f with
  | zero => intro k m; exact Nat.le_refl _
  | succ f ih =>
    intro k m
    unfold bitsFrom
    have := ih (k + 1) (m / 2)
    split
    · simp
    · split
      · rw [List.length_cons]; omega
      · omega
set_option maxHeartbeats 800000 in
theorem ranks_any (s : BH) (a : Option Addr) (n c : Nat) (w : World) (h : In w a n c s) :
    Calls Try.prog 11 #[.agg #[.slice a n c]] w fun e w' => ∃ v, e = .returned v ∧ w'.ownsRow w.heap.size 3 1 v (bitsI s.size).length ((bitsI s.size).map (Value.int .i64)) ∧ Below w.heap.size w w' := by
  obtain ⟨i0, hi0, hz0, hz1, hz2⟩ := info_parts Try.infoInt
  obtain ⟨ts, h1, rfl, hs⟩ := h
  rw [mk_size] at hs ⊢
  have hb := ranks_bits h1.2 47 (by have e : (2 : Nat) ^ 47 = 140737488355328 := by decide
                                    omega)
  have hl := h1.len
  have hl47 := good_len h1.2 hs
  have e : bitsI (allL ts).length = ts.map (fun t => (t.2.1 : Int)) := by
    unfold bitsI
    rw [← hb, List.map_map]
    rfl
  rw [e]
  have hm : n ≤ maxLen := by obtain ⟨⟨ps, h1, _⟩, _⟩ := h1; exact Nat.le_trans h1.hcap h1.hmax
  unfold maxLen at hm
  have HH := Lib.hid h1
  have HL := Lib.hid hl
  have hn : n ≤ 47 := by omega
  clear h1 e hb hl hs
  go_enter Try.func11, Try.ntmps11
  go_wp2_with fail
  go_loopw [3, 9] (fun b i wr => ∃ k : Nat, k ≤ n ∧ i = .int .i64 (k : Int) ∧ wr.ownsRow w.heap.size 3 1 b k ((ts.take k).map (fun t => Value.int .i64 (t.2.1 : Int))) ∧ Below w.heap.size w wr) (fun _ i _ => n - (intOf i).toNat)
  case atStart => exact ⟨0, Nat.zero_le _, rfl, World.ownsRow_nil _ _ _ _, (Below.refl _ _).alloc (Nat.le_refl _) _⟩
  case round =>
    obtain ⟨k, hk, rfl, hown, hb⟩ := hrel
    by_cases hlt : k < n
    · have hlti : (k : Int) < (n : Int) := by omega
      obtain ⟨b, off, bt, t, qs, ka, km, kc, rfl, hbl, ht, g0, g1, _, _⟩ := HH.out.at_ k hlt
      have z1 : w.cell? ⟨bt, 1, none⟩ = some (.int .i64 (t.2.1 : Int)) := (blk g1).1 1
      have lt1 := (blk g1).2.2
      have y0 := (hb.cell (p := ⟨b, off + k, none⟩) hbl).trans g0
      have y1 := (hb.cell (p := ⟨bt, 1, none⟩) lt1).trans z1
      have ht2 : ts.take (k + 1) = ts.take k ++ [t] := by
        rw [List.take_add_one, ht]; rfl
      have HT2 := Lib.hid ht2
      obtain ⟨r, hr⟩ : ∃ r : Nat, t.2.1 = r := ⟨_, rfl⟩
      rw [hr] at y1
      have HR := Lib.hid hr
      have hbs := hb.size
      clear g0 g1 z1 ht ht2 hr
      go_wp2_with (at_builtin; refine wpList_append_own _ rfl _ _ 22 rfl w.heap.size 3 i0 (.int .i64 0) 1 8 Try.underlying22 hi0 hz0 hz1 hz2 rfl (by decide) _ _ _ rfl (hown.alloc _) ⟨wr.heap.size, 0, none⟩ 1 1 [.int .i64 (r : Int)] rfl rfl (cell_one_new _ _ _) (by simp [Value.oneCell']) (by unfold maxLen; omega) (by omega) (by simp; omega) ?_; intro v' w2 hown' hgrow _)
      go_roundw
      case rel =>
        refine ⟨k + 1, by omega, by go_num, ?_, below_grown (hb.alloc hbs _) (hown.alloc _) hgrow (Nat.le_refl _) (by simp; omega)⟩
        rw [HT2.out, List.map_append]
        simpa [HR.out] using hown'
      case measure => simp [intOf]; omega
    · obtain rfl : k = n := by omega
      have e : ts.take k = ts := List.take_of_length_le (by rw [HL.out]; exact Nat.le_refl _)
      rw [e] at hown
      have HO := Lib.hid hown
      clear e hown
      go_wp2_with fail
      go_ret
      refine ⟨_, rfl, ?_, hb⟩
      have := HO.out
      rw [List.map_map, List.length_map, ← HL.out]
      exact this
end BH
end Go.Proofs.Ytdeffgaghmghoaa
