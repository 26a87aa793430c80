/-
  How many numbers a binomial heap has. Conditions: at most 2^46 numbers.
-/
import Derived.Test.YtdeffgaghmghoaaBinoOps
namespace Go.Proofs.Ytdeffgaghmghoaa
open Go.RowKit Go.Deep
set_option linter.unusedVariables false
namespace BN
theorem allT_le {t : Tr} {ts : List Tr} (h : t ∈ ts) : (allT t).length ≤ (allL ts).length := by
  obtain ⟨pre, post, rfl⟩ := List.append_of_mem h
  rw [allL_append, allL_cons, List.length_append, List.length_append]
  omega
theorem sizeL_take (ts : List Tr) (k : Nat) (t : Tr) (h : ts[k]? = some t) : sizeL (ts.take (k + 1)) = sizeL (ts.take k) + 2 ^ t.2.1 := by
  rw [List.take_add_one, h]
  simp [sizeL]
theorem sizeL_le (ts : List Tr) (k : Nat) : sizeL (ts.take k) ≤ sizeL ts := by
  have : sizeL ts = sizeL (ts.take k) + sizeL (ts.drop k) := by
    have h : ts = ts.take k ++ ts.drop k := (List.take_append_drop k ts).symm
    have := congrArg sizeL h
    rw [this]
    unfold sizeL
    rw [List.map_append, List.sum_append]
  omega
set_option maxHeartbeats 800000 in
theorem len_any (a : Option Addr) (n c : Nat) (ts : List Tr) (w : World) (h : Hb w a n c ts) (hs : (allL ts).length ≤ 70368744177664) :
    Calls Try.prog 16 #[.agg #[.slice a n c]] w fun e w' => e = .returned (.int .i64 ((allL ts).length : Int)) ∧ Below w.heap.size w w' := by
  have HH := Lib.hid h
  have hl := h.len
  have hm : n ≤ maxLen := by obtain ⟨⟨ps, h1, _⟩, _⟩ := h; exact Nat.le_trans h1.hcap h1.hmax
  unfold maxLen at hm
  have HL := Lib.hid hl
  have hz := sizeL_all h.2.bin
  rw [← hz] at hs ⊢
  have GB := Lib.hid h.2.bin
  have HZ := Lib.hid hz
  clear h hl hz
  go_enter Try.func16, Try.ntmps16
  go_wp2_with fail
  go_loopw [3, 9] (fun b i wr => ∃ k : Nat, k ≤ n ∧ i = .int .i64 (k : Int) ∧ b = .int .i64 (sizeL (ts.take k) : Int) ∧ wr = w.alloc (.cells #[.slice a n c] 26)) (fun _ i _ => n - (intOf i).toNat)
  case atStart => exact ⟨0, Nat.zero_le _, rfl, rfl, rfl⟩
  case round =>
    obtain ⟨k, hk, rfl, rfl, rfl⟩ := hrel
    by_cases hlt : k < n
    · have hlti : (k : Int) < (n : Int) := by omega
      obtain ⟨b, off, bt, t, qs, ka, km, kc, rfl, hb, ht, g0, g1, _, _⟩ := HH.out.at_ k hlt
      have z1 : w.cell? ⟨bt, 1, none⟩ = some (.int .i64 (t.2.1 : Int)) := (blk g1).1 1
      have lt1 := (blk g1).2.2
      have hmem := List.mem_of_getElem? ht
      have hr := rank_small (GB.out t hmem) (by have := allT_le hmem; have := HZ.out; omega)
      have st := sizeL_take ts k t ht
      have sl := sizeL_le ts (k + 1)
      obtain ⟨r, hrr⟩ : ∃ r, t.2.1 = r := ⟨_, rfl⟩
      rw [hrr] at z1 hr st
      have ST := Lib.hid st
      rw [st] at sl
      obtain ⟨A, hA⟩ : ∃ A, sizeL (ts.take k) = A := ⟨_, rfl⟩
      rw [hA] at sl ST ⊢
      obtain ⟨p, hp⟩ : ∃ p, 2 ^ r = p := ⟨_, rfl⟩
      rw [hp] at sl ST
      have hpi : (2 : Int) ^ r = (p : Int) := by rw [← hp]; simp [Int.natCast_pow]
      have q1 : wrap64 ((2 : Int) ^ r) = (p : Int) := by rw [hpi]; unfold wrap64; omega
      clear hpi hp hA st hrr ht g1 hmem
      have hr0 : (0 : Int) ≤ (r : Int) := by omega
      go_wp2_with fail
      go_roundw
      case rel => exact ⟨k + 1, by omega, by go_num, by rw [ST.out]; go_num, by first | rfl | trivial⟩
      case measure => simp [intOf]; omega
    · obtain rfl : k = n := by omega
      have e : ts.take k = ts := List.take_of_length_le (by rw [HL.out]; exact Nat.le_refl _)
      rw [e]
      have E := Lib.hid e
      clear e
      go_wp2_with fail
      go_ret
      exact ⟨rfl, (Below.refl _ _).alloc (Nat.le_refl _) _⟩
end BN
end Go.Proofs.Ytdeffgaghmghoaa
