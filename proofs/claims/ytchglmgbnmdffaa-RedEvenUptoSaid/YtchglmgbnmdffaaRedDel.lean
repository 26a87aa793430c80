/-
  One number is struck out of a row of the call's own: slices.IndexFunc and slices.DeleteFunc with the closure of the set. Conditions: at most 2^44 numbers.
-/
import Derived.Test.YtchglmgbnmdffaaRedPlain
import Derived.Test.YtchglmgbnmdffaaWords
import Derived.Lib.SliceRun
namespace Go.Proofs.Ytchglmgbnmdffaa.RED
open Go.RowKit Go.Deep
open Go.Proofs.Ytchglmgbnmdffaa Go.Proofs.Ytchglmgbnmdffaa.ST

/-- The closure: is it the one? -/
theorem is_any (x y : Int) (B : Nat) (w : World) (h : w.heap[B]? = some (.cells #[.int .i64 x] 3 (0, 0))) :
    Calls Try.prog 61 #[.int .i64 y, .pointer (some ⟨B, 0, none⟩)] w fun e w' => e = .returned (.bool (y == x)) ∧ w = w' := by
  have c0 := (blk h).1 0
  go_enter Try.func61, Try.ntmps61
  go_wp2
  go_ret
  exact ⟨rfl, rfl⟩
/-- Where the first one of a number is. -/
def idxN (l : List Int) (x : Int) : Nat := (l.takeWhile fun y => !(y == x)).length
theorem idxN_lt {l : List Int} {x : Int} (h : x ∈ l) : idxN l x < l.length := by
  unfold idxN
  induction l with
  | nil => cases h
  | cons y l ih =>
    rw [List.takeWhile_cons]
    by_cases hy : y = x
    · simp [hy]
    · have : (!(y == x)) = true := by simp [hy]
      rw [if_pos this]
      have hx : x ∈ l := by
        rcases List.mem_cons.1 h with e | e
        · exact absurd e.symm hy
        · exact e
      have := ih hx
      simp only [List.length_cons]
      omega
theorem idxN_at {l : List Int} {x : Int} (h : x ∈ l) : l[idxN l x]?.getD 0 = x := by
  unfold idxN
  induction l with
  | nil => cases h
  | cons y l ih =>
    rw [List.takeWhile_cons]
    by_cases hy : y = x
    · simp [hy]
    · have : (!(y == x)) = true := by simp [hy]
      rw [if_pos this]
      have hx : x ∈ l := by
        rcases List.mem_cons.1 h with e | e
        · exact absurd e.symm hy
        · exact e
      simpa using ih hx
theorem idxN_before {l : List Int} {x : Int} : ∀ j, j < idxN l x → l[j]?.getD 0 ≠ x := by
  unfold idxN
  induction l with
  | nil => intro j h; simp at h
  | cons y l ih =>
    intro j h
    rw [List.takeWhile_cons] at h
    by_cases hy : y = x
    · simp [hy] at h
    · have : (!(y == x)) = true := by simp [hy]
      rw [if_pos this] at h
      cases j with
      | zero => simpa using hy
      | succ j => simpa using ih j (by simpa using h)
set_option linter.unusedVariables false
set_option maxRecDepth 100000 in
set_option maxHeartbeats 1600000 in
theorem index_any (x : Int) (B : Nat) (xs : List Int) (a : Option Addr) (n c : Nat) (w : World) (h : Sl w a n c xs) (hB : w.heap[B]? = some (.cells #[.int .i64 x] 3 (0, 0))) (hx : x ∈ xs) :
    Calls Try.prog 72 #[.slice a n c, .func (.func 61) #[] #[.pointer (some ⟨B, 0, none⟩)]] w fun e w' => e = .returned (.int .i64 (idxN xs x : Int)) ∧ w = w' := by
  have hl := h.hlen
  have hm := h.hmax
  have hc := h.hcap
  unfold maxLen at hm
  have i1 := idxN_lt hx
  rw [hl] at i1
  have I2 := Lib.hid (idxN_at hx)
  have I3 := Lib.hid (idxN_before (l := xs) (x := x))
  obtain ⟨K, hK⟩ : ∃ K, idxN xs x = K := ⟨_, rfl⟩
  rw [hK] at i1 I2 I3 ⊢
  have IS := Lib.hid (fun y => is_any x y B w hB)
  have HH := Lib.hid h
  clear hK hx h hl hB
  go_enter Try.func72, Try.ntmps72
  go_wp2_with fail
  go_loop [8] (fun i => ∃ k : Nat, k ≤ K ∧ i = .int .i64 (k : Int)) (fun i => n - (intOf i).toNat)
  case atStart => exact ⟨0, Nat.zero_le _, rfl⟩
  case round =>
    obtain ⟨k, hk, rfl⟩ := hrel
    obtain ⟨b, off, rfl, hb, hc'⟩ := HH.out.hat (by omega)
    have g := hc' k (by omega)
    clear hc'
    have hkn : (k : Int) < (n : Int) := by omega
    by_cases he : k = K
    · have ey := I2.out
      rw [← he] at ey
      rw [ey] at g
      have C := IS.out x
      rw [show (x == x) = true by simp] at C
      have CH := Lib.hid C
      clear C ey
      subst he
      go_wp2_with fail
      refine CH.out.mono ?_
      rintro e w' ⟨rfl, rfl⟩
      go_wp2_with fail
      go_ret
      exact ⟨rfl, rfl⟩
    · have en := I3.out k (by omega)
      obtain ⟨y, hy⟩ : ∃ y, xs[k]?.getD 0 = y := ⟨_, rfl⟩
      rw [hy] at g en
      have C := IS.out y
      rw [show (y == x) = false by simp [en]] at C
      have CH := Lib.hid C
      clear C en hy
      go_wp2_with fail
      refine CH.out.mono ?_
      rintro e w' ⟨rfl, rfl⟩
      go_wp2_with fail
      go_round
      case rel => exact ⟨k + 1, by omega, by go_num⟩
      case measure => simp [intOf]; omega
end Go.Proofs.Ytchglmgbnmdffaa.RED
