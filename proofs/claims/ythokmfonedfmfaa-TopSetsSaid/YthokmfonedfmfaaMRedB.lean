/-
  One number is struck out of a row of the call's own: slices.IndexFunc and slices.DeleteFunc with the closure of the set. Conditions: at most 2^44 numbers.
  One number is struck out of a row of the call's own: slices.DeleteFunc with the closure of the set. Conditions: at most 2^44 numbers.
-/
import Derived.Test.YthokmfonedfmfaaRedPlain
import Derived.Test.YthokmfonedfmfaaWords
import Derived.Lib.SliceRun
import Derived.Laws.IdiomCopy
namespace Go.Proofs.Ythokmfonedfmfaa.RED
open Go.RowKit Go.Deep
open Go.Proofs.Ythokmfonedfmfaa Go.Proofs.Ythokmfonedfmfaa.ST

/-- The closure: is it the one? -/
theorem is_any (x y : Int) (B : Nat) (w : World) (h : w.heap[B]? = some (.cells #[.int .i64 x] 3 (0, 0))) :
    Calls Try.prog 58 #[.int .i64 y, .pointer (some ⟨B, 0, none⟩)] w fun e w' => e = .returned (.bool (y == x)) ∧ w = w' := by
  have c0 := (blk h).1 0
  go_enter Try.func58, Try.ntmps58
  go_wp2
  go_ret
  exact ⟨rfl, rfl⟩
/-- Where the first one of a number is. -/
def idxN (l : List Int) (x : Int) : Nat := (l.takeWhile fun y => !(y == x)).length
theorem idxN_lt {l : List Int} {x : Int} (h : x ∈ l) : idxN l x < l.length := by
  unfold idxN
  induction l with
  | nil => cases h
  | cons y l ih =>
    rw [List.takeWhile_cons]
    by_cases hy : y = x
    · simp [hy]
    · have : (!(y == x)) = true := by simp [hy]
      rw [if_pos this]
      have hx : x ∈ l := by
        rcases List.mem_cons.1 h with e | e
        · exact absurd e.symm hy
        · exact e
      have := ih hx
      simp only [List.length_cons]
      omega
theorem idxN_at {l : List Int} {x : Int} (h : x ∈ l) : l[idxN l x]?.getD 0 = x := by
  unfold idxN
  induction l with
  | nil => cases h
  | cons y l ih =>
    rw [List.takeWhile_cons]
    by_cases hy : y = x
    · simp [hy]
    · have : (!(y == x)) = true := by simp [hy]
      rw [if_pos this]
      have hx : x ∈ l := by
        rcases List.mem_cons.1 h with e | e
        · exact absurd e.symm hy
        · exact e
      simpa using ih hx
theorem idxN_before {l : List Int} {x : Int} : ∀ j, j < idxN l x → l[j]?.getD 0 ≠ x := by
  unfold idxN
  induction l with
  | nil => intro j h; simp at h
  | cons y l ih =>
    intro j h
    rw [List.takeWhile_cons] at h
    by_cases hy : y = x
    · simp [hy] at h
    · have : (!(y == x)) = true := by simp [hy]
      rw [if_pos this] at h
      cases j with
      | zero => simpa using hy
      | succ j => simpa using ih j (by simpa using h)
set_option linter.unusedVariables false
set_option maxRecDepth 100000 in
set_option maxHeartbeats 1600000 in
theorem index_any (x : Int) (B : Nat) (xs : List Int) (a : Option Addr) (n c : Nat) (w : World) (h : Sl w a n c xs) (hB : w.heap[B]? = some (.cells #[.int .i64 x] 3 (0, 0))) (hx : x ∈ xs) :
    Calls Try.prog 97 #[.slice a n c, .func (.func 58) #[] #[.pointer (some ⟨B, 0, none⟩)]] w fun e w' => e = .returned (.int .i64 (idxN xs x : Int)) ∧ w = w' := by
  have hl := h.hlen
  have hm := h.hmax
  have hc := h.hcap
  unfold maxLen at hm
  have i1 := idxN_lt hx
  rw [hl] at i1
  have I2 := Lib.hid (idxN_at hx)
  have I3 := Lib.hid (idxN_before (l := xs) (x := x))
  obtain ⟨K, hK⟩ : ∃ K, idxN xs x = K := ⟨_, rfl⟩
  rw [hK] at i1 I2 I3 ⊢
  have IS := Lib.hid (fun y => is_any x y B w hB)
  have HH := Lib.hid h
  clear hK hx h hl hB
  go_enter Try.func97, Try.ntmps97
  go_wp2_with fail
  go_loop [8] (fun i => ∃ k : Nat, k ≤ K ∧ i = .int .i64 (k : Int)) (fun i => n - (intOf i).toNat)
  case atStart => exact ⟨0, Nat.zero_le _, rfl⟩
  case round =>
    obtain ⟨k, hk, rfl⟩ := hrel
    obtain ⟨b, off, rfl, hb, hc'⟩ := HH.out.hat (by omega)
    have g := hc' k (by omega)
    clear hc'
    have hkn : (k : Int) < (n : Int) := by omega
    by_cases he : k = K
    · have ey := I2.out
      rw [← he] at ey
      rw [ey] at g
      have C := IS.out x
      rw [show (x == x) = true by simp] at C
      have CH := Lib.hid C
      clear C ey
      subst he
      go_wp2_with fail
      refine CH.out.mono ?_
      rintro e w' ⟨rfl, rfl⟩
      go_wp2_with fail
      go_ret
      exact ⟨rfl, rfl⟩
    · have en := I3.out k (by omega)
      obtain ⟨y, hy⟩ : ∃ y, xs[k]?.getD 0 = y := ⟨_, rfl⟩
      rw [hy] at g en
      have C := IS.out y
      rw [show (y == x) = false by simp [en]] at C
      have CH := Lib.hid C
      clear C en hy
      go_wp2_with fail
      refine CH.out.mono ?_
      rintro e w' ⟨rfl, rfl⟩
      go_wp2_with fail
      go_round
      case rel => exact ⟨k + 1, by omega, by go_num⟩
      case measure => simp [intOf]; omega
end Go.Proofs.Ythokmfonedfmfaa.RED

namespace Go.Proofs.Ythokmfonedfmfaa.RED
open Go.RowKit Go.Deep
open Go.Proofs.Ythokmfonedfmfaa Go.Proofs.Ythokmfonedfmfaa.ST

theorem below_setCells {B b : Nat} (hb : B ≤ b) : ∀ (vs : List Value) (o : Nat) (w w' : World), Below B w w' → Below B w (w'.setCells b o vs)
  | [], _, _, _, h => h
  | v :: r, o, w, w', h => by
    rw [World.setCells]
    exact below_setCells hb r (o + 1) w _ (h.setCell (p := ⟨b, o, none⟩) hb _)
theorem size_setCells (b : Nat) : ∀ (vs : List Value) (o : Nat) (w : World), (w.setCells b o vs).heap.size = w.heap.size
  | [], _, _ => rfl
  | v :: r, o, w => by
    rw [World.setCells, size_setCells b r (o + 1)]
    simp [World.setCell]
theorem less_take_succ (xs : List Int) (x : Int) (j : Nat) (hj : j < xs.length) : lessL (xs.take (j + 1)) x = lessL (xs.take j) x ++ (if xs[j]?.getD 0 = x then [] else [xs[j]?.getD 0]) := by
  rw [List.take_add_one, List.getElem?_eq_getElem hj]
  unfold lessL
  rw [List.filter_append]
  simp only [Option.toList, Option.getD_some, List.filter_cons, List.filter_nil]
  by_cases e : xs[j] = x <;> simp [e]
theorem less_take_le (xs : List Int) (x : Int) (j : Nat) : (lessL (xs.take j) x).length ≤ j := by
  have h1 := lessL_length (xs.take j) x
  rw [List.length_take] at h1
  omega
theorem less_take_idx (xs : List Int) (x : Int) : ∀ k, k ≤ idxN xs x → k ≤ xs.length → lessL (xs.take k) x = xs.take k := by
  intro k hk hl
  unfold lessL
  rw [List.filter_eq_self]
  intro y hy
  obtain ⟨j, hj, e⟩ := List.getElem_of_mem hy
  rw [List.length_take] at hj
  rw [List.getElem_take] at e
  have := idxN_before (l := xs) (x := x) j (by omega)
  rw [List.getElem?_eq_getElem (by omega), Option.getD_some, e] at this
  simp [this]
theorem Try.zeroInt (w : World) : (zeroValue 3).run Try.prog w = .ok (.int .i64 0) w := by kernel_rfl

set_option linter.unusedVariables false
set_option maxRecDepth 100000 in
set_option maxHeartbeats 3200000 in
theorem delete_any (x : Int) (B g cap n base : Nat) (xs : List Int) (w : World) (ho : w.ownsRow base 3 1 (.slice (some ⟨g, 0, none⟩) n cap) n (xs.map (Value.int .i64))) (hsl : Sl w (some ⟨g, 0, none⟩) n cap xs)
    (hB : w.heap[B]? = some (.cells #[.int .i64 x] 3 (0, 0))) (hx : x ∈ xs) (hBb : B < base) (hn : n ≤ 17592186044416) (hbg : base ≤ g) :
    Calls Try.prog 57 #[.slice (some ⟨g, 0, none⟩) n cap, .func (.func 58) #[] #[.pointer (some ⟨B, 0, none⟩)]] w
      fun e w' => ∃ a k c, e = .returned (.slice a k c) ∧ Sl w' a k c (lessL xs x) ∧ k ≤ n ∧ Below base w w' := by
  have hl := hsl.hlen
  have hcap := hsl.hcap
  have hmx := hsl.hmax
  unfold maxLen at hmx
  have i1 := idxN_lt hx
  rw [hl] at i1
  have IX := Lib.hid (index_any x B xs (some ⟨g, 0, none⟩) n cap w hsl hB hx)
  have st1 := less_take_idx xs x (idxN xs x) (Nat.le_refl _) (by omega)
  have st2 : lessL (xs.take (idxN xs x + 1)) x = xs.take (idxN xs x) := by
    rw [less_take_succ xs x _ (by omega), st1, if_pos (idxN_at hx), List.append_nil]
  obtain ⟨K, hK⟩ : ∃ K, idxN xs x = K := ⟨_, rfl⟩
  rw [hK] at i1 IX st2
  have ST2 := Lib.hid st2
  have HL := Lib.hid hl
  clear st1 st2 hK hx hl hsl
  have hne : ((K : Int) == -1) = false := by rw [beq_eq_false_iff_ne]; omega
  go_enter Try.func57, Try.ntmps57
  go_wp2_with fail
  refine IX.out.mono ?_
  rintro e w' ⟨rfl, rfl⟩
  go_wp2_with fail
  go_loopg [5, 6, 7] n (fun m vi vj vv wr => ∃ (i j : Nat) (ys : List Int), n - j ≤ m ∧ vi = .int .i64 (i : Int) ∧ vj = .int .i64 (j : Int) ∧ i < j ∧ j ≤ n ∧ wr.ownsRow base 3 1 (.slice (some ⟨g, 0, none⟩) n cap) n (ys.map (Value.int .i64)) ∧ wr.heap[B]? = some (.cells #[.int .i64 x] 3 (0, 0)) ∧ Hid (ys.length = n ∧ ys.take i = lessL (xs.take j) x ∧ ys.drop j = xs.drop j) ∧ Below base w wr)
  case atStart => exact ⟨K, K + 1, xs, by omega, rfl, by go_num, by omega, by omega, ho, hB, Lib.hid ⟨HL.out, ST2.out.symm, rfl⟩, Below.refl _ _⟩
  case round =>
    obtain ⟨i, j, ys, hm, rfl, rfl, hij, hj, ho, hB, HY, hb⟩ := hrel
    have HM := Lib.hid hm
    clear hm hne
    by_cases hlt : j < n
    · have hyj : ys[j]?.getD 0 = xs[j]?.getD 0 := by
        obtain ⟨h1, h2, h3⟩ := HY.out
        have := congrArg (fun l : List Int => l[0]?.getD 0) h3
        simpa using this
      obtain ⟨y, hy⟩ : ∃ y, xs[j]?.getD 0 = y := ⟨_, rfl⟩
      rw [hy] at hyj
      have cj : wr.cell? ⟨g, j, none⟩ = some (.int .i64 y) := by
        rw [ho.cellAt j (by omega), List.getElem?_map, ← hyj, List.getElem?_eq_getElem (by have := HY.out.1; omega)]
        rfl
      have ci : wr.cell? ⟨g, i, none⟩ = some (.int .i64 (ys[i]?.getD 0)) := by
        rw [ho.cellAt i (by omega), List.getElem?_map, List.getElem?_eq_getElem (by have := HY.out.1; omega)]
        rfl
      have fi := ho.frozenAt i
      have YJ := Lib.hid hy
      have YJ2 := Lib.hid hyj
      have IS := Lib.hid (is_any x y B wr hB)
      have hlti : (j : Int) < (n : Int) := by omega
      have hiti : (i : Int) < (n : Int) := by omega
      clear hy hyj
      by_cases hyx : y = x
      · have C := IS.out
        rw [show (y == x) = true by simp [hyx]] at C
        have CH := Lib.hid C
        have HX := Lib.hid hyx
        clear C hyx
        go_wp2_with fail
        refine CH.out.mono ?_
        rintro e w' ⟨rfl, rfl⟩
        go_wp2_with fail
        go_roundg (n - (j + 1))
        case measure => have := HM.out; omega
        case rel => exact ⟨i, j + 1, ys, Nat.le_refl _, rfl, by go_num, by omega, by omega, ho, hB, Lib.hid ⟨HY.out.1, by rw [less_take_succ xs x j (by have := HL.out; omega), YJ.out, if_pos HX.out, List.append_nil]; exact HY.out.2.1, by have := congrArg (List.drop 1) HY.out.2.2; simpa [List.drop_drop] using this⟩, hb⟩
      · have C := IS.out
        rw [show (y == x) = false by simp [hyx]] at C
        have CH := Lib.hid C
        have HX := Lib.hid hyx
        obtain ⟨so, sg⟩ := ho.stored i (.int .i64 y)
        have hset : (ys.map (Value.int .i64)).set i (.int .i64 y) = (ys.set i y).map (Value.int .i64) := by rw [List.map_set]
        rw [hset] at so
        have SO := Lib.hid so
        have hgB : B ≠ g := by omega
        clear C hyx so sg hset
        go_wp2_with fail
        refine CH.out.mono ?_
        rintro e w' ⟨rfl, rfl⟩
        go_wp2_with fail
        go_roundg (n - (j + 1))
        case measure => have := HM.out; omega
        case rel =>
          obtain ⟨h1, h2, h3⟩ := HY.out
          refine ⟨i + 1, j + 1, ys.set i y, Nat.le_refl _, by go_num, by go_num, by omega, by omega, SO.out, blk_far hB hgB, Lib.hid ⟨by simpa using h1, ?_, ?_⟩, hb.setCell (p := ⟨g, i, none⟩) hbg _⟩
          · rw [less_take_succ xs x j (by have := HL.out; omega), YJ.out, if_neg HX.out, ← h2, List.take_set, List.take_add_one, List.getElem?_eq_getElem (by omega)]
            simp only [Option.toList]
            rw [List.set_append_right _ _ (by rw [List.length_take]; omega)]
            congr 1
            rw [List.length_take, show i - min i ys.length = 0 by omega]
            rfl
          · rw [List.drop_set_of_lt (by omega)]
            have := congrArg (List.drop 1) h3
            simpa [List.drop_drop] using this
    · obtain rfl : j = n := by omega
      have hin : (i : Int) ≤ (j : Int) := by omega
      have hic : (i : Int) ≤ (cap : Int) := by omega
      have hie : ¬ cap = i := by omega
      have hs2 := Try.slice_from (some ⟨g, 0, none⟩) j cap i (by omega)
      rw [show cutAt (some (⟨g, 0, none⟩ : Addr)) cap i = some ⟨g, i, none⟩ from by
        unfold cutAt
        rw [if_neg hie]
        show some ((⟨g, 0, none⟩ : Addr).add i) = _
        unfold Addr.add
        split
        · rename_i h0; subst h0; rfl
        · simp] at hs2
      have hs1 := Try.slice_to (some ⟨g, 0, none⟩) j cap i (by omega)
      have hcl : ∀ ty, (Builtin.clear_ #[22] ty #[.slice (some ⟨g, i, none⟩) (j - i) (cap - i)]).run Try.prog wr = .ok (.tuple #[]) (wr.setCells g i (List.replicate (j - i) (.int .i64 0))) := fun ty =>
        Lib.run_clear_slice wr _ _ ty _ Try.underlying22 Try.zeroInt rfl rfl g i _ _ (by omega)
          (fun t ht => by rw [ho.cellAt _ (by omega), List.getElem?_map, List.getElem?_eq_getElem (by have := HY.out.1; omega)]; rfl) (fun t _ => ho.frozenAt _)
      have O := Lib.hid ho
      have gl : g < wr.heap.size := by
        rcases ho.2 with ⟨h1, _⟩ | ⟨g', cap', cur, h1, _, h2, _⟩
        · cases h1
        · cases h1; exact (Array.getElem?_eq_some_iff.1 h2).1
      clear ho
      go_wp2_with fail
      go_ret
      obtain ⟨h1, h2, h3⟩ := HY.out
      refine ⟨_, i, cap, rfl, ⟨?_, by omega, by unfold maxLen; omega, fun h0 => ⟨g, 0, rfl, by rw [size_setCells]; exact gl, fun q hq => ?_⟩⟩, by omega, below_setCells hbg _ _ _ _ hb⟩
      · have := congrArg List.length h2
        rw [List.length_take] at this
        rw [List.take_of_length_le (by have := HL.out; omega)] at this
        omega
      · rw [World.cell?_setCells_out _ _ _ _ _ (fun _ _ => .inl (by simp; omega)), O.out.cellAt _ (by omega), List.getElem?_map]
        have e : (ys.take i)[q]? = (lessL (xs.take j) x)[q]? := by rw [h2]
        rw [List.getElem?_take, if_pos hq, List.take_of_length_le (by have := HL.out; omega)] at e
        rw [Nat.zero_add, ← e, List.getElem?_eq_getElem (by omega)]
        rfl
end Go.Proofs.Ythokmfonedfmfaa.RED
