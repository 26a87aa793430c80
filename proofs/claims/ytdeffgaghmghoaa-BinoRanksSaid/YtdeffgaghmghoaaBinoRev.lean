/-
  slices.Clone and slices.Reverse of pointers to trees. Conditions: at most 2^42 elements.
-/
import Derived.Test.YtdeffgaghmghoaaBinoConcat
import Derived.Laws.OwnMore
namespace Go.Proofs.Ytdeffgaghmghoaa
open Go.RowKit Go.Deep
set_option linter.unusedVariables false
namespace BN
theorem Try.eqnil_none (c : Nat) (W : World) : (binOp BinOp.eql 24 (.slice none 0 c) (.slice none 0 0)).run Try.prog W = .ok (.bool true) W := by kernel_rfl
theorem Try.eqnil_some (ad : Addr) (n c : Nat) (W : World) : (binOp BinOp.eql 24 (.slice (some ad) n c) (.slice none 0 0)).run Try.prog W = .ok (.bool false) W := by kernel_rfl
set_option maxHeartbeats 1000000 in
set_option maxRecDepth 100000 in
theorem clone_any (a : Option Addr) (n c : Nat) (xs : List Value) (w : World) (r : Reads w w.heap.size 1 a n xs) (o : ∀ u ∈ xs, u.oneCell' = true) (hs : n ≤ 8796093022208) :
    Calls Try.prog 20 #[.slice a n c] w fun e w' => ∃ v, e = .returned v ∧ w'.ownsRow w.heap.size 42 1 v n xs ∧ Below w.heap.size w w' := by
  obtain ⟨i0, hi0, hz0, hz1, hz2⟩ := info_parts Try.infoConcat
  cases a with
  | none =>
    have hn : n = 0 := by
      rcases Nat.eq_zero_or_pos n with h | h
      · exact h
      · obtain ⟨ad, e, _⟩ := r.2 h; cases e
    subst hn
    have hx : xs = [] := by have := r.1; simpa using this
    subst hx
    have q : ∀ W, (binOp BinOp.eql 24 (.slice none 0 c) (.slice none 0 0)).run Try.prog W = .ok (.bool true) W := fun W => Try.eqnil_none c W
    go_enter Try.func20, Try.ntmps20
    go_wp2_with fail
    go_ret
    exact ⟨_, rfl, World.ownsRow_nil _ _ _ _, Below.refl _ _⟩
  | some ad =>
    have RR := Lib.hid r
    have OO := Lib.hid o
    clear r o
    have q : ∀ W, (binOp BinOp.eql 24 (.slice (some ad) n c) (.slice none 0 0)).run Try.prog W = .ok (.bool false) W := fun W => Try.eqnil_some ad n c W
    go_enter Try.func20, Try.ntmps20
    go_wp2_with (at_builtin; refine list_append_any rfl (.tmp 5) (.tmp 6) 24 rfl w.heap.size 42 i0 (.pointer none) 1 8 (by kernel_rfl) hi0 hz0 hz1 hz2 rfl (by decide) _ 0 [] rfl (World.ownsRow_lit (base := w.heap.size) (e := 42) (size := 1) w #[] 0 (Nat.le_refl _) (by decide) rfl) _ (some ad) n c _ rfl (RR.out.below ((Below.refl _ _).alloc (Nat.le_refl _) _)) OO.out (by unfold maxLen; omega) (by omega) (by simp) ?_; intro v2 w2 hown2 hg2 hat2; have hb2 : Below w.heap.size w w2 := below_grown ((Below.refl w.heap.size w).alloc (Nat.le_refl _) _) (World.ownsRow_lit (base := w.heap.size) (e := 42) (size := 1) w #[] 0 (Nat.le_refl _) (by decide) rfl) hg2 (Nat.le_refl _) (by simp))
    go_ret
    exact ⟨_, rfl, by simpa using hown2, hb2⟩

/-- What lies where, when so many have been exchanged at both ends. -/
def swv (xs : List Value) (n i t : Nat) : Option Value := if t < i ∨ n - 1 - t < i then xs[n - 1 - t]? else xs[t]?
theorem swv_zero (xs : List Value) (n t : Nat) : swv xs n 0 t = xs[t]? := by simp [swv]
theorem swv_end (xs : List Value) (n i t : Nat) (hn : xs.length = n) (ht : t < n) (hi : n ≤ 2 * i + 1) : swv xs n i t = xs.reverse[t]? := by
  have hr : xs.reverse[t]? = xs[n - 1 - t]? := by
    rw [List.getElem?_reverse (by omega), hn]
  rw [hr]
  unfold swv
  split
  · rfl
  · have : t = n - 1 - t := by omega
    rw [← this]
theorem swv_far (xs : List Value) (n i t : Nat) (h1 : t ≠ i) (h2 : t ≠ n - 1 - i) (ht : t < n) (hi : i < n - 1 - i) : swv xs n (i + 1) t = swv xs n i t := by
  unfold swv
  by_cases h : t < i ∨ n - 1 - t < i
  · rw [if_pos h, if_pos (by omega)]
  · rw [if_neg h, if_neg (by omega)]
theorem swv_low (xs : List Value) (n i : Nat) (hi : i < n - 1 - i) : swv xs n (i + 1) i = xs[n - 1 - i]? ∧ swv xs n (i + 1) (n - 1 - i) = xs[i]? ∧ swv xs n i i = xs[i]? ∧ swv xs n i (n - 1 - i) = xs[n - 1 - i]? := by
  unfold swv
  refine ⟨by rw [if_pos (by omega)], ?_, by rw [if_neg (by omega)], by rw [if_neg (by omega)]⟩
  rw [if_pos (by omega)]
  have : n - 1 - (n - 1 - i) = i := by omega
  rw [this]
theorem swv_step (xs L : List Value) (n k j : Nat) (hn : xs.length = n) (hL : L.length = n) (hj : j = n - 1 - k) (hk : k < j) (h : ∀ t, t < n → L[t]? = swv xs n k t) (u v : Value) (hu : xs[j]? = some u) (hv : xs[k]? = some v) :
    ((L.set k u).set j v).length = n ∧ ∀ t, t < n → ((L.set k u).set j v)[t]? = swv xs n (k + 1) t := by
  subst hj
  obtain ⟨s1, s2, s3, s4⟩ := swv_low xs n k hk
  refine ⟨by simp [hL], fun t ht => ?_⟩
  by_cases h1 : t = n - 1 - k
  · subst h1
    rw [List.getElem?_set_self (by simp [hL]; omega), s2, hv]
  · rw [List.getElem?_set_ne (fun e => h1 e.symm)]
    by_cases h2 : t = k
    · subst h2
      rw [List.getElem?_set_self (by omega), s1, hu]
    · rw [List.getElem?_set_ne (fun e => h2 e.symm), h t ht, swv_far xs n k t h2 h1 ht hk]

set_option maxHeartbeats 2000000 in
set_option maxRecDepth 100000 in
theorem rev_any (v : Value) (n base : Nat) (xs : List Value) (w : World) (h : w.ownsRow base 42 1 v n xs) (hx : ∀ u ∈ xs, ∃ p, u = Value.pointer p) (hs : n ≤ 8796093022208) :
    Calls Try.prog 21 #[v] w fun e w' => e = .returned (.tuple #[]) ∧ w'.ownsRow base 42 1 v n xs.reverse ∧ Below base w w' := by
  have hl : xs.length = n := by have := h.1; simpa using this
  have HL := Lib.hid hl
  have hv : ∃ a c, v = .slice a n c ∧ (0 < n → ∃ g, a = some ⟨g, 0, none⟩ ∧ base ≤ g) := by
    rcases h.2 with ⟨h1, h0⟩ | ⟨g, cap, cur, h1, h2, _⟩
    · have : n = 0 := by omega
      subst this
      exact ⟨none, 0, h1, fun h => absurd h (by omega)⟩
    · exact ⟨_, cap, h1, fun _ => ⟨g, rfl, h2⟩⟩
  obtain ⟨a, c, rfl, hg⟩ := hv
  have e0 : wrap64 ((n : Int) - 1) = (n : Int) - 1 := by unfold wrap64; omega
  have HG := Lib.hid hg
  clear hl hg
  go_enter Try.func21, Try.ntmps21
  go_wp2_with fail
  go_loopw [2, 3] (fun i j wr => ∃ (k : Nat) (L : List Value), 2 * k ≤ n ∧ i = .int .i64 k ∧ j = .int .i64 ((n : Int) - 1 - k) ∧ Hid (L.length = n ∧ ∀ t, t < n → L[t]? = swv xs n k t) ∧ wr.ownsRow base 42 1 (.slice a n c) n L ∧ Below base w wr) (fun i _ _ => n - (intOf i).toNat)
  case atStart =>
    exact ⟨0, xs, by omega, rfl, by simp, Lib.hid ⟨HL.out, fun t _ => (swv_zero xs n t).symm⟩, h, Below.refl _ _⟩
  case round =>
    clear h
    obtain ⟨k, L, hk, rfl, rfl, HI, ho, hbw⟩ := hrel
    by_cases hlt : (k : Int) < (n : Int) - 1 - k
    · obtain ⟨g, rfl, hbg⟩ := HG.out (by omega)
      obtain ⟨j, hj⟩ : ∃ j, n - 1 - k = j := ⟨_, rfl⟩
      have hji : (n : Int) - 1 - k = (j : Int) := by omega
      obtain ⟨s1, s2, s3, s4⟩ := swv_low xs n k (by omega)
      obtain ⟨u, hu⟩ : ∃ u, xs[j]? = some u := ⟨xs[j]'(by have := HL.out; omega), List.getElem?_eq_getElem _⟩
      obtain ⟨v, hv⟩ : ∃ v, xs[k]? = some v := ⟨xs[k]'(by have := HL.out; omega), List.getElem?_eq_getElem _⟩
      obtain ⟨pu, rfl⟩ := hx u (List.mem_of_getElem? hu)
      obtain ⟨pv, rfl⟩ := hx v (List.mem_of_getElem? hv)
      have c1 : wr.cell? ⟨g, k, none⟩ = some (Value.pointer pv) := by rw [ho.cellAt k (by omega), HI.out.2 k (by omega), s3, hv]
      have c2 : wr.cell? ⟨g, j, none⟩ = some (Value.pointer pu) := by rw [ho.cellAt j (by omega), HI.out.2 j (by omega), ← hj, s4, hj, hu]
      have f1 := ho.frozenAt k
      have f2 := ho.frozenAt j
      obtain ⟨o1, _⟩ := ho.stored k (Value.pointer pu)
      obtain ⟨o2, _⟩ := o1.stored j (Value.pointer pv)
      obtain ⟨st1, st2⟩ := swv_step xs L n k j HL.out HI.out.1 hj.symm (by omega) HI.out.2 (Value.pointer pu) (Value.pointer pv) hu hv
      rw [hji] at hlt ⊢
      have ST := Lib.hid (And.intro st1 st2)
      have OO := Lib.hid o2
      have HJ := Lib.hid hj
      have HJI := Lib.hid hji
      clear s1 s2 s3 s4 hu hv o1 o2 st1 st2 hj hji HI ho
      have hkn : (k : Int) < (n : Int) := by have := HJI.out; omega
      have hjn : (j : Int) < (n : Int) := by have := HJI.out; omega
      have ne1 : ¬ k = j := by omega
      have ne2 : ¬ j = k := by omega
      go_wp2_with fail
      go_region
      all_goals
        go_wp2_with fail
        go_roundw
      case' rel =>
        refine ⟨k + 1, (L.set k (Value.pointer pu)).set j (Value.pointer pv), by have := HJ.out; omega, by go_num, ?_, ST, ⟨OO.out.1, OO.out.2⟩, ((hbw.setCell (p := ⟨g, k, none⟩) hbg _).setCell (p := ⟨g, j, none⟩) hbg _).drew⟩
        have := HJI.out
        congr 1
        omega
      all_goals (simp [intOf]; omega)
    · go_wp2_with fail
      go_end0
      refine ⟨rfl, ?_, hbw⟩
      have e : L = xs.reverse := List.ext_getElem? fun t => by
        rcases Nat.lt_or_ge t n with h | h
        · rw [HI.out.2 t h, swv_end xs n k t HL.out h (by omega)]
        · rw [List.getElem?_eq_none (by rw [HI.out.1]; exact h), List.getElem?_eq_none (by rw [List.length_reverse, HL.out]; exact h)]
      rw [← e]
      exact ho
end BN
end Go.Proofs.Ytdeffgaghmghoaa
