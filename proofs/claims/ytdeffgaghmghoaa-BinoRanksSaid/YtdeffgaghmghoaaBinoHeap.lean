/-
  Binomial heaps by the rising list of their numbers. Conditions: at most 2^46 numbers.
-/
import Derived.Test.YtdeffgaghmghoaaBinoPop
import Derived.Test.YtdeffgaghmghoaaBinoLen
namespace Go.Proofs.Ytdeffgaghmghoaa
open Go.RowKit Go.Deep
set_option linter.unusedVariables false
/-- A heap's numbers, rising. -/
def BH := List Int
namespace BH
def list (s : BH) : List Int := s
def mk (l : List Int) : BH := sortL l
def size (s : BH) : Nat := s.list.length
def ofL (l : List Int) : BH := mk l
def push (s : BH) (x : Int) : BH := mk (s.list ++ [x])
def met (a b : BH) : BH := mk (a.list ++ b.list)
def least (s : BH) : Int × Bool := (s.list[0]?.getD 0, decide (0 < s.size))
def pop (s : BH) : BH := s.list.tail
def ints (s : BH) : List Int := s
def nil : BH := []
theorem sort_perm {a b : List Int} (h : a.Perm b) : sortL a = sortL b := rise_eq_sort (sortL_rise a) ((sortL_perm a).trans h)
theorem sort_idem (a : List Int) : sortL (sortL a) = sortL a := sort_perm (sortL_perm a)
theorem mk_size (l : List Int) : (mk l).size = l.length := sortL_length l
theorem mk_list (l : List Int) : (mk l).list = sortL l := rfl
theorem ints_list (s : BH) : ints s = s.list := rfl
theorem ofL_size (l : List Int) : (ofL l).size = l.length := mk_size l
theorem push_size (s : BH) (x : Int) : (push s x).size = s.size + 1 := by rw [push, mk_size, List.length_append]; rfl
theorem met_size (a b : BH) : (met a b).size = a.size + b.size := by rw [met, mk_size, List.length_append]; rfl
theorem pop_size (s : BH) : (pop s).size = s.size - 1 := List.length_tail
theorem ofL_sort (l : List Int) : ints (ofL l) = sortL l := rfl
theorem ofL_push (l : List Int) (x : Int) : ints (push (ofL l) x) = sortL (l ++ [x]) := sort_perm ((sortL_perm l).append_right _)
theorem ofL_snoc (l : List Int) (x : Int) : ofL (l ++ [x]) = push (ofL l) x := (ofL_push l x).symm
theorem ofL_join (l m : List Int) : ints (met (ofL l) (ofL m)) = sortL (l ++ m) := sort_perm ((sortL_perm l).append (sortL_perm m))
theorem ofL_first {l : List Int} (h : 0 < l.length) : (ofL l).least = ((sortL l)[0]?.getD 0, true) ∧ ints (pop (ofL l)) = (sortL l).drop 1 := by
  refine ⟨?_, ?_⟩
  · unfold least
    rw [ofL_size, decide_eq_true h]
    rfl
  · exact (List.drop_one).symm
theorem ofL_none {l : List Int} (h : l.length = 0) : ofL l = nil := by
  obtain rfl := List.eq_nil_of_length_eq_zero h
  rfl
theorem ofL_join3 (a b c : List Int) : ints (met (met (ofL a) (ofL b)) (ofL c)) = ints (met (met (ofL c) (ofL a)) (ofL b)) := by
  have h1 : ints (met (met (ofL a) (ofL b)) (ofL c)) = sortL (a ++ b ++ c) := sort_perm (((sortL_perm _).trans ((sortL_perm a).append (sortL_perm b))).append (sortL_perm c))
  have h2 : ints (met (met (ofL c) (ofL a)) (ofL b)) = sortL (c ++ a ++ b) := sort_perm (((sortL_perm _).trans ((sortL_perm c).append (sortL_perm a))).append (sortL_perm b))
  rw [h1, h2]
  refine sort_perm ?_
  rw [List.append_assoc c]
  exact List.perm_append_comm
theorem least_comm (a b : List Int) : (met (ofL a) (ofL b)).least = (met (ofL b) (ofL a)).least := by
  have : met (ofL a) (ofL b) = met (ofL b) (ofL a) := sort_perm List.perm_append_comm
  rw [this]
theorem least_has (a b : List Int) : (met (ofL a) (ofL b)).least.2 = decide (0 < a.length + b.length) := by
  unfold least
  rw [met_size, ofL_size, ofL_size]
theorem ints_length (s : BH) : (ints s).length = s.size := rfl
theorem ints_pop {s : BH} {x : Int} (h : s.least = (x, true)) : ints s = x :: ints (pop s) := by
  cases s with
  | nil => simp [least, size, list] at h
  | cons y l =>
    have : y = x := by have := congrArg Prod.fst h; simpa [least, list] using this
    rw [this]
    rfl
theorem ints_done {s : BH} {x : Int} (h : s.least = (x, false)) : ints s = [] := by
  cases s with
  | nil => rfl
  | cons y l => have := congrArg Prod.snd h; simp [least, size, list] at this
theorem pop_less {s : BH} {x : Int} (h : s.least = (x, true)) : (pop s).size < s.size := by
  have h1 : 0 < s.size := by have := congrArg Prod.snd h; simpa [least] using this
  rw [pop_size]
  omega

open BN
/-- What is left, by the numbers. -/
theorem rest_sort {ts vs : List Tr} (hg : GoodL ts) (h : BN.Rest ts vs) : sortL (allL vs) = (sortL (allL ts)).tail := by
  by_cases h0 : ts.length = 0
  · obtain rfl := List.eq_nil_of_length_eq_zero h0
    rw [h.1 h0]
    rfl
  · obtain ⟨t, hp⟩ := h.2 h0
    have hm : ∀ s ∈ ts, t.1 ≤ s.1 := by
      intro s hs
      obtain ⟨j, hj⟩ := List.getElem?_of_mem hs
      have hjl := (List.getElem?_eq_some_iff.1 hj).1
      have := bestAt_least ts ts.length j hjl
      rw [hp.at_, hj] at this
      exact this
    have hl := popped_least hg hm
    have hr : Rise (t.1 :: sortL (allL vs)) := by
      refine List.pairwise_cons.2 ⟨fun y hy => ?_, sortL_rise _⟩
      have : y ∈ allL vs := (sortL_perm _).mem_iff.1 hy
      exact hl y ((popped_all hp).mem_iff.1 (List.mem_cons_of_mem _ this))
    have e : t.1 :: sortL (allL vs) = sortL (allL ts) := rise_eq_sort hr (((sortL_perm _).cons _).trans (popped_all hp))
    rw [← e]
    rfl
theorem top_least {ts : List Tr} (hg : GoodL ts) : topB ts = least (mk (allL ts)) := by
  unfold topB
  by_cases h0 : ts.length = 0
  · rw [if_pos h0]
    obtain rfl := List.eq_nil_of_length_eq_zero h0
    rfl
  · rw [if_neg h0]
    have hb := bestAt_lt ts ts.length (Nat.le_refl _) (by omega)
    obtain ⟨t, ht⟩ : ∃ t, ts[bestAt ts ts.length]? = some t := ⟨ts[bestAt ts ts.length], List.getElem?_eq_getElem hb⟩
    have hm : ∀ s ∈ ts, t.1 ≤ s.1 := by
      intro s hs
      obtain ⟨j, hj⟩ := List.getElem?_of_mem hs
      have hjl := (List.getElem?_eq_some_iff.1 hj).1
      have := bestAt_least ts ts.length j hjl
      rw [ht, hj] at this
      exact this
    have hl := popped_least hg hm
    have hmem : t.1 ∈ allL ts := List.mem_flatMap.2 ⟨t, List.mem_of_getElem? ht, List.mem_cons_self ..⟩
    unfold least
    rw [mk_size, mk_list, ht]
    have hp := sortL_perm (allL ts)
    have hlen : 0 < (allL ts).length := List.length_pos_of_mem hmem
    rw [decide_eq_true hlen]
    cases hs : sortL (allL ts) with
    | nil => rw [← hp.length_eq, hs] at hlen; exact absurd hlen (by simp)
    | cons y l =>
      have h1 : t.1 ≤ y := hl y (hp.mem_iff.1 (by rw [hs]; exact List.mem_cons_self ..))
      have h2 : t.1 ∈ y :: l := by rw [← hs]; exact hp.mem_iff.2 hmem
      have hr := sortL_rise (allL ts)
      rw [hs] at hr
      have h3 : y ≤ t.1 := by
        rcases List.mem_cons.1 h2 with h | h
        · omega
        · exact (List.pairwise_cons.1 hr).1 _ h
      have : t.1 = y := by omega
      simp [this]

/-- A heap in memory. -/
def In (w : World) (a : Option Addr) (n c : Nat) (s : BH) : Prop := ∃ ts, Hb w a n c ts ∧ s = mk (allL ts) ∧ s.size ≤ 70368744177664
theorem In.below {w w' : World} {a : Option Addr} {n c : Nat} {s : BH} (h : In w a n c s) (hb : Below w.heap.size w w') : In w' a n c s := by
  obtain ⟨ts, h1, h2, h3⟩ := h
  exact ⟨ts, h1.below hb, h2, h3⟩
theorem In.alloc {w : World} {a : Option Addr} {n c : Nat} {s : BH} (h : In w a n c s) (o : Obj) : In (w.alloc o) a n c s := h.below ((Below.refl _ _).alloc (Nat.le_refl _) _)
theorem In.drew {w : World} {a : Option Addr} {n c : Nat} {s : BH} (h : In w a n c s) : In w.drew a n c s := h.below (Below.refl _ _).drew
theorem In.drewN {w : World} {a : Option Addr} {n c : Nat} {s : BH} (h : In w a n c s) (k : Nat) : In (w.drewN k) a n c s := h.below (below_drewN (Below.refl _ _) k)
theorem In.keep {w w' : World} {a : Option Addr} {n c : Nat} {s : BH} (h : In w a n c s) (k1 : KeepT 45 w w') (k2 : KeepT 42 w w') : In w' a n c s := by
  obtain ⟨ts, h1, h2, h3⟩ := h
  exact ⟨ts, h1.keep k1 k2, h2, h3⟩
theorem In.nil (w : World) : In w none 0 0 nil := ⟨[], Hb.nil w, rfl, by decide⟩
theorem len_any (s : BH) (a : Option Addr) (n c : Nat) (w : World) (h : In w a n c s) :
    Calls Try.prog 16 #[.agg #[.slice a n c]] w fun e w' => e = .returned (.int .i64 (s.size : Int)) ∧ Below w.heap.size w w' := by
  obtain ⟨ts, h1, rfl, h3⟩ := h
  rw [mk_size] at h3 ⊢
  exact BN.len_any a n c ts w h1 h3
theorem min_any (s : BH) (a : Option Addr) (n c : Nat) (w : World) (h : In w a n c s) :
    Calls Try.prog 17 #[.agg #[.slice a n c]] w fun e w' => e = .returned (.tuple #[.int .i64 s.least.1, .bool s.least.2]) ∧ Below w.heap.size w w' := by
  obtain ⟨ts, h1, rfl, h3⟩ := h
  rw [← top_least h1.2]
  exact BN.min_any a n c ts w h1
theorem pop_any (s : BH) (a : Option Addr) (n c : Nat) (w : World) (h : In w a n c s) :
    Calls Try.prog 9 #[.agg #[.slice a n c]] w fun e w' => ∃ o k cc, e = .returned (.tuple #[.int .i64 s.least.1, .agg #[.slice o k cc], .bool s.least.2]) ∧ In w' o k cc (pop s) ∧ Below w.heap.size w w' := by
  obtain ⟨ts, h1, rfl, h3⟩ := h
  rw [mk_size] at h3
  rw [← top_least h1.2]
  refine (BN.pop_any a n c ts w h1 h3).mono ?_
  rintro e w' ⟨o, k, cc, vs, rfl, h4, h5, h6⟩
  exact ⟨o, k, cc, rfl, ⟨vs, h4, (rest_sort h1.2 h5).symm, by rw [pop_size, mk_size]; omega⟩, h6⟩
theorem push_any (x : Int) (s : BH) (a : Option Addr) (n c : Nat) (w : World) (h : In w a n c s) (hs : s.size + 1 ≤ 70368744177664) :
    Calls Try.prog 12 #[.agg #[.slice a n c], .int .i64 x] w fun e w' => ∃ o k cc, e = .returned (.agg #[.slice o k cc]) ∧ In w' o k cc (push s x) ∧ Below w.heap.size w w' := by
  obtain ⟨ts, h1, rfl, h3⟩ := h
  rw [mk_size] at hs
  refine (BN.push_any x a n c ts w h1 hs).mono ?_
  rintro e w' ⟨o, k, cc, vs, rfl, h4, h5, h6⟩
  refine ⟨o, k, cc, rfl, ⟨vs, h4, ?_, by rw [push_size, mk_size]; exact hs⟩, h6⟩
  refine sort_perm ?_
  have h7 := mg_all h5
  have e : allL [(x, 0, BF.nil)] = [x] := rfl
  rw [e] at h7
  exact ((sortL_perm _).append_right _).trans (List.perm_append_comm.trans h7.symm)
theorem join_any (s t : BH) (a : Option Addr) (n c : Nat) (b : Option Addr) (m d : Nat) (w : World) (h : In w a n c s) (k : In w b m d t) (hs : s.size + t.size ≤ 70368744177664) :
    Calls Try.prog 8 #[.agg #[.slice a n c], .agg #[.slice b m d]] w fun e w' => ∃ o k cc, e = .returned (.agg #[.slice o k cc]) ∧ In w' o k cc (met s t) ∧ Below w.heap.size w w' := by
  obtain ⟨ts, h1, rfl, h3⟩ := h
  obtain ⟨us, k1, rfl, k3⟩ := k
  rw [mk_size, mk_size] at hs
  refine (BN.join_any a n c ts b m d us w h1 k1 hs).mono ?_
  rintro e w' ⟨o, k, cc, vs, rfl, h4, h5, h6⟩
  refine ⟨o, k, cc, rfl, ⟨vs, h4, ?_, by rw [met_size, mk_size, mk_size]; exact hs⟩, h6⟩
  exact sort_perm (((sortL_perm _).append (sortL_perm _)).trans (mg_all h5).symm)
end BH
end Go.Proofs.Ytdeffgaghmghoaa
