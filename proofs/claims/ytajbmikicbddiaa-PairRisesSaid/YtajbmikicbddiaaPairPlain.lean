/-
  Pairing heaps as plain forests: what meets has the numbers of both, the least one stays on top. No program. Conditions: none.
-/
import Derived.Test.YtajbmikicbddiaaSort
namespace Go.Proofs.Ytajbmikicbddiaa

inductive PF where
  | nil
  | cons (x : Int) (kids next : PF)
namespace PF
def all : PF → List Int
  | nil => []
  | cons x k n => x :: (k.all ++ n.all)
def size : PF → Nat
  | nil => 0
  | cons _ k n => 1 + k.size + n.size
/-- No number stands above a lesser one. -/
def Ok : PF → Prop
  | nil => True
  | cons x k n => (∀ y ∈ k.all, x ≤ y) ∧ k.Ok ∧ n.Ok
def met : PF → PF → PF
  | nil, b => b
  | cons x k n, nil => cons x k n
  | cons x k _, cons y k' _ => if y < x then cons y (cons x k k') nil else cons x (cons y k' k) nil
/-- A top one has none beside it. -/
def Top : PF → Prop
  | nil => True
  | cons _ _ n => n = nil
/-- The two first ones meet, and so on. -/
def pairsOf : PF → List PF
  | nil => []
  | cons x k nil => [cons x k nil]
  | cons x k (cons y k' n) => met (cons x k nil) (cons y k' nil) :: pairsOf n
def paired (l : PF) : PF := (pairsOf l).foldr met nil

theorem all_length (t : PF) : t.all.length = t.size := by
  induction t with
  | nil => rfl
  | cons x k n ihk ihn => simp [all, size, ihk, ihn]; omega
theorem met_nil_left (b : PF) : met nil b = b := rfl
theorem met_nil_right (a : PF) : met a nil = a := by cases a <;> rfl
theorem met_low {x y : Int} (h : y < x) (k n k' n' : PF) : met (cons x k n) (cons y k' n') = cons y (cons x k k') nil := by simp only [met, if_pos h]
theorem met_high {x y : Int} (h : ¬ y < x) (k n k' n' : PF) : met (cons x k n) (cons y k' n') = cons x (cons y k' k) nil := by simp only [met, if_neg h]
theorem met_top {a b : PF} (ha : a.Top) (hb : b.Top) : (met a b).Top := by
  cases a with
  | nil => exact hb
  | cons x k n =>
    cases b with
    | nil => exact ha
    | cons y k' n' =>
      by_cases h : y < x
      · rw [met_low h]; rfl
      · rw [met_high h]; rfl
theorem met_all {a b : PF} (ha : a.Top) (hb : b.Top) : (met a b).all.Perm (a.all ++ b.all) := by
  cases a with
  | nil => exact List.Perm.refl _
  | cons x k n =>
    cases b with
    | nil => rw [met_nil_right]; simp only [all, List.append_nil]; exact List.Perm.refl _
    | cons y k' n' =>
      obtain rfl : n = nil := ha
      obtain rfl : n' = nil := hb
      by_cases h : y < x
      · rw [met_low h]
        simp only [all, List.append_nil]
        have h1 : (y :: (x :: (k.all ++ k'.all))).Perm (x :: (y :: (k.all ++ k'.all))) := List.Perm.swap _ _ _
        refine h1.trans ?_
        rw [List.cons_append]
        exact (List.perm_middle.symm).cons x
      · rw [met_high h]
        simp only [all, List.append_nil]
        rw [List.cons_append]
        refine List.Perm.cons x ?_
        refine List.Perm.trans ?_ List.perm_append_comm
        rw [List.cons_append]
theorem met_size {a b : PF} (ha : a.Top) (hb : b.Top) : (met a b).size = a.size + b.size := by
  have := (met_all ha hb).length_eq
  rw [List.length_append, all_length, all_length, all_length] at this
  exact this
theorem ok_least {x : Int} {k : PF} (h : (cons x k nil).Ok) : ∀ y ∈ (cons x k nil).all, x ≤ y := by
  intro y hy
  simp only [all, List.append_nil, List.mem_cons] at hy
  rcases hy with rfl | hy
  · exact Int.le_refl _
  · exact h.1 y hy
theorem met_ok {a b : PF} (ka : a.Ok) (kb : b.Ok) : (met a b).Ok := by
  cases a with
  | nil => exact kb
  | cons x k n =>
    cases b with
    | nil => exact ka
    | cons y k' n' =>
      by_cases h : y < x
      · rw [met_low h]
        refine ⟨fun z hz => ?_, ⟨ka.1, ka.2.1, kb.2.1⟩, trivial⟩
        simp only [all, List.mem_cons, List.mem_append] at hz
        rcases hz with rfl | hz | hz
        · omega
        · have := ka.1 z hz; omega
        · exact kb.1 z hz
      · rw [met_high h]
        refine ⟨fun z hz => ?_, ⟨kb.1, kb.2.1, ka.2.1⟩, trivial⟩
        simp only [all, List.mem_cons, List.mem_append] at hz
        rcases hz with rfl | hz | hz
        · omega
        · have := kb.1 z hz; omega
        · exact ka.1 z hz

/-- What the pairs are, all of them. -/
def allOf (l : List PF) : List Int := l.flatMap all
theorem pairs_facts (l : PF) : (∀ p ∈ pairsOf l, p.Top) ∧ (allOf (pairsOf l)).Perm l.all ∧ (l.Ok → ∀ p ∈ pairsOf l, p.Ok) ∧ (pairsOf l).length ≤ l.size := by
  fun_induction pairsOf l with
  | case1 => exact ⟨by simp, List.Perm.refl _, by simp, Nat.le_refl _⟩
  | case2 x k =>
    refine ⟨by simp [Top], by simp [allOf], ?_, by simp [size]⟩
    intro h p hp
    rw [List.mem_singleton] at hp
    subst hp
    exact h
  | case3 x k y k' n ih =>
    obtain ⟨i1, i2, i3, i4⟩ := ih
    refine ⟨?_, ?_, ?_, ?_⟩
    · intro p hp
      rcases List.mem_cons.1 hp with rfl | hp
      · exact met_top rfl rfl
      · exact i1 p hp
    · show (met (cons x k nil) (cons y k' nil)).all ++ allOf (pairsOf n) |>.Perm _
      refine ((met_all (a := cons x k nil) (b := cons y k' nil) rfl rfl).append i2).trans ?_
      simp [all]
    · intro h p hp
      rcases List.mem_cons.1 hp with rfl | hp
      · exact met_ok ⟨h.1, h.2.1, trivial⟩ ⟨h.2.2.1, h.2.2.2.1, trivial⟩
      · exact i3 h.2.2.2.2 p hp
    · simp only [List.length_cons, size]
      omega
theorem foldr_facts (l : List PF) (h : ∀ p ∈ l, p.Top) : (l.foldr met nil).Top ∧ (l.foldr met nil).all.Perm (allOf l) ∧ ((∀ p ∈ l, p.Ok) → (l.foldr met nil).Ok) := by
  induction l with
  | nil => exact ⟨trivial, List.Perm.refl _, fun _ => trivial⟩
  | cons p l ih =>
    obtain ⟨i1, i2, i3⟩ := ih (fun q hq => h q (List.mem_cons_of_mem _ hq))
    have hp := h p (List.mem_cons_self ..)
    exact ⟨met_top hp i1, (met_all hp i1).trans (i2.append_left _), fun k => met_ok (k p (List.mem_cons_self ..)) (i3 fun q hq => k q (List.mem_cons_of_mem _ hq))⟩
theorem paired_top (l : PF) : (paired l).Top := (foldr_facts _ (pairs_facts l).1).1
theorem paired_all (l : PF) : (paired l).all.Perm l.all := ((foldr_facts _ (pairs_facts l).1).2.1).trans (pairs_facts l).2.1
theorem paired_ok {l : PF} (h : l.Ok) : (paired l).Ok := (foldr_facts _ (pairs_facts l).1).2.2 ((pairs_facts l).2.2.1 h)
theorem paired_size (l : PF) : (paired l).size = l.size := by rw [← all_length, ← all_length]; exact (paired_all l).length_eq
theorem pairs_length (l : PF) : (pairsOf l).length ≤ l.size := (pairs_facts l).2.2.2

def push (h : PF) (x : Int) : PF := met h (cons x nil nil)
def ofL (l : List Int) : PF := l.foldl push nil
theorem push_facts {h : PF} (x : Int) (ht : h.Top) : (push h x).Top ∧ (push h x).all.Perm (x :: h.all) ∧ (h.Ok → (push h x).Ok) := by
  refine ⟨met_top ht rfl, (met_all ht (b := cons x nil nil) rfl).trans ?_, fun k => met_ok k ⟨by simp [all], trivial, trivial⟩⟩
  exact List.perm_append_comm
theorem push_size {h : PF} (x : Int) (ht : h.Top) : (push h x).size = h.size + 1 := by
  have := (push_facts x ht).2.1.length_eq
  rw [List.length_cons, all_length, all_length] at this
  exact this
theorem foldl_push (l : List Int) : ∀ h : PF, h.Top → (l.foldl push h).Top ∧ (l.foldl push h).all.Perm (l ++ h.all) ∧ (h.Ok → (l.foldl push h).Ok) := by
  induction l with
  | nil => intro h ht; exact ⟨ht, List.Perm.refl _, id⟩
  | cons x l ih =>
    intro h ht
    obtain ⟨p1, p2, p3⟩ := push_facts x ht
    obtain ⟨i1, i2, i3⟩ := ih (push h x) p1
    rw [List.foldl_cons]
    exact ⟨i1, i2.trans (((p2).append_left l).trans List.perm_middle), fun k => i3 (p3 k)⟩
theorem ofL_snoc (l : List Int) (x : Int) : ofL (l ++ [x]) = push (ofL l) x := by
  unfold ofL
  rw [List.foldl_append]
  rfl
theorem ofL_top (l : List Int) : (ofL l).Top := (foldl_push l nil trivial).1
theorem ofL_all (l : List Int) : (ofL l).all.Perm l := by have := (foldl_push l nil trivial).2.1; simpa [all, ofL] using this
theorem ofL_ok (l : List Int) : (ofL l).Ok := (foldl_push l nil trivial).2.2 trivial
theorem ofL_size (l : List Int) : (ofL l).size = l.length := by rw [← all_length]; exact (ofL_all l).length_eq

/-- What is left when the first one goes. -/
def pop : PF → PF
  | nil => nil
  | cons _ k _ => paired k
theorem pop_top (h : PF) : (pop h).Top := by cases h <;> first | exact trivial | exact paired_top _
theorem pop_ok {h : PF} (k : h.Ok) : (pop h).Ok := by
  cases h with
  | nil => exact trivial
  | cons x kk n => exact paired_ok k.2.1
theorem pop_size {h : PF} (ht : h.Top) : (pop h).size = h.size - 1 := by
  cases h with
  | nil => rfl
  | cons x k n =>
    obtain rfl : n = nil := ht
    simp only [pop, paired_size, size]
    omega
theorem pop_all {x : Int} {k n : PF} (ht : (cons x k n).Top) : (cons x k n).all.Perm (x :: (pop (cons x k n)).all) := by
  obtain rfl : n = nil := ht
  simp only [all, List.append_nil, pop]
  exact ((paired_all k).symm).cons x

def drain : Nat → PF → List Int
  | 0, _ => []
  | _ + 1, nil => []
  | n + 1, cons x k _ => x :: drain n (paired k)
theorem drain_facts : ∀ (n : Nat) (h : PF), h.size ≤ n → h.Top → (drain n h).Perm h.all ∧ (h.Ok → Rise (drain n h)) := by
  intro n
  induction n with
  | zero =>
    intro h hn _
    cases h with
    | nil => exact ⟨List.Perm.refl _, fun _ => List.Pairwise.nil⟩
    | cons x k m => simp only [size] at hn; omega
  | succ n ih =>
    intro h hn ht
    cases h with
    | nil => exact ⟨List.Perm.refl _, fun _ => List.Pairwise.nil⟩
    | cons x k m =>
      obtain rfl : m = nil := ht
      simp only [size] at hn
      obtain ⟨i1, i2⟩ := ih (paired k) (by rw [paired_size]; omega) (paired_top k)
      have hp : (drain n (paired k)).Perm k.all := i1.trans (paired_all k)
      refine ⟨?_, fun hk => ?_⟩
      · simp only [drain, all, List.append_nil]
        exact hp.cons x
      · exact List.pairwise_cons.2 ⟨fun y hy => hk.1 y (hp.mem_iff.1 hy), i2 (paired_ok hk.2.1)⟩
def ints (h : PF) : List Int := drain h.size h
theorem ints_sort {h : PF} (ht : h.Top) (k : h.Ok) {l : List Int} (hp : h.all.Perm l) : ints h = sortL l :=
  rise_eq_sort ((drain_facts _ _ (Nat.le_refl _) ht).2 k) ((drain_facts _ _ (Nat.le_refl _) ht).1.trans hp)
theorem ints_cons (x : Int) (k : PF) : ints (cons x k nil) = x :: ints (paired k) := by
  have e : (cons x k nil).size = (paired k).size + 1 := by rw [paired_size]; simp only [size]; omega
  unfold ints
  rw [e]
  rfl
theorem ints_length {h : PF} (ht : h.Top) : (ints h).length = h.size := by
  rw [← all_length]
  exact ((drain_facts _ _ (Nat.le_refl _) ht).1).length_eq
def least : PF → Int × Bool
  | .nil => (0, false)
  | .cons x _ _ => (x, true)
theorem ints_pop {s : PF} {x : Int} (ht : s.Top) (h : s.least = (x, true)) : ints s = x :: ints (pop s) := by
  cases s with
  | nil => cases h
  | cons y k n =>
    obtain rfl : n = nil := ht
    cases h
    exact ints_cons _ k
theorem ints_done {s : PF} {x : Int} (h : s.least = (x, false)) : ints s = [] := by
  cases s with
  | nil => rfl
  | cons x k n => cases h
theorem pop_less {s : PF} {x : Int} (ht : s.Top) (h : s.least = (x, true)) : (pop s).size < s.size := by
  cases s with
  | nil => cases h
  | cons x k n => rw [pop_size ht]; simp only [size]; omega
theorem ofL_sort (l : List Int) : ints (ofL l) = sortL l := ints_sort (ofL_top l) (ofL_ok l) (ofL_all l)
theorem ofL_push (l : List Int) (x : Int) : ints (push (ofL l) x) = sortL (l ++ [x]) := by rw [← ofL_snoc, ofL_sort]
theorem join_top (l m : List Int) : (met (ofL l) (ofL m)).Top := met_top (ofL_top l) (ofL_top m)
theorem ofL_join (l m : List Int) : ints (met (ofL l) (ofL m)) = sortL (l ++ m) :=
  ints_sort (join_top l m) (met_ok (ofL_ok l) (ofL_ok m)) ((met_all (ofL_top l) (ofL_top m)).trans ((ofL_all l).append (ofL_all m)))
theorem ofL_first {l : List Int} (h : 0 < l.length) : (ofL l).least = ((sortL l)[0]?.getD 0, true) ∧ ints (pop (ofL l)) = (sortL l).drop 1 := by
  have ht := ofL_top l
  cases hs : ofL l with
  | nil => have := ofL_size l; rw [hs] at this; simp [size] at this; omega
  | cons x a b =>
    rw [hs] at ht
    have e := ofL_sort l
    rw [hs, ints_pop (x := x) ht rfl] at e
    rw [← e]
    exact ⟨rfl, rfl⟩
theorem ofL_none {l : List Int} (h : l.length = 0) : ofL l = nil := by
  cases hs : ofL l with
  | nil => rfl
  | cons x a b => have := ofL_size l; rw [hs] at this; simp only [size] at this; omega
theorem sort_perm {a b : List Int} (h : a.Perm b) : sortL a = sortL b := rise_unique (sortL_rise a) (sortL_rise b) ((sortL_perm a).trans (h.trans (sortL_perm b).symm))
theorem ofL_join3 (a b c : List Int) : ints (met (met (ofL a) (ofL b)) (ofL c)) = ints (met (met (ofL c) (ofL a)) (ofL b)) := by
  have h1 : (met (met (ofL a) (ofL b)) (ofL c)).all.Perm (a ++ b ++ c) := (met_all (join_top a b) (ofL_top c)).trans (((met_all (ofL_top a) (ofL_top b)).trans ((ofL_all a).append (ofL_all b))).append (ofL_all c))
  have h2 : (met (met (ofL c) (ofL a)) (ofL b)).all.Perm (c ++ a ++ b) := (met_all (join_top c a) (ofL_top b)).trans (((met_all (ofL_top c) (ofL_top a)).trans ((ofL_all c).append (ofL_all a))).append (ofL_all b))
  rw [ints_sort (met_top (join_top a b) (ofL_top c)) (met_ok (met_ok (ofL_ok a) (ofL_ok b)) (ofL_ok c)) h1, ints_sort (met_top (join_top c a) (ofL_top b)) (met_ok (met_ok (ofL_ok c) (ofL_ok a)) (ofL_ok b)) h2]
  refine sort_perm ?_
  rw [List.append_assoc c]
  exact List.perm_append_comm
theorem least_ints (t : PF) (ht : t.Top) : t.least = ((ints t)[0]?.getD 0, decide (0 < (ints t).length)) := by
  cases t with
  | nil => rfl
  | cons x l r => rw [ints_pop (x := x) ht rfl]; simp [least]
theorem least_comm (a b : List Int) : (met (ofL a) (ofL b)).least = (met (ofL b) (ofL a)).least := by
  rw [least_ints _ (join_top a b), least_ints _ (join_top b a), ofL_join, ofL_join, sort_perm List.perm_append_comm]
theorem least_has (a b : List Int) : (met (ofL a) (ofL b)).least.2 = decide (0 < a.length + b.length) := by
  rw [least_ints _ (join_top a b), ofL_join, sortL_length, List.length_append]
theorem least_le {t : PF} (ht : t.Top) (hk : t.Ok) {x : Int} (hx : x ∈ t.all) : t.least.2 = true ∧ t.least.1 ≤ x := by
  cases t with
  | nil => simp [all] at hx
  | cons y k n =>
    obtain rfl : n = nil := ht
    exact ⟨rfl, ok_least hk x hx⟩
theorem push_mem {t : PF} (ht : t.Top) (x : Int) : x ∈ (push t x).all := (push_facts x ht).2.1.mem_iff.2 (List.mem_cons_self ..)
theorem least_mem {t : PF} (h : 0 < t.size) : t.least.2 = true ∧ t.least.1 ∈ t.all := by
  cases t with
  | nil => simp [size] at h
  | cons y k n => exact ⟨rfl, List.mem_cons_self ..⟩
theorem pop_above {t : PF} (ht : t.Top) (hk : t.Ok) : ∀ z ∈ (pop t).all, t.least.1 ≤ z := by
  cases t with
  | nil => intro z hz; simp [pop, all] at hz
  | cons y k n =>
    intro z hz
    exact hk.1 z ((paired_all k).mem_iff.1 hz)
end PF
end Go.Proofs.Ytajbmikicbddiaa
