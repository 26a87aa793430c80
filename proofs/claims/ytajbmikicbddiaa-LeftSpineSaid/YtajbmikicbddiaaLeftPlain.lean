/-
  Leftist heaps as plain trees: what is merged has the numbers of both, the least one stays on top, the way to the right is short. No program. Conditions: none.
-/
import Derived.Test.YtajbmikicbddiaaSort
namespace Go.Proofs.Ytajbmikicbddiaa

inductive LT where
  | nil
  | node (x : Int) (l r : LT)
namespace LT
def size : LT → Nat
  | nil => 0
  | node _ l r => 1 + l.size + r.size
def spine : LT → Nat
  | nil => 0
  | node _ _ r => r.spine + 1
def elems : LT → List Int
  | nil => []
  | node x l r => x :: (l.elems ++ r.elems)
def mk (x : Int) (a b : LT) : LT := if a.spine < b.spine then node x b a else node x a b
/-- No number stands above a lesser one. -/
def Ok : LT → Prop
  | nil => True
  | node x l r => (∀ y ∈ l.elems, x ≤ y) ∧ (∀ y ∈ r.elems, x ≤ y) ∧ l.Ok ∧ r.Ok
/-- It hangs to the left. -/
def Lefty : LT → Prop
  | nil => True
  | node _ l r => r.spine ≤ l.spine ∧ l.Lefty ∧ r.Lefty

theorem elems_length (t : LT) : t.elems.length = t.size := by
  induction t with
  | nil => rfl
  | node x l r ihl ihr => simp [elems, size, ihl, ihr]; omega
theorem spine_le (t : LT) : t.spine ≤ t.size := by
  induction t with
  | nil => exact Nat.le_refl _
  | node x l r ihl ihr => simp only [spine, size]; omega
theorem mk_size (x : Int) (a b : LT) : (mk x a b).size = 1 + a.size + b.size := by
  unfold mk
  split <;> simp only [size]
  omega
theorem mk_elems (x : Int) (a b : LT) : (mk x a b).elems.Perm (x :: (a.elems ++ b.elems)) := by
  unfold mk
  split
  · simp only [elems]
    exact List.Perm.cons _ List.perm_append_comm
  · exact List.Perm.refl _
theorem mk_ok {x : Int} {a b : LT} (ha : ∀ y ∈ a.elems, x ≤ y) (hb : ∀ y ∈ b.elems, x ≤ y) (ka : a.Ok) (kb : b.Ok) : (mk x a b).Ok := by
  unfold mk
  split
  · exact ⟨hb, ha, kb, ka⟩
  · exact ⟨ha, hb, ka, kb⟩
theorem mk_lefty {x : Int} {a b : LT} (ka : a.Lefty) (kb : b.Lefty) : (mk x a b).Lefty := by
  unfold mk
  split
  · rename_i h; exact ⟨Nat.le_of_lt h, kb, ka⟩
  · rename_i h; exact ⟨Nat.le_of_not_lt h, ka, kb⟩

def merged : LT → LT → LT
  | nil, b => b
  | node x l r, nil => node x l r
  | node x l r, node y l' r' => if y < x then mk y l' (merged r' (node x l r)) else mk x l (merged r (node y l' r'))
termination_by a b => a.size + b.size
decreasing_by all_goals (simp only [size]; omega)

theorem merged_nil_left (b : LT) : merged nil b = b := by unfold merged; rfl
theorem merged_nil_right (a : LT) : merged a nil = a := by cases a <;> (unfold merged; rfl)
theorem merged_low (x y : Int) (l r l' r' : LT) (h : y < x) : merged (node x l r) (node y l' r') = mk y l' (merged r' (node x l r)) := by
  rw [merged, if_pos h]
theorem merged_high (x y : Int) (l r l' r' : LT) (h : ¬ y < x) : merged (node x l r) (node y l' r') = mk x l (merged r (node y l' r')) := by
  rw [merged, if_neg h]

/-- What holds of both ways of a merge, by one induction. -/
theorem merged_rec {P : LT → LT → LT → Prop} (h1 : ∀ b, P nil b b) (h2 : ∀ x l r, P (node x l r) nil (node x l r))
    (h3 : ∀ x y l r l' r' m, y < x → P r' (node x l r) m → P (node x l r) (node y l' r') (mk y l' m))
    (h4 : ∀ x y l r l' r' m, ¬ y < x → P r (node y l' r') m → P (node x l r) (node y l' r') (mk x l m)) :
    ∀ (n : Nat) (a b : LT), a.size + b.size ≤ n → P a b (merged a b) := by
  intro n
  induction n with
  | zero =>
    intro a b h
    cases a with
    | nil => rw [merged_nil_left]; exact h1 b
    | node x l r => simp only [size] at h; omega
  | succ n ih =>
    intro a b h
    cases a with
    | nil => rw [merged_nil_left]; exact h1 b
    | node x l r =>
      cases b with
      | nil => rw [merged_nil_right]; exact h2 x l r
      | node y l' r' =>
        simp only [size] at h
        by_cases hy : y < x
        · rw [merged_low _ _ _ _ _ _ hy]
          exact h3 x y l r l' r' _ hy (ih _ _ (by simp only [size]; omega))
        · rw [merged_high _ _ _ _ _ _ hy]
          exact h4 x y l r l' r' _ hy (ih _ _ (by simp only [size]; omega))

theorem merged_size (a b : LT) : (merged a b).size = a.size + b.size := by
  refine merged_rec (P := fun a b m => m.size = a.size + b.size) ?_ ?_ ?_ ?_ (a.size + b.size) a b (Nat.le_refl _)
  · intro b; simp [size]
  · intro x l r; simp [size]
  · intro x y l r l' r' m _ h; rw [mk_size, h]; simp only [size]; omega
  · intro x y l r l' r' m _ h; rw [mk_size, h]; simp only [size]; omega
theorem merged_elems (a b : LT) : (merged a b).elems.Perm (a.elems ++ b.elems) := by
  refine merged_rec (P := fun a b m => m.elems.Perm (a.elems ++ b.elems)) ?_ ?_ ?_ ?_ (a.size + b.size) a b (Nat.le_refl _)
  · intro b; exact List.Perm.refl _
  · intro x l r; simp only [elems, List.append_nil]; exact List.Perm.refl _
  · intro x y l r l' r' m _ h
    refine (mk_elems _ _ _).trans ?_
    have h1 : (y :: (l'.elems ++ m.elems)).Perm (y :: (l'.elems ++ (r'.elems ++ (node x l r).elems))) := (h.append_left _).cons _
    refine h1.trans ?_
    rw [← List.append_assoc]
    have h2 : (y :: (l'.elems ++ r'.elems ++ (node x l r).elems)) = (node y l' r').elems ++ (node x l r).elems := by simp [elems]
    rw [h2]
    exact List.perm_append_comm
  · intro x y l r l' r' m _ h
    refine (mk_elems _ _ _).trans ?_
    have h1 : (x :: (l.elems ++ m.elems)).Perm (x :: (l.elems ++ (r.elems ++ (node y l' r').elems))) := (h.append_left _).cons _
    refine h1.trans ?_
    simp [elems]
theorem ok_least {x : Int} {l r : LT} (h : (node x l r).Ok) : ∀ y ∈ (node x l r).elems, x ≤ y := by
  intro y hy
  simp only [elems, List.mem_cons, List.mem_append] at hy
  rcases hy with rfl | hy | hy
  · exact Int.le_refl _
  · exact h.1 y hy
  · exact h.2.1 y hy
theorem merged_ok (a b : LT) : a.Ok → b.Ok → (merged a b).Ok := by
  have key := merged_rec (P := fun a b m => a.Ok → b.Ok → m.Ok ∧ m.elems.Perm (a.elems ++ b.elems)) ?_ ?_ ?_ ?_ (a.size + b.size) a b (Nat.le_refl _)
  · exact fun ha hb => (key ha hb).1
  · intro b _ hb; exact ⟨hb, List.Perm.refl _⟩
  · intro x l r ha _; exact ⟨ha, by simp [elems]⟩
  · intro x y l r l' r' m hy h ha hb
    obtain ⟨k1, k2⟩ := h hb.2.2.2 ha
    refine ⟨mk_ok hb.1 (fun z hz => ?_) hb.2.2.1 k1, ?_⟩
    · rcases List.mem_append.1 (k2.mem_iff.1 hz) with hz | hz
      · exact hb.2.1 z hz
      · have := ok_least ha z hz
        omega
    · refine (mk_elems _ _ _).trans ((((k2.append_left _).cons _)).trans ?_)
      rw [← List.append_assoc]
      have h2 : (y :: (l'.elems ++ r'.elems ++ (node x l r).elems)) = (node y l' r').elems ++ (node x l r).elems := by simp [elems]
      rw [h2]
      exact List.perm_append_comm
  · intro x y l r l' r' m hy h ha hb
    obtain ⟨k1, k2⟩ := h ha.2.2.2 hb
    refine ⟨mk_ok ha.1 (fun z hz => ?_) ha.2.2.1 k1, ?_⟩
    · rcases List.mem_append.1 (k2.mem_iff.1 hz) with hz | hz
      · exact ha.2.1 z hz
      · have := ok_least hb z hz
        omega
    · refine (mk_elems _ _ _).trans ((((k2.append_left _).cons _)).trans ?_)
      simp [elems]
theorem merged_lefty (a b : LT) : a.Lefty → b.Lefty → (merged a b).Lefty := by
  refine merged_rec (P := fun a b m => a.Lefty → b.Lefty → m.Lefty) ?_ ?_ ?_ ?_ (a.size + b.size) a b (Nat.le_refl _)
  · intro b _ hb; exact hb
  · intro x l r ha _; exact ha
  · intro x y l r l' r' m _ h ha hb; exact mk_lefty hb.2.1 (h hb.2.2 ha)
  · intro x y l r l' r' m _ h ha hb; exact mk_lefty ha.2.1 (h ha.2.2 hb)

/-- CRANE: the way to the right is short. -/
theorem spine_short (t : LT) : t.Lefty → 2 ^ t.spine ≤ t.size + 1 := by
  induction t with
  | nil => intro _; exact Nat.le_refl _
  | node x l r ihl ihr =>
    rintro ⟨h1, h2, h3⟩
    have a := ihl h2
    have b := ihr h3
    have c : 2 ^ r.spine ≤ 2 ^ l.spine := Nat.pow_le_pow_right (by omega) h1
    simp only [spine, size]
    rw [Nat.pow_succ]
    omega

/-- One number alone. -/
def one (x : Int) : LT := mk x nil nil
theorem one_eq (x : Int) : one x = node x nil nil := rfl
def push (h : LT) (x : Int) : LT := merged h (one x)
def ofL (l : List Int) : LT := l.foldl push nil
def pop : LT → LT
  | nil => nil
  | node _ l r => merged l r
theorem push_size (h : LT) (x : Int) : (push h x).size = h.size + 1 := by
  unfold push
  rw [merged_size]
  rfl
theorem push_elems (h : LT) (x : Int) : (push h x).elems.Perm (x :: h.elems) :=
  (merged_elems h (one x)).trans (by
    have e : (one x).elems = [x] := rfl
    rw [e]
    exact List.perm_append_comm)
theorem push_ok (h : LT) (x : Int) (k : h.Ok) : (push h x).Ok := merged_ok _ _ k (by simp [one_eq, Ok, elems])
theorem push_lefty (h : LT) (x : Int) (k : h.Lefty) : (push h x).Lefty := merged_lefty _ _ k (by simp [one_eq, Lefty])
theorem ofL_snoc (l : List Int) (x : Int) : ofL (l ++ [x]) = push (ofL l) x := by
  unfold ofL
  rw [List.foldl_append]
  rfl
theorem foldl_push (l : List Int) : ∀ h : LT, (l.foldl push h).size = h.size + l.length ∧ (l.foldl push h).elems.Perm (l ++ h.elems) ∧ (h.Ok → (l.foldl push h).Ok) ∧ (h.Lefty → (l.foldl push h).Lefty) := by
  induction l with
  | nil => intro h; exact ⟨rfl, List.Perm.refl _, id, id⟩
  | cons x l ih =>
    intro h
    obtain ⟨i1, i2, i3, i4⟩ := ih (push h x)
    rw [List.foldl_cons]
    refine ⟨by rw [i1, push_size, List.length_cons]; omega, ?_, fun k => i3 (push_ok _ _ k), fun k => i4 (push_lefty _ _ k)⟩
    refine i2.trans (((push_elems h x).append_left l).trans ?_)
    exact List.perm_middle
theorem ofL_size (l : List Int) : (ofL l).size = l.length := by have := (foldl_push l nil).1; simpa [size, ofL] using this
theorem ofL_elems (l : List Int) : (ofL l).elems.Perm l := by have := (foldl_push l nil).2.1; simpa [elems, ofL] using this
theorem ofL_ok (l : List Int) : (ofL l).Ok := (foldl_push l nil).2.2.1 trivial
theorem ofL_lefty (l : List Int) : (ofL l).Lefty := (foldl_push l nil).2.2.2 trivial

theorem pop_size (h : LT) : (pop h).size = h.size - 1 := by
  cases h with
  | nil => rfl
  | node x l r => simp only [pop, size]; rw [merged_size]; omega
theorem pop_ok {h : LT} (k : h.Ok) : (pop h).Ok := by
  cases h with
  | nil => exact trivial
  | node x l r => exact merged_ok _ _ k.2.2.1 k.2.2.2
theorem pop_lefty {h : LT} (k : h.Lefty) : (pop h).Lefty := by
  cases h with
  | nil => exact trivial
  | node x l r => exact merged_lefty _ _ k.2.1 k.2.2

/-- All that goes out, one by one. -/
def drain : Nat → LT → List Int
  | 0, _ => []
  | _ + 1, nil => []
  | n + 1, node x l r => x :: drain n (merged l r)
theorem drain_elems : ∀ (n : Nat) (h : LT), h.size ≤ n → (drain n h).Perm h.elems := by
  intro n
  induction n with
  | zero =>
    intro h hn
    cases h with
    | nil => exact List.Perm.refl _
    | node x l r => simp only [size] at hn; omega
  | succ n ih =>
    intro h hn
    cases h with
    | nil => exact List.Perm.refl _
    | node x l r =>
      simp only [size] at hn
      simp only [drain, elems]
      exact ((ih _ (by rw [merged_size]; omega)).trans (merged_elems l r)).cons _
theorem drain_rise : ∀ (n : Nat) (h : LT), h.size ≤ n → h.Ok → Rise (drain n h) := by
  intro n
  induction n with
  | zero => intro h _ _; exact List.Pairwise.nil
  | succ n ih =>
    intro h hn k
    cases h with
    | nil => exact List.Pairwise.nil
    | node x l r =>
      simp only [size] at hn
      refine List.pairwise_cons.2 ⟨fun y hy => ?_, ih _ (by rw [merged_size]; omega) (merged_ok _ _ k.2.2.1 k.2.2.2)⟩
      have hy' := ((drain_elems n _ (by rw [merged_size]; omega)).trans (merged_elems l r)).mem_iff.1 hy
      rcases List.mem_append.1 hy' with h1 | h1
      · exact k.1 y h1
      · exact k.2.1 y h1
def ints (h : LT) : List Int := drain h.size h
theorem ints_sort {h : LT} (k : h.Ok) {l : List Int} (hp : h.elems.Perm l) : ints h = sortL l :=
  rise_eq_sort (drain_rise _ _ (Nat.le_refl _) k) ((drain_elems _ _ (Nat.le_refl _)).trans hp)
theorem ints_node (x : Int) (l r : LT) : ints (node x l r) = x :: ints (merged l r) := by
  have e : (node x l r).size = (merged l r).size + 1 := by rw [merged_size]; simp only [size]; omega
  unfold ints
  rw [e]
  rfl
theorem ints_length (h : LT) : (ints h).length = h.size := by
  rw [← elems_length]
  exact (drain_elems _ _ (Nat.le_refl _)).length_eq
def least : LT → Int × Bool
  | .nil => (0, false)
  | .node x _ _ => (x, true)
theorem ints_pop {s : LT} {x : Int} (h : s.least = (x, true)) : ints s = x :: ints (pop s) := by
  cases s with
  | nil => cases h
  | node y l r => cases h; exact ints_node _ l r
theorem ints_done {s : LT} {x : Int} (h : s.least = (x, false)) : ints s = [] := by
  cases s with
  | nil => rfl
  | node x l r => cases h
theorem pop_less {s : LT} {x : Int} (h : s.least = (x, true)) : (pop s).size < s.size := by
  cases s with
  | nil => cases h
  | node x l r => rw [pop_size]; simp only [size]; omega
theorem ofL_sort (l : List Int) : ints (ofL l) = sortL l := ints_sort (ofL_ok l) (ofL_elems l)
theorem ofL_push (l : List Int) (x : Int) : ints (push (ofL l) x) = sortL (l ++ [x]) := by rw [← ofL_snoc, ofL_sort]
theorem ofL_join (l m : List Int) : ints (merged (ofL l) (ofL m)) = sortL (l ++ m) :=
  ints_sort (merged_ok _ _ (ofL_ok l) (ofL_ok m)) ((merged_elems _ _).trans ((ofL_elems l).append (ofL_elems m)))
theorem ofL_first {l : List Int} (h : 0 < l.length) : (ofL l).least = ((sortL l)[0]?.getD 0, true) ∧ ints (pop (ofL l)) = (sortL l).drop 1 := by
  cases hs : ofL l with
  | nil => have := ofL_size l; rw [hs] at this; simp [size] at this; omega
  | node x a b =>
    have e := ofL_sort l
    rw [hs, ints_node] at e
    rw [← e]
    exact ⟨rfl, rfl⟩
theorem ofL_none {l : List Int} (h : l.length = 0) : ofL l = nil := by
  cases hs : ofL l with
  | nil => rfl
  | node x a b => have := ofL_size l; rw [hs] at this; simp only [size] at this; omega
theorem sort_perm {a b : List Int} (h : a.Perm b) : sortL a = sortL b := rise_unique (sortL_rise a) (sortL_rise b) ((sortL_perm a).trans (h.trans (sortL_perm b).symm))
theorem ofL_join3 (a b c : List Int) : ints (merged (merged (ofL a) (ofL b)) (ofL c)) = ints (merged (merged (ofL c) (ofL a)) (ofL b)) := by
  have h1 : (merged (merged (ofL a) (ofL b)) (ofL c)).elems.Perm (a ++ b ++ c) := (merged_elems _ _).trans (((merged_elems _ _).trans ((ofL_elems a).append (ofL_elems b))).append (ofL_elems c))
  have h2 : (merged (merged (ofL c) (ofL a)) (ofL b)).elems.Perm (c ++ a ++ b) := (merged_elems _ _).trans (((merged_elems _ _).trans ((ofL_elems c).append (ofL_elems a))).append (ofL_elems b))
  rw [ints_sort (merged_ok _ _ (merged_ok _ _ (ofL_ok a) (ofL_ok b)) (ofL_ok c)) h1, ints_sort (merged_ok _ _ (merged_ok _ _ (ofL_ok c) (ofL_ok a)) (ofL_ok b)) h2]
  refine sort_perm ?_
  rw [List.append_assoc c]
  exact List.perm_append_comm
theorem least_ints (t : LT) : t.least = ((ints t)[0]?.getD 0, decide (0 < (ints t).length)) := by
  cases t with
  | nil => rfl
  | node x l r => rw [ints_node]; simp [least]
theorem least_comm (a b : List Int) : (merged (ofL a) (ofL b)).least = (merged (ofL b) (ofL a)).least := by
  rw [least_ints, least_ints, ofL_join, ofL_join, sort_perm List.perm_append_comm]
theorem least_has (a b : List Int) : (merged (ofL a) (ofL b)).least.2 = decide (0 < a.length + b.length) := by
  rw [least_ints, ofL_join, sortL_length, List.length_append]
end LT
end Go.Proofs.Ytajbmikicbddiaa
