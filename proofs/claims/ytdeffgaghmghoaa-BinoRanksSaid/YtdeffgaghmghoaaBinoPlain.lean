/-
  Binomial heaps as plain lists of trees: what is merged has the numbers of both, its trees are the bits of their number. No program. Conditions: none.
-/
import Derived.Test.YtdeffgaghmghoaaSort
namespace Go.Proofs.Ytdeffgaghmghoaa

inductive BF where
  | nil
  | cons (x : Int) (rank : Nat) (kids next : BF)
/-- A tree: its number, its rank, those under it. -/
abbrev Tr := Int × Nat × BF
namespace BF
def all : BF → List Int
  | nil => []
  | cons x _ k n => x :: (k.all ++ n.all)
def trees : BF → List Tr
  | nil => []
  | cons x r k n => (x, r, k) :: n.trees
def ofT : List Tr → BF
  | [] => nil
  | t :: l => cons t.1 t.2.1 t.2.2 (ofT l)
theorem trees_ofT (l : List Tr) : (ofT l).trees = l := by
  induction l with
  | nil => rfl
  | cons t l ih => simp [ofT, trees, ih]
theorem ofT_trees (f : BF) : ofT f.trees = f := by
  induction f with
  | nil => rfl
  | cons x r k n _ ih => simp [trees, ofT, ih]
def Ok : BF → Prop
  | nil => True
  | cons x _ k n => (∀ y ∈ k.all, x ≤ y) ∧ k.Ok ∧ n.Ok
/-- Those under a tree of a rank: one of each lesser rank, the greatest first. -/
def Bin : Nat → BF → Prop
  | 0, f => f = nil
  | r + 1, f => ∃ x k n, f = cons x r k n ∧ Bin r k ∧ Bin r n
theorem bin_size : ∀ (r : Nat) (f : BF), Bin r f → f.all.length + 1 = 2 ^ r := by
  intro r
  induction r with
  | zero => rintro f rfl; rfl
  | succ r ih =>
    rintro f ⟨x, k, n, rfl, hk, hn⟩
    have a := ih k hk
    have b := ih n hn
    simp only [all, List.length_cons, List.length_append, Nat.pow_succ]
    omega
end BF

def allT (t : Tr) : List Int := t.1 :: t.2.2.all
def allL (l : List Tr) : List Int := l.flatMap allT
def OkT (t : Tr) : Prop := (∀ y ∈ t.2.2.all, t.1 ≤ y) ∧ t.2.2.Ok
def BinT (t : Tr) : Prop := BF.Bin t.2.1 t.2.2
structure GoodL (l : List Tr) : Prop where
  ok : ∀ t ∈ l, OkT t
  bin : ∀ t ∈ l, BinT t
  rise : l.Pairwise (fun a b => a.2.1 < b.2.1)
theorem allL_cons (t : Tr) (l : List Tr) : allL (t :: l) = allT t ++ allL l := rfl
theorem allL_append (a b : List Tr) : allL (a ++ b) = allL a ++ allL b := List.flatMap_append
theorem all_trees (f : BF) : allL f.trees = f.all := by
  induction f with
  | nil => rfl
  | cons x r k n _ ih => simp only [BF.trees, allL_cons, allT, BF.all, ih, List.cons_append]
theorem allT_size {t : Tr} (h : BinT t) : (allT t).length = 2 ^ t.2.1 := BF.bin_size _ _ h
theorem least_of_okT {t : Tr} (h : OkT t) : ∀ y ∈ allT t, t.1 ≤ y := by
  intro y hy
  rcases List.mem_cons.1 hy with rfl | hy
  · exact Int.le_refl _
  · exact h.1 y hy

def link (a b : Tr) : Tr := if b.1 < a.1 then (b.1, b.2.1 + 1, .cons a.1 a.2.1 a.2.2 b.2.2) else (a.1, a.2.1 + 1, .cons b.1 b.2.1 b.2.2 a.2.2)
theorem link_all (a b : Tr) : (allT (link a b)).Perm (allT a ++ allT b) := by
  unfold link allT
  split
  · simp only [BF.all, List.cons_append]
    refine (List.Perm.swap _ _ _).trans ?_
    refine List.Perm.cons _ ?_
    exact List.perm_middle.symm
  · simp only [BF.all, List.cons_append]
    refine List.Perm.cons _ ?_
    refine List.Perm.trans ?_ List.perm_append_comm
    rw [List.cons_append]
theorem link_ok {a b : Tr} (ha : OkT a) (hb : OkT b) : OkT (link a b) := by
  unfold link
  split
  · rename_i h
    refine ⟨fun y hy => ?_, ha.1, ha.2, hb.2⟩
    simp only [BF.all, List.mem_cons, List.mem_append] at hy
    simp only
    rcases hy with rfl | hy | hy
    · omega
    · have := ha.1 y hy; omega
    · exact hb.1 y hy
  · rename_i h
    refine ⟨fun y hy => ?_, hb.1, hb.2, ha.2⟩
    simp only [BF.all, List.mem_cons, List.mem_append] at hy
    simp only
    rcases hy with rfl | hy | hy
    · omega
    · have := hb.1 y hy; omega
    · exact ha.1 y hy
theorem link_bin {a b : Tr} (ha : BinT a) (hb : BinT b) (h : a.2.1 = b.2.1) : BinT (link a b) ∧ (link a b).2.1 = a.2.1 + 1 := by
  unfold link
  split
  · refine ⟨?_, by rw [h]⟩
    exact ⟨a.1, a.2.2, b.2.2, by rw [h], by rw [← h]; exact ha, hb⟩
  · exact ⟨⟨b.1, b.2.2, a.2.2, by rw [h], by rw [h]; exact hb, ha⟩, rfl⟩

/-- What a merge comes to. -/
inductive Mg : List Tr → List Tr → List Tr → Prop where
  | left (b : List Tr) : Mg [] b b
  | right (a : List Tr) : Mg a [] a
  | low {a b : Tr} {l r m : List Tr} (h : a.2.1 < b.2.1) (k : Mg l (b :: r) m) : Mg (a :: l) (b :: r) (a :: m)
  | high {a b : Tr} {l r m : List Tr} (h : b.2.1 < a.2.1) (k : Mg (a :: l) r m) : Mg (a :: l) (b :: r) (b :: m)
  | same {a b : Tr} {l r m n : List Tr} (h : a.2.1 = b.2.1) (k : Mg l r m) (k' : Mg [link a b] m n) : Mg (a :: l) (b :: r) n

theorem mg_length {a b m : List Tr} (h : Mg a b m) : m.length ≤ a.length + b.length := by
  induction h with
  | left b => simp
  | right a => simp
  | low h k ih => simp only [List.length_cons] at *; omega
  | high h k ih => simp only [List.length_cons] at *; omega
  | same h k k' ih ih' => simp only [List.length_cons, List.length_nil] at *; omega
theorem mg_all {a b m : List Tr} (h : Mg a b m) : (allL m).Perm (allL a ++ allL b) := by
  induction h with
  | left b => exact List.Perm.refl _
  | right a => show (allL a).Perm (allL a ++ []); rw [List.append_nil]
  | @low a b l r m h k ih =>
    rw [allL_cons, allL_cons, List.append_assoc]
    exact ih.append_left _
  | @high a b l r m h k ih =>
    rw [allL_cons, allL_cons b]
    refine (ih.append_left _).trans ?_
    rw [← List.append_assoc, ← List.append_assoc]
    exact (List.perm_append_comm).append_right _
  | @same a b l r m n h k k' ih ih' =>
    have e : allL [link a b] = allT (link a b) := by simp [allL]
    rw [e] at ih'
    refine ih'.trans ?_
    refine ((link_all a b).append ih).trans ?_
    rw [allL_cons, allL_cons, List.append_assoc, List.append_assoc]
    refine List.Perm.append_left _ ?_
    rw [← List.append_assoc, ← List.append_assoc]
    exact (List.perm_append_comm).append_right _
theorem mg_ok {a b m : List Tr} (h : Mg a b m) : (∀ t ∈ a, OkT t) → (∀ t ∈ b, OkT t) → ∀ t ∈ m, OkT t := by
  induction h with
  | left b => exact fun _ hb => hb
  | right a => exact fun ha _ => ha
  | low h k ih =>
    intro ha hb t ht
    rcases List.mem_cons.1 ht with rfl | ht
    · exact ha _ (List.mem_cons_self ..)
    · exact ih (fun s hs => ha s (List.mem_cons_of_mem _ hs)) hb t ht
  | high h k ih =>
    intro ha hb t ht
    rcases List.mem_cons.1 ht with rfl | ht
    · exact hb _ (List.mem_cons_self ..)
    · exact ih ha (fun s hs => hb s (List.mem_cons_of_mem _ hs)) t ht
  | same h k k' ih ih' =>
    intro ha hb
    refine ih' (fun s hs => ?_) (ih (fun s hs => ha s (List.mem_cons_of_mem _ hs)) (fun s hs => hb s (List.mem_cons_of_mem _ hs)))
    rw [List.mem_singleton] at hs
    subst hs
    exact link_ok (ha _ (List.mem_cons_self ..)) (hb _ (List.mem_cons_self ..))
theorem mg_bin {a b m : List Tr} (h : Mg a b m) : (∀ t ∈ a, BinT t) → (∀ t ∈ b, BinT t) → (∀ t ∈ m, BinT t) ∧ ∀ k, (∀ t ∈ a, k ≤ t.2.1) → (∀ t ∈ b, k ≤ t.2.1) → ∀ t ∈ m, k ≤ t.2.1 := by
  induction h with
  | left b => exact fun _ hb => ⟨hb, fun _ _ h => h⟩
  | right a => exact fun ha _ => ⟨ha, fun _ h _ => h⟩
  | low h k ih =>
    intro ha hb
    obtain ⟨i1, i2⟩ := ih (fun s hs => ha s (List.mem_cons_of_mem _ hs)) hb
    refine ⟨fun t ht => ?_, fun j hj hj' t ht => ?_⟩
    · rcases List.mem_cons.1 ht with rfl | ht
      · exact ha _ (List.mem_cons_self ..)
      · exact i1 t ht
    · rcases List.mem_cons.1 ht with rfl | ht
      · exact hj _ (List.mem_cons_self ..)
      · exact i2 j (fun s hs => hj s (List.mem_cons_of_mem _ hs)) hj' t ht
  | high h k ih =>
    intro ha hb
    obtain ⟨i1, i2⟩ := ih ha (fun s hs => hb s (List.mem_cons_of_mem _ hs))
    refine ⟨fun t ht => ?_, fun j hj hj' t ht => ?_⟩
    · rcases List.mem_cons.1 ht with rfl | ht
      · exact hb _ (List.mem_cons_self ..)
      · exact i1 t ht
    · rcases List.mem_cons.1 ht with rfl | ht
      · exact hj' _ (List.mem_cons_self ..)
      · exact i2 j hj (fun s hs => hj' s (List.mem_cons_of_mem _ hs)) t ht
  | same h k k' ih ih' =>
    intro ha hb
    obtain ⟨i1, i2⟩ := ih (fun s hs => ha s (List.mem_cons_of_mem _ hs)) (fun s hs => hb s (List.mem_cons_of_mem _ hs))
    have hl := link_bin (ha _ (List.mem_cons_self ..)) (hb _ (List.mem_cons_self ..)) h
    obtain ⟨j1, j2⟩ := ih' (fun s hs => by rw [List.mem_singleton] at hs; subst hs; exact hl.1) i1
    refine ⟨j1, fun j hj hj' => j2 j (fun s hs => ?_) (i2 j (fun s hs => hj s (List.mem_cons_of_mem _ hs)) (fun s hs => hj' s (List.mem_cons_of_mem _ hs)))⟩
    rw [List.mem_singleton] at hs
    subst hs
    have := hj _ (List.mem_cons_self ..)
    rw [hl.2]
    omega
theorem mg_rise {a b m : List Tr} (h : Mg a b m) : GoodL a → GoodL b → m.Pairwise (fun a b => a.2.1 < b.2.1) := by
  have tl : ∀ {t : Tr} {l : List Tr}, GoodL (t :: l) → GoodL l := fun h =>
    ⟨fun s hs => h.ok s (List.mem_cons_of_mem _ hs), fun s hs => h.bin s (List.mem_cons_of_mem _ hs), (List.pairwise_cons.1 h.rise).2⟩
  induction h with
  | left b => exact fun _ hb => hb.rise
  | right a => exact fun ha _ => ha.rise
  | @low a b l r m h k ih =>
    intro ha hb
    refine List.pairwise_cons.2 ⟨fun t ht => ?_, ih (tl ha) hb⟩
    have := (mg_bin k (tl ha).bin hb.bin).2 (a.2.1 + 1) (fun s hs => (List.pairwise_cons.1 ha.rise).1 s hs) (fun s hs => by
      rcases List.mem_cons.1 hs with rfl | hs
      · exact h
      · have := (List.pairwise_cons.1 hb.rise).1 s hs; omega) t ht
    omega
  | @high a b l r m h k ih =>
    intro ha hb
    refine List.pairwise_cons.2 ⟨fun t ht => ?_, ih ha (tl hb)⟩
    have := (mg_bin k ha.bin (tl hb).bin).2 (b.2.1 + 1) (fun s hs => by
      rcases List.mem_cons.1 hs with rfl | hs
      · exact h
      · have := (List.pairwise_cons.1 ha.rise).1 s hs; omega) (fun s hs => (List.pairwise_cons.1 hb.rise).1 s hs) t ht
    omega
  | @same a b l r m n h k k' ih ih' =>
    intro ha hb
    have hl := link_bin (ha.bin _ (List.mem_cons_self ..)) (hb.bin _ (List.mem_cons_self ..)) h
    refine ih' ⟨fun s hs => ?_, fun s hs => ?_, List.pairwise_singleton _ _⟩ ⟨mg_ok k (tl ha).ok (tl hb).ok, (mg_bin k (tl ha).bin (tl hb).bin).1, ih (tl ha) (tl hb)⟩
    · rw [List.mem_singleton] at hs; subst hs; exact link_ok (ha.ok _ (List.mem_cons_self ..)) (hb.ok _ (List.mem_cons_self ..))
    · rw [List.mem_singleton] at hs; subst hs; exact hl.1
theorem mg_good {a b m : List Tr} (h : Mg a b m) (ha : GoodL a) (hb : GoodL b) : GoodL m :=
  ⟨mg_ok h ha.ok hb.ok, (mg_bin h ha.bin hb.bin).1, mg_rise h ha hb⟩
theorem good_nil : GoodL [] := ⟨by simp, by simp, List.Pairwise.nil⟩
theorem good_one (x : Int) : GoodL [(x, 0, .nil)] :=
  ⟨fun t ht => by rw [List.mem_singleton] at ht; subst ht; exact ⟨by simp [BF.all], trivial⟩, fun t ht => by rw [List.mem_singleton] at ht; subst ht; rfl, List.pairwise_singleton _ _⟩

/-- Those under a tree, the other way round: a heap. -/
theorem bin_trees : ∀ (r : Nat) (f : BF), BF.Bin r f → f.Ok → (∀ t ∈ f.trees, OkT t ∧ BinT t ∧ t.2.1 < r) ∧ f.trees.Pairwise (fun a b => b.2.1 < a.2.1) := by
  intro r
  induction r with
  | zero => rintro f rfl _; exact ⟨by simp [BF.trees], List.Pairwise.nil⟩
  | succ r ih =>
    rintro f ⟨x, k, n, rfl, hk, hn⟩ ⟨o1, o2, o3⟩
    obtain ⟨i1, i2⟩ := ih n hn o3
    refine ⟨fun t ht => ?_, List.pairwise_cons.2 ⟨fun t ht => (i1 t ht).2.2, i2⟩⟩
    rcases List.mem_cons.1 ht with rfl | ht
    · exact ⟨⟨o1, o2⟩, hk, Nat.lt_succ_self _⟩
    · have := i1 t ht
      exact ⟨this.1, this.2.1, by omega⟩
theorem kids_good {t : Tr} (h : OkT t) (hb : BinT t) : GoodL t.2.2.trees.reverse := by
  obtain ⟨h1, h2⟩ := bin_trees _ _ hb h.2
  exact ⟨fun s hs => (h1 s (List.mem_reverse.1 hs)).1, fun s hs => (h1 s (List.mem_reverse.1 hs)).2.1, List.pairwise_reverse.2 h2⟩
theorem kids_all (f : BF) : (allL f.trees.reverse).Perm f.all := by
  rw [← all_trees]
  exact (List.reverse_perm _).flatMap_right _

/-- What is left when the tree at a place goes. -/
structure Popped (l : List Tr) (i : Nat) (t : Tr) (m : List Tr) : Prop where
  at_ : l[i]? = some t
  mg : Mg t.2.2.trees.reverse (l.take i ++ l.drop (i + 1)) m
theorem popped_good {l m : List Tr} {i : Nat} {t : Tr} (h : Popped l i t m) (hl : GoodL l) : GoodL m := by
  have ht : t ∈ l := List.mem_of_getElem? h.at_
  have hs : (l.take i ++ l.drop (i + 1)).Sublist l := by
    have e : l.take i ++ l.drop i = l := List.take_append_drop i l
    have : (l.take i ++ l.drop (i + 1)).Sublist (l.take i ++ l.drop i) := by
      refine List.Sublist.append_left ?_ _
      rw [← List.drop_drop]
      exact List.drop_sublist _ _
    rwa [e] at this
  exact mg_good h.mg (kids_good (hl.ok t ht) (hl.bin t ht)) ⟨fun s k => hl.ok s (hs.subset k), fun s k => hl.bin s (hs.subset k), hl.rise.sublist hs⟩
theorem popped_all {l m : List Tr} {i : Nat} {t : Tr} (h : Popped l i t m) : (t.1 :: allL m).Perm (allL l) := by
  have hi : i < l.length := (List.getElem?_eq_some_iff.1 h.at_).1
  have e : l = l.take i ++ t :: l.drop (i + 1) := by
    have h1 : l.drop i = t :: l.drop (i + 1) := by
      rw [List.drop_eq_getElem_cons hi]
      have := (List.getElem?_eq_some_iff.1 h.at_).2
      rw [this]
    rw [← h1, List.take_append_drop]
  have h1 : (allL m).Perm (t.2.2.all ++ (allL (l.take i) ++ allL (l.drop (i + 1)))) := by
    refine (mg_all h.mg).trans ?_
    rw [allL_append]
    exact (kids_all _).append_right _
  refine (h1.cons t.1).trans ?_
  have e' : allL l = allL (l.take i) ++ (allT t ++ allL (l.drop (i + 1))) := by
    rw [← allL_cons, ← allL_append, ← e]
  rw [e']
  have h2 : t.1 :: (t.2.2.all ++ (allL (l.take i) ++ allL (l.drop (i + 1)))) = allT t ++ (allL (l.take i) ++ allL (l.drop (i + 1))) := rfl
  rw [h2, ← List.append_assoc, ← List.append_assoc]
  exact (List.perm_append_comm).append_right _
theorem popped_least {l : List Tr} {t : Tr} (hl : GoodL l) (hm : ∀ s ∈ l, t.1 ≤ s.1) : ∀ y ∈ allL l, t.1 ≤ y := by
  intro y hy
  obtain ⟨s, hs, hy⟩ := List.mem_flatMap.1 hy
  have h1 := hm s hs
  have h2 := least_of_okT (hl.ok s hs) y hy
  omega

/-- How many: by the ranks. -/
def sizeL (l : List Tr) : Nat := (l.map fun t => 2 ^ t.2.1).sum
theorem sizeL_cons (t : Tr) (l : List Tr) : sizeL (t :: l) = 2 ^ t.2.1 + sizeL l := by simp [sizeL]
theorem sizeL_all {l : List Tr} (h : ∀ t ∈ l, BinT t) : sizeL l = (allL l).length := by
  induction l with
  | nil => rfl
  | cons t l ih =>
    rw [sizeL_cons, allL_cons, List.length_append, allT_size (h t (List.mem_cons_self ..)), ih (fun s hs => h s (List.mem_cons_of_mem _ hs))]

/-- The places of the bits that are 1. -/
def bitsFrom : Nat → Nat → Nat → List Nat
  | 0, _, _ => []
  | f + 1, k, n => if n = 0 then [] else if n % 2 = 1 then k :: bitsFrom f (k + 1) (n / 2) else bitsFrom f (k + 1) (n / 2)
theorem bits_unique : ∀ (f k n : Nat) (rs : List Nat), n < 2 ^ f → (∀ r ∈ rs, k ≤ r) → rs.Pairwise (· < ·) → (rs.map fun r => 2 ^ (r - k)).sum = n → rs = bitsFrom f k n := by
  intro f
  induction f with
  | zero =>
    intro k n rs hn hk hr hs
    cases rs with
    | nil => rfl
    | cons r rs =>
      have : 1 ≤ 2 ^ (r - k) := Nat.one_le_two_pow
      simp at hs hn
      omega
  | succ f ih =>
    intro k n rs hn hk hr hs
    have half : ∀ l : List Nat, (∀ r ∈ l, k + 1 ≤ r) → (l.map fun r => 2 ^ (r - k)).sum = 2 * (l.map fun r => 2 ^ (r - (k + 1))).sum := by
      intro l hl
      induction l with
      | nil => rfl
      | cons r l il =>
        have h1 := hl r (List.mem_cons_self ..)
        have h2 := il (fun s hs => hl s (List.mem_cons_of_mem _ hs))
        have h3 : 2 ^ (r - k) = 2 * 2 ^ (r - (k + 1)) := by
          have : r - k = (r - (k + 1)) + 1 := by omega
          rw [this, Nat.pow_succ]
          omega
        simp only [List.map_cons, List.sum_cons, h2, h3]
        omega
    unfold bitsFrom
    by_cases h0 : n = 0
    · rw [if_pos h0]
      cases rs with
      | nil => rfl
      | cons r rs =>
        have : 1 ≤ 2 ^ (r - k) := Nat.one_le_two_pow
        simp at hs
        omega
    · rw [if_neg h0]
      rw [Nat.pow_succ] at hn
      cases rs with
      | nil => simp at hs; omega
      | cons r rs =>
        have hr' := List.pairwise_cons.1 hr
        by_cases hrk : r = k
        · subst hrk
          have hb : ∀ s ∈ rs, r + 1 ≤ s := fun s hs => hr'.1 s hs
          simp only [List.map_cons, List.sum_cons, half rs hb, Nat.sub_self, Nat.pow_zero] at hs
          rw [if_pos (by omega)]
          congr 1
          exact ih (r + 1) (n / 2) rs (by omega) hb hr'.2 (by omega)
        · have h1 := hk r (List.mem_cons_self ..)
          have hb : ∀ s ∈ r :: rs, k + 1 ≤ s := fun s hs => by
            rcases List.mem_cons.1 hs with rfl | hs
            · omega
            · have := hr'.1 s hs; omega
          rw [half _ hb] at hs
          rw [if_neg (by omega)]
          exact ih (k + 1) (n / 2) (r :: rs) (by omega) hb hr (by omega)
theorem ranks_bits {l : List Tr} (h : GoodL l) (f : Nat) (hf : (allL l).length < 2 ^ f) : l.map (fun t => t.2.1) = bitsFrom f 0 (allL l).length := by
  refine bits_unique f 0 _ _ hf (by simp) ?_ ?_
  · exact List.pairwise_map.2 h.rise
  · rw [List.map_map, ← sizeL_all h.bin]
    rfl
end Go.Proofs.Ytdeffgaghmghoaa
