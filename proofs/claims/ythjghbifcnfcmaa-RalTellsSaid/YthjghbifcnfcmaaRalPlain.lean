/-
  Lists of trees as plain lists: what is pushed, taken, set; the trees' sizes. No program. Conditions: none.
-/
import Derived.Test.YthjghbifcnfcmaaSkewMore
namespace Go.Proofs.Ythjghbifcnfcmaa
set_option linter.unusedVariables false
open SK
inductive RT where
  | nil
  | node (x : Int) (l r : RT)
namespace RT
def pre : RT → List Int
  | nil => []
  | node x l r => x :: (l.pre ++ r.pre)
def Perf : Nat → RT → Prop
  | 0, t => t = nil
  | k + 1, t => ∃ x l r, t = node x l r ∧ Perf k l ∧ Perf k r
theorem perf_len : ∀ {k : Nat} {t : RT}, Perf k t → (t.pre.length : Int) = D k := by
  intro k
  induction k with
  | zero => rintro t rfl; rfl
  | succ k ih =>
    rintro t ⟨x, l, r, rfl, hl, hr⟩
    have a := ih hl
    have b := ih hr
    simp only [pre, List.length_cons, List.length_append, D]
    omega
/-- With another number at a place. -/
def put : RT → Nat → Int → RT
  | nil, _, _ => nil
  | node x l r, 0, y => node y l r
  | node x l r, i + 1, y => if i < l.pre.length then node x (l.put i y) r else node x l (r.put (i - l.pre.length) y)
theorem put_length : ∀ (t : RT) (i : Nat) (y : Int), (t.put i y).pre.length = t.pre.length := by
  intro t
  induction t with
  | nil => intro i y; rfl
  | node x l r ihl ihr =>
    intro i y
    cases i with
    | zero => simp [put, pre]
    | succ i =>
      simp only [put]
      split
      · simp [pre, ihl]
      · simp [pre, ihr]
theorem put_pre : ∀ (t : RT) (i : Nat) (y : Int), (t.put i y).pre = t.pre.set i y := by
  intro t
  induction t with
  | nil => intro i y; simp [put, pre]
  | node x l r ihl ihr =>
    intro i y
    cases i with
    | zero => simp [put, pre]
    | succ i =>
      simp only [put, pre, List.set_cons_succ]
      split
      · rename_i h
        simp only [pre, ihl, List.set_append, if_pos h]
      · rename_i h
        simp only [pre, ihr, List.set_append, if_neg h]
theorem put_perf : ∀ {k : Nat} {t : RT} (i : Nat) (y : Int), Perf k t → Perf k (t.put i y) := by
  intro k
  induction k with
  | zero => rintro t i y rfl; rfl
  | succ k ih =>
    rintro t i y ⟨x, l, r, rfl, hl, hr⟩
    cases i with
    | zero => exact ⟨y, l, r, rfl, hl, hr⟩
    | succ i =>
      simp only [put]
      split
      · exact ⟨x, _, r, rfl, ih _ _ hl, hr⟩
      · exact ⟨x, l, _, rfl, hl, ih _ _ hr⟩
end RT
/-- A spot: its tree's rank, its tree. -/
abbrev Sp := Nat × RT
def allS (l : List Sp) : List Int := l.flatMap fun s => s.2.pre
theorem allS_cons (s : Sp) (l : List Sp) : allS (s :: l) = s.2.pre ++ allS l := rfl
/-- All but the first one rise, and the first one is not above. -/
def canon : List Nat → Prop
  | [] => True
  | a :: r => r.Pairwise (· < ·) ∧ ∀ b ∈ r, a ≤ b
structure GoodS (l : List Sp) : Prop where
  perf : ∀ s ∈ l, 1 ≤ s.1 ∧ RT.Perf s.1 s.2
  can : canon (l.map (·.1))
theorem goodS_nil : GoodS [] := ⟨by simp, trivial⟩
theorem GoodS.tail {s : Sp} {l : List Sp} (h : GoodS (s :: l)) : GoodS l := by
  refine ⟨fun t ht => h.perf t (List.mem_cons_of_mem _ ht), ?_⟩
  have h1 := h.can.1
  cases l with
  | nil => trivial
  | cons t l =>
    rw [List.map_cons] at h1
    exact ⟨(List.pairwise_cons.1 h1).2, fun b hb => Nat.le_of_lt ((List.pairwise_cons.1 h1).1 b hb)⟩
/-- What is pushed. -/
def pushS (x : Int) : List Sp → List Sp
  | a :: b :: r => if a.1 = b.1 then (a.1 + 1, .node x a.2 b.2) :: r else (1, .node x .nil .nil) :: a :: b :: r
  | l => (1, .node x .nil .nil) :: l
theorem perf_one (x : Int) : RT.Perf 1 (.node x .nil .nil) := ⟨x, .nil, .nil, rfl, rfl, rfl⟩
theorem pushS_all (x : Int) (l : List Sp) : allS (pushS x l) = x :: allS l := by
  unfold pushS
  split
  · rename_i a b r
    split
    · simp only [allS_cons, RT.pre, List.cons_append, List.append_assoc]
    · simp [allS_cons, RT.pre]
  · simp [allS_cons, RT.pre]
theorem pushS_good (x : Int) {l : List Sp} (h : GoodS l) : GoodS (pushS x l) := by
  have one : 1 ≤ 1 ∧ RT.Perf 1 (.node x .nil .nil) := ⟨Nat.le_refl _, perf_one x⟩
  unfold pushS
  split
  · rename_i a b r
    have ha := h.perf a (List.mem_cons_self ..)
    have hb := h.perf b (List.mem_cons_of_mem _ (List.mem_cons_self ..))
    have hc := h.can
    simp only [List.map_cons] at hc
    obtain ⟨h1, h2⟩ := hc
    obtain ⟨h3, h4⟩ := List.pairwise_cons.1 h1
    split
    · rename_i e
      refine ⟨fun s hs => ?_, ?_⟩
      · rcases List.mem_cons.1 hs with rfl | hs
        · exact ⟨by simp, x, a.2, b.2, rfl, ha.2, by rw [e]; exact hb.2⟩
        · exact h.perf s (List.mem_cons_of_mem _ (List.mem_cons_of_mem _ hs))
      · rw [List.map_cons]
        exact ⟨h4, fun c hc => by have := h3 c hc; simp only; omega⟩
    · rename_i e
      refine ⟨fun s hs => ?_, ?_⟩
      · rcases List.mem_cons.1 hs with rfl | hs
        · exact one
        · exact h.perf s hs
      · rw [List.map_cons, List.map_cons, List.map_cons]
        have hab := h2 b.1 (List.mem_cons_self ..)
        refine ⟨List.pairwise_cons.2 ⟨fun c hc => ?_, h1⟩, fun c hc => ?_⟩
        · rcases List.mem_cons.1 hc with rfl | hc
          · omega
          · have := h3 c hc; omega
        · rcases List.mem_cons.1 hc with rfl | hc
          · exact ha.1
          · have := h2 c hc; simp only; omega
  · rename_i hne
    cases l with
    | nil => exact ⟨fun s hs => by rw [List.mem_singleton] at hs; subst hs; exact one, List.Pairwise.nil, by simp⟩
    | cons a l =>
      cases l with
      | nil =>
        have ha := h.perf a (List.mem_cons_self ..)
        refine ⟨fun s hs => ?_, List.pairwise_singleton _ _, fun c hc => ?_⟩
        · rcases List.mem_cons.1 hs with rfl | hs
          · exact one
          · exact h.perf s hs
        · have : c = a.1 := by simpa using hc
          rw [this]
          exact ha.1
      | cons b r => exact absurd rfl (hne a b r)
/-- What is left when the first one goes. -/
def popS : List Sp → List Sp
  | (k, .node _ l r) :: rest => if 1 < k then (k - 1, l) :: (k - 1, r) :: rest else rest
  | _ => []
theorem popS_good {l : List Sp} (h : GoodS l) : GoodS (popS l) := by
  cases l with
  | nil => exact goodS_nil
  | cons s rest =>
    obtain ⟨k, t⟩ := s
    obtain ⟨hk, hp⟩ := h.perf (k, t) (List.mem_cons_self ..)
    simp only at hk hp
    obtain ⟨k, rfl⟩ : ∃ j, k = j + 1 := ⟨k - 1, by omega⟩
    obtain ⟨x, l, r, rfl, hl, hr⟩ := hp
    simp only [popS]
    split
    · rename_i h1
      obtain ⟨c1, c2⟩ := h.can
      refine ⟨fun s hs => ?_, ?_⟩
      · rcases List.mem_cons.1 hs with rfl | hs
        · exact ⟨by simp; omega, hl⟩
        · rcases List.mem_cons.1 hs with rfl | hs
          · exact ⟨by simp; omega, hr⟩
          · exact h.perf s (List.mem_cons_of_mem _ hs)
      · simp only [List.map_cons]
        refine ⟨List.pairwise_cons.2 ⟨fun c hc => by have := c2 c hc; simp only at this; omega, c1⟩, fun c hc => ?_⟩
        rcases List.mem_cons.1 hc with rfl | hc
        · exact Nat.le_refl _
        · have := c2 c hc; simp only at this; omega
    · exact h.tail
theorem popS_all {l : List Sp} {x : Int} {xs : List Int} (h : GoodS l) (e : allS l = x :: xs) : allS (popS l) = xs ∧ ∃ k a b rest, l = (k + 1, .node x a b) :: rest ∧ RT.Perf k a ∧ RT.Perf k b := by
  cases l with
  | nil => cases e
  | cons s rest =>
    obtain ⟨k, t⟩ := s
    obtain ⟨hk, hp⟩ := h.perf (k, t) (List.mem_cons_self ..)
    simp only at hk hp
    obtain ⟨k, rfl⟩ : ∃ j, k = j + 1 := ⟨k - 1, by omega⟩
    obtain ⟨y, l, r, rfl, hl, hr⟩ := hp
    rw [allS_cons] at e
    simp only [RT.pre, List.cons_append] at e
    injection e with e1 e2
    subst e1
    refine ⟨?_, k, l, r, rest, rfl, hl, hr⟩
    rw [← e2]
    simp only [popS]
    split
    · simp [allS_cons, List.append_assoc]
    · rename_i h1
      have : k = 0 := by omega
      subst this
      obtain rfl : l = .nil := hl
      obtain rfl : r = .nil := hr
      simp [RT.pre]
/-- With another number at a place. -/
def putS : List Sp → Nat → Int → List Sp
  | [], _, _ => []
  | s :: r, i, y => if i < s.2.pre.length then (s.1, s.2.put i y) :: r else s :: putS r (i - s.2.pre.length) y
theorem putS_all : ∀ (l : List Sp) (i : Nat) (y : Int), allS (putS l i y) = (allS l).set i y := by
  intro l
  induction l with
  | nil => intro i y; simp [putS, allS]
  | cons s r ih =>
    intro i y
    simp only [putS]
    split
    · rename_i h
      simp only [allS_cons, RT.put_pre, List.set_append, if_pos h]
    · rename_i h
      simp only [allS_cons, ih, List.set_append, if_neg h]
theorem putS_ranks : ∀ (l : List Sp) (i : Nat) (y : Int), (putS l i y).map (·.1) = l.map (·.1) := by
  intro l
  induction l with
  | nil => intro i y; rfl
  | cons s r ih =>
    intro i y
    simp only [putS]
    split
    · rfl
    · simp [ih]
theorem putS_perf : ∀ (l : List Sp) (i : Nat) (y : Int), (∀ s ∈ l, 1 ≤ s.1 ∧ RT.Perf s.1 s.2) → ∀ s ∈ putS l i y, 1 ≤ s.1 ∧ RT.Perf s.1 s.2 := by
  intro l
  induction l with
  | nil => intro i y _ s hs; simp [putS] at hs
  | cons t r ih =>
    intro i y h s hs
    simp only [putS] at hs
    split at hs
    · rcases List.mem_cons.1 hs with rfl | hs
      · have := h t (List.mem_cons_self ..)
        exact ⟨this.1, RT.put_perf _ _ this.2⟩
      · exact h s (List.mem_cons_of_mem _ hs)
    · rcases List.mem_cons.1 hs with rfl | hs
      · exact h s (List.mem_cons_self ..)
      · exact ih _ _ (fun u hu => h u (List.mem_cons_of_mem _ hu)) s hs
theorem putS_good {l : List Sp} (h : GoodS l) (i : Nat) (y : Int) : GoodS (putS l i y) := ⟨putS_perf l i y h.perf, by rw [putS_ranks]; exact h.can⟩

/-- The trees' sizes. -/
def sizesS (l : List Sp) : List Int := l.map fun s => D s.1
theorem sizes_sum : ∀ {l : List Sp}, (∀ s ∈ l, 1 ≤ s.1 ∧ RT.Perf s.1 s.2) → (sizesS l).sum = ((allS l).length : Int) := by
  intro l
  induction l with
  | nil => intro _; rfl
  | cons s r ih =>
    intro h
    have a := ih fun t ht => h t (List.mem_cons_of_mem _ ht)
    have b := RT.perf_len (h s (List.mem_cons_self ..)).2
    rw [allS_cons, List.length_append]
    simp only [sizesS, List.map_cons, List.sum_cons] at a ⊢
    omega
theorem strict_valid : ∀ (l : List Nat), (∀ k ∈ l, 1 ≤ k ∧ k ≤ 40) → l.Pairwise (· < ·) → valid (l.map D) := by
  intro l
  induction l with
  | nil => intro _ _; exact valid_nil
  | cons a r ih =>
    intro h hp
    obtain ⟨h1, h2⟩ := List.pairwise_cons.1 hp
    have hr := ih (fun k hk => h k (List.mem_cons_of_mem _ hk)) h2
    have ha := h a (List.mem_cons_self ..)
    rw [List.map_cons]
    refine valid_cons ⟨a, ha.1, ha.2, rfl⟩ hr (fun hl => ?_) (fun hl => ?_)
    · cases r with
      | nil => simp at hl
      | cons b r => simpa using D_mono (Nat.le_of_lt (h1 b (List.mem_cons_self ..)))
    · cases r with
      | nil => simp at hl
      | cons b r =>
        cases r with
        | nil => simp at hl
        | cons c r =>
          have := D_lt ((List.pairwise_cons.1 h2).1 c (List.mem_cons_self ..))
          simp only [List.map_cons, List.getElem?_cons_zero, List.getElem?_cons_succ, Option.getD_some]
          omega
theorem sizes_valid {l : List Sp} (h : GoodS l) (hs : (allS l).length ≤ 1099511627776) : valid (sizesS l) := by
  have hk : ∀ k ∈ l.map (·.1), 1 ≤ k ∧ k ≤ 40 := by
    intro k hk
    obtain ⟨s, hsm, rfl⟩ := List.mem_map.1 hk
    have hp := h.perf s hsm
    refine ⟨hp.1, ?_⟩
    have hlen := RT.perf_len hp.2
    have : s.2.pre.length ≤ (allS l).length := by
      obtain ⟨a, b, rfl⟩ := List.append_of_mem hsm
      simp only [allS, List.flatMap_append, List.flatMap_cons, List.length_append]
      omega
    rcases Nat.lt_or_ge 40 s.1 with h41 | h41
    · have d := D_mono (show 41 ≤ s.1 by omega)
      have e : D 41 = 2199023255551 := by decide
      omega
    · exact h41
  have hc := h.can
  have e : sizesS l = (l.map (·.1)).map D := by simp [sizesS]
  rw [e]
  revert hk hc
  cases l.map (·.1) with
  | nil => intro _ _; exact valid_nil
  | cons a r =>
    intro hk hc
    have ha := hk a (List.mem_cons_self ..)
    rw [List.map_cons]
    refine valid_cons ⟨a, ha.1, ha.2, rfl⟩ (strict_valid r (fun k hk' => hk k (List.mem_cons_of_mem _ hk')) hc.1) (fun hl => ?_) (fun hl => ?_)
    · cases r with
      | nil => simp at hl
      | cons b r => simpa using D_mono (hc.2 b (List.mem_cons_self ..))
    · cases r with
      | nil => simp at hl
      | cons b r =>
        cases r with
        | nil => simp at hl
        | cons c r =>
          have := D_lt ((List.pairwise_cons.1 hc.1).1 c (List.mem_cons_self ..))
          simp only [List.map_cons, List.getElem?_cons_zero, List.getElem?_cons_succ, Option.getD_some]
          omega
end Go.Proofs.Ythjghbifcnfcmaa
