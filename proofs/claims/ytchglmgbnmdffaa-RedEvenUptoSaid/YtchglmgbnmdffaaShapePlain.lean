/-
  The shape that a tree tells: its nodes from the top on, with the places of those under them. Plain lists. No program. Conditions: none.
-/
import Derived.Test.YtchglmgbnmdffaaSetPlain
namespace Go.Proofs.Ytchglmgbnmdffaa

/-- A node that is told. -/
structure Nd where
  key : Int
  left : Int
  right : Int
  mark : Int
/-- The place that is told of a tree that stands from a place on. -/
def refOf : ST → Nat → Int
  | .nil, _ => -1
  | .node _ _ _ _, k => (k : Int)
def shapeL (m : ST → Int) : ST → Nat → List Nd
  | .nil, _ => []
  | .node c x l r, k => ⟨x, refOf l (k + 1), refOf r (k + 1 + l.size), m (.node c x l r)⟩ :: (shapeL m l (k + 1) ++ shapeL m r (k + 1 + l.size))
/-- A tree is told from a place on. -/
def At (m : ST → Int) (S : List Nd) : ST → Nat → Prop
  | .nil, _ => True
  | .node c x l r, k => S[k]? = some ⟨x, refOf l (k + 1), refOf r (k + 1 + l.size), m (.node c x l r)⟩ ∧ At m S l (k + 1) ∧ At m S r (k + 1 + l.size)
/-- A tree under another one. -/
def Sub (s : ST) : ST → Prop
  | .nil => s = .nil
  | .node c x l r => s = .node c x l r ∨ Sub s l ∨ Sub s r

theorem shapeL_length (m : ST → Int) (t : ST) : ∀ k, (shapeL m t k).length = t.size := by
  induction t with
  | nil => intro k; rfl
  | node c x l r ihl ihr => intro k; simp only [shapeL, List.length_cons, List.length_append, ihl, ihr, ST.size]; omega
theorem shape_at (m : ST → Int) (t : ST) : ∀ (pre post : List Nd), At m (pre ++ shapeL m t pre.length ++ post) t pre.length := by
  induction t with
  | nil => intro pre post; exact trivial
  | node c x l r ihl ihr =>
    intro pre post
    refine ⟨?_, ?_, ?_⟩
    · rw [List.append_assoc, List.getElem?_append_right (Nat.le_refl _)]
      simp [shapeL]
    · have h := ihl (pre ++ [⟨x, refOf l (pre.length + 1), refOf r (pre.length + 1 + l.size), m (.node c x l r)⟩]) (shapeL m r (pre.length + 1 + l.size) ++ post)
      have e : (pre ++ [(⟨x, refOf l (pre.length + 1), refOf r (pre.length + 1 + l.size), m (.node c x l r)⟩ : Nd)]).length = pre.length + 1 := by simp
      rw [e] at h
      simpa [shapeL, List.append_assoc] using h
    · have h := ihr (pre ++ [⟨x, refOf l (pre.length + 1), refOf r (pre.length + 1 + l.size), m (.node c x l r)⟩] ++ shapeL m l (pre.length + 1)) post
      have e : (pre ++ [(⟨x, refOf l (pre.length + 1), refOf r (pre.length + 1 + l.size), m (.node c x l r)⟩ : Nd)] ++ shapeL m l (pre.length + 1)).length = pre.length + 1 + l.size := by simp [shapeL_length]; omega
      rw [e] at h
      simpa [shapeL, List.append_assoc] using h
theorem shape_at0 (m : ST → Int) (t : ST) : At m (shapeL m t 0) t 0 := by
  have := shape_at m t [] []
  simpa using this
theorem at_lt {m : ST → Int} {S : List Nd} {c : Bool} {x : Int} {l r : ST} {k : Nat} (h : At m S (.node c x l r) k) : k < S.length := (List.getElem?_eq_some_iff.1 h.1).1
theorem at_size {m : ST → Int} {S : List Nd} (t : ST) : ∀ k, At m S t k → t ≠ .nil → k + t.size ≤ S.length := by
  induction t with
  | nil => intro k _ h; exact absurd rfl h
  | node c x l r ihl ihr =>
    intro k h _
    have h0 := at_lt h
    obtain ⟨h1, h2, h3⟩ := h
    simp only [ST.size]
    cases r with
    | node c' x' l' r' =>
      have := ihr _ h3 (by simp)
      omega
    | nil =>
      cases l with
      | node c' x' l' r' =>
        have := ihl _ h2 (by simp)
        simp only [ST.size] at *
        omega
      | nil => simp only [ST.size]; omega
theorem sub_refl (t : ST) : Sub t t := by
  cases t with
  | nil => rfl
  | node c x l r => exact .inl rfl
theorem at_each {m : ST → Int} {S : List Nd} (t : ST) : ∀ k, At m S t k → ∀ i, i < t.size → ∃ c x l r, Sub (.node c x l r) t ∧ At m S (.node c x l r) (k + i) := by
  induction t with
  | nil => intro k _ i hi; exact absurd hi (Nat.not_lt_zero _)
  | node c x l r ihl ihr =>
    intro k h i hi
    obtain ⟨h1, h2, h3⟩ := h
    simp only [ST.size] at hi
    by_cases h0 : i = 0
    · subst h0
      exact ⟨c, x, l, r, .inl rfl, h1, h2, h3⟩
    · by_cases h4 : i < 1 + l.size
      · obtain ⟨c', x', l', r', a, b⟩ := ihl _ h2 (i - 1) (by omega)
        refine ⟨c', x', l', r', .inr (.inl a), ?_⟩
        rwa [show k + 1 + (i - 1) = k + i by omega] at b
      · obtain ⟨c', x', l', r', a, b⟩ := ihr _ h3 (i - 1 - l.size) (by omega)
        refine ⟨c', x', l', r', .inr (.inr a), ?_⟩
        rwa [show k + 1 + l.size + (i - 1 - l.size) = k + i by omega] at b
theorem sub_all {P : ST → Prop} (hP : ∀ c x l r, P (.node c x l r) → P l ∧ P r) {s : ST} : ∀ {t : ST}, Sub s t → P t → P s := by
  intro t
  induction t with
  | nil => intro h k; rw [show s = .nil from h]; exact k
  | node c x l r ihl ihr =>
    intro h k
    rcases h with rfl | h | h
    · exact k
    · exact ihl h (hP c x l r k).1
    · exact ihr h (hP c x l r k).2
theorem ref_nil (k : Nat) : refOf .nil k = -1 := rfl
theorem ref_node (c : Bool) (x : Int) (l r : ST) (k : Nat) : refOf (.node c x l r) k = (k : Int) := rfl
theorem ref_cases (t : ST) (k : Nat) : (t = .nil ∧ refOf t k = -1) ∨ (∃ c x l r, t = .node c x l r ∧ refOf t k = (k : Int)) := by
  cases t with
  | nil => exact .inl ⟨rfl, rfl⟩
  | node c x l r => exact .inr ⟨c, x, l, r, rfl, rfl⟩
theorem ref_le (t : ST) (k : Nat) : -1 ≤ refOf t k ∧ refOf t k ≤ (k : Int) := by
  rcases ref_cases t k with ⟨_, h⟩ | ⟨_, _, _, _, _, h⟩ <;> rw [h] <;> omega
end Go.Proofs.Ytchglmgbnmdffaa
