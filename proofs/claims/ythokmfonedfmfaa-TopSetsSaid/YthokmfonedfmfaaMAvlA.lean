/-
  Trees of nearly even heights, plain: turns keep the numbers and bring the heights together. No program. Conditions: none.
  Trees of nearly even heights: how many there are. No program. Conditions: none.
-/
import Derived.Test.YthokmfonedfmfaaSetPlain
namespace Go.Proofs.Ythokmfonedfmfaa.AVL
open Go.Proofs.Ythokmfonedfmfaa.ST

def mk (l : ST) (x : Int) (r : ST) : ST := .node false x l r
def turnL : ST → Int → ST → ST
  | .node _ y ll lr, x, r =>
    if lr.height ≤ ll.height then mk ll y (mk lr x r) else
      match lr with
      | .node _ z ml mr => mk (mk ll y ml) z (mk mr x r)
      | .nil => .nil
  | .nil, _, _ => .nil
def turnR : ST → Int → ST → ST
  | l, x, .node _ y rl rr =>
    if rl.height ≤ rr.height then mk (mk l x rl) y rr else
      match rl with
      | .node _ z ml mr => mk (mk l x ml) z (mk mr y rr)
      | .nil => .nil
  | _, _, .nil => .nil
def even (l : ST) (x : Int) (r : ST) : ST :=
  if r.height + 1 < l.height then turnL l x r else if l.height + 1 < r.height then turnR l x r else mk l x r
def put : ST → Int → ST
  | .nil, x => mk .nil x .nil
  | .node c y l r, x => if x < y then even (put l x) y r else if y < x then even l y (put r x) else .node c y l r
def first : ST → Int × ST
  | .nil => (0, .nil)
  | .node _ x .nil r => (x, r)
  | .node _ x (.node c y ll lr) r => ((first (.node c y ll lr)).1, even (first (.node c y ll lr)).2 x r)
def drop : ST → Int → ST
  | .nil, _ => .nil
  | .node _ y l r, x => if x < y then even (drop l x) y r else if y < x then even l y (drop r x) else
      match r with
      | .nil => l
      | .node c z rl rr => even l (first (.node c z rl rr)).1 (first (.node c z rl rr)).2

/-- Of each node both sides differ in height by 1 at most. -/
def Av : ST → Prop
  | .nil => True
  | .node _ _ l r => Av l ∧ Av r ∧ l.height ≤ r.height + 1 ∧ r.height ≤ l.height + 1
theorem mk_height (l : ST) (x : Int) (r : ST) : (mk l x r).height = 1 + max l.height r.height := rfl
theorem mk_toL (l : ST) (x : Int) (r : ST) : (mk l x r).toL = l.toL ++ x :: r.toL := rfl
theorem height_zero {t : ST} (h : t.height = 0) : t = .nil := by
  cases t with
  | nil => rfl
  | node c x l r => simp only [height] at h; omega

theorem turnL_toL {l : ST} {x : Int} {r : ST} (h : r.height + 1 < l.height) : (turnL l x r).toL = l.toL ++ x :: r.toL := by
  cases l with
  | nil => simp [height] at h
  | node c y ll lr =>
    simp only [turnL]
    split
    · simp [mk_toL, toL]
    · cases lr with
      | nil => rename_i h1; simp [height] at h1
      | node c' z ml mr => simp [mk_toL, toL]
theorem turnR_toL {l : ST} {x : Int} {r : ST} (h : l.height + 1 < r.height) : (turnR l x r).toL = l.toL ++ x :: r.toL := by
  cases r with
  | nil => simp [height] at h
  | node c y rl rr =>
    simp only [turnR]
    split
    · simp [mk_toL, toL]
    · cases rl with
      | nil => rename_i h1; simp [height] at h1
      | node c' z ml mr => simp [mk_toL, toL]
theorem even_toL (l : ST) (x : Int) (r : ST) : (even l x r).toL = l.toL ++ x :: r.toL := by
  unfold even
  split
  · rename_i h; exact turnL_toL h
  · split
    · rename_i h; exact turnR_toL h
    · rfl
theorem turnL_av {l : ST} {x : Int} {r : ST} (h : r.height + 1 < l.height) (h2 : l.height ≤ r.height + 2) (hl : Av l) (hr : Av r) :
    Av (turnL l x r) ∧ l.height ≤ (turnL l x r).height ∧ (turnL l x r).height ≤ l.height + 1 := by
  cases l with
  | nil => simp [height] at h
  | node c y ll lr =>
    obtain ⟨a1, a2, a3, a4⟩ := hl
    simp only [height] at h h2
    simp only [turnL]
    split
    · rename_i hh
      refine ⟨⟨a1, ⟨a2, hr, ?_, ?_⟩, ?_, ?_⟩, ?_, ?_⟩ <;> ((try simp only [mk, height]); omega)
    · rename_i hh
      cases lr with
      | nil => simp [height] at hh
      | node c' z ml mr =>
        obtain ⟨b1, b2, b3, b4⟩ := a2
        simp only [height] at h h2 hh a3 a4
        refine ⟨⟨⟨a1, b1, ?_, ?_⟩, ⟨b2, hr, ?_, ?_⟩, ?_, ?_⟩, ?_, ?_⟩ <;> ((try simp only [mk, height]); omega)
theorem turnR_av {l : ST} {x : Int} {r : ST} (h : l.height + 1 < r.height) (h2 : r.height ≤ l.height + 2) (hl : Av l) (hr : Av r) :
    Av (turnR l x r) ∧ r.height ≤ (turnR l x r).height ∧ (turnR l x r).height ≤ r.height + 1 := by
  cases r with
  | nil => simp [height] at h
  | node c y rl rr =>
    obtain ⟨a1, a2, a3, a4⟩ := hr
    simp only [height] at h h2
    simp only [turnR]
    split
    · rename_i hh
      refine ⟨⟨⟨hl, a1, ?_, ?_⟩, a2, ?_, ?_⟩, ?_, ?_⟩ <;> ((try simp only [mk, height]); omega)
    · rename_i hh
      cases rl with
      | nil => simp [height] at hh
      | node c' z ml mr =>
        obtain ⟨b1, b2, b3, b4⟩ := a1
        simp only [height] at h h2 hh a3 a4
        refine ⟨⟨⟨hl, b1, ?_, ?_⟩, ⟨b2, a2, ?_, ?_⟩, ?_, ?_⟩, ?_, ?_⟩ <;> ((try simp only [mk, height]); omega)
theorem even_av {l : ST} {x : Int} {r : ST} (h1 : l.height ≤ r.height + 2) (h2 : r.height ≤ l.height + 2) (hl : Av l) (hr : Av r) :
    Av (even l x r) ∧ max l.height r.height ≤ (even l x r).height ∧ (even l x r).height ≤ max l.height r.height + 1 ∧
      (l.height ≤ r.height + 1 → r.height ≤ l.height + 1 → (even l x r).height = max l.height r.height + 1) := by
  unfold even
  split
  · rename_i h
    obtain ⟨a, b, c⟩ := turnL_av (x := x) h h1 hl hr
    exact ⟨a, by omega, by omega, by omega⟩
  · split
    · rename_i h
      obtain ⟨a, b, c⟩ := turnR_av (x := x) h h2 hl hr
      exact ⟨a, by omega, by omega, by omega⟩
    · exact ⟨⟨hl, hr, by omega, by omega⟩, by rw [mk_height]; omega, by rw [mk_height]; omega, by rw [mk_height]; omega⟩
theorem put_av (t : ST) (x : Int) : Av t → Av (put t x) ∧ t.height ≤ (put t x).height ∧ (put t x).height ≤ t.height + 1 := by
  induction t with
  | nil => intro _; exact ⟨⟨trivial, trivial, Nat.le_succ _, Nat.le_succ _⟩, by simp [height], by simp [put, mk, height]⟩
  | node c y l r ihl ihr =>
    rintro ⟨a1, a2, a3, a4⟩
    simp only [put]
    split
    · obtain ⟨i1, i2, i3⟩ := ihl a1
      obtain ⟨e1, e2, e3, e4⟩ := even_av (x := y) (l := put l x) (r := r) (by omega) (by omega) i1 a2
      simp only [height]
      exact ⟨e1, by omega, by omega⟩
    · split
      · obtain ⟨i1, i2, i3⟩ := ihr a2
        obtain ⟨e1, e2, e3, e4⟩ := even_av (x := y) (l := l) (r := put r x) (by omega) (by omega) a1 i1
        simp only [height]
        exact ⟨e1, by omega, by omega⟩
      · exact ⟨⟨a1, a2, a3, a4⟩, Nat.le_refl _, Nat.le_succ _⟩
theorem first_av (t : ST) : Av t → t ≠ .nil → Av (first t).2 ∧ (first t).2.height ≤ t.height ∧ t.height ≤ (first t).2.height + 1 ∧ t.toL = (first t).1 :: (first t).2.toL := by
  fun_induction first t with
  | case1 => intro _ h; exact absurd rfl h
  | case2 c x r =>
    rintro ⟨a1, a2, a3, a4⟩ _
    simp only [height] at *
    exact ⟨a2, by omega, by omega, rfl⟩
  | case3 c0 x c y ll lr r ih =>
    rintro ⟨a1, a2, a3, a4⟩ _
    obtain ⟨i1, i2, i3, i4⟩ := ih a1 (by simp)
    obtain ⟨e1, e2, e3, e4⟩ := even_av (x := x) (l := (first (.node c y ll lr)).2) (r := r) (by omega) (by omega) i1 a2
    refine ⟨e1, ?_, ?_, ?_⟩
    · show (even (first (.node c y ll lr)).2 x r).height ≤ 1 + max (ST.node c y ll lr).height r.height
      omega
    · show 1 + max (ST.node c y ll lr).height r.height ≤ (even (first (.node c y ll lr)).2 x r).height + 1
      omega
    · rw [even_toL]
      show (ST.node c y ll lr).toL ++ x :: r.toL = _
      rw [i4]
      rfl
theorem drop_av (t : ST) (x : Int) : Av t → Av (drop t x) ∧ (drop t x).height ≤ t.height ∧ t.height ≤ (drop t x).height + 1 := by
  induction t with
  | nil => intro _; exact ⟨trivial, Nat.le_refl _, Nat.le_succ _⟩
  | node c y l r ihl ihr =>
    rintro ⟨a1, a2, a3, a4⟩
    simp only [drop]
    split
    · obtain ⟨i1, i2, i3⟩ := ihl a1
      obtain ⟨e1, e2, e3, e4⟩ := even_av (x := y) (l := drop l x) (r := r) (by omega) (by omega) i1 a2
      simp only [height]
      exact ⟨e1, by omega, by omega⟩
    · split
      · obtain ⟨i1, i2, i3⟩ := ihr a2
        obtain ⟨e1, e2, e3, e4⟩ := even_av (x := y) (l := l) (r := drop r x) (by omega) (by omega) a1 i1
        simp only [height]
        exact ⟨e1, by omega, by omega⟩
      · cases r with
        | nil => simp only [height] at *; exact ⟨a1, by omega, by omega⟩
        | node c' z rl rr =>
          obtain ⟨f1, f2, f3, f4⟩ := first_av (.node c' z rl rr) a2 (by simp)
          obtain ⟨e1, e2, e3, e4⟩ := even_av (x := (first (.node c' z rl rr)).1) (l := l) (r := (first (.node c' z rl rr)).2) (by omega) (by omega) a1 f1
          refine ⟨e1, ?_, ?_⟩
          · show (even l (first (.node c' z rl rr)).1 (first (.node c' z rl rr)).2).height ≤ 1 + max l.height (ST.node c' z rl rr).height
            omega
          · show 1 + max l.height (ST.node c' z rl rr).height ≤ (even l (first (.node c' z rl rr)).1 (first (.node c' z rl rr)).2).height + 1
            omega

theorem put_spec (t : ST) (x : Int) : t.Bst → (put t x).Bst ∧ ∀ y, y ∈ (put t x).toL ↔ y = x ∨ y ∈ t.toL := by
  induction t with
  | nil => intro _; exact ⟨by simp [put, mk, bst_node, bst_nil, toL], fun y => by simp [put, mk, toL]⟩
  | node c z l r ihl ihr =>
    intro h
    obtain ⟨b1, b2, b3, b4⟩ := bst_node.1 h
    simp only [put]
    split
    · rename_i hx
      obtain ⟨i1, i2⟩ := ihl b1
      constructor
      · unfold Bst
        rw [even_toL]
        exact (bst_node (c := false)).2 ⟨i1, b2, fun y hy => by rcases (i2 y).1 hy with rfl | hy; exact hx; exact b3 y hy, b4⟩
      · intro y
        rw [even_toL, mem_node, List.mem_append, List.mem_cons, i2 y]
        constructor
        · rintro ((h | h) | h)
          · exact .inl h
          · exact .inr (.inl h)
          · exact .inr (.inr h)
        · rintro (h | h | h)
          · exact .inl (.inl h)
          · exact .inl (.inr h)
          · exact .inr h
    · split
      · rename_i hx
        obtain ⟨i1, i2⟩ := ihr b2
        constructor
        · unfold Bst
          rw [even_toL]
          exact (bst_node (c := false)).2 ⟨b1, i1, b3, fun y hy => by rcases (i2 y).1 hy with rfl | hy; exact hx; exact b4 y hy⟩
        · intro y
          rw [even_toL, mem_node, List.mem_append, List.mem_cons, i2 y]
          constructor
          · rintro (h | h | h | h)
            · exact .inr (.inl h)
            · exact .inr (.inr (.inl h))
            · exact .inl h
            · exact .inr (.inr (.inr h))
          · rintro (h | h | h | h)
            · exact .inr (.inr (.inl h))
            · exact .inl h
            · exact .inr (.inl h)
            · exact .inr (.inr (.inr h))
      · have hx : z = x := by omega
        subst hx
        refine ⟨h, fun y => ⟨.inr, ?_⟩⟩
        rintro (rfl | h)
        · exact mem_node.2 (.inr (.inl rfl))
        · exact h
theorem first_toL (t : ST) : t ≠ .nil → t.toL = (first t).1 :: (first t).2.toL := by
  fun_induction first t with
  | case1 => intro h; exact absurd rfl h
  | case2 c x r => intro _; rfl
  | case3 c0 x c y ll lr r ih =>
    intro _
    rw [even_toL]
    show (ST.node c y ll lr).toL ++ x :: r.toL = _
    rw [ih (by simp)]
    rfl
theorem drop_spec (t : ST) (x : Int) : t.Bst → (drop t x).Bst ∧ ∀ y, y ∈ (drop t x).toL ↔ y ≠ x ∧ y ∈ t.toL := by
  induction t with
  | nil => intro _; exact ⟨bst_nil, fun y => by simp [drop, toL]⟩
  | node c z l r ihl ihr =>
    intro h
    obtain ⟨b1, b2, b3, b4⟩ := bst_node.1 h
    simp only [drop]
    split
    · rename_i hx
      obtain ⟨i1, i2⟩ := ihl b1
      constructor
      · unfold Bst
        rw [even_toL]
        exact (bst_node (c := false)).2 ⟨i1, b2, fun y hy => b3 y ((i2 y).1 hy).2, b4⟩
      · intro y
        rw [even_toL, mem_node, List.mem_append, List.mem_cons, i2 y]
        constructor
        · rintro (⟨h, k⟩ | h | h)
          · exact ⟨h, .inl k⟩
          · exact ⟨by omega, .inr (.inl h)⟩
          · exact ⟨by have := b4 y h; omega, .inr (.inr h)⟩
        · rintro ⟨h, k | k | k⟩
          · exact .inl ⟨h, k⟩
          · exact .inr (.inl k)
          · exact .inr (.inr k)
    · split
      · rename_i hx
        obtain ⟨i1, i2⟩ := ihr b2
        constructor
        · unfold Bst
          rw [even_toL]
          exact (bst_node (c := false)).2 ⟨b1, i1, b3, fun y hy => b4 y ((i2 y).1 hy).2⟩
        · intro y
          rw [even_toL, mem_node, List.mem_append, List.mem_cons, i2 y]
          constructor
          · rintro (h | h | ⟨h, k⟩)
            · exact ⟨by have := b3 y h; omega, .inl h⟩
            · exact ⟨by omega, .inr (.inl h)⟩
            · exact ⟨h, .inr (.inr k)⟩
          · rintro ⟨h, k | k | k⟩
            · exact .inl k
            · exact .inr (.inl k)
            · exact .inr (.inr ⟨h, k⟩)
      · have hx : z = x := by omega
        subst hx
        have hmem : ∀ y, (y ≠ z ∧ y ∈ (ST.node c z l r).toL) ↔ y ∈ l.toL ∨ y ∈ r.toL := fun y => by
          rw [mem_node]
          constructor
          · rintro ⟨h, k | k | k⟩
            · exact .inl k
            · exact absurd k h
            · exact .inr k
          · rintro (k | k)
            · exact ⟨by have := b3 y k; omega, .inl k⟩
            · exact ⟨by have := b4 y k; omega, .inr (.inr k)⟩
        cases r with
        | nil => exact ⟨b1, fun y => by rw [hmem]; simp [toL]⟩
        | node c' u rl rr =>
          have hf := first_toL (.node c' u rl rr) (by simp)
          have ht : (even l (first (.node c' u rl rr)).1 (first (.node c' u rl rr)).2).toL = l.toL ++ (ST.node c' u rl rr).toL := by rw [even_toL, hf]
          constructor
          · unfold Bst
            simp only
            rw [ht]
            refine List.pairwise_append.2 ⟨b1, b2, fun p hp q hq => ?_⟩
            have := b3 p hp
            have := b4 q hq
            omega
          · intro y
            simp only
            rw [ht, hmem, List.mem_append]

def ofL (l : List Int) : ST := l.foldl put .nil
theorem foldl_put (l : List Int) : ∀ t : ST, t.Bst → Av t → (l.foldl put t).Bst ∧ Av (l.foldl put t) ∧ ∀ y, y ∈ (l.foldl put t).toL ↔ y ∈ l ∨ y ∈ t.toL := by
  induction l with
  | nil => intro t h k; exact ⟨h, k, fun y => by simp⟩
  | cons x l ih =>
    intro t h k
    obtain ⟨p1, p2⟩ := put_spec t x h
    obtain ⟨i1, i2, i3⟩ := ih (put t x) p1 (put_av t x k).1
    refine ⟨i1, i2, fun y => ?_⟩
    rw [List.foldl_cons, i3 y, p2 y, List.mem_cons]
    constructor
    · rintro (h | h | h)
      · exact .inl (.inr h)
      · exact .inl (.inl h)
      · exact .inr h
    · rintro ((h | h) | h)
      · exact .inr (.inl h)
      · exact .inl h
      · exact .inr (.inr h)
theorem ofL_spec (l : List Int) : (ofL l).Bst ∧ Av (ofL l) ∧ ∀ y, y ∈ (ofL l).toL ↔ y ∈ l := by
  have := foldl_put l .nil bst_nil trivial
  exact ⟨this.1, this.2.1, fun y => by have := this.2.2 y; simpa [toL, ofL] using this⟩
theorem ofL_snoc (l : List Int) (x : Int) : ofL (l ++ [x]) = put (ofL l) x := by
  unfold ofL
  rw [List.foldl_append]
  rfl
end Go.Proofs.Ythokmfonedfmfaa.AVL

namespace Go.Proofs.Ythokmfonedfmfaa.AVL
open Go.Proofs.Ythokmfonedfmfaa Go.Proofs.Ythokmfonedfmfaa.ST

theorem even_size (l : ST) (x : Int) (r : ST) : (even l x r).size = l.size + r.size + 1 := by
  rw [← toL_length, even_toL, List.length_append, List.length_cons, toL_length, toL_length]
  omega
theorem put_size (t : ST) (x : Int) : (put t x).size ≤ t.size + 1 := by
  induction t with
  | nil => exact Nat.le_refl _
  | node c y l r ihl ihr =>
    simp only [put]
    split
    · rw [even_size]; simp only [size]; omega
    · split
      · rw [even_size]; simp only [size]; omega
      · exact Nat.le_succ _
theorem first_size (t : ST) (h : t ≠ .nil) : (first t).2.size + 1 = t.size := by
  have := congrArg List.length (first_toL t h)
  rw [List.length_cons, toL_length, toL_length] at this
  omega
theorem drop_size (t : ST) (x : Int) : (drop t x).size ≤ t.size := by
  induction t with
  | nil => exact Nat.le_refl _
  | node c y l r ihl ihr =>
    simp only [drop]
    split
    · rw [even_size]; simp only [size]; omega
    · split
      · rw [even_size]; simp only [size]; omega
      · cases r with
        | nil => simp only [size]; omega
        | node c' z rl rr =>
          have := first_size (.node c' z rl rr) (by simp)
          simp only
          rw [even_size]
          simp only [size] at *
          omega
theorem ofL_size (l : List Int) : (ofL l).size ≤ l.length := by
  have h : ∀ (l : List Int) (t : ST), (l.foldl put t).size ≤ t.size + l.length := by
    intro l
    induction l with
    | nil => intro t; exact Nat.le_refl _
    | cons x l ih =>
      intro t
      have h1 := ih (put t x)
      have h2 := put_size t x
      rw [List.foldl_cons, List.length_cons]
      omega
  have := h l .nil
  simpa [size, ofL] using this
end Go.Proofs.Ythokmfonedfmfaa.AVL
