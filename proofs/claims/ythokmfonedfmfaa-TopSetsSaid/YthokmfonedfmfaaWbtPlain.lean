/-
  Trees of nearly even weights, plain: link, split, join, and the sets that they make; they stay nearly even. No program. Conditions: none.
-/
import Derived.Test.YthokmfonedfmfaaSetPlain
namespace Go.Proofs.Ythokmfonedfmfaa.WBT
open Go.Proofs.Ythokmfonedfmfaa.ST

def wt (t : ST) : Nat := t.size + 1
def mk (l : ST) (x : Int) (r : ST) : ST := .node false x l r
def turnL (l : ST) (x : Int) : ST → ST
  | .nil => mk l x .nil
  | .node _ y a b => if wt a < 2 * wt b then mk (mk l x a) y b else
    match a with
    | .nil => mk (mk l x .nil) y b
    | .node _ z m n => mk (mk l x m) z (mk n y b)
def turnR (x : Int) (r : ST) : ST → ST
  | .nil => mk .nil x r
  | .node _ y a b => if wt b < 2 * wt a then mk a y (mk b x r) else
    match b with
    | .nil => mk a y (mk .nil x r)
    | .node _ z m n => mk (mk a y m) z (mk n x r)
def even (l : ST) (x : Int) (r : ST) : ST := if 3 * wt l < wt r then turnL l x r else if 3 * wt r < wt l then turnR x r l else mk l x r
def link (l : ST) (x : Int) (r : ST) : ST :=
  if 3 * wt l < wt r then
    match r with
    | .nil => mk l x .nil
    | .node _ y a b => even (link l x a) y b
  else if 3 * wt r < wt l then
    match l with
    | .nil => mk .nil x r
    | .node _ y a b => even a y (link b x r)
  else mk l x r
termination_by l.size + r.size
decreasing_by all_goals (simp only [size]; omega)
def first : ST → Int × ST
  | .nil => (0, .nil)
  | .node _ x .nil r => (x, r)
  | .node _ x (.node c y a b) r => ((first (.node c y a b)).1, even (first (.node c y a b)).2 x r)
def joined (l r : ST) : ST :=
  match r with
  | .nil => l
  | .node c y a b => link l (first (.node c y a b)).1 (first (.node c y a b)).2
def split : ST → Int → ST × Bool × ST
  | .nil, _ => (.nil, false, .nil)
  | .node _ y l r, x =>
    if x < y then ((split l x).1, (split l x).2.1, link (split l x).2.2 y r) else
    if y < x then (link l y (split r x).1, (split r x).2.1, (split r x).2.2) else (l, true, r)
def union : ST → ST → ST
  | .nil, b => b
  | .node c x l r, .nil => .node c x l r
  | .node _ x l r, .node c' y l' r' => link (union l (split (.node c' y l' r') x).1) x (union r (split (.node c' y l' r') x).2.2)
def sifted : ST → ST → Bool → ST
  | .nil, _, _ => .nil
  | .node _ x l r, b, want => if (split b x).2.1 = want then link (sifted l (split b x).1 want) x (sifted r (split b x).2.2 want) else joined (sifted l (split b x).1 want) (sifted r (split b x).2.2 want)
def put (t : ST) (x : Int) : ST := link (split t x).1 x (split t x).2.2
def drop (t : ST) (x : Int) : ST := joined (split t x).1 (split t x).2.2
def ofL (l : List Int) : ST := l.foldl put .nil

/-! ### The numbers. -/
theorem turnL_toL (l : ST) (x : Int) (r : ST) : (turnL l x r).toL = l.toL ++ x :: r.toL := by
  unfold turnL
  split
  · rfl
  · split
    · simp [mk, toL]
    · split <;> simp [mk, toL]
theorem turnR_toL (l : ST) (x : Int) (r : ST) : (turnR x r l).toL = l.toL ++ x :: r.toL := by
  unfold turnR
  split
  · rfl
  · split
    · simp [mk, toL]
    · split <;> simp [mk, toL]
theorem even_toL (l : ST) (x : Int) (r : ST) : (even l x r).toL = l.toL ++ x :: r.toL := by
  unfold even
  split
  · exact turnL_toL l x r
  · split
    · exact turnR_toL l x r
    · rfl
theorem link_toL_n : ∀ (n : Nat) (l : ST) (x : Int) (r : ST), l.size + r.size ≤ n → (link l x r).toL = l.toL ++ x :: r.toL := by
  intro n
  induction n with
  | zero =>
    intro l x r h
    cases l with
    | node c y a b => simp only [size] at h; omega
    | nil =>
      cases r with
      | node c y a b => simp only [size] at h; omega
      | nil => rw [link.eq_def, if_neg (by simp [wt, size]), if_neg (by simp [wt, size])]; rfl
  | succ n ih =>
    intro l x r h
    rw [link.eq_def]
    split
    · cases r with
      | nil => rfl
      | node c y a b =>
        simp only [size] at h
        simp only
        rw [even_toL, ih _ _ _ (by omega)]
        simp [toL]
    · split
      · cases l with
        | nil => rfl
        | node c y a b =>
          simp only [size] at h
          simp only
          rw [even_toL, ih _ _ _ (by omega)]
          simp [toL]
      · rfl
theorem link_toL (l : ST) (x : Int) (r : ST) : (link l x r).toL = l.toL ++ x :: r.toL := link_toL_n _ l x r (Nat.le_refl _)
theorem even_size (l : ST) (x : Int) (r : ST) : (even l x r).size = l.size + r.size + 1 := by
  rw [← toL_length, even_toL, List.length_append, List.length_cons, toL_length, toL_length]; omega
theorem link_size (l : ST) (x : Int) (r : ST) : (link l x r).size = l.size + r.size + 1 := by
  rw [← toL_length, link_toL, List.length_append, List.length_cons, toL_length, toL_length]; omega
theorem first_toL (t : ST) (h : t ≠ .nil) : t.toL = (first t).1 :: (first t).2.toL := by
  induction t with
  | nil => exact absurd rfl h
  | node c x l r ihl _ =>
    cases l with
    | nil => rfl
    | node c' y a b =>
      have := ihl (by simp)
      rw [first, even_toL]
      rw [show (ST.node c x (.node c' y a b) r).toL = (ST.node c' y a b).toL ++ x :: r.toL from rfl, this]
      rfl
theorem first_size (t : ST) (h : t ≠ .nil) : (first t).2.size + 1 = t.size := by
  have := congrArg List.length (first_toL t h)
  rw [List.length_cons, toL_length, toL_length] at this
  omega
theorem joined_toL (l r : ST) : (joined l r).toL = l.toL ++ r.toL := by
  cases r with
  | nil => simp [joined, toL]
  | node c y a b =>
    rw [joined, link_toL, ← first_toL _ (by simp)]
theorem joined_size (l r : ST) : (joined l r).size = l.size + r.size := by
  rw [← toL_length, joined_toL, List.length_append, toL_length, toL_length]
theorem split_spec (t : ST) (x : Int) : t.Bst →
    (split t x).1.Bst ∧ (split t x).2.2.Bst ∧ (∀ y, y ∈ (split t x).1.toL ↔ y ∈ t.toL ∧ y < x) ∧ (∀ y, y ∈ (split t x).2.2.toL ↔ y ∈ t.toL ∧ x < y) ∧ ((split t x).2.1 = decide (x ∈ t.toL)) := by
  induction t with
  | nil => intro _; exact ⟨bst_nil, bst_nil, fun y => by simp [split, toL], fun y => by simp [split, toL], by simp [split, toL]⟩
  | node c z l r ihl ihr =>
    intro h
    obtain ⟨b1, b2, b3, b4⟩ := bst_node.1 h
    have lk : ∀ (p : ST) (u : Int) (q : ST), (link p u q).Bst ↔ (ST.node false u p q).Bst := fun p u q => by unfold Bst; rw [link_toL]; rfl
    have lm : ∀ (p : ST) (u : Int) (q : ST) (y : Int), y ∈ (link p u q).toL ↔ y ∈ p.toL ∨ y = u ∨ y ∈ q.toL := fun p u q y => by rw [link_toL, List.mem_append, List.mem_cons]
    simp only [split]
    split
    · rename_i hx
      obtain ⟨i1, i2, i3, i4, i5⟩ := ihl b1
      refine ⟨i1, (lk _ _ _).2 (bst_node.2 ⟨i2, b2, fun y hy => b3 y ((i4 y).1 hy).1, b4⟩), fun y => ?_, fun y => ?_, ?_⟩
      · rw [i3 y, mem_node]
        constructor
        · rintro ⟨k, g⟩; exact ⟨.inl k, g⟩
        · rintro ⟨k | k | k, g⟩
          · exact ⟨k, g⟩
          · omega
          · have := b4 y k; omega
      · rw [lm, i4 y, mem_node]
        constructor
        · rintro (⟨k, g⟩ | k | k)
          · exact ⟨.inl k, g⟩
          · exact ⟨.inr (.inl k), by omega⟩
          · exact ⟨.inr (.inr k), by have := b4 y k; omega⟩
        · rintro ⟨k | k | k, g⟩
          · exact .inl ⟨k, g⟩
          · exact .inr (.inl k)
          · exact .inr (.inr k)
      · rw [i5, Bool.eq_iff_iff, decide_eq_true_iff, decide_eq_true_iff, mem_node]
        constructor
        · exact .inl
        · rintro (k | k | k)
          · exact k
          · omega
          · have := b4 x k; omega
    · split
      · rename_i hx
        obtain ⟨i1, i2, i3, i4, i5⟩ := ihr b2
        refine ⟨(lk _ _ _).2 (bst_node.2 ⟨b1, i1, b3, fun y hy => b4 y ((i3 y).1 hy).1⟩), i2, fun y => ?_, fun y => ?_, ?_⟩
        · rw [lm, i3 y, mem_node]
          constructor
          · rintro (k | k | ⟨k, g⟩)
            · exact ⟨.inl k, by have := b3 y k; omega⟩
            · exact ⟨.inr (.inl k), by omega⟩
            · exact ⟨.inr (.inr k), g⟩
          · rintro ⟨k | k | k, g⟩
            · exact .inl k
            · exact .inr (.inl k)
            · exact .inr (.inr ⟨k, g⟩)
        · rw [i4 y, mem_node]
          constructor
          · rintro ⟨k, g⟩; exact ⟨.inr (.inr k), g⟩
          · rintro ⟨k | k | k, g⟩
            · have := b3 y k; omega
            · omega
            · exact ⟨k, g⟩
        · rw [i5, Bool.eq_iff_iff, decide_eq_true_iff, decide_eq_true_iff, mem_node]
          constructor
          · exact fun k => .inr (.inr k)
          · rintro (k | k | k)
            · have := b3 x k; omega
            · omega
            · exact k
      · have hx : z = x := by omega
        subst hx
        refine ⟨b1, b2, fun y => ?_, fun y => ?_, ?_⟩
        · rw [mem_node]
          constructor
          · exact fun k => ⟨.inl k, b3 y k⟩
          · rintro ⟨k | k | k, g⟩
            · exact k
            · omega
            · have := b4 y k; omega
        · rw [mem_node]
          constructor
          · exact fun k => ⟨.inr (.inr k), b4 y k⟩
          · rintro ⟨k | k | k, g⟩
            · have := b3 y k; omega
            · omega
            · exact k
        · rw [eq_comm, decide_eq_true_iff, mem_node]
          exact .inr (.inl rfl)
theorem split_size (t : ST) (x : Int) : (split t x).1.size + (split t x).2.2.size ≤ t.size := by
  induction t with
  | nil => exact Nat.le_refl _
  | node c z l r ihl ihr =>
    simp only [split]
    split
    · simp only [link_size, size]; omega
    · split
      · simp only [link_size, size]; omega
      · simp only [size]; omega
/-- What lies between two. -/
theorem link_spec {l r : ST} {x : Int} (hl : l.Bst) (hr : r.Bst) (h1 : ∀ y ∈ l.toL, y < x) (h2 : ∀ y ∈ r.toL, x < y) : (link l x r).Bst ∧ ∀ y, y ∈ (link l x r).toL ↔ y ∈ l.toL ∨ y = x ∨ y ∈ r.toL := by
  refine ⟨?_, fun y => by rw [link_toL, List.mem_append, List.mem_cons]⟩
  unfold Bst
  rw [link_toL]
  exact bst_node (c := false).2 ⟨hl, hr, h1, h2⟩
theorem joined_spec {l r : ST} (hl : l.Bst) (hr : r.Bst) (h : ∀ y ∈ l.toL, ∀ z ∈ r.toL, y < z) : (joined l r).Bst ∧ ∀ y, y ∈ (joined l r).toL ↔ y ∈ l.toL ∨ y ∈ r.toL := by
  refine ⟨?_, fun y => by rw [joined_toL, List.mem_append]⟩
  unfold Bst
  rw [joined_toL]
  exact List.pairwise_append.2 ⟨hl, hr, h⟩
theorem put_spec (t : ST) (x : Int) (h : t.Bst) : (put t x).Bst ∧ ∀ y, y ∈ (put t x).toL ↔ y = x ∨ y ∈ t.toL := by
  obtain ⟨s1, s2, s3, s4, _⟩ := split_spec t x h
  obtain ⟨k1, k2⟩ := link_spec (x := x) s1 s2 (fun y hy => ((s3 y).1 hy).2) (fun y hy => ((s4 y).1 hy).2)
  refine ⟨k1, fun y => ?_⟩
  unfold put
  rw [k2 y, s3 y, s4 y]
  constructor
  · rintro (k | k | k)
    · exact .inr k.1
    · exact .inl k
    · exact .inr k.1
  · rintro (k | k)
    · exact .inr (.inl k)
    · rcases Int.lt_trichotomy y x with e | e | e
      · exact .inl ⟨k, e⟩
      · exact .inr (.inl e)
      · exact .inr (.inr ⟨k, e⟩)
theorem drop_spec (t : ST) (x : Int) (h : t.Bst) : (drop t x).Bst ∧ ∀ y, y ∈ (drop t x).toL ↔ y ≠ x ∧ y ∈ t.toL := by
  obtain ⟨s1, s2, s3, s4, _⟩ := split_spec t x h
  obtain ⟨k1, k2⟩ := joined_spec s1 s2 (fun y hy z hz => by have := ((s3 y).1 hy).2; have := ((s4 z).1 hz).2; omega)
  refine ⟨k1, fun y => ?_⟩
  unfold drop
  rw [k2 y, s3 y, s4 y]
  constructor
  · rintro (⟨k, g⟩ | ⟨k, g⟩)
    · exact ⟨by omega, k⟩
    · exact ⟨by omega, k⟩
  · rintro ⟨g, k⟩
    rcases Int.lt_trichotomy y x with e | e | e
    · exact .inl ⟨k, e⟩
    · exact absurd e g
    · exact .inr ⟨k, e⟩
theorem union_spec (a : ST) : ∀ b : ST, a.Bst → b.Bst → (union a b).Bst ∧ ∀ y, y ∈ (union a b).toL ↔ y ∈ a.toL ∨ y ∈ b.toL := by
  induction a with
  | nil => intro b _ hb; rw [union]; exact ⟨hb, fun y => by simp [toL]⟩
  | node c x l r ihl ihr =>
    intro b ha hb
    cases b with
    | nil => rw [union]; exact ⟨ha, fun y => by simp [toL]⟩
    | node c' z l' r' =>
      rw [union]
      obtain ⟨b1, b2, b3, b4⟩ := bst_node.1 ha
      obtain ⟨s1, s2, s3, s4, _⟩ := split_spec (.node c' z l' r') x hb
      obtain ⟨u1, u2⟩ := ihl _ b1 s1
      obtain ⟨v1, v2⟩ := ihr _ b2 s2
      obtain ⟨k1, k2⟩ := link_spec (x := x) u1 v1 (fun y hy => ((u2 y).1 hy).elim (b3 y) (fun k => ((s3 y).1 k).2)) (fun y hy => ((v2 y).1 hy).elim (b4 y) (fun k => ((s4 y).1 k).2))
      refine ⟨k1, fun y => ?_⟩
      rw [k2 y, u2 y, v2 y, s3 y, s4 y, mem_node (c := c)]
      constructor
      · rintro ((k | k) | k | k | k)
        · exact .inl (.inl k)
        · exact .inr k.1
        · exact .inl (.inr (.inl k))
        · exact .inl (.inr (.inr k))
        · exact .inr k.1
      · rintro ((k | k | k) | k)
        · exact .inl (.inl k)
        · exact .inr (.inl k)
        · exact .inr (.inr (.inl k))
        · rcases Int.lt_trichotomy y x with e | e | e
          · exact .inl (.inr ⟨k, e⟩)
          · exact .inr (.inl e)
          · exact .inr (.inr (.inr ⟨k, e⟩))
theorem sifted_spec (a : ST) (want : Bool) : ∀ b : ST, a.Bst → b.Bst → (sifted a b want).Bst ∧ ∀ y, y ∈ (sifted a b want).toL ↔ y ∈ a.toL ∧ decide (y ∈ b.toL) = want := by
  induction a with
  | nil => intro b _ _; exact ⟨bst_nil, fun y => by simp [sifted, toL]⟩
  | node c x l r ihl ihr =>
    intro b ha hb
    obtain ⟨b1, b2, b3, b4⟩ := bst_node.1 ha
    obtain ⟨s1, s2, s3, s4, s5⟩ := split_spec b x hb
    obtain ⟨u1, u2⟩ := ihl _ b1 s1
    obtain ⟨v1, v2⟩ := ihr _ b2 s2
    have m1 : ∀ y ∈ l.toL, decide (y ∈ (split b x).1.toL) = decide (y ∈ b.toL) := fun y hy => by
      rw [Bool.eq_iff_iff, decide_eq_true_iff, decide_eq_true_iff, s3 y]
      exact ⟨fun k => k.1, fun k => ⟨k, b3 y hy⟩⟩
    have m2 : ∀ y ∈ r.toL, decide (y ∈ (split b x).2.2.toL) = decide (y ∈ b.toL) := fun y hy => by
      rw [Bool.eq_iff_iff, decide_eq_true_iff, decide_eq_true_iff, s4 y]
      exact ⟨fun k => k.1, fun k => ⟨k, b4 y hy⟩⟩
    have U : ∀ y, y ∈ (sifted l (split b x).1 want).toL ↔ y ∈ l.toL ∧ decide (y ∈ b.toL) = want := fun y => by
      rw [u2 y]
      constructor
      · rintro ⟨k, g⟩; exact ⟨k, by rw [← m1 y k]; exact g⟩
      · rintro ⟨k, g⟩; exact ⟨k, by rw [m1 y k]; exact g⟩
    have V : ∀ y, y ∈ (sifted r (split b x).2.2 want).toL ↔ y ∈ r.toL ∧ decide (y ∈ b.toL) = want := fun y => by
      rw [v2 y]
      constructor
      · rintro ⟨k, g⟩; exact ⟨k, by rw [← m2 y k]; exact g⟩
      · rintro ⟨k, g⟩; exact ⟨k, by rw [m2 y k]; exact g⟩
    rw [sifted, s5]
    split
    · rename_i hw
      obtain ⟨k1, k2⟩ := link_spec (x := x) u1 v1 (fun y hy => b3 y ((U y).1 hy).1) (fun y hy => b4 y ((V y).1 hy).1)
      refine ⟨k1, fun y => ?_⟩
      rw [k2 y, U y, V y, mem_node]
      constructor
      · rintro (k | k | k)
        · exact ⟨.inl k.1, k.2⟩
        · subst k; exact ⟨.inr (.inl rfl), hw⟩
        · exact ⟨.inr (.inr k.1), k.2⟩
      · rintro ⟨k | k | k, g⟩
        · exact .inl ⟨k, g⟩
        · exact .inr (.inl k)
        · exact .inr (.inr ⟨k, g⟩)
    · rename_i hw
      obtain ⟨k1, k2⟩ := joined_spec u1 v1 (fun y hy z hz => by have := b3 y ((U y).1 hy).1; have := b4 z ((V z).1 hz).1; omega)
      refine ⟨k1, fun y => ?_⟩
      rw [k2 y, U y, V y, mem_node]
      constructor
      · rintro (k | k)
        · exact ⟨.inl k.1, k.2⟩
        · exact ⟨.inr (.inr k.1), k.2⟩
      · rintro ⟨k | k | k, g⟩
        · exact .inl ⟨k, g⟩
        · subst k; exact absurd g hw
        · exact .inr ⟨k, g⟩
theorem put_size (t : ST) (x : Int) : (put t x).size ≤ t.size + 1 := by
  have := split_size t x
  unfold put
  rw [link_size]
  omega
theorem drop_size (t : ST) (x : Int) : (drop t x).size ≤ t.size := by
  have := split_size t x
  unfold drop
  rw [joined_size]
  exact this
theorem union_size (a : ST) : ∀ b : ST, (union a b).size ≤ a.size + b.size := by
  induction a with
  | nil => intro b; rw [union]; exact Nat.le_add_left _ _
  | node c x l r ihl ihr =>
    intro b
    cases b with
    | nil => rw [union]; exact Nat.le_add_right _ _
    | node c' z l' r' =>
      have h := split_size (.node c' z l' r') x
      have h1 := ihl (split (.node c' z l' r') x).1
      have h2 := ihr (split (.node c' z l' r') x).2.2
      rw [union, link_size]
      simp only [size] at *
      omega
theorem sifted_size (a : ST) (want : Bool) : ∀ b : ST, (sifted a b want).size ≤ a.size := by
  induction a with
  | nil => intro b; exact Nat.le_refl _
  | node c x l r ihl ihr =>
    intro b
    have h1 := ihl (split b x).1
    have h2 := ihr (split b x).2.2
    rw [sifted]
    split
    · rw [link_size]; simp only [size]; omega
    · rw [joined_size]; simp only [size]; omega
/-! ### Nearly even. -/
def Wb : ST → Prop
  | .nil => True
  | .node _ _ l r => Wb l ∧ Wb r ∧ wt l ≤ 3 * wt r ∧ wt r ≤ 3 * wt l
theorem wt_node (c : Bool) (x : Int) (l r : ST) : wt (.node c x l r) = wt l + wt r := by simp only [wt, size]; omega
theorem wt_pos (t : ST) : 1 ≤ wt t := Nat.le_add_left _ _
theorem wt_nil : wt .nil = 1 := rfl
theorem wt_link (l : ST) (x : Int) (r : ST) : wt (link l x r) = wt l + wt r := by simp only [wt, link_size]; omega
theorem turnL_wb {l r : ST} {x : Int} (hl : Wb l) (hr : Wb r) (h1 : 3 * wt l < wt r) (h2 : wt r ≤ 3 * wt l + 3 ∨ 3 * wt r ≤ 13 * wt l) : Wb (turnL l x r) := by
  have p := wt_pos l
  cases r with
  | nil => rw [wt_nil] at h1; omega
  | node c y a b =>
    obtain ⟨a1, a2, a3, a4⟩ := hr
    rw [wt_node] at h1 h2
    unfold turnL
    simp only
    split
    · refine ⟨⟨hl, a1, ?_, ?_⟩, a2, ?_, ?_⟩ <;> (try rw [mk, wt_node]) <;> omega
    · rename_i h3
      cases a with
      | nil => have := wt_pos b; rw [wt_nil] at h3; omega
      | node c' z m n =>
        obtain ⟨m1, m2, m3, m4⟩ := a1
        rw [wt_node] at h1 h2 h3 a3 a4
        refine ⟨⟨hl, m1, ?_, ?_⟩, ⟨m2, a2, ?_, ?_⟩, ?_, ?_⟩ <;> (try simp only [mk, wt_node]) <;> omega
theorem turnR_wb {l r : ST} {x : Int} (hl : Wb l) (hr : Wb r) (h1 : 3 * wt r < wt l) (h2 : wt l ≤ 3 * wt r + 3 ∨ 3 * wt l ≤ 13 * wt r) : Wb (turnR x r l) := by
  have p := wt_pos r
  cases l with
  | nil => rw [wt_nil] at h1; omega
  | node c y a b =>
    obtain ⟨a1, a2, a3, a4⟩ := hl
    rw [wt_node] at h1 h2
    unfold turnR
    simp only
    split
    · refine ⟨a1, ⟨a2, hr, ?_, ?_⟩, ?_, ?_⟩ <;> (try rw [mk, wt_node]) <;> omega
    · rename_i h3
      cases b with
      | nil => have := wt_pos a; rw [wt_nil] at h3; omega
      | node c' z m n =>
        obtain ⟨m1, m2, m3, m4⟩ := a2
        rw [wt_node] at h1 h2 h3 a3 a4
        refine ⟨⟨a1, m1, ?_, ?_⟩, ⟨m2, hr, ?_, ?_⟩, ?_, ?_⟩ <;> (try simp only [mk, wt_node]) <;> omega
theorem even_wb {l r : ST} {x : Int} (hl : Wb l) (hr : Wb r) (h1 : wt r ≤ 3 * wt l + 3 ∨ 3 * wt r ≤ 13 * wt l) (h2 : wt l ≤ 3 * wt r + 3 ∨ 3 * wt l ≤ 13 * wt r) : Wb (even l x r) := by
  unfold even
  split
  · rename_i h; exact turnL_wb hl hr h h1
  · split
    · rename_i h; exact turnR_wb hl hr h h2
    · exact ⟨hl, hr, by omega, by omega⟩
theorem link_wb_n : ∀ (n : Nat) (l : ST) (x : Int) (r : ST), l.size + r.size ≤ n → Wb l → Wb r → Wb (link l x r) := by
  intro n
  induction n with
  | zero =>
    intro l x r h _ _
    cases l with
    | node c y a b => simp only [size] at h; omega
    | nil =>
      cases r with
      | node c y a b => simp only [size] at h; omega
      | nil => rw [link.eq_def, if_neg (by simp [wt, size]), if_neg (by simp [wt, size])]; exact ⟨trivial, trivial, by simp [wt, size], by simp [wt, size]⟩
  | succ n ih =>
    intro l x r h hl hr
    have p1 := wt_pos l
    have p2 := wt_pos r
    rw [link.eq_def]
    split
    · rename_i hh
      cases r with
      | nil => rw [wt_nil] at hh; omega
      | node c y a b =>
        obtain ⟨a1, a2, a3, a4⟩ := hr
        simp only [size] at h
        rw [wt_node] at hh
        refine even_wb (ih _ _ _ (by omega) hl a1) a2 ?_ ?_ <;> rw [wt_link] <;> omega
    · split
      · rename_i hh
        cases l with
        | nil => rw [wt_nil] at hh; omega
        | node c y a b =>
          obtain ⟨a1, a2, a3, a4⟩ := hl
          simp only [size] at h
          rw [wt_node] at hh
          refine even_wb a1 (ih _ _ _ (by omega) a2 hr) ?_ ?_ <;> rw [wt_link] <;> omega
      · exact ⟨hl, hr, by omega, by omega⟩
theorem link_wb {l r : ST} (x : Int) (hl : Wb l) (hr : Wb r) : Wb (link l x r) := link_wb_n _ l x r (Nat.le_refl _) hl hr
theorem first_wb (t : ST) : t ≠ .nil → Wb t → Wb (first t).2 := by
  induction t with
  | nil => intro h; exact absurd rfl h
  | node c x l r ihl _ =>
    rintro _ ⟨h1, h2, h3, h4⟩
    cases l with
    | nil => exact h2
    | node c' y a b =>
      have hf := first_size (.node c' y a b) (by simp)
      have i := ihl (by simp) h1
      rw [first]
      refine even_wb i h2 ?_ ?_ <;> simp only [wt] at * <;> omega
theorem joined_wb {l r : ST} (hl : Wb l) (hr : Wb r) : Wb (joined l r) := by
  cases r with
  | nil => exact hl
  | node c y a b => exact link_wb _ hl (first_wb _ (by simp) hr)
theorem split_wb (t : ST) (x : Int) : Wb t → Wb (split t x).1 ∧ Wb (split t x).2.2 := by
  induction t with
  | nil => intro _; exact ⟨trivial, trivial⟩
  | node c z l r ihl ihr =>
    rintro ⟨h1, h2, _⟩
    simp only [split]
    split
    · exact ⟨(ihl h1).1, link_wb _ (ihl h1).2 h2⟩
    · split
      · exact ⟨link_wb _ h1 (ihr h2).1, (ihr h2).2⟩
      · exact ⟨h1, h2⟩
theorem union_wb (a : ST) : ∀ b : ST, Wb a → Wb b → Wb (union a b) := by
  induction a with
  | nil => intro b _ hb; rw [union]; exact hb
  | node c x l r ihl ihr =>
    intro b ha hb
    cases b with
    | nil => rw [union]; exact ha
    | node c' z l' r' =>
      obtain ⟨s1, s2⟩ := split_wb (.node c' z l' r') x hb
      rw [union]
      exact link_wb _ (ihl _ ha.1 s1) (ihr _ ha.2.1 s2)
theorem sifted_wb (a : ST) (want : Bool) : ∀ b : ST, Wb a → Wb b → Wb (sifted a b want) := by
  induction a with
  | nil => intro b _ _; exact trivial
  | node c x l r ihl ihr =>
    intro b ha hb
    obtain ⟨s1, s2⟩ := split_wb b x hb
    rw [sifted]
    split
    · exact link_wb _ (ihl _ ha.1 s1) (ihr _ ha.2.1 s2)
    · exact joined_wb (ihl _ ha.1 s1) (ihr _ ha.2.1 s2)
theorem put_wb {t : ST} (h : Wb t) (x : Int) : Wb (put t x) := link_wb x (split_wb t x h).1 (split_wb t x h).2
theorem drop_wb {t : ST} (h : Wb t) (x : Int) : Wb (drop t x) := joined_wb (split_wb t x h).1 (split_wb t x h).2
theorem foldl_put (l : List Int) : ∀ t : ST, t.Bst → Wb t → (l.foldl put t).Bst ∧ Wb (l.foldl put t) ∧ ∀ y, y ∈ (l.foldl put t).toL ↔ y ∈ l ∨ y ∈ t.toL := by
  induction l with
  | nil => intro t h g; exact ⟨h, g, fun y => by simp⟩
  | cons x l ih =>
    intro t h g
    obtain ⟨p1, p2⟩ := put_spec t x h
    obtain ⟨i1, i2, i3⟩ := ih _ p1 (put_wb g x)
    refine ⟨i1, i2, fun y => ?_⟩
    rw [List.foldl_cons, i3 y, p2 y, List.mem_cons]
    constructor
    · rintro (h | h | h)
      · exact .inl (.inr h)
      · exact .inl (.inl h)
      · exact .inr h
    · rintro ((h | h) | h)
      · exact .inr (.inl h)
      · exact .inl h
      · exact .inr (.inr h)
theorem ofL_spec (l : List Int) : (ofL l).Bst ∧ Wb (ofL l) ∧ ∀ y, y ∈ (ofL l).toL ↔ y ∈ l := by
  obtain ⟨a, b, c⟩ := foldl_put l .nil bst_nil trivial
  exact ⟨a, b, fun y => by have := c y; simpa [toL, ofL] using this⟩
theorem ofL_snoc (l : List Int) (x : Int) : ofL (l ++ [x]) = put (ofL l) x := by
  unfold ofL
  rw [List.foldl_append]
  rfl
theorem ofL_size (l : List Int) : (ofL l).size ≤ l.length := by
  have h : ∀ (l : List Int) (t : ST), (l.foldl put t).size ≤ t.size + l.length := by
    intro l
    induction l with
    | nil => intro t; exact Nat.le_refl _
    | cons x l ih =>
      intro t
      have h1 := ih (put t x)
      have h2 := put_size t x
      rw [List.foldl_cons, List.length_cons]
      omega
  have := h l .nil
  simpa [size, ofL] using this
end Go.Proofs.Ythokmfonedfmfaa.WBT
