/-
  Treaps, plain, over any weights: the heaviest one stands above; one set has one tree. No program. Conditions: none.
-/
import Derived.Test.YthokmfonedfmfaaSetPlain
namespace Go.Proofs.Ythokmfonedfmfaa.TRP0
open Go.Proofs.Ythokmfonedfmfaa.ST

section
variable (pr : Int → Int)
/-- Does one stand above another one? -/
def above (x y : Int) : Bool := decide (pr y < pr x) || (decide (pr x = pr y) && decide (x < y))
def mk (l : ST) (x : Int) (r : ST) : ST := .node false x l r
def split : ST → Int → ST × Bool × ST
  | .nil, _ => (.nil, false, .nil)
  | .node _ y l r, x =>
    if x < y then ((split l x).1, (split l x).2.1, mk (split l x).2.2 y r) else
    if y < x then (mk l y (split r x).1, (split r x).2.1, (split r x).2.2) else (l, true, r)
def put : ST → Int → ST
  | .nil, x => mk .nil x .nil
  | .node c y l r, x =>
    if above pr y x = false ∧ y ≠ x then mk (split (.node c y l r) x).1 x (split (.node c y l r) x).2.2 else
    if x < y then mk (put l x) y r else if y < x then mk l y (put r x) else .node c y l r
def joined : ST → ST → ST
  | .nil, b => b
  | .node c x l r, .nil => .node c x l r
  | .node c x l r, .node c' y l' r' => if above pr x y then mk l x (joined r (.node c' y l' r')) else mk (joined (.node c x l r) l') y r'
termination_by a b => a.size + b.size
decreasing_by all_goals (simp only [size]; omega)

variable {pr}
theorem above_total {x y : Int} (h : x ≠ y) : above pr x y = true ∨ above pr y x = true := by
  unfold above
  simp only [Bool.or_eq_true, Bool.and_eq_true, decide_eq_true_eq]
  omega
theorem above_asymm {x y : Int} (h : above pr x y = true) : above pr y x = false := by
  unfold above at *
  simp only [Bool.or_eq_true, Bool.and_eq_true, decide_eq_true_eq, Bool.or_eq_false_iff, Bool.and_eq_false_iff, decide_eq_false_iff_not] at *
  omega
theorem above_trans {x y z : Int} (h : above pr x y = true) (k : above pr y z = true) : above pr x z = true := by
  unfold above at *
  simp only [Bool.or_eq_true, Bool.and_eq_true, decide_eq_true_eq] at *
  omega
theorem above_of_not {x y : Int} (h : above pr x y = false) (k : x ≠ y) : above pr y x = true := by
  rcases above_total (pr := pr) k with h' | h'
  · rw [h] at h'; exact absurd h' (by simp)
  · exact h'

/-- The heaviest one stands above. -/
def Hp (pr : Int → Int) : ST → Prop
  | .nil => True
  | .node _ x l r => (∀ y ∈ l.toL, above pr x y = true) ∧ (∀ y ∈ r.toL, above pr x y = true) ∧ Hp pr l ∧ Hp pr r
theorem mk_toL (l : ST) (x : Int) (r : ST) : (mk l x r).toL = l.toL ++ x :: r.toL := rfl
/-- A node bears no colour. -/
def Plain : ST → Prop
  | .nil => True
  | .node c _ l r => c = false ∧ Plain l ∧ Plain r

theorem split_spec (t : ST) (x : Int) : t.Bst →
    (split t x).1.Bst ∧ (split t x).2.2.Bst ∧ (∀ y, y ∈ (split t x).1.toL ↔ y ∈ t.toL ∧ y < x) ∧ (∀ y, y ∈ (split t x).2.2.toL ↔ y ∈ t.toL ∧ x < y) ∧ ((split t x).2.1 = decide (x ∈ t.toL)) := by
  induction t with
  | nil => intro _; exact ⟨bst_nil, bst_nil, fun y => by simp [split, toL], fun y => by simp [split, toL], by simp [split, toL]⟩
  | node c z l r ihl ihr =>
    intro h
    obtain ⟨b1, b2, b3, b4⟩ := bst_node.1 h
    simp only [split]
    split
    · rename_i hx
      obtain ⟨i1, i2, i3, i4, i5⟩ := ihl b1
      refine ⟨i1, bst_node.2 ⟨i2, b2, fun y hy => b3 y ((i4 y).1 hy).1, b4⟩, fun y => ?_, fun y => ?_, ?_⟩
      · rw [i3 y, mem_node]
        constructor
        · rintro ⟨h, k⟩; exact ⟨.inl h, k⟩
        · rintro ⟨h | h | h, k⟩
          · exact ⟨h, k⟩
          · omega
          · have := b4 y h; omega
      · show y ∈ (mk _ z r).toL ↔ _
        rw [mk, mem_node, mem_node, i4 y]
        constructor
        · rintro (⟨h, k⟩ | h | h)
          · exact ⟨.inl h, k⟩
          · exact ⟨.inr (.inl h), by omega⟩
          · exact ⟨.inr (.inr h), by have := b4 y h; omega⟩
        · rintro ⟨h | h | h, k⟩
          · exact .inl ⟨h, k⟩
          · exact .inr (.inl h)
          · exact .inr (.inr h)
      · rw [i5, Bool.eq_iff_iff, decide_eq_true_iff, decide_eq_true_iff, mem_node]
        constructor
        · exact .inl
        · rintro (h | h | h)
          · exact h
          · omega
          · have := b4 x h; omega
    · split
      · rename_i hx
        obtain ⟨i1, i2, i3, i4, i5⟩ := ihr b2
        refine ⟨bst_node.2 ⟨b1, i1, b3, fun y hy => b4 y ((i3 y).1 hy).1⟩, i2, fun y => ?_, fun y => ?_, ?_⟩
        · show y ∈ (mk l z _).toL ↔ _
          rw [mk, mem_node, mem_node, i3 y]
          constructor
          · rintro (h | h | ⟨h, k⟩)
            · exact ⟨.inl h, by have := b3 y h; omega⟩
            · exact ⟨.inr (.inl h), by omega⟩
            · exact ⟨.inr (.inr h), k⟩
          · rintro ⟨h | h | h, k⟩
            · exact .inl h
            · exact .inr (.inl h)
            · exact .inr (.inr ⟨h, k⟩)
        · rw [i4 y, mem_node]
          constructor
          · rintro ⟨h, k⟩; exact ⟨.inr (.inr h), k⟩
          · rintro ⟨h | h | h, k⟩
            · have := b3 y h; omega
            · omega
            · exact ⟨h, k⟩
        · rw [i5, Bool.eq_iff_iff, decide_eq_true_iff, decide_eq_true_iff, mem_node]
          constructor
          · exact fun h => .inr (.inr h)
          · rintro (h | h | h)
            · have := b3 x h; omega
            · omega
            · exact h
      · have hx : z = x := by omega
        subst hx
        refine ⟨b1, b2, fun y => ?_, fun y => ?_, ?_⟩
        · rw [mem_node]
          constructor
          · exact fun h => ⟨.inl h, b3 y h⟩
          · rintro ⟨h | h | h, k⟩
            · exact h
            · omega
            · have := b4 y h; omega
        · rw [mem_node]
          constructor
          · exact fun h => ⟨.inr (.inr h), b4 y h⟩
          · rintro ⟨h | h | h, k⟩
            · have := b3 y h; omega
            · omega
            · exact h
        · rw [Bool.eq_iff_iff, decide_eq_true_iff, mem_node]
          exact ⟨fun _ => .inr (.inl rfl), fun _ => rfl⟩
theorem split_sub (t : ST) (x : Int) : (∀ y ∈ (split t x).1.toL, y ∈ t.toL) ∧ (∀ y ∈ (split t x).2.2.toL, y ∈ t.toL) := by
  induction t with
  | nil => exact ⟨by simp [split, toL], by simp [split, toL]⟩
  | node c z l r ihl ihr =>
    simp only [split]
    split
    · refine ⟨fun y hy => mem_node.2 (.inl (ihl.1 y hy)), fun y hy => ?_⟩
      rcases mem_node.1 hy with h | h | h
      · exact mem_node.2 (.inl (ihl.2 y h))
      · exact mem_node.2 (.inr (.inl h))
      · exact mem_node.2 (.inr (.inr h))
    · split
      · refine ⟨fun y hy => ?_, fun y hy => mem_node.2 (.inr (.inr (ihr.2 y hy)))⟩
        rcases mem_node.1 hy with h | h | h
        · exact mem_node.2 (.inl h)
        · exact mem_node.2 (.inr (.inl h))
        · exact mem_node.2 (.inr (.inr (ihr.1 y h)))
      · exact ⟨fun y hy => mem_node.2 (.inl hy), fun y hy => mem_node.2 (.inr (.inr hy))⟩
theorem split_hp (t : ST) (x : Int) : Hp pr t → Hp pr (split t x).1 ∧ Hp pr (split t x).2.2 := by
  induction t with
  | nil => intro _; exact ⟨trivial, trivial⟩
  | node c z l r ihl ihr =>
    rintro ⟨h1, h2, h3, h4⟩
    simp only [split]
    split
    · obtain ⟨i1, i2⟩ := ihl h3
      exact ⟨i1, fun y hy => h1 y ((split_sub l x).2 y hy), h2, i2, h4⟩
    · split
      · obtain ⟨i1, i2⟩ := ihr h4
        exact ⟨⟨h1, fun y hy => h2 y ((split_sub r x).1 y hy), h3, i1⟩, i2⟩
      · exact ⟨h3, h4⟩
theorem split_plain (t : ST) (x : Int) : Plain t → Plain (split t x).1 ∧ Plain (split t x).2.2 := by
  induction t with
  | nil => intro _; exact ⟨trivial, trivial⟩
  | node c z l r ihl ihr =>
    rintro ⟨h1, h2, h3⟩
    simp only [split]
    split
    · exact ⟨(ihl h2).1, rfl, (ihl h2).2, h3⟩
    · split
      · exact ⟨⟨rfl, h2, (ihr h3).1⟩, (ihr h3).2⟩
      · exact ⟨h2, h3⟩
theorem split_size (t : ST) (x : Int) : (split t x).1.size + (split t x).2.2.size ≤ t.size := by
  induction t with
  | nil => exact Nat.le_refl _
  | node c z l r ihl ihr =>
    simp only [split]
    split
    · simp only [mk, size]; omega
    · split
      · simp only [mk, size]; omega
      · simp only [size]; omega

theorem put_spec (t : ST) (x : Int) : t.Bst → Hp pr t → Plain t → (put pr t x).Bst ∧ Hp pr (put pr t x) ∧ Plain (put pr t x) ∧ ∀ y, y ∈ (put pr t x).toL ↔ y = x ∨ y ∈ t.toL := by
  induction t with
  | nil => intro _ _ _; exact ⟨by simp [put, mk, bst_node, bst_nil, toL], by simp [put, mk, Hp, toL], ⟨rfl, trivial, trivial⟩, fun y => by simp [put, mk, toL]⟩
  | node c z l r ihl ihr =>
    intro h hp pl
    obtain ⟨b1, b2, b3, b4⟩ := bst_node.1 h
    obtain ⟨h1, h2, h3, h4⟩ := hp
    obtain ⟨p1, p2, p3⟩ := pl
    unfold put
    split
    · rename_i ha
      obtain ⟨ha, hne⟩ := ha
      have hxz := above_of_not ha hne
      have hall : ∀ y ∈ (ST.node c z l r).toL, y ≠ x → above pr x y = true := by
        intro y hy _
        rcases mem_node.1 hy with k | k | k
        · exact above_trans hxz (h1 y k)
        · rw [k]; exact hxz
        · exact above_trans hxz (h2 y k)
      obtain ⟨s1, s2, s3, s4, s5⟩ := split_spec (.node c z l r) x h
      obtain ⟨q1, q2⟩ := split_hp (pr := pr) (.node c z l r) x ⟨h1, h2, h3, h4⟩
      obtain ⟨t1, t2⟩ := split_plain (.node c z l r) x ⟨p1, p2, p3⟩
      refine ⟨bst_node.2 ⟨s1, s2, fun y hy => ((s3 y).1 hy).2, fun y hy => ((s4 y).1 hy).2⟩, ⟨fun y hy => hall y ((s3 y).1 hy).1 (by have := ((s3 y).1 hy).2; omega), fun y hy => hall y ((s4 y).1 hy).1 (by have := ((s4 y).1 hy).2; omega), q1, q2⟩, ⟨rfl, t1, t2⟩, fun y => ?_⟩
      rw [mk, mem_node, s3 y, s4 y]
      constructor
      · rintro (⟨k, _⟩ | k | ⟨k, _⟩)
        · exact .inr k
        · exact .inl k
        · exact .inr k
      · rintro (k | k)
        · exact .inr (.inl k)
        · rcases Int.lt_trichotomy y x with g | g | g
          · exact .inl ⟨k, g⟩
          · exact .inr (.inl g)
          · exact .inr (.inr ⟨k, g⟩)
    · rename_i ha
      split
      · rename_i hx
        obtain ⟨i1, i2, i3, i4⟩ := ihl b1 h3 p2
        have hzx : above pr z x = true := by
          cases hb : above pr z x with
          | true => rfl
          | false => exact absurd ⟨hb, by omega⟩ ha
        refine ⟨bst_node.2 ⟨i1, b2, fun y hy => ?_, b4⟩, ⟨fun y hy => ?_, h2, i2, h4⟩, ⟨rfl, i3, p3⟩, fun y => ?_⟩
        · rcases (i4 y).1 hy with rfl | hy
          · exact hx
          · exact b3 y hy
        · rcases (i4 y).1 hy with rfl | hy
          · exact hzx
          · exact h1 y hy
        · rw [mk, mem_node, mem_node, i4 y]
          constructor
          · rintro ((k | k) | k | k)
            · exact .inl k
            · exact .inr (.inl k)
            · exact .inr (.inr (.inl k))
            · exact .inr (.inr (.inr k))
          · rintro (k | k | k | k)
            · exact .inl (.inl k)
            · exact .inl (.inr k)
            · exact .inr (.inl k)
            · exact .inr (.inr k)
      · split
        · rename_i hx
          obtain ⟨i1, i2, i3, i4⟩ := ihr b2 h4 p3
          have hzx : above pr z x = true := by
            cases hb : above pr z x with
            | true => rfl
            | false => exact absurd ⟨hb, by omega⟩ ha
          refine ⟨bst_node.2 ⟨b1, i1, b3, fun y hy => ?_⟩, ⟨h1, fun y hy => ?_, h3, i2⟩, ⟨rfl, p2, i3⟩, fun y => ?_⟩
          · rcases (i4 y).1 hy with rfl | hy
            · exact hx
            · exact b4 y hy
          · rcases (i4 y).1 hy with rfl | hy
            · exact hzx
            · exact h2 y hy
          · rw [mk, mem_node, mem_node, i4 y]
            constructor
            · rintro (k | k | k | k)
              · exact .inr (.inl k)
              · exact .inr (.inr (.inl k))
              · exact .inl k
              · exact .inr (.inr (.inr k))
            · rintro (k | k | k | k)
              · exact .inr (.inr (.inl k))
              · exact .inl k
              · exact .inr (.inl k)
              · exact .inr (.inr (.inr k))
        · have hx : z = x := by omega
          subst hx
          refine ⟨h, ⟨h1, h2, h3, h4⟩, ⟨p1, p2, p3⟩, fun y => ⟨.inr, ?_⟩⟩
          rintro (rfl | k)
          · exact mem_node.2 (.inr (.inl rfl))
          · exact k
theorem put_size (t : ST) (x : Int) : (put pr t x).size ≤ t.size + 1 := by
  induction t with
  | nil => exact Nat.le_refl _
  | node c z l r ihl ihr =>
    unfold put
    split
    · have := split_size (.node c z l r) x
      simp only [mk, size] at *
      omega
    · split
      · simp only [mk, size]; omega
      · split
        · simp only [mk, size]; omega
        · exact Nat.le_succ _

theorem joined_rec {P : ST → ST → ST → Prop} (h1 : ∀ b, P .nil b b) (h2 : ∀ c x l r, P (.node c x l r) .nil (.node c x l r))
    (h3 : ∀ c x l r c' y l' r' m, above pr x y = true → P r (.node c' y l' r') m → P (.node c x l r) (.node c' y l' r') (mk l x m))
    (h4 : ∀ c x l r c' y l' r' m, above pr x y = false → P (.node c x l r) l' m → P (.node c x l r) (.node c' y l' r') (mk m y r')) :
    ∀ (n : Nat) (a b : ST), a.size + b.size ≤ n → P a b (joined pr a b) := by
  intro n
  induction n with
  | zero =>
    intro a b h
    cases a with
    | nil => unfold joined; exact h1 b
    | node c x l r => simp only [size] at h; omega
  | succ n ih =>
    intro a b h
    cases a with
    | nil => unfold joined; exact h1 b
    | node c x l r =>
      cases b with
      | nil => unfold joined; exact h2 c x l r
      | node c' y l' r' =>
        simp only [size] at h
        cases hy : above pr x y with
        | true =>
          rw [joined, if_pos hy]
          exact h3 c x l r c' y l' r' _ hy (ih _ _ (by simp only [size]; omega))
        | false =>
          rw [joined, if_neg (by rw [hy]; simp)]
          exact h4 c x l r c' y l' r' _ hy (ih _ _ (by simp only [size]; omega))
theorem joined_toL (a b : ST) : (joined pr a b).toL = a.toL ++ b.toL := by
  refine joined_rec (pr := pr) (P := fun a b m => m.toL = a.toL ++ b.toL) ?_ ?_ ?_ ?_ _ a b (Nat.le_refl _)
  · intro b; simp [toL]
  · intro c x l r; simp [toL]
  · intro c x l r c' y l' r' m _ h; rw [mk_toL, h]; simp [toL]
  · intro c x l r c' y l' r' m _ h; rw [mk_toL, h]; simp [toL]
theorem joined_hp (a b : ST) : Hp pr a → Hp pr b → (∀ x ∈ a.toL, ∀ y ∈ b.toL, x < y) → Hp pr (joined pr a b) := by
  have key := joined_rec (pr := pr) (P := fun a b m => Hp pr a → Hp pr b → (∀ x ∈ a.toL, ∀ y ∈ b.toL, x < y) → Hp pr m ∧ m.toL = a.toL ++ b.toL) ?_ ?_ ?_ ?_ _ a b (Nat.le_refl _)
  · exact fun h1 h2 h3 => (key h1 h2 h3).1
  · intro b _ h _; exact ⟨h, by simp [toL]⟩
  · intro c x l r h _ _; exact ⟨h, by simp [toL]⟩
  · intro c x l r c' y l' r' m hxy ih ha hb hlt
    obtain ⟨i1, i2⟩ := ih ha.2.2.2 hb (fun p hp q hq => hlt p (mem_node.2 (.inr (.inr hp))) q hq)
    refine ⟨⟨ha.1, fun z hz => ?_, ha.2.2.1, i1⟩, by rw [mk_toL, i2]; simp [toL]⟩
    rw [i2, List.mem_append] at hz
    rcases hz with hz | hz
    · exact ha.2.1 z hz
    · rcases mem_node.1 hz with hz | hz | hz
      · exact above_trans hxy (hb.1 z hz)
      · rw [hz]; exact hxy
      · exact above_trans hxy (hb.2.1 z hz)
  · intro c x l r c' y l' r' m hxy ih ha hb hlt
    obtain ⟨i1, i2⟩ := ih ha hb.2.2.1 (fun p hp q hq => hlt p hp q (mem_node.2 (.inl hq)))
    have hne : x ≠ y := by
      have := hlt x (mem_node.2 (.inr (.inl rfl))) y (mem_node.2 (.inr (.inl rfl)))
      omega
    have hyx := above_of_not hxy hne
    refine ⟨⟨fun z hz => ?_, hb.2.1, i1, hb.2.2.2⟩, by rw [mk_toL, i2]; simp [toL]⟩
    rw [i2, List.mem_append] at hz
    rcases hz with hz | hz
    · rcases mem_node.1 hz with hz | hz | hz
      · exact above_trans hyx (ha.1 z hz)
      · rw [hz]; exact hyx
      · exact above_trans hyx (ha.2.1 z hz)
    · exact hb.1 z hz
theorem joined_plain (a b : ST) : Plain a → Plain b → Plain (joined pr a b) := by
  refine joined_rec (pr := pr) (P := fun a b m => Plain a → Plain b → Plain m) ?_ ?_ ?_ ?_ _ a b (Nat.le_refl _)
  · intro b _ h; exact h
  · intro c x l r h _; exact h
  · intro c x l r c' y l' r' m _ ih ha hb; exact ⟨rfl, ha.2.1, ih ha.2.2 hb⟩
  · intro c x l r c' y l' r' m _ ih ha hb; exact ⟨rfl, ih ha hb.2.1, hb.2.2⟩
end

/-- A treap: rising from the left to the right, lighter from the top down. -/
structure Tp (pr : Int → Int) (t : ST) : Prop where
  bst : t.Bst
  hp : Hp pr t
  plain : Plain t
theorem tp_nil (pr : Int → Int) : Tp pr .nil := ⟨bst_nil, trivial, trivial⟩
theorem put_tp {pr : Int → Int} {t : ST} (h : Tp pr t) (x : Int) : Tp pr (put pr t x) ∧ ∀ y, y ∈ (put pr t x).toL ↔ y = x ∨ y ∈ t.toL := by
  obtain ⟨a, b, c, d⟩ := put_spec t x h.bst h.hp h.plain
  exact ⟨⟨a, b, c⟩, d⟩
def drop (pr : Int → Int) (t : ST) (x : Int) : ST := joined pr (split t x).1 (split t x).2.2
theorem drop_tp {pr : Int → Int} {t : ST} (h : Tp pr t) (x : Int) : Tp pr (drop pr t x) ∧ ∀ y, y ∈ (drop pr t x).toL ↔ y ≠ x ∧ y ∈ t.toL := by
  obtain ⟨s1, s2, s3, s4, s5⟩ := split_spec t x h.bst
  obtain ⟨q1, q2⟩ := split_hp (pr := pr) t x h.hp
  obtain ⟨t1, t2⟩ := split_plain t x h.plain
  have hlt : ∀ p ∈ (split t x).1.toL, ∀ q ∈ (split t x).2.2.toL, p < q := fun p hp q hq => by
    have := ((s3 p).1 hp).2
    have := ((s4 q).1 hq).2
    omega
  refine ⟨⟨?_, joined_hp _ _ q1 q2 hlt, joined_plain _ _ t1 t2⟩, fun y => ?_⟩
  · unfold Bst drop
    rw [joined_toL]
    exact List.pairwise_append.2 ⟨s1, s2, hlt⟩
  · unfold drop
    rw [joined_toL, List.mem_append, s3 y, s4 y]
    constructor
    · rintro (⟨k, g⟩ | ⟨k, g⟩)
      · exact ⟨by omega, k⟩
      · exact ⟨by omega, k⟩
    · rintro ⟨g, k⟩
      rcases Int.lt_trichotomy y x with e | e | e
      · exact .inl ⟨k, e⟩
      · exact absurd e g
      · exact .inr ⟨k, e⟩
theorem drop_size (pr : Int → Int) (t : ST) (x : Int) : (drop pr t x).size ≤ t.size := by
  have := split_size t x
  rw [← toL_length, drop, joined_toL, List.length_append, toL_length, toL_length]
  exact this
def ofL (pr : Int → Int) (l : List Int) : ST := l.foldl (put pr) .nil
theorem foldl_put (pr : Int → Int) (l : List Int) : ∀ t : ST, Tp pr t → Tp pr (l.foldl (put pr) t) ∧ ∀ y, y ∈ (l.foldl (put pr) t).toL ↔ y ∈ l ∨ y ∈ t.toL := by
  induction l with
  | nil => intro t h; exact ⟨h, fun y => by simp⟩
  | cons x l ih =>
    intro t h
    obtain ⟨p1, p2⟩ := put_tp h x
    obtain ⟨i1, i2⟩ := ih _ p1
    refine ⟨i1, fun y => ?_⟩
    rw [List.foldl_cons, i2 y, p2 y, List.mem_cons]
    constructor
    · rintro (h | h | h)
      · exact .inl (.inr h)
      · exact .inl (.inl h)
      · exact .inr h
    · rintro ((h | h) | h)
      · exact .inr (.inl h)
      · exact .inl h
      · exact .inr (.inr h)
theorem ofL_tp (pr : Int → Int) (l : List Int) : Tp pr (ofL pr l) ∧ ∀ y, y ∈ (ofL pr l).toL ↔ y ∈ l := by
  have := foldl_put pr l .nil (tp_nil pr)
  exact ⟨this.1, fun y => by have := this.2 y; simpa [toL, ofL] using this⟩
theorem ofL_snoc (pr : Int → Int) (l : List Int) (x : Int) : ofL pr (l ++ [x]) = put pr (ofL pr l) x := by
  unfold ofL
  rw [List.foldl_append]
  rfl

/-- SEIDEL and ARAGON: one set, one tree. -/
theorem tp_unique (pr : Int → Int) : ∀ (n : Nat) (a b : ST), a.size ≤ n → Tp pr a → Tp pr b → (∀ x, x ∈ a.toL ↔ x ∈ b.toL) → a = b := by
  intro n
  induction n with
  | zero =>
    intro a b hn _ _ hm
    cases a with
    | nil =>
      cases b with
      | nil => rfl
      | node c y l r => exact absurd ((hm y).2 (mem_node.2 (.inr (.inl rfl)))) (by simp [toL])
    | node c x l r => simp only [size] at hn; omega
  | succ n ih =>
    intro a b hn ha hb hm
    cases a with
    | nil =>
      cases b with
      | nil => rfl
      | node c y l r => exact absurd ((hm y).2 (mem_node.2 (.inr (.inl rfl)))) (by simp [toL])
    | node c x l r =>
      cases b with
      | nil => exact absurd ((hm x).1 (mem_node.2 (.inr (.inl rfl)))) (by simp [toL])
      | node c' y l' r' =>
        have hxy : x = y := by
          refine Decidable.byContradiction fun hne => ?_
          have h1 : above pr x y = true := by
            rcases mem_node.1 ((hm y).2 (mem_node.2 (.inr (.inl rfl)))) with k | k | k
            · exact ha.hp.1 y k
            · exact absurd k.symm hne
            · exact ha.hp.2.1 y k
          have h2 : above pr y x = true := by
            rcases mem_node.1 ((hm x).1 (mem_node.2 (.inr (.inl rfl)))) with k | k | k
            · exact hb.hp.1 x k
            · exact absurd k hne
            · exact hb.hp.2.1 x k
          rw [above_asymm h1] at h2
          exact absurd h2 (by simp)
        subst hxy
        obtain ⟨a1, a2, a3, a4⟩ := bst_node.1 ha.bst
        obtain ⟨b1, b2, b3, b4⟩ := bst_node.1 hb.bst
        obtain ⟨rfl, a5, a6⟩ := ha.plain
        obtain ⟨rfl, b5, b6⟩ := hb.plain
        have hl : l = l' := ih l l' (by simp only [size] at hn; omega) ⟨a1, ha.hp.2.2.1, a5⟩ ⟨b1, hb.hp.2.2.1, b5⟩ fun z => by
          constructor
          · intro hz
            rcases mem_node.1 ((hm z).1 (mem_node.2 (.inl hz))) with k | k | k
            · exact k
            · have := a3 z hz; omega
            · have := a3 z hz; have := b4 z k; omega
          · intro hz
            rcases mem_node.1 ((hm z).2 (mem_node.2 (.inl hz))) with k | k | k
            · exact k
            · have := b3 z hz; omega
            · have := b3 z hz; have := a4 z k; omega
        have hr : r = r' := ih r r' (by simp only [size] at hn; omega) ⟨a2, ha.hp.2.2.2, a6⟩ ⟨b2, hb.hp.2.2.2, b6⟩ fun z => by
          constructor
          · intro hz
            rcases mem_node.1 ((hm z).1 (mem_node.2 (.inr (.inr hz)))) with k | k | k
            · have := a4 z hz; have := b3 z k; omega
            · have := a4 z hz; omega
            · exact k
          · intro hz
            rcases mem_node.1 ((hm z).2 (mem_node.2 (.inr (.inr hz)))) with k | k | k
            · have := b4 z hz; have := a3 z k; omega
            · have := b4 z hz; omega
            · exact k
        rw [hl, hr]

/-- Those of one of both. -/
def union (pr : Int → Int) : ST → ST → ST
  | .nil, b => b
  | .node c x l r, .nil => .node c x l r
  | .node c x l r, .node c' y l' r' =>
    if above pr x y = false ∧ x ≠ y then mk (union pr l' (split (.node c x l r) y).1) y (union pr r' (split (.node c x l r) y).2.2)
    else mk (union pr l (split (.node c' y l' r') x).1) x (union pr r (split (.node c' y l' r') x).2.2)
termination_by a b => a.size + b.size
decreasing_by
  all_goals
    first
      | (have := split_size (.node c x l r) y; simp only [size] at *; omega)
      | (have := split_size (.node c' y l' r') x; simp only [size] at *; omega)
theorem union_mid {pr : Int → Int} {x : Int} {l r b u v : ST} {c : Bool} (ha : Tp pr (.node c x l r)) (hb : Tp pr b) (hx : ∀ z ∈ b.toL, z ≠ x → above pr x z = true) (hu : Tp pr u) (hv : Tp pr v)
    (mu : ∀ y, y ∈ u.toL ↔ y ∈ l.toL ∨ y ∈ (split b x).1.toL) (mv : ∀ y, y ∈ v.toL ↔ y ∈ r.toL ∨ y ∈ (split b x).2.2.toL) :
    Tp pr (mk u x v) ∧ ∀ y, y ∈ (mk u x v).toL ↔ y ∈ (ST.node c x l r).toL ∨ y ∈ b.toL := by
  obtain ⟨s1, s2, s3, s4, _⟩ := split_spec b x hb.bst
  obtain ⟨b1, b2, b3, b4⟩ := bst_node.1 ha.bst
  have h1 := ha.hp.1
  have h2 := ha.hp.2.1
  refine ⟨⟨bst_node.2 ⟨hu.bst, hv.bst, fun y hy => ?_, fun y hy => ?_⟩, ⟨fun y hy => ?_, fun y hy => ?_, hu.hp, hv.hp⟩, ⟨rfl, hu.plain, hv.plain⟩⟩, fun y => ?_⟩
  · rcases (mu y).1 hy with k | k
    · exact b3 y k
    · exact ((s3 y).1 k).2
  · rcases (mv y).1 hy with k | k
    · exact b4 y k
    · exact ((s4 y).1 k).2
  · rcases (mu y).1 hy with k | k
    · exact h1 y k
    · have := (s3 y).1 k; exact hx y this.1 (by omega)
  · rcases (mv y).1 hy with k | k
    · exact h2 y k
    · have := (s4 y).1 k; exact hx y this.1 (by omega)
  · rw [mk, mem_node, mem_node, mu y, mv y, s3 y, s4 y]
    constructor
    · rintro ((k | k) | k | k | k)
      · exact .inl (.inl k)
      · exact .inr k.1
      · exact .inl (.inr (.inl k))
      · exact .inl (.inr (.inr k))
      · exact .inr k.1
    · rintro ((k | k | k) | k)
      · exact .inl (.inl k)
      · exact .inr (.inl k)
      · exact .inr (.inr (.inl k))
      · rcases Int.lt_trichotomy y x with e | e | e
        · exact .inl (.inr ⟨k, e⟩)
        · exact .inr (.inl e)
        · exact .inr (.inr (.inr ⟨k, e⟩))
theorem split_tp {pr : Int → Int} {t : ST} (h : Tp pr t) (x : Int) : Tp pr (split t x).1 ∧ Tp pr (split t x).2.2 := by
  obtain ⟨s1, s2, _⟩ := split_spec t x h.bst
  obtain ⟨q1, q2⟩ := split_hp (pr := pr) t x h.hp
  obtain ⟨t1, t2⟩ := split_plain t x h.plain
  exact ⟨⟨s1, q1, t1⟩, ⟨s2, q2, t2⟩⟩
theorem tp_left {pr : Int → Int} {c : Bool} {x : Int} {l r : ST} (h : Tp pr (.node c x l r)) : Tp pr l := ⟨(bst_node.1 h.bst).1, h.hp.2.2.1, h.plain.2.1⟩
theorem tp_right {pr : Int → Int} {c : Bool} {x : Int} {l r : ST} (h : Tp pr (.node c x l r)) : Tp pr r := ⟨(bst_node.1 h.bst).2.1, h.hp.2.2.2, h.plain.2.2⟩
theorem above_all {pr : Int → Int} {c : Bool} {x y : Int} {l r : ST} (h : Tp pr (.node c y l r)) (hxy : above pr x y = true ∨ x = y) : ∀ z ∈ (ST.node c y l r).toL, z ≠ x → above pr x z = true := by
  intro z hz hne
  rcases hxy with hxy | rfl
  · rcases mem_node.1 hz with k | k | k
    · exact above_trans hxy (h.hp.1 z k)
    · rw [k]; exact hxy
    · exact above_trans hxy (h.hp.2.1 z k)
  · rcases mem_node.1 hz with k | k | k
    · exact h.hp.1 z k
    · exact absurd k hne
    · exact h.hp.2.1 z k
theorem union_n (pr : Int → Int) : ∀ (n : Nat) (a b : ST), a.size + b.size ≤ n → Tp pr a → Tp pr b → Tp pr (union pr a b) ∧ ∀ y, y ∈ (union pr a b).toL ↔ y ∈ a.toL ∨ y ∈ b.toL := by
  intro n
  induction n with
  | zero =>
    intro a b hn ha hb
    cases a with
    | nil => rw [union]; exact ⟨hb, fun y => by simp [toL]⟩
    | node c x l r => simp only [size] at hn; omega
  | succ n ih =>
    intro a b hn ha hb
    cases a with
    | nil => rw [union]; exact ⟨hb, fun y => by simp [toL]⟩
    | node c x l r =>
      cases b with
      | nil => rw [union]; exact ⟨ha, fun y => by simp [toL]⟩
      | node c' y l' r' =>
        rw [union]
        split
        · rename_i hc
          have hs := split_size (.node c x l r) y
          obtain ⟨t1, t2⟩ := split_tp ha y
          have hyx := above_of_not hc.1 hc.2
          obtain ⟨u1, u2⟩ := ih l' (split (.node c x l r) y).1 (by simp only [size] at hn hs ⊢; omega) (tp_left hb) t1
          obtain ⟨v1, v2⟩ := ih r' (split (.node c x l r) y).2.2 (by simp only [size] at hn hs ⊢; omega) (tp_right hb) t2
          obtain ⟨m1, m2⟩ := union_mid hb ha (above_all ha (.inl hyx)) u1 v1 u2 v2
          exact ⟨m1, fun z => by rw [m2 z, or_comm]⟩
        · rename_i hc
          have hs := split_size (.node c' y l' r') x
          obtain ⟨t1, t2⟩ := split_tp hb x
          have hxy : above pr x y = true ∨ x = y := by
            by_cases e : x = y
            · exact .inr e
            · cases h : above pr x y with
              | true => exact .inl rfl
              | false => exact absurd ⟨h, e⟩ hc
          obtain ⟨u1, u2⟩ := ih l (split (.node c' y l' r') x).1 (by simp only [size] at hn hs ⊢; omega) (tp_left ha) t1
          obtain ⟨v1, v2⟩ := ih r (split (.node c' y l' r') x).2.2 (by simp only [size] at hn hs ⊢; omega) (tp_right ha) t2
          exact union_mid ha hb (above_all hb hxy) u1 v1 u2 v2
theorem union_size_n (pr : Int → Int) : ∀ (n : Nat) (a b : ST), a.size + b.size ≤ n → (union pr a b).size ≤ a.size + b.size := by
  intro n
  induction n with
  | zero =>
    intro a b hn
    cases a with
    | nil => rw [union]; exact Nat.le_add_left _ _
    | node c x l r => simp only [size] at hn; omega
  | succ n ih =>
    intro a b hn
    cases a with
    | nil => rw [union]; exact Nat.le_add_left _ _
    | node c x l r =>
      cases b with
      | nil => rw [union]; exact Nat.le_add_right _ _
      | node c' y l' r' =>
        rw [union]
        split
        · have hs := split_size (.node c x l r) y
          have h1 := ih l' (split (.node c x l r) y).1 (by simp only [size] at hn hs ⊢; omega)
          have h2 := ih r' (split (.node c x l r) y).2.2 (by simp only [size] at hn hs ⊢; omega)
          simp only [mk, size] at *
          omega
        · have hs := split_size (.node c' y l' r') x
          have h1 := ih l (split (.node c' y l' r') x).1 (by simp only [size] at hn hs ⊢; omega)
          have h2 := ih r (split (.node c' y l' r') x).2.2 (by simp only [size] at hn hs ⊢; omega)
          simp only [mk, size] at *
          omega
theorem union_tp {pr : Int → Int} {a b : ST} (ha : Tp pr a) (hb : Tp pr b) : Tp pr (union pr a b) ∧ ∀ y, y ∈ (union pr a b).toL ↔ y ∈ a.toL ∨ y ∈ b.toL := union_n pr _ a b (Nat.le_refl _) ha hb
theorem union_size (pr : Int → Int) (a b : ST) : (union pr a b).size ≤ a.size + b.size := union_size_n pr _ a b (Nat.le_refl _)
end Go.Proofs.Ythokmfonedfmfaa.TRP0
