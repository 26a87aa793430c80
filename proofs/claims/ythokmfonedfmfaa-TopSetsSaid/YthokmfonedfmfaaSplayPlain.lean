/-
  Trees that bring up whom they are asked for, plain: turns keep the numbers; a number, or one next to it, comes up. No program. Conditions: none.
-/
import Derived.Test.YthokmfonedfmfaaSetPlain
namespace Go.Proofs.Ythokmfonedfmfaa.SPL
open Go.Proofs.Ythokmfonedfmfaa.ST

def mk (l : ST) (x : Int) (r : ST) : ST := .node false x l r
def rotR : ST → ST
  | .node _ y (.node _ z a b) r => mk a z (mk b y r)
  | t => t
def rotL : ST → ST
  | .node _ y l (.node _ z a b) => mk (mk l y a) z b
  | t => t
instance decNil (t : ST) : Decidable (t = .nil) :=
  match t with
  | .nil => isTrue rfl
  | .node _ _ _ _ => isFalse (fun h => by cases h)
def up : ST → Int → ST
  | .nil, _ => .nil
  | .node c y l r, x =>
    if x < y then
      match l with
      | .nil => .node c y .nil r
      | .node c2 z ll lr =>
        if x < z ∧ ll ≠ .nil then rotR (rotR (mk (mk (up ll x) z lr) y r)) else
        if z < x ∧ lr ≠ .nil then rotR (mk (rotL (mk ll z (up lr x))) y r) else rotR (.node c y (.node c2 z ll lr) r)
    else if y < x then
      match r with
      | .nil => .node c y l .nil
      | .node c2 z rl rr =>
        if z < x ∧ rr ≠ .nil then rotL (rotL (mk l y (mk rl z (up rr x)))) else
        if x < z ∧ rl ≠ .nil then rotL (mk l y (rotR (mk (up rl x) z rr))) else rotL (.node c y l (.node c2 z rl rr))
    else .node c y l r
termination_by t => t.size
decreasing_by all_goals (simp only [size]; omega)

theorem rotR_toL (t : ST) : (rotR t).toL = t.toL := by
  unfold rotR
  split
  · simp [mk, toL]
  · rfl
theorem rotL_toL (t : ST) : (rotL t).toL = t.toL := by
  unfold rotL
  split
  · simp [mk, toL]
  · rfl
theorem up_toL (t : ST) (x : Int) : (up t x).toL = t.toL := by
  fun_induction up t x with
  | case1 => rfl
  | case2 => rfl
  | case3 c y r x h c2 z ll lr h2 ih => simp [rotR_toL, mk, toL, ih]
  | case4 c y r x h c2 z ll lr h2 h3 ih => simp [rotR_toL, rotL_toL, mk, toL, ih]
  | case5 c y r x h c2 z ll lr h2 h3 => rw [rotR_toL]
  | case6 => rfl
  | case7 c y l x h h0 c2 z rl rr h2 ih => simp [rotL_toL, mk, toL, ih]
  | case8 c y l x h h0 c2 z rl rr h2 h3 ih => simp [rotR_toL, rotL_toL, mk, toL, ih]
  | case9 c y l x h h0 c2 z rl rr h2 h3 => rw [rotL_toL]
  | case10 => rfl
theorem up_nil {t : ST} {x : Int} : up t x = .nil ↔ t = .nil := by
  constructor
  · intro h
    have := up_toL t x
    rw [h] at this
    cases t with
    | nil => rfl
    | node c y l r => simp [toL] at this
  · rintro rfl; unfold up; rfl
theorem up_size (t : ST) (x : Int) : (up t x).size = t.size := by rw [← toL_length, up_toL, toL_length]
theorem up_some {t : ST} (h : t ≠ .nil) (x : Int) : ∃ c y l r, up t x = .node c y l r := by
  cases hu : up t x with
  | nil => exact absurd (up_nil.1 hu) h
  | node c y l r => exact ⟨c, y, l, r, rfl⟩
/-- None lies between a number and the one on top. -/
def Next (x : Int) : ST → Prop
  | .nil => True
  | .node _ y l r => (x < y → ∀ z ∈ l.toL, z < x) ∧ (y < x → ∀ z ∈ r.toL, x < z)
theorem up_next (t : ST) (x : Int) : t.Bst → Next x (up t x) := by
  fun_induction up t x with
  | case1 => intro _; trivial
  | case2 c y r x h => intro _; exact ⟨fun _ z hz => by simp [toL] at hz, fun h' => by omega⟩
  | case3 c y r x h c2 z ll lr h2 ih =>
    intro hb
    obtain ⟨b1, b2, b3, b4⟩ := bst_node.1 hb
    obtain ⟨d1, d2, d3, d4⟩ := bst_node.1 b1
    have hi := ih d1
    obtain ⟨c', a, ul, ur, hu⟩ := up_some h2.2 x
    rw [hu] at hi ⊢
    refine ⟨hi.1, fun hx q hq => ?_⟩
    have hzy := b3 z (mem_node.2 (.inr (.inl rfl)))
    simp only [mk, toL, List.mem_append, List.mem_cons] at hq
    rcases hq with hq | hq | hq | hq | hq
    · exact hi.2 hx q hq
    · omega
    · have := d4 q hq; omega
    · omega
    · have := b4 q hq; omega
  | case4 c y r x h c2 z ll lr h2 h3 ih =>
    intro hb
    obtain ⟨b1, b2, b3, b4⟩ := bst_node.1 hb
    obtain ⟨d1, d2, d3, d4⟩ := bst_node.1 b1
    have hi := ih d2
    obtain ⟨c', a, ul, ur, hu⟩ := up_some h3.2 x
    rw [hu] at hi ⊢
    refine ⟨fun hx q hq => ?_, fun hx q hq => ?_⟩
    · simp only [mk, toL, List.mem_append, List.mem_cons] at hq
      rcases hq with hq | hq | hq
      · have := d3 q hq; omega
      · omega
      · exact hi.1 hx q hq
    · simp only [mk, toL, List.mem_append, List.mem_cons] at hq
      rcases hq with hq | hq | hq
      · exact hi.2 hx q hq
      · omega
      · have := b4 q hq; omega
  | case5 c y r x h c2 z ll lr h2 h3 =>
    intro hb
    obtain ⟨b1, b2, b3, b4⟩ := bst_node.1 hb
    refine ⟨fun hx q hq => ?_, fun hx q hq => ?_⟩
    · have : ll = .nil := Decidable.byContradiction fun hn => h2 ⟨hx, hn⟩
      subst this
      simp [toL] at hq
    · have : lr = .nil := Decidable.byContradiction fun hn => h3 ⟨hx, hn⟩
      subst this
      simp only [mk, toL, List.nil_append, List.mem_cons] at hq
      rcases hq with hq | hq
      · omega
      · have := b4 q hq; omega
  | case6 c y l x h h0 => intro _; exact ⟨fun h' => by omega, fun _ z hz => by simp [toL] at hz⟩
  | case7 c y l x h h0 c2 z rl rr h2 ih =>
    intro hb
    obtain ⟨b1, b2, b3, b4⟩ := bst_node.1 hb
    obtain ⟨d1, d2, d3, d4⟩ := bst_node.1 b2
    have hi := ih d2
    obtain ⟨c', a, ul, ur, hu⟩ := up_some h2.2 x
    rw [hu] at hi ⊢
    refine ⟨fun hx q hq => ?_, hi.2⟩
    have hq : q ∈ l.toL ∨ q = y ∨ q ∈ rl.toL ∨ q = z ∨ q ∈ ul.toL := by simpa [mk, toL, or_assoc] using hq
    rcases hq with hq | hq | hq | hq | hq
    · have := b3 q hq; omega
    · omega
    · have := d3 q hq; omega
    · omega
    · exact hi.1 hx q hq
  | case8 c y l x h h0 c2 z rl rr h2 h3 ih =>
    intro hb
    obtain ⟨b1, b2, b3, b4⟩ := bst_node.1 hb
    obtain ⟨d1, d2, d3, d4⟩ := bst_node.1 b2
    have hi := ih d1
    obtain ⟨c', a, ul, ur, hu⟩ := up_some h3.2 x
    rw [hu] at hi ⊢
    refine ⟨fun hx q hq => ?_, fun hx q hq => ?_⟩
    · simp only [mk, toL, List.mem_append, List.mem_cons] at hq
      rcases hq with hq | hq | hq
      · have := b3 q hq; omega
      · omega
      · exact hi.1 hx q hq
    · simp only [mk, toL, List.mem_append, List.mem_cons] at hq
      rcases hq with hq | hq | hq
      · exact hi.2 hx q hq
      · omega
      · have := d4 q hq; omega
  | case9 c y l x h h0 c2 z rl rr h2 h3 =>
    intro hb
    obtain ⟨b1, b2, b3, b4⟩ := bst_node.1 hb
    refine ⟨fun hx q hq => ?_, fun hx q hq => ?_⟩
    · have : rl = .nil := Decidable.byContradiction fun hn => h3 ⟨hx, hn⟩
      subst this
      simp only [mk, toL, List.mem_append, List.mem_cons] at hq
      rcases hq with hq | hq | hq
      · have := b3 q hq; omega
      · omega
      · simp at hq
    · have : rr = .nil := Decidable.byContradiction fun hn => h2 ⟨hx, hn⟩
      subst this
      simp [toL] at hq
  | case10 c y l r x h h0 => intro _; exact ⟨fun h' => by omega, fun h' => by omega⟩

theorem up_bst {t : ST} (h : t.Bst) (x : Int) : (up t x).Bst := by unfold Bst; rw [up_toL]; exact h
/-- Is one on top? -/
def isTop : ST → Int → Bool
  | .nil, _ => false
  | .node _ y _ _, x => decide (y = x)
theorem up_has {t : ST} (h : t.Bst) (x : Int) : isTop (up t x) x = decide (x ∈ t.toL) := by
  have hn := up_next t x h
  have hb := up_bst h x
  rw [← up_toL t x]
  cases hu : up t x with
  | nil => simp [isTop, toL]
  | node c y l r =>
    rw [hu] at hn hb
    obtain ⟨b1, b2, b3, b4⟩ := bst_node.1 hb
    rw [isTop, Bool.eq_iff_iff, decide_eq_true_iff, decide_eq_true_iff, mem_node]
    constructor
    · rintro rfl; exact .inr (.inl rfl)
    · rintro (k | k | k)
      · have h1 := b3 x k
        have := hn.1 h1 x k
        omega
      · exact k.symm
      · have h1 := b4 x k
        have := hn.2 h1 x k
        omega
def put (t : ST) (x : Int) : ST :=
  match up t x with
  | .nil => mk .nil x .nil
  | .node c y l r => if x < y then mk l x (mk .nil y r) else if y < x then mk (mk l y .nil) x r else .node c y l r
def drop (t : ST) (x : Int) : ST :=
  match up t x with
  | .nil => .nil
  | .node c y l r => if y = x then
      (match up l x with
      | .nil => r
      | .node _ z a _ => mk a z r)
    else .node c y l r
theorem put_spec (t : ST) (x : Int) (h : t.Bst) : (put t x).Bst ∧ ∀ y, y ∈ (put t x).toL ↔ y = x ∨ y ∈ t.toL := by
  have hn := up_next t x h
  have hb := up_bst h x
  unfold put
  rw [← up_toL t x]
  cases hu : up t x with
  | nil => exact ⟨by simp [mk, bst_node, bst_nil, toL], fun y => by simp [mk, toL]⟩
  | node c y l r =>
    rw [hu] at hn hb
    obtain ⟨b1, b2, b3, b4⟩ := bst_node.1 hb
    simp only
    split
    · rename_i hx
      refine ⟨bst_node.2 ⟨b1, bst_node.2 ⟨bst_nil, b2, by simp [toL], b4⟩, hn.1 hx, fun z hz => ?_⟩, fun z => ?_⟩
      · rcases mem_node.1 hz with k | k | k
        · simp [toL] at k
        · omega
        · have := b4 z k; omega
      · simp only [mk, mem_node]
        simp only [toL, List.not_mem_nil, false_or]
        constructor
        · rintro (k | k | k | k) <;> simp [k]
        · rintro (k | k | k | k) <;> simp [k]
    · split
      · rename_i hx
        refine ⟨bst_node.2 ⟨bst_node.2 ⟨b1, bst_nil, b3, by simp [toL]⟩, b2, fun z hz => ?_, hn.2 hx⟩, fun z => ?_⟩
        · rcases mem_node.1 hz with k | k | k
          · have := b3 z k; omega
          · omega
          · simp [toL] at k
        · simp only [mk, mem_node]
          simp only [toL, List.not_mem_nil, or_false]
          constructor
          · rintro ((k | k) | k | k) <;> simp [k]
          · rintro (k | k | k | k) <;> simp [k]
      · have hx : y = x := by omega
        subst hx
        refine ⟨hb, fun z => ⟨.inr, ?_⟩⟩
        rintro (rfl | k)
        · exact mem_node.2 (.inr (.inl rfl))
        · exact k
theorem put_top (t : ST) (x : Int) : isTop (put t x) x = true := by
  unfold put
  cases up t x with
  | nil => simp [mk, isTop]
  | node c y l r =>
    simp only
    split
    · simp [mk, isTop]
    · split
      · simp [mk, isTop]
      · simp only [isTop, decide_eq_true_eq]; omega
theorem put_size (t : ST) (x : Int) : (put t x).size ≤ t.size + 1 := by
  have := up_size t x
  unfold put
  cases hu : up t x with
  | nil => simp [mk, size]
  | node c y l r =>
    rw [hu] at this
    simp only [size] at this
    simp only
    split
    · simp only [mk, size]; omega
    · split
      · simp only [mk, size]; omega
      · simp only [size]; omega
theorem drop_size (t : ST) (x : Int) : (drop t x).size ≤ t.size := by
  have h1 := up_size t x
  unfold drop
  cases hu : up t x with
  | nil => simp [size]
  | node c y l r =>
    rw [hu] at h1
    simp only [size] at h1
    simp only
    split
    · have h2 := up_size l x
      cases hv : up l x with
      | nil => simp only; omega
      | node c' z a b => rw [hv] at h2; simp only [size] at h2; simp only [mk, size]; omega
    · simp only [size]; omega
theorem drop_spec (t : ST) (x : Int) (h : t.Bst) : (drop t x).Bst ∧ ∀ y, y ∈ (drop t x).toL ↔ y ≠ x ∧ y ∈ t.toL := by
  have hh := up_has h x
  have hb := up_bst h x
  unfold drop
  rw [← up_toL t x] at hh ⊢
  cases hu : up t x with
  | nil => exact ⟨bst_nil, fun y => by simp [toL]⟩
  | node c y l r =>
    rw [hu] at hb hh
    obtain ⟨b1, b2, b3, b4⟩ := bst_node.1 hb
    simp only
    split
    · rename_i hx
      subst hx
      have hm := up_next l y b1
      have hl := up_bst b1 y
      have e := up_toL l y
      have hmem : ∀ z, (z ≠ y ∧ z ∈ (ST.node c y l r).toL) ↔ z ∈ l.toL ∨ z ∈ r.toL := fun z => by
        rw [mem_node]
        constructor
        · rintro ⟨k, g | g | g⟩
          · exact .inl g
          · exact absurd g k
          · exact .inr g
        · rintro (g | g)
          · exact ⟨by have := b3 z g; omega, .inl g⟩
          · exact ⟨by have := b4 z g; omega, .inr (.inr g)⟩
      cases hv : up l y with
      | nil =>
        rw [hv] at e
        refine ⟨b2, fun z => ?_⟩
        rw [hmem, ← e]
        simp [toL]
      | node c' u a b =>
        rw [hv] at hm hl e
        obtain ⟨d1, d2, d3, d4⟩ := bst_node.1 hl
        have huy : u < y := b3 u (by rw [← e]; exact mem_node.2 (.inr (.inl rfl)))
        have hbn : b.toL = [] := List.eq_nil_iff_forall_not_mem.2 fun q hq => by
          have h1 := hm.2 huy q hq
          have h2 := b3 q (by rw [← e]; exact mem_node.2 (.inr (.inr hq)))
          omega
        refine ⟨bst_node.2 ⟨d1, b2, d3, fun z hz => by have := b4 z hz; omega⟩, fun z => ?_⟩
        rw [hmem, ← e]
        simp only [mk, mem_node, hbn, List.not_mem_nil, or_false]
        constructor
        · rintro (k | k | k) <;> simp [k]
        · rintro ((k | k) | k) <;> simp [k]
    · rename_i hx
      refine ⟨hb, fun z => ⟨fun hz => ⟨fun e => ?_, hz⟩, fun hz => hz.2⟩⟩
      subst e
      simp only [isTop, hx, decide_false] at hh
      have := of_decide_eq_false hh.symm
      exact this hz
def ofL (l : List Int) : ST := l.foldl put .nil
theorem foldl_put (l : List Int) : ∀ t : ST, t.Bst → (l.foldl put t).Bst ∧ (∀ y, y ∈ (l.foldl put t).toL ↔ y ∈ l ∨ y ∈ t.toL) := by
  induction l with
  | nil => intro t h; exact ⟨h, fun y => by simp⟩
  | cons x l ih =>
    intro t h
    obtain ⟨p1, p2⟩ := put_spec t x h
    obtain ⟨i1, i2⟩ := ih (put t x) p1
    refine ⟨i1, fun y => ?_⟩
    rw [List.foldl_cons, i2 y, p2 y, List.mem_cons]
    constructor
    · rintro (h | h | h)
      · exact .inl (.inr h)
      · exact .inl (.inl h)
      · exact .inr h
    · rintro ((h | h) | h)
      · exact .inr (.inl h)
      · exact .inl h
      · exact .inr (.inr h)
theorem ofL_spec (l : List Int) : (ofL l).Bst ∧ ∀ y, y ∈ (ofL l).toL ↔ y ∈ l := by
  have := foldl_put l .nil bst_nil
  exact ⟨this.1, fun y => by have := this.2 y; simpa [toL, ofL] using this⟩
theorem ofL_snoc (l : List Int) (x : Int) : ofL (l ++ [x]) = put (ofL l) x := by
  unfold ofL
  rw [List.foldl_append]
  rfl
theorem ofL_size (l : List Int) : (ofL l).size ≤ l.length := by
  have h : ∀ (l : List Int) (t : ST), (l.foldl put t).size ≤ t.size + l.length := by
    intro l
    induction l with
    | nil => intro t; exact Nat.le_refl _
    | cons x l ih =>
      intro t
      have h1 := ih (put t x)
      have h2 := put_size t x
      rw [List.foldl_cons, List.length_cons]
      omega
  have := h l .nil
  simpa [size, ofL] using this
end Go.Proofs.Ythokmfonedfmfaa.SPL
