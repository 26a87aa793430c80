/-
  Trees of red and black, plain: put keeps them as they must be; what is built anew is; none is higher than twice. No program. Conditions: none.
-/
import Derived.Test.YthokmfonedfmfaaSetPlain
namespace Go.Proofs.Ythokmfonedfmfaa.RED
open Go.Proofs.Ythokmfonedfmfaa.ST

def isRed : ST → Bool
  | .nil => false
  | .node c _ _ _ => c
def left : ST → ST
  | .nil => .nil
  | .node _ _ l _ => l
def right : ST → ST
  | .nil => .nil
  | .node _ _ _ r => r
def key : ST → Int
  | .nil => 0
  | .node _ x _ _ => x
def three (a : ST) (x : Int) (b : ST) (y : Int) (c : ST) (z : Int) (d : ST) : ST := .node true y (.node false x a b) (.node false z c d)
def even (l : ST) (x : Int) (r : ST) : ST :=
  if isRed l = true ∧ isRed (left l) = true then three (left (left l)) (key (left l)) (right (left l)) (key l) (right l) x r else
  if isRed l = true ∧ isRed (right l) = true then three (left l) (key l) (left (right l)) (key (right l)) (right (right l)) x r else
  if isRed r = true ∧ isRed (left r) = true then three l x (left (left r)) (key (left r)) (right (left r)) (key r) (right r) else
  if isRed r = true ∧ isRed (right r) = true then three l x (left r) (key r) (left (right r)) (key (right r)) (right (right r)) else
  .node false x l r
def ins : ST → Int → ST
  | .nil, x => .node true x .nil .nil
  | .node true y l r, x => if x < y then .node true y (ins l x) r else .node true y l (ins r x)
  | .node false y l r, x => if x < y then even (ins l x) y r else even l y (ins r x)
def black : ST → ST
  | .nil => .nil
  | .node _ x l r => .node false x l r
/-- Is it found on the way down? -/
def hasT : ST → Int → Bool
  | .nil, _ => false
  | .node _ y l r, x => if y = x then true else if x < y then hasT l x else hasT r x
def put (t : ST) (x : Int) : ST := if hasT t x = true then t else black (ins t x)
def built (l : List Int) (deep : Int) : ST :=
  if h : l.length = 0 then .nil else
    .node (deep == 0) (l[l.length / 2]?.getD 0) (built (l.take (l.length / 2)) (deep - 1)) (built (l.drop (l.length / 2 + 1)) (deep - 1))
termination_by l.length
decreasing_by
  all_goals (simp only [List.length_take, List.length_drop]; omega)
def lessL (l : List Int) (x : Int) : List Int := l.filter fun y => !(decide (y = x))
def drop (t : ST) (x : Int) : ST := if hasT t x = true then built (lessL t.toL x) (Nat.log2 ((lessL t.toL x).length + 1) : Nat) else t

/-! ### The numbers. -/
theorem red_node {t : ST} (h : isRed t = true) : t = .node true (key t) (left t) (right t) := by
  cases t with
  | nil => cases h
  | node c x l r => simp only [isRed] at h; subst h; rfl
theorem even_toL (l : ST) (x : Int) (r : ST) : (even l x r).toL = l.toL ++ x :: r.toL := by
  unfold even
  split
  · rename_i h
    conv => rhs; rw [red_node h.1, red_node h.2]
    simp [three, toL]
  · split
    · rename_i h
      conv => rhs; rw [red_node h.1, red_node h.2]
      simp [three, toL]
    · split
      · rename_i h
        conv => rhs; rw [red_node h.1, red_node h.2]
        simp [three, toL]
      · split
        · rename_i h
          conv => rhs; rw [red_node h.1, red_node h.2]
          simp [three, toL]
        · rfl
theorem black_toL (t : ST) : (black t).toL = t.toL := by cases t <;> rfl
theorem ins_toL (t : ST) (x : Int) : t.Bst → x ∉ t.toL → (ins t x).Bst ∧ ∀ y, y ∈ (ins t x).toL ↔ y = x ∨ y ∈ t.toL := by
  induction t with
  | nil => intro _ _; exact ⟨by simp [ins, bst_node, bst_nil, toL], fun y => by simp [ins, toL]⟩
  | node c z l r ihl ihr =>
    intro h hx
    obtain ⟨b1, b2, b3, b4⟩ := bst_node.1 h
    rw [mem_node] at hx
    have hxl : x ∉ l.toL := fun k => hx (.inl k)
    have hxr : x ∉ r.toL := fun k => hx (.inr (.inr k))
    have hxz : x ≠ z := fun k => hx (.inr (.inl k))
    by_cases hlt : x < z
    · obtain ⟨i1, i2⟩ := ihl b1 hxl
      have key : (ST.node true z (ins l x) r).Bst ∧ ∀ y, y ∈ (ST.node true z (ins l x) r).toL ↔ y = x ∨ y ∈ (ST.node c z l r).toL := by
        refine ⟨bst_node.2 ⟨i1, b2, fun y hy => ?_, b4⟩, fun y => ?_⟩
        · rcases (i2 y).1 hy with rfl | k
          · exact hlt
          · exact b3 y k
        · rw [mem_node, mem_node, i2 y, or_assoc]
      cases c with
      | true => simp only [ins, if_pos hlt]; exact key
      | false =>
        simp only [ins, if_pos hlt]
        unfold Bst at *
        rw [even_toL]
        exact key
    · obtain ⟨i1, i2⟩ := ihr b2 hxr
      have key : (ST.node true z l (ins r x)).Bst ∧ ∀ y, y ∈ (ST.node true z l (ins r x)).toL ↔ y = x ∨ y ∈ (ST.node c z l r).toL := by
        refine ⟨bst_node.2 ⟨b1, i1, b3, fun y hy => ?_⟩, fun y => ?_⟩
        · rcases (i2 y).1 hy with rfl | k
          · omega
          · exact b4 y k
        · rw [mem_node, mem_node, i2 y]
          constructor
          · rintro (k | k | k | k)
            · exact .inr (.inl k)
            · exact .inr (.inr (.inl k))
            · exact .inl k
            · exact .inr (.inr (.inr k))
          · rintro (k | k | k | k)
            · exact .inr (.inr (.inl k))
            · exact .inl k
            · exact .inr (.inl k)
            · exact .inr (.inr (.inr k))
      cases c with
      | true => simp only [ins, if_neg hlt]; exact key
      | false =>
        simp only [ins, if_neg hlt]
        unfold Bst at *
        rw [even_toL]
        exact key
theorem hasT_mem {t : ST} {x : Int} : hasT t x = true → x ∈ t.toL := by
  induction t with
  | nil => intro h; cases h
  | node c y l r ihl ihr =>
    intro h
    rw [hasT] at h
    rw [mem_node]
    split at h
    · rename_i e; exact .inr (.inl e.symm)
    · split at h
      · exact .inl (ihl h)
      · exact .inr (.inr (ihr h))
theorem hasT_iff {t : ST} (h : t.Bst) (x : Int) : hasT t x = decide (x ∈ t.toL) := by
  rw [Bool.eq_iff_iff, decide_eq_true_iff]
  refine ⟨hasT_mem, ?_⟩
  induction t with
  | nil => intro k; cases k
  | node c y l r ihl ihr =>
    intro k
    obtain ⟨b1, b2, b3, b4⟩ := bst_node.1 h
    rw [hasT]
    split
    · rfl
    · rename_i hne
      split
      · rename_i hlt
        rcases mem_node.1 k with k | k | k
        · exact ihl b1 k
        · exact absurd k.symm hne
        · have := b4 x k; omega
      · rename_i hlt
        rcases mem_node.1 k with k | k | k
        · have := b3 x k; omega
        · exact absurd k.symm hne
        · exact ihr b2 k
theorem put_spec (t : ST) (x : Int) (h : t.Bst) : (put t x).Bst ∧ ∀ y, y ∈ (put t x).toL ↔ y = x ∨ y ∈ t.toL := by
  unfold put
  split
  · rename_i hx
    replace hx := hasT_mem hx
    refine ⟨h, fun y => ⟨.inr, ?_⟩⟩
    rintro (rfl | k)
    · exact hx
    · exact k
  · rename_i hx
    rw [hasT_iff h, decide_eq_true_eq] at hx
    unfold Bst
    rw [black_toL]
    exact ins_toL t x h hx
theorem built_toL : ∀ (n : Nat) (l : List Int) (deep : Int), l.length ≤ n → (built l deep).toL = l := by
  intro n
  induction n with
  | zero =>
    intro l deep h
    have h0 : l.length = 0 := by omega
    rw [built, dif_pos h0]
    exact (List.eq_nil_of_length_eq_zero h0).symm
  | succ n ih =>
    intro l deep h
    rw [built]
    split
    · rename_i h0
      exact (List.eq_nil_of_length_eq_zero h0).symm
    · rename_i h0
      rw [toL, ih _ _ (by rw [List.length_take]; omega), ih _ _ (by rw [List.length_drop]; omega)]
      have hk : l.length / 2 < l.length := by omega
      rw [List.getElem?_eq_getElem hk, Option.getD_some]
      conv => rhs; rw [← List.take_append_drop (l.length / 2) l, List.drop_eq_getElem_cons hk]
theorem lessL_mem {l : List Int} {x y : Int} : y ∈ lessL l x ↔ y ≠ x ∧ y ∈ l := by
  unfold lessL
  rw [List.mem_filter]
  simp [and_comm]
theorem lessL_length (l : List Int) (x : Int) : (lessL l x).length ≤ l.length := List.length_filter_le _ _
theorem drop_spec (t : ST) (x : Int) (h : t.Bst) : (drop t x).Bst ∧ ∀ y, y ∈ (drop t x).toL ↔ y ≠ x ∧ y ∈ t.toL := by
  unfold drop
  split
  · unfold Bst
    rw [built_toL _ _ _ (Nat.le_refl _)]
    exact ⟨h.sublist List.filter_sublist, fun y => lessL_mem⟩
  · rename_i hx
    rw [hasT_iff h, decide_eq_true_eq] at hx
    exact ⟨h, fun y => ⟨fun k => ⟨fun e => hx (e ▸ k), k⟩, fun k => k.2⟩⟩
theorem even_size (l : ST) (x : Int) (r : ST) : (even l x r).size = l.size + r.size + 1 := by
  rw [← toL_length, even_toL, List.length_append, List.length_cons, toL_length, toL_length]
  omega
theorem ins_size (t : ST) (x : Int) : (ins t x).size = t.size + 1 := by
  induction t with
  | nil => rfl
  | node c z l r ihl ihr =>
    cases c <;> simp only [ins] <;> split <;> simp only [even_size, size, ihl, ihr] <;> omega
theorem put_size (t : ST) (x : Int) : (put t x).size ≤ t.size + 1 := by
  unfold put
  split
  · omega
  · rw [← toL_length, black_toL, toL_length, ins_size]; exact Nat.le_refl _
theorem drop_size (t : ST) (x : Int) : (drop t x).size ≤ t.size := by
  unfold drop
  split
  · rw [← toL_length, built_toL _ _ _ (Nat.le_refl _), ← toL_length]; exact lessL_length _ _
  · exact Nat.le_refl _
def ofL (l : List Int) : ST := l.foldl put .nil

/-! ### Red and black. -/
/-- How many black ones are on the way down. -/
def bh : ST → Nat
  | .nil => 0
  | .node c _ l _ => bh l + (if c then 0 else 1)
def RB : ST → Prop
  | .nil => True
  | .node c _ l r => RB l ∧ RB r ∧ bh l = bh r ∧ (c = true → isRed l = false ∧ isRed r = false)
/-- As it must be, but for the top one. -/
def AB : ST → Prop
  | .nil => True
  | .node _ _ l r => RB l ∧ RB r ∧ bh l = bh r
theorem RB.ab {t : ST} (h : RB t) : AB t := by
  cases t with
  | nil => trivial
  | node c x l r => exact ⟨h.1, h.2.1, h.2.2.1⟩
theorem ab_black {t : ST} (h : AB t) : RB (black t) := by
  cases t with
  | nil => trivial
  | node c x l r => exact ⟨h.1, h.2.1, h.2.2, fun e => by cases e⟩
theorem ab_rb {t : ST} (h : AB t) (h1 : isRed t = true → isRed (left t) = false ∧ isRed (right t) = false) : RB t := by
  cases t with
  | nil => trivial
  | node c x l r => exact ⟨h.1, h.2.1, h.2.2, h1⟩
theorem bfalse {b : Bool} (h : ¬ b = true) : b = false := by cases b <;> simp_all
theorem three_rb {a b c d : ST} {x y z : Int} {n : Nat} (ha : RB a) (hb : RB b) (hc : RB c) (hd : RB d) (na : bh a = n) (nb : bh b = n) (nc : bh c = n) (nd : bh d = n) :
    RB (three a x b y c z d) ∧ bh (three a x b y c z d) = n + 1 := by
  refine ⟨⟨⟨ha, hb, by omega, fun e => by cases e⟩, ⟨hc, hd, by omega, fun e => by cases e⟩, by simp [bh, na, nc], fun _ => ⟨rfl, rfl⟩⟩, by simp [three, bh, na]⟩
theorem even_rb {l r : ST} {x : Int} (hl : AB l) (hr : AB r) (hn : bh l = bh r) (h : RB l ∨ RB r) : RB (even l x r) ∧ bh (even l x r) = bh l + 1 := by
  unfold even
  split
  · rename_i hc
    have e1 := red_node hc.1
    have e2 := red_node hc.2
    have hR : RB r := by
      rcases h with h | h
      · rw [e1] at h
        have := (h.2.2.2 rfl).1
        rw [hc.2] at this
        cases this
      · exact h
    rw [e1] at hl hn
    have hll := hl.1
    have hb := hl.2.2
    rw [e2] at hll hb
    simp only [bh] at hb hn
    simp only [if_true, Nat.add_zero] at hb hn
    rw [e2] at hn
    simp only [bh, if_true, Nat.add_zero] at hn
    have q : bh (left (left l)) = bh (right (left l)) := hll.2.2.1
    obtain ⟨k1, k2⟩ := three_rb (x := key (left l)) (y := key l) (z := x) (n := bh r) hll.1 hll.2.1 hl.2.1 hR hn (by omega) (by omega) rfl
    refine ⟨k1, ?_⟩
    rw [k2]
    conv => rhs; rw [e1]; simp only [bh, if_true, Nat.add_zero]; rw [e2]; simp only [bh, if_true, Nat.add_zero]
    omega
  · rename_i h1
    split
    · rename_i hc
      have e1 := red_node hc.1
      have e2 := red_node hc.2
      have hR : RB r := by
        rcases h with h | h
        · rw [e1] at h
          have := (h.2.2.2 rfl).2
          rw [hc.2] at this
          cases this
        · exact h
      rw [e1] at hl hn
      have hlr := hl.2.1
      have hb := hl.2.2
      rw [e2] at hlr hb
      simp only [bh, if_true, Nat.add_zero] at hb hn
      have q : bh (left (right l)) = bh (right (right l)) := hlr.2.2.1
      obtain ⟨k1, k2⟩ := three_rb (x := key l) (y := key (right l)) (z := x) (n := bh r) hl.1 hlr.1 hlr.2.1 hR (by omega) (by omega) (by omega) rfl
      refine ⟨k1, ?_⟩
      rw [k2]
      conv => rhs; rw [e1]; simp only [bh, if_true, Nat.add_zero]
      omega
    · rename_i h2
      have hL : RB l := ab_rb hl fun e => ⟨bfalse fun k => h1 ⟨e, k⟩, bfalse fun k => h2 ⟨e, k⟩⟩
      split
      · rename_i hc
        have e1 := red_node hc.1
        have e2 := red_node hc.2
        rw [e1] at hr hn
        have hrl := hr.1
        have hb := hr.2.2
        rw [e2] at hrl hb
        simp only [bh, if_true, Nat.add_zero] at hb hn
        rw [e2] at hn
        simp only [bh, if_true, Nat.add_zero] at hn
        have q : bh (left (left r)) = bh (right (left r)) := hrl.2.2.1
        exact three_rb hL hrl.1 hrl.2.1 hr.2.1 rfl (by omega) (by omega) (by omega)
      · rename_i h3
        split
        · rename_i hc
          have e1 := red_node hc.1
          have e2 := red_node hc.2
          rw [e1] at hr hn
          have hrr := hr.2.1
          have hb := hr.2.2
          rw [e2] at hrr hb
          simp only [bh, if_true, Nat.add_zero] at hb hn
          have q : bh (left (right r)) = bh (right (right r)) := hrr.2.2.1
          exact three_rb hL hr.1 hrr.1 hrr.2.1 rfl (by omega) (by omega) (by omega)
        · rename_i h4
          have hR : RB r := ab_rb hr fun e => ⟨bfalse fun k => h3 ⟨e, k⟩, bfalse fun k => h4 ⟨e, k⟩⟩
          exact ⟨⟨hL, hR, hn, fun e => by cases e⟩, by simp [bh]⟩
theorem ins_rb (t : ST) (x : Int) : RB t → AB (ins t x) ∧ bh (ins t x) = bh t ∧ (isRed t = false → RB (ins t x)) := by
  induction t with
  | nil => intro _; exact ⟨⟨trivial, trivial, rfl⟩, rfl, fun _ => ⟨trivial, trivial, rfl, fun _ => ⟨rfl, rfl⟩⟩⟩
  | node c z l r ihl ihr =>
    rintro ⟨h1, h2, h3, h4⟩
    obtain ⟨l1, l2, l3⟩ := ihl h1
    obtain ⟨r1, r2, r3⟩ := ihr h2
    cases c with
    | true =>
      obtain ⟨g1, g2⟩ := h4 rfl
      simp only [ins]
      split
      · exact ⟨⟨l3 g1, h2, by omega⟩, by simp [bh, l2], fun e => by cases e⟩
      · exact ⟨⟨h1, r3 g2, by omega⟩, by simp [bh], fun e => by cases e⟩
    | false =>
      simp only [ins]
      split
      · obtain ⟨k1, k2⟩ := even_rb (x := z) l1 h2.ab (by omega) (.inr h2)
        exact ⟨k1.ab, by rw [k2, l2]; simp [bh], fun _ => k1⟩
      · obtain ⟨k1, k2⟩ := even_rb (x := z) h1.ab r1 (by omega) (.inl h1)
        exact ⟨k1.ab, by rw [k2]; simp [bh], fun _ => k1⟩
/-- As it must be: the top one is black. -/
def Fine (t : ST) : Prop := RB t ∧ isRed t = false
theorem put_fine {t : ST} (x : Int) (h : Fine t) : Fine (put t x) := by
  unfold put
  split
  · exact h
  · refine ⟨ab_black (ins_rb t x h.1).1, ?_⟩
    cases ins t x <;> rfl
theorem built_rb : ∀ (d : Nat) (l : List Int), 2 ^ d ≤ l.length + 1 → l.length + 1 ≤ 2 ^ (d + 1) → RB (built l (d : Nat)) ∧ bh (built l (d : Nat)) = d ∧ (0 < d → isRed (built l (d : Nat)) = false) := by
  intro d
  induction d with
  | zero =>
    intro l h1 h2
    rw [built]
    split
    · exact ⟨trivial, rfl, fun h => absurd h (Nat.lt_irrefl _)⟩
    · rename_i h0
      have e1 : (l.take (l.length / 2)).length = 0 := by rw [List.length_take]; omega
      have e2 : (l.drop (l.length / 2 + 1)).length = 0 := by rw [List.length_drop]; omega
      rw [built, dif_pos e1, built, dif_pos e2]
      exact ⟨⟨trivial, trivial, rfl, fun _ => ⟨rfl, rfl⟩⟩, rfl, fun h => absurd h (Nat.lt_irrefl _)⟩
  | succ d ih =>
    intro l h1 h2
    have p1 : 2 ^ (d + 1) = 2 * 2 ^ d := by rw [Nat.pow_succ]; omega
    have p2 : 2 ^ (d + 1 + 1) = 2 * 2 ^ (d + 1) := by rw [Nat.pow_succ]; omega
    have p3 : 0 < 2 ^ d := Nat.pow_pos (by omega)
    rw [built]
    split
    · rename_i h0; omega
    · rename_i h0
      have e1 : (l.take (l.length / 2)).length = l.length / 2 := by rw [List.length_take]; omega
      have e2 : (l.drop (l.length / 2 + 1)).length = l.length - (l.length / 2 + 1) := by rw [List.length_drop]
      have hd : ((d + 1 : Nat) : Int) - 1 = (d : Nat) := by omega
      rw [hd]
      obtain ⟨a1, a2, a3⟩ := ih (l.take (l.length / 2)) (by rw [e1]; omega) (by rw [e1]; omega)
      obtain ⟨b1, b2, b3⟩ := ih (l.drop (l.length / 2 + 1)) (by rw [e2]; omega) (by rw [e2]; omega)
      have hc : ((((d + 1 : Nat) : Int)) == 0) = false := by simp; omega
      rw [hc]
      exact ⟨⟨a1, b1, by rw [a2, b2], fun e => by cases e⟩, by simp [bh, a2], fun _ => rfl⟩
theorem log_bounds (n : Nat) : 2 ^ Nat.log2 (n + 1) ≤ n + 1 ∧ n + 1 < 2 ^ (Nat.log2 (n + 1) + 1) := ⟨Nat.log2_self_le (by omega), Nat.lt_log2_self⟩
theorem built_fine (l : List Int) : Fine (built l (Nat.log2 (l.length + 1) : Nat)) := by
  obtain ⟨h1, h2⟩ := log_bounds l.length
  obtain ⟨k1, k2, k3⟩ := built_rb (Nat.log2 (l.length + 1)) l h1 (by omega)
  refine ⟨k1, ?_⟩
  by_cases h0 : l.length = 0
  · rw [built, dif_pos h0]; rfl
  · refine k3 ?_
    refine Nat.pos_of_ne_zero fun e => ?_
    rw [e] at h2
    omega
theorem drop_fine {t : ST} (x : Int) (h : Fine t) : Fine (drop t x) := by
  unfold drop
  split
  · exact built_fine _
  · exact h
theorem foldl_put (l : List Int) : ∀ t : ST, t.Bst → Fine t → (l.foldl put t).Bst ∧ Fine (l.foldl put t) ∧ ∀ y, y ∈ (l.foldl put t).toL ↔ y ∈ l ∨ y ∈ t.toL := by
  induction l with
  | nil => intro t h g; exact ⟨h, g, fun y => by simp⟩
  | cons x l ih =>
    intro t h g
    obtain ⟨p1, p2⟩ := put_spec t x h
    obtain ⟨i1, i2, i3⟩ := ih _ p1 (put_fine x g)
    refine ⟨i1, i2, fun y => ?_⟩
    rw [List.foldl_cons, i3 y, p2 y, List.mem_cons]
    constructor
    · rintro (h | h | h)
      · exact .inl (.inr h)
      · exact .inl (.inl h)
      · exact .inr h
    · rintro ((h | h) | h)
      · exact .inr (.inl h)
      · exact .inl h
      · exact .inr (.inr h)
theorem ofL_spec (l : List Int) : (ofL l).Bst ∧ Fine (ofL l) ∧ ∀ y, y ∈ (ofL l).toL ↔ y ∈ l := by
  obtain ⟨a, b, c⟩ := foldl_put l .nil bst_nil ⟨trivial, rfl⟩
  exact ⟨a, b, fun y => by have := c y; simpa [toL, ofL] using this⟩
theorem ofL_snoc (l : List Int) (x : Int) : ofL (l ++ [x]) = put (ofL l) x := by
  unfold ofL
  rw [List.foldl_append]
  rfl
theorem ofL_size (l : List Int) : (ofL l).size ≤ l.length := by
  have h : ∀ (l : List Int) (t : ST), (l.foldl put t).size ≤ t.size + l.length := by
    intro l
    induction l with
    | nil => intro t; exact Nat.le_refl _
    | cons x l ih =>
      intro t
      have h1 := ih (put t x)
      have h2 := put_size t x
      rw [List.foldl_cons, List.length_cons]
      omega
  have := h l .nil
  simpa [size, ofL] using this
/-! ### How high. -/
theorem rb_height (t : ST) : RB t → t.height ≤ 2 * bh t + (if isRed t then 1 else 0) := by
  induction t with
  | nil => intro _; exact Nat.zero_le _
  | node c x l r ihl ihr =>
    rintro ⟨h1, h2, h3, h4⟩
    have a := ihl h1
    have b := ihr h2
    cases c with
    | true =>
      obtain ⟨g1, g2⟩ := h4 rfl
      rw [g1] at a
      rw [g2] at b
      simp only [height, bh, isRed, if_true] at *
      simp only [Bool.false_eq_true, if_false] at a b
      omega
    | false =>
      have one : ∀ u : ST, (if isRed u = true then 1 else 0) ≤ 1 := fun u => by split <;> omega
      have o1 := one l
      have o2 := one r
      simp only [height, bh, isRed, Bool.false_eq_true, if_false]
      omega
theorem rb_size (t : ST) : RB t → 2 ^ bh t ≤ t.size + 1 := by
  induction t with
  | nil => intro _; exact Nat.le_refl _
  | node c x l r ihl ihr =>
    rintro ⟨h1, h2, h3, h4⟩
    have a := ihl h1
    have b := ihr h2
    rw [← h3] at b
    cases c with
    | true => simp only [bh, size, if_true, Nat.add_zero] at *; omega
    | false =>
      simp only [bh, size, Bool.false_eq_true, if_false] at *
      rw [Nat.pow_succ]
      omega
theorem fine_height {t : ST} (h : Fine t) : t.height ≤ 2 * Nat.log2 (t.size + 1) := by
  have h1 := rb_height t h.1
  rw [h.2] at h1
  simp only [Bool.false_eq_true, if_false, Nat.add_zero] at h1
  have h2 : bh t ≤ Nat.log2 (t.size + 1) := (Nat.le_log2 (by omega)).2 (rb_size t h.1)
  omega
end Go.Proofs.Ythokmfonedfmfaa.RED
