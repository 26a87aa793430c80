/-
  Plain sets: strictly rising lists; each number once; two of the same numbers are one; search trees. No program. Conditions: none.
-/
import Derived.Test.YthokmfonedfmfaaSort
namespace Go.Proofs.Ythokmfonedfmfaa

def SRise (l : List Int) : Prop := l.Pairwise (· < ·)
def oftenN (l : List Int) (x : Int) : Nat := l.countP (fun y => decide (y = x))
def onceStep (out : List Int) (x : Int) : List Int := if oftenN out x = 0 then insL out x else out
def onceL (l : List Int) : List Int := l.foldl onceStep []
/-- Those of a list that another one has, or has not. -/
def siftL (l b : List Int) (want : Bool) : List Int := l.filter fun x => decide (0 < oftenN b x) == want

theorem often_pos {l : List Int} {x : Int} : 0 < oftenN l x ↔ x ∈ l := by
  unfold oftenN
  rw [List.countP_pos_iff]
  simp
theorem often_zero {l : List Int} {x : Int} : oftenN l x = 0 ↔ x ∉ l := by
  rw [← often_pos]
  omega
theorem often_le (l : List Int) (x : Int) : oftenN l x ≤ l.length := List.countP_le_length
theorem often_snoc (l : List Int) (y x : Int) : oftenN (l ++ [y]) x = oftenN l x + (if y = x then 1 else 0) := by
  unfold oftenN
  rw [List.countP_append, List.countP_cons]
  simp
theorem srise_rise {l : List Int} (h : SRise l) : Rise l := h.imp (fun h => Int.le_of_lt h)
theorem srise_nodup {l : List Int} (h : SRise l) : l.Nodup := h.imp (fun h => by omega)
/-- TWO STRICTLY RISING LISTS OF THE SAME NUMBERS ARE ONE. -/
theorem srise_unique {a b : List Int} (ha : SRise a) (hb : SRise b) (h : ∀ x, x ∈ a ↔ x ∈ b) : a = b :=
  rise_unique (srise_rise ha) (srise_rise hb) ((List.perm_ext_iff_of_nodup (srise_nodup ha) (srise_nodup hb)).2 h)
theorem insL_mem {l : List Int} {x y : Int} : y ∈ insL l x ↔ y = x ∨ y ∈ l := by
  rw [(insL_perm l x).mem_iff, List.mem_cons]
theorem insL_srise {l : List Int} {x : Int} (h : SRise l) (hx : x ∉ l) : SRise (insL l x) := by
  have h1 := insL_rise l x (srise_rise h)
  have h2 : (insL l x).Nodup := (insL_perm l x).nodup_iff.2 (List.nodup_cons.2 ⟨hx, srise_nodup h⟩)
  have h3 : (insL l x).Pairwise (fun a b => a ≤ b ∧ a ≠ b) := List.Pairwise.and h1 h2
  exact h3.imp fun h => by omega
theorem onceStep_srise {l : List Int} (x : Int) (h : SRise l) : SRise (onceStep l x) := by
  unfold onceStep
  split
  · rename_i h0; exact insL_srise h (often_zero.1 h0)
  · exact h
theorem onceStep_mem {l : List Int} {x y : Int} : y ∈ onceStep l x ↔ y = x ∨ y ∈ l := by
  unfold onceStep
  split
  · exact insL_mem
  · rename_i h0
    have hx : x ∈ l := often_pos.1 (by omega)
    constructor
    · exact .inr
    · rintro (rfl | h)
      · exact hx
      · exact h
theorem onceStep_length (l : List Int) (x : Int) : (onceStep l x).length ≤ l.length + 1 := by
  unfold onceStep
  split
  · rw [insL_length]; omega
  · omega
theorem foldl_once (l : List Int) : ∀ acc : List Int, SRise acc → SRise (l.foldl onceStep acc) ∧ ∀ y, y ∈ l.foldl onceStep acc ↔ y ∈ l ∨ y ∈ acc := by
  induction l with
  | nil => intro acc h; exact ⟨h, fun y => by simp⟩
  | cons x l ih =>
    intro acc h
    obtain ⟨i1, i2⟩ := ih _ (onceStep_srise x h)
    refine ⟨i1, fun y => ?_⟩
    rw [List.foldl_cons, i2 y, onceStep_mem, List.mem_cons]
    constructor
    · rintro (h | h | h)
      · exact .inl (.inr h)
      · exact .inl (.inl h)
      · exact .inr h
    · rintro ((h | h) | h)
      · exact .inr (.inl h)
      · exact .inl h
      · exact .inr (.inr h)
theorem onceL_srise (l : List Int) : SRise (onceL l) := (foldl_once l [] List.Pairwise.nil).1
theorem onceL_mem {l : List Int} {y : Int} : y ∈ onceL l ↔ y ∈ l := by
  have := (foldl_once l [] List.Pairwise.nil).2 y
  simpa [onceL] using this
theorem foldl_once_length (l : List Int) : ∀ acc : List Int, (l.foldl onceStep acc).length ≤ l.length + acc.length := by
  induction l with
  | nil => intro acc; simp
  | cons x l ih =>
    intro acc
    have h1 := ih (onceStep acc x)
    have h2 := onceStep_length acc x
    rw [List.foldl_cons, List.length_cons]
    omega
theorem onceL_length (l : List Int) : (onceL l).length ≤ l.length := foldl_once_length l []
theorem onceL_snoc (l : List Int) (x : Int) : onceL (l ++ [x]) = onceStep (onceL l) x := by
  unfold onceL
  rw [List.foldl_append]
  rfl
theorem once_unique {a l : List Int} (h : SRise a) (hm : ∀ x, x ∈ a ↔ x ∈ l) : a = onceL l :=
  srise_unique h (onceL_srise l) fun x => (hm x).trans onceL_mem.symm
theorem siftL_mem {l b : List Int} {want : Bool} {x : Int} : x ∈ siftL l b want ↔ x ∈ l ∧ (decide (x ∈ b) = want) := by
  unfold siftL
  rw [List.mem_filter]
  have : decide (0 < oftenN b x) = decide (x ∈ b) := by
    rw [Bool.eq_iff_iff]
    simp [often_pos]
  rw [this]
  simp
theorem siftL_srise {l b : List Int} {want : Bool} (h : SRise l) : SRise (siftL l b want) := h.sublist List.filter_sublist
theorem siftL_length (l b : List Int) (want : Bool) : (siftL l b want).length ≤ l.length := List.length_filter_le _ _

/-- A binary tree; each node may bear a colour. -/
inductive ST where
  | nil
  | node (c : Bool) (x : Int) (l r : ST)
namespace ST
def toL : ST → List Int
  | nil => []
  | node _ x l r => l.toL ++ x :: r.toL
def size : ST → Nat
  | nil => 0
  | node _ _ l r => 1 + l.size + r.size
def height : ST → Nat
  | nil => 0
  | node _ _ l r => 1 + max l.height r.height
theorem toL_length (t : ST) : t.toL.length = t.size := by
  induction t with
  | nil => rfl
  | node c x l r ihl ihr => simp [toL, size, ihl, ihr]; omega
theorem height_le (t : ST) : t.height ≤ t.size := by
  induction t with
  | nil => exact Nat.le_refl _
  | node c x l r ihl ihr => simp only [height, size]; omega
/-- A search tree. -/
def Bst (t : ST) : Prop := SRise t.toL
theorem bst_nil : Bst nil := List.Pairwise.nil
theorem bst_node {c : Bool} {x : Int} {l r : ST} : Bst (node c x l r) ↔ Bst l ∧ Bst r ∧ (∀ y ∈ l.toL, y < x) ∧ (∀ y ∈ r.toL, x < y) := by
  unfold Bst SRise
  simp only [toL]
  rw [List.pairwise_append, List.pairwise_cons]
  constructor
  · rintro ⟨h1, ⟨h2, h3⟩, h4⟩
    exact ⟨h1, h3, fun y hy => h4 y hy x (List.mem_cons_self ..), h2⟩
  · rintro ⟨h1, h2, h3, h4⟩
    refine ⟨h1, ⟨h4, h2⟩, fun y hy z hz => ?_⟩
    rcases List.mem_cons.1 hz with rfl | hz
    · exact h3 y hy
    · have := h3 y hy
      have := h4 z hz
      omega
theorem mem_node {c : Bool} {x y : Int} {l r : ST} : y ∈ (node c x l r).toL ↔ y ∈ l.toL ∨ y = x ∨ y ∈ r.toL := by
  simp [toL]
end ST
end Go.Proofs.Ythokmfonedfmfaa
