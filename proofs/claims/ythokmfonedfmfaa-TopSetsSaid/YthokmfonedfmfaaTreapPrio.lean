/-
  Treap: a number's weight; the plain trees over it. Conditions: none.
-/
import Derived.Test.YthokmfonedfmfaaWords
import Derived.Test.YthokmfonedfmfaaTreapPlain
namespace Go.Proofs.Ythokmfonedfmfaa.TRP
open Go.RowKit Go.Deep
open Go.Proofs.Ythokmfonedfmfaa Go.Proofs.Ythokmfonedfmfaa.ST
open Go.Proofs.Ythokmfonedfmfaa.TRP0 (mk split Tp Hp Plain)

def mixA (x : Int) : Int := IntKind.u64.wrap (IntKind.u64.wrap x * 11400714819323198485)
def mixB (x : Int) : Int := IntKind.u64.wrap (bits BinOp.xor IntKind.u64 (mixA x) (mixA x / 536870912) * 13787848793156543929)
/-- A number's weight. -/
def prioI (x : Int) : Int := wrap64 (bits BinOp.and IntKind.u64 (bits BinOp.xor IntKind.u64 (mixB x) (mixB x / 4294967296)) 4294967295)
theorem prio_any (x : Int) (w : World) : Calls Try.prog 71 #[.int .i64 x] w fun e w' => e = .returned (.int .i64 (prioI x)) ∧ w = w' := by
  go_enter Try.func71, Try.ntmps71
  go_wp2
  go_ret
  exact ⟨rfl, rfl⟩
theorem prio_i64 (x : Int) : I64 (prioI x) := i64_wrap _

def ab (x y : Int) : Bool := TRP0.above prioI x y
def put (t : ST) (x : Int) : ST := TRP0.put prioI t x
def joined (a b : ST) : ST := TRP0.joined prioI a b
def union (a b : ST) : ST := TRP0.union prioI a b
def drop (t : ST) (x : Int) : ST := TRP0.drop prioI t x
def ofL (l : List Int) : ST := TRP0.ofL prioI l
theorem put_size (t : ST) (x : Int) : (put t x).size ≤ t.size + 1 := TRP0.put_size t x
theorem drop_size (t : ST) (x : Int) : (drop t x).size ≤ t.size := TRP0.drop_size prioI t x
theorem union_size (a b : ST) : (union a b).size ≤ a.size + b.size := TRP0.union_size prioI a b
theorem joined_size (a b : ST) : (joined a b).size = a.size + b.size := by
  have := congrArg List.length (TRP0.joined_toL (pr := prioI) a b)
  rwa [List.length_append, toL_length, toL_length, toL_length] at this
theorem ofL_snoc (l : List Int) (x : Int) : ofL (l ++ [x]) = put (ofL l) x := TRP0.ofL_snoc prioI l x
theorem ofL_size (l : List Int) : (ofL l).size ≤ l.length := by
  have h : ∀ (l : List Int) (t : ST), (l.foldl (TRP0.put prioI) t).size ≤ t.size + l.length := by
    intro l
    induction l with
    | nil => intro t; exact Nat.le_refl _
    | cons x l ih =>
      intro t
      have h1 := ih (put t x)
      have h2 := put_size t x
      rw [List.foldl_cons, List.length_cons]
      unfold put at *
      omega
  have := h l .nil
  simpa [size, ofL, TRP0.ofL] using this
theorem size_mk (l : ST) (x : Int) (r : ST) : (mk l x r).size = 1 + l.size + r.size := rfl
theorem split_lt {c : Bool} {x y : Int} {l r : ST} (h : x < y) : split (.node c y l r) x = ((split l x).1, (split l x).2.1, mk (split l x).2.2 y r) := by simp only [split]; rw [if_pos h]
theorem split_gt {c : Bool} {x y : Int} {l r : ST} (h : y < x) : split (.node c y l r) x = (mk l y (split r x).1, (split r x).2.1, (split r x).2.2) := by simp only [split]; rw [if_neg (by omega), if_pos h]
theorem split_eq {c : Bool} {x : Int} {l r : ST} : split (.node c x l r) x = (l, true, r) := by simp only [split]; rw [if_neg (by omega), if_neg (by omega)]
theorem split_size (t : ST) (x : Int) : (split t x).1.size + (split t x).2.2.size ≤ t.size := TRP0.split_size t x
theorem put_nil (x : Int) : put .nil x = mk .nil x .nil := rfl
theorem put_cut {c : Bool} {x y : Int} {l r : ST} (h : ab y x = false) (h' : y ≠ x) : put (.node c y l r) x = mk (split (.node c y l r) x).1 x (split (.node c y l r) x).2.2 := by
  unfold put TRP0.put; exact if_pos ⟨h, h'⟩
theorem put_lt {c : Bool} {x y : Int} {l r : ST} (h : ¬ (ab y x = false ∧ y ≠ x)) (h' : x < y) : put (.node c y l r) x = mk (put l x) y r := by
  unfold put; conv => lhs; unfold TRP0.put
  exact (if_neg h).trans (if_pos h')
theorem put_gt {c : Bool} {x y : Int} {l r : ST} (h : ¬ (ab y x = false ∧ y ≠ x)) (h' : y < x) : put (.node c y l r) x = mk l y (put r x) := by
  unfold put; conv => lhs; unfold TRP0.put
  exact (if_neg h).trans ((if_neg (by omega)).trans (if_pos h'))
theorem put_eq {c : Bool} {x : Int} {l r : ST} : put (.node c x l r) x = .node c x l r := by
  unfold put; conv => lhs; unfold TRP0.put
  exact (if_neg (fun h => h.2 rfl)).trans ((if_neg (by omega)).trans (if_neg (by omega)))
theorem joined_nil (b : ST) : joined .nil b = b := by unfold joined; rw [TRP0.joined]
theorem joined_nil2 (c : Bool) (x : Int) (l r : ST) : joined (.node c x l r) .nil = .node c x l r := by unfold joined; rw [TRP0.joined]
theorem joined_a {c c' : Bool} {x y : Int} {l r l' r' : ST} (h : ab x y = true) : joined (.node c x l r) (.node c' y l' r') = mk l x (joined r (.node c' y l' r')) := by
  unfold joined; rw [TRP0.joined]; exact if_pos h
theorem joined_b {c c' : Bool} {x y : Int} {l r l' r' : ST} (h : ab x y = false) : joined (.node c x l r) (.node c' y l' r') = mk (joined (.node c x l r) l') y r' := by
  unfold joined; rw [TRP0.joined]; exact if_neg (fun e => by unfold ab at h; rw [h] at e; cases e)
theorem union_nil (b : ST) : union .nil b = b := by unfold union; rw [TRP0.union]
theorem union_nil2 (c : Bool) (x : Int) (l r : ST) : union (.node c x l r) .nil = .node c x l r := by unfold union; rw [TRP0.union]
theorem union_swap {c c' : Bool} {x y : Int} {l r l' r' : ST} (h : ab x y = false) (h' : x ≠ y) :
    union (.node c x l r) (.node c' y l' r') = mk (union l' (split (.node c x l r) y).1) y (union r' (split (.node c x l r) y).2.2) := by
  unfold union; rw [TRP0.union]; exact if_pos ⟨h, h'⟩
theorem union_stay {c c' : Bool} {x y : Int} {l r l' r' : ST} (h : ¬ (ab x y = false ∧ x ≠ y)) :
    union (.node c x l r) (.node c' y l' r') = mk (union l (split (.node c' y l' r') x).1) x (union r (split (.node c' y l' r') x).2.2) := by
  unfold union; rw [TRP0.union]; exact if_neg h
theorem has_split {t : ST} (h : t.Bst) (x : Int) : (split t x).2.1 = decide (x ∈ t.toL) := (TRP0.split_spec t x h).2.2.2.2
end Go.Proofs.Ythokmfonedfmfaa.TRP
