/-
  Lists with their numbers: what each function tells, in one form. Conditions: no more than 2^44 numbers.
-/
import Derived.Test.YtpkfakndlbngbaaListJoin
import Derived.Test.YtpkfakndlbngbaaListApp
import Derived.Test.YtpkfakndlbngbaaSame
namespace Go.Proofs.Ytpkfakndlbngbaa
open Go.RowKit Go.Deep Go.Shelf
set_option linter.unusedVariables false
namespace LI
def Ls (w : World) (p : Option Addr) (m : Int) (xs : List Int) : Prop := In w p xs ∧ m = (xs.length : Int)
theorem Ls.below {w w' : World} {p : Option Addr} {m : Int} {xs : List Int} (h : Ls w p m xs) (hb : Below w.heap.size w w') : Ls w' p m xs := ⟨h.1.below hb, h.2⟩
theorem Ls.alloc {w : World} {p : Option Addr} {m : Int} {xs : List Int} (h : Ls w p m xs) (o : Obj) : Ls (w.alloc o) p m xs := h.below ((Below.refl _ _).alloc (Nat.le_refl _) _)
theorem Ls.drew {w : World} {p : Option Addr} {m : Int} {xs : List Int} (h : Ls w p m xs) : Ls w.drew p m xs := h.below (Below.refl _ _).drew
theorem Ls.drewN {w : World} {p : Option Addr} {m : Int} {xs : List Int} (h : Ls w p m xs) (n : Nat) : Ls (w.drewN n) p m xs := h.below (below_drewN (Below.refl _ _) n)
theorem Ls.nil (w : World) : Ls w none 0 [] := ⟨rfl, rfl⟩
abbrev lv (q : Option Addr) (m : Int) : Value := .agg #[.pointer q, .int .i64 m]
theorem rev_ls (p : Option Addr) (m : Int) (xs : List Int) (w : World) (h : Ls w p m xs) (hs : xs.length ≤ 1152921504606846976) : Calls Try.prog 31 #[.agg #[.pointer p, .int .i64 m]] w fun e w' =>
    ∃ q k, e = .returned (.agg #[.pointer q, .int .i64 k]) ∧ Ls w' q k xs.reverse ∧ Below w.heap.size w w' :=
  (rev_any p m xs w h.1 hs).mono fun e w' ⟨q, h1, h2, h3⟩ => ⟨q, _, h1, ⟨h2, by rw [List.length_reverse]⟩, h3⟩
theorem join_ls (p : Option Addr) (m : Int) (xs : List Int) (q : Option Addr) (k : Int) (ys : List Int) (w : World) (h : Ls w p m xs) (h' : Ls w q k ys) (hs : xs.length + ys.length ≤ 1152921504606846976) : Calls Try.prog 37 #[.agg #[.pointer p, .int .i64 m], .agg #[.pointer q, .int .i64 k]] w fun e w' =>
    ∃ r j, e = .returned (.agg #[.pointer r, .int .i64 j]) ∧ Ls w' r j (xs ++ ys) ∧ Below w.heap.size w w' := by
  rw [h'.2]
  exact (join_any p m xs q ys w h.1 h'.1 hs).mono fun e w' ⟨q, h1, h2, h3⟩ => ⟨q, _, h1, ⟨h2, rfl⟩, h3⟩
theorem push_ls (x : Int) (p : Option Addr) (m : Int) (xs : List Int) (w : World) (h : Ls w p m xs) (hs : xs.length ≤ 1152921504606846976) : Calls Try.prog 10 #[.agg #[.pointer p, .int .i64 m], .int .i64 x] w fun e w' =>
    ∃ q k, e = .returned (.agg #[.pointer q, .int .i64 k]) ∧ Ls w' q k (x :: xs) ∧ Below w.heap.size w w' :=
  (push_any x xs p m w h.1).mono fun e w' ⟨q, h1, h2, h3⟩ => ⟨q, _, h1, ⟨h2, by rw [h.2]; unfold wrap64; simp only [List.length_cons]; omega⟩, h3⟩
theorem ints_ls (p : Option Addr) (m : Int) (xs : List Int) (w : World) (h : Ls w p m xs) (hs : xs.length ≤ 17592186044416) :
    Calls Try.prog 11 #[.agg #[.pointer p, .int .i64 m]] w fun e w' => ∃ a n c, e = .returned (.slice a n c) ∧ Sl w' a n c xs ∧ Below w.heap.size w w' :=
  (ints_any p m xs w h.1 hs).mono fun e w' ⟨v, h1, h2, h3⟩ => by
    obtain ⟨a, c, rfl, hs⟩ := Sl.of_own h2
    exact ⟨a, _, c, h1, hs, h3⟩
theorem len_ls (p : Option Addr) (m : Int) (xs : List Int) (w : World) (h : Ls w p m xs) : Calls Try.prog 36 #[.agg #[.pointer p, .int .i64 m]] w fun e w' => e = .returned (.int .i64 (xs.length : Int)) ∧ Below w.heap.size w w' := by
  rw [← h.2]
  exact len_any p m w
theorem len_is (p : Option Addr) (m : Int) (xs : List Int) (N : Nat) (w : World) (h : Ls w p m xs) (e : xs.length = N) : Calls Try.prog 36 #[.agg #[.pointer p, .int .i64 m]] w fun e w' => e = .returned (.int .i64 (N : Int)) ∧ Below w.heap.size w w' := by
  rw [← e]
  exact len_ls p m xs w h
end LI
end Go.Proofs.Ytpkfakndlbngbaa
