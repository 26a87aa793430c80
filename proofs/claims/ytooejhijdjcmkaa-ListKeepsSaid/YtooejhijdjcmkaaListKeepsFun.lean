/-
  The functions of the law ListKeeps. Conditions: no more than 2^44 numbers.
-/
import Derived.Test.YtooejhijdjcmkaaListLs
import Derived.Test.YtooejhijdjcmkaaListKeep
import Derived.Test.YtooejhijdjcmkaaBelow
namespace Go.Proofs.Ytooejhijdjcmkaa
open Go.RowKit Go.Deep
open Go.Proofs.Ytooejhijdjcmkaa.LI
set_option linter.unusedVariables false

def pP (a : Int) (x : Int) : Bool := decide (x < a)
def pQ (b : Int) (x : Int) : Bool := (x.tmod 2 == 0) || decide (b < x)
theorem keep_p (x a : Int) (A : Nat) (w : World) (hc : w.cell? ⟨A, 0, none⟩ = some (.int .i64 a)) : Calls Try.prog 15 #[.int .i64 x, .pointer (some ⟨A, 0, none⟩)] w fun e w' => e = .returned (.bool (pP a x)) ∧ Below w.heap.size w w' := by
  go_enter Try.func15, Try.ntmps15
  go_wp2_with fail
  go_ret
  exact ⟨by simp [pP], Below.refl _ _⟩
theorem keep_q (x b : Int) (A : Nat) (w : World) (hc : w.cell? ⟨A, 0, none⟩ = some (.int .i64 b)) : Calls Try.prog 16 #[.int .i64 x, .pointer (some ⟨A, 0, none⟩)] w fun e w' => e = .returned (.bool (pQ b x)) ∧ Below w.heap.size w w' := by
  go_enter Try.func16, Try.ntmps16
  go_wp2_with fail
  all_goals
    go_ret
    exact ⟨by simp_all [pQ], Below.refl _ _⟩
theorem keep_pq (x a b : Int) (A B P Q : Nat) (w : World) (hP : w.heap[P]? = some (.cells #[(.func (.func 15) #[] #[.pointer (some ⟨A, 0, none⟩)])] 33 (0, 0))) (hQ : w.heap[Q]? = some (.cells #[(.func (.func 16) #[] #[.pointer (some ⟨B, 0, none⟩)])] 33 (0, 0))) (hA : w.heap[A]? = some (.cells #[.int .i64 a] 3 (0, 0))) (hB : w.heap[B]? = some (.cells #[.int .i64 b] 3 (0, 0))) :
    Calls Try.prog 19 #[.int .i64 x, .pointer (some ⟨P, 0, none⟩), .pointer (some ⟨Q, 0, none⟩)] w fun e w' => e = .returned (.bool (pP a x && pQ b x)) ∧ Below w.heap.size w w' := by
  have cP := (blk hP).1 0
  have K := keep_p x a A w (by have := (blk hA).1 0; simpa using this)
  have HH := Lib.hid (⟨hP, hQ, hA, hB⟩ : _ ∧ _ ∧ _ ∧ _)
  clear hP hQ hA hB
  cases hp : pP a x
  all_goals
    rw [hp] at K
    have HP := Lib.hid hp
    clear hp
    go_enter Try.func19, Try.ntmps19
    go_wp2_with fail
    refine K.mono ?_
    rintro e w1 ⟨rfl, b1⟩
    obtain ⟨_, hQ, _, hB⟩ := HH.out
    replace hQ := blk_below hQ b1
    replace hB := blk_below hB b1
    have cQ := (blk hQ).1 0
    have K2 := keep_q x b B w1 (by have := (blk hB).1 0; simpa using this)
    clear hQ hB
    go_wp2_with fail
  · go_ret
    exact ⟨by simp, b1⟩
  · refine K2.mono ?_
    rintro e w2 ⟨rfl, b2⟩
    go_wp2_with fail
    go_ret
    exact ⟨by simp, below_then b1 b2⟩
theorem keep_np (x a : Int) (A P : Nat) (w : World) (hP : w.heap[P]? = some (.cells #[(.func (.func 15) #[] #[.pointer (some ⟨A, 0, none⟩)])] 33 (0, 0))) (hA : w.heap[A]? = some (.cells #[.int .i64 a] 3 (0, 0))) :
    Calls Try.prog 20 #[.int .i64 x, .pointer (some ⟨P, 0, none⟩)] w fun e w' => e = .returned (.bool (!pP a x)) ∧ Below w.heap.size w w' := by
  have cP := (blk hP).1 0
  have K := keep_p x a A w (by have := (blk hA).1 0; simpa using this)
  clear hP hA
  go_enter Try.func20, Try.ntmps20
  go_wp2_with fail
  refine K.mono ?_
  rintro e w1 ⟨rfl, b1⟩
  go_wp2_with fail
  go_ret
  exact ⟨by simp, b1⟩
theorem kp_ls (p : Option Addr) (m : Int) (xs : List Int) (a : Int) (A : Nat) (w : World) (h : Ls w p m xs) (hA : w.heap[A]? = some (.cells #[.int .i64 a] 3 (0, 0))) (hs : xs.length ≤ 17592186044416) :
    Calls Try.prog 17 #[.agg #[.pointer p, .int .i64 m], (.func (.func 15) #[] #[.pointer (some ⟨A, 0, none⟩)])] w fun e w' => ∃ q j, e = .returned (.agg #[.pointer q, .int .i64 j]) ∧ Ls w' q j (xs.filter (pP a)) ∧ Below w.heap.size w w' :=
  (keep_any p m xs 15 #[.pointer (some ⟨A, 0, none⟩)] (pP a) w h.1 hs (fun u W hW => keep_p u a A W (by have := (blk (blk_below hA hW)).1 0; simpa using this)) (enters_of Try.func15 (by kernel_rfl) rfl)).mono fun e w' ⟨q, h1, h2, h3⟩ => ⟨q, _, h1, ⟨h2, rfl⟩, h3⟩
theorem kq_ls (p : Option Addr) (m : Int) (xs : List Int) (b : Int) (B : Nat) (w : World) (h : Ls w p m xs) (hA : w.heap[B]? = some (.cells #[.int .i64 b] 3 (0, 0))) (hs : xs.length ≤ 17592186044416) :
    Calls Try.prog 17 #[.agg #[.pointer p, .int .i64 m], (.func (.func 16) #[] #[.pointer (some ⟨B, 0, none⟩)])] w fun e w' => ∃ q j, e = .returned (.agg #[.pointer q, .int .i64 j]) ∧ Ls w' q j (xs.filter (pQ b)) ∧ Below w.heap.size w w' :=
  (keep_any p m xs 16 #[.pointer (some ⟨B, 0, none⟩)] (pQ b) w h.1 hs (fun u W hW => keep_q u b B W (by have := (blk (blk_below hA hW)).1 0; simpa using this)) (enters_of Try.func16 (by kernel_rfl) rfl)).mono fun e w' ⟨q, h1, h2, h3⟩ => ⟨q, _, h1, ⟨h2, rfl⟩, h3⟩
theorem kpq_ls (p : Option Addr) (m : Int) (xs : List Int) (a b : Int) (A B P Q : Nat) (w : World) (h : Ls w p m xs) (hP : w.heap[P]? = some (.cells #[(.func (.func 15) #[] #[.pointer (some ⟨A, 0, none⟩)])] 33 (0, 0))) (hQ : w.heap[Q]? = some (.cells #[(.func (.func 16) #[] #[.pointer (some ⟨B, 0, none⟩)])] 33 (0, 0))) (hA : w.heap[A]? = some (.cells #[.int .i64 a] 3 (0, 0))) (hB : w.heap[B]? = some (.cells #[.int .i64 b] 3 (0, 0))) (hs : xs.length ≤ 17592186044416) :
    Calls Try.prog 17 #[.agg #[.pointer p, .int .i64 m], (.func (.func 19) #[] #[.pointer (some ⟨P, 0, none⟩), .pointer (some ⟨Q, 0, none⟩)])] w fun e w' => ∃ q j, e = .returned (.agg #[.pointer q, .int .i64 j]) ∧ Ls w' q j (xs.filter (fun x => pP a x && pQ b x)) ∧ Below w.heap.size w w' :=
  (keep_any p m xs 19 #[.pointer (some ⟨P, 0, none⟩), .pointer (some ⟨Q, 0, none⟩)] (fun x => pP a x && pQ b x) w h.1 hs (fun u W hW => keep_pq u a b A B P Q W (blk_below hP hW) (blk_below hQ hW) (blk_below hA hW) (blk_below hB hW)) (enters_of Try.func19 (by kernel_rfl) rfl)).mono fun e w' ⟨q, h1, h2, h3⟩ => ⟨q, _, h1, ⟨h2, rfl⟩, h3⟩
theorem knp_ls (p : Option Addr) (m : Int) (xs : List Int) (a : Int) (A P : Nat) (w : World) (h : Ls w p m xs) (hP : w.heap[P]? = some (.cells #[(.func (.func 15) #[] #[.pointer (some ⟨A, 0, none⟩)])] 33 (0, 0))) (hA : w.heap[A]? = some (.cells #[.int .i64 a] 3 (0, 0))) (hs : xs.length ≤ 17592186044416) :
    Calls Try.prog 17 #[.agg #[.pointer p, .int .i64 m], (.func (.func 20) #[] #[.pointer (some ⟨P, 0, none⟩)])] w fun e w' => ∃ q j, e = .returned (.agg #[.pointer q, .int .i64 j]) ∧ Ls w' q j (xs.filter (fun x => !pP a x)) ∧ Below w.heap.size w w' :=
  (keep_any p m xs 20 #[.pointer (some ⟨P, 0, none⟩)] (fun x => !pP a x) w h.1 hs (fun u W hW => keep_np u a A P W (blk_below hP hW) (blk_below hA hW)) (enters_of Try.func20 (by kernel_rfl) rfl)).mono fun e w' ⟨q, h1, h2, h3⟩ => ⟨q, _, h1, ⟨h2, rfl⟩, h3⟩
theorem filter_swap (xs : List Int) (f g : Int → Bool) : (xs.filter f).filter g = (xs.filter g).filter f := by
  rw [List.filter_filter, List.filter_filter]
  congr 1
  funext x
  exact Bool.and_comm _ _
theorem filter_both (xs : List Int) (f g : Int → Bool) : (xs.filter f).filter g = xs.filter (fun x => f x && g x) := by
  rw [List.filter_filter]
  congr 1
  funext x
  exact Bool.and_comm _ _
theorem filter_sum (xs : List Int) (f : Int → Bool) : (xs.filter f).length + (xs.filter (fun x => !f x)).length = xs.length := by
  induction xs with
  | nil => rfl
  | cons x xs ih => cases h : f x <;> simp [h] <;> omega
theorem filter_below (xs : List Int) (a : Int) : (xs.filter (pP a)).length = belowN xs a := by
  unfold belowN pP
  rw [List.countP_eq_length_filter]
end Go.Proofs.Ytooejhijdjcmkaa
