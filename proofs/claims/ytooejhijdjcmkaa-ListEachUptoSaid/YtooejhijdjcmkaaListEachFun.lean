/-
  The functions of the law ListEach. Conditions: no more than 2^44 numbers.
-/
import Derived.Test.YtooejhijdjcmkaaListLs
import Derived.Test.YtooejhijdjcmkaaListEach
namespace Go.Proofs.Ytooejhijdjcmkaa
open Go.RowKit Go.Deep
open Go.Proofs.Ytooejhijdjcmkaa.LI
set_option linter.unusedVariables false
theorem hold4 {w w1 X : World} {o1 o2 o3 o4 : Obj} (h : Below X.heap.size X w1) (s : Same X ((((w.alloc o1).alloc o2).alloc o3).alloc o4)) :
    Below w.heap.size w w1 ∧ w1.heap[w.heap.size]? = some o1 ∧ w1.heap[w.heap.size + 1]? = some o2 ∧ w1.heap[w.heap.size + 1 + 1]? = some o3 ∧ w1.heap[w.heap.size + 1 + 1 + 1]? = some o4 := by
  obtain ⟨h1, h2⟩ := hold1 h s
  obtain ⟨h3, h4, h5, h6⟩ := hold3 h1 ⟨rfl, rfl, rfl, rfl⟩
  rw [World.size_alloc, World.size_alloc, World.size_alloc] at h2
  exact ⟨h3, h4, h5, h6, h2⟩
def lin (a b x : Int) : Int := wrap64 (wrap64 (a * x) + b)
theorem each_f (x a b : Int) (A B : Nat) (w : World) (hA : w.heap[A]? = some (.cells #[.int .i64 a] 3 (0, 0))) (hB : w.heap[B]? = some (.cells #[.int .i64 b] 3 (0, 0))) :
    Calls Try.prog 32 #[.int .i64 x, .pointer (some ⟨A, 0, none⟩), .pointer (some ⟨B, 0, none⟩)] w fun e w' => e = .returned (.int .i64 (lin a b x)) ∧ Below w.heap.size w w' := by
  have cA := (blk hA).1 0
  have cB := (blk hB).1 0
  clear hA hB
  go_enter Try.func32, Try.ntmps32
  go_wp2_with fail
  go_ret
  exact ⟨rfl, Below.refl _ _⟩
theorem each_g (x a b : Int) (A B : Nat) (w : World) (hA : w.heap[A]? = some (.cells #[.int .i64 a] 3 (0, 0))) (hB : w.heap[B]? = some (.cells #[.int .i64 b] 3 (0, 0))) :
    Calls Try.prog 33 #[.int .i64 x, .pointer (some ⟨A, 0, none⟩), .pointer (some ⟨B, 0, none⟩)] w fun e w' => e = .returned (.int .i64 (lin a b x)) ∧ Below w.heap.size w w' := by
  have cA := (blk hA).1 0
  have cB := (blk hB).1 0
  clear hA hB
  go_enter Try.func33, Try.ntmps33
  go_wp2_with fail
  go_ret
  exact ⟨rfl, Below.refl _ _⟩
theorem ef_ls (p : Option Addr) (m : Int) (xs : List Int) (a b : Int) (A B : Nat) (w : World) (h : Ls w p m xs) (hA : w.heap[A]? = some (.cells #[.int .i64 a] 3 (0, 0))) (hB : w.heap[B]? = some (.cells #[.int .i64 b] 3 (0, 0))) (hs : xs.length ≤ 17592186044416) :
    Calls Try.prog 34 #[.agg #[.pointer p, .int .i64 m], (.func (.func 32) #[] #[.pointer (some ⟨A, 0, none⟩), .pointer (some ⟨B, 0, none⟩)])] w fun e w' => ∃ q j, e = .returned (.agg #[.pointer q, .int .i64 j]) ∧ Ls w' q j (xs.map (lin a b)) ∧ Below w.heap.size w w' :=
  (each_any p m xs 32 #[.pointer (some ⟨A, 0, none⟩), .pointer (some ⟨B, 0, none⟩)] (lin a b) w h.1 hs (fun u W hW => each_f u a b A B W (blk_below hA hW) (blk_below hB hW)) (enters_of Try.func32 (by kernel_rfl) rfl)).mono fun e w' ⟨q, h1, h2, h3⟩ => ⟨q, _, h1, ⟨h2, by rw [List.length_map]⟩, h3⟩
theorem eg_ls (p : Option Addr) (m : Int) (xs : List Int) (a b : Int) (A B : Nat) (w : World) (h : Ls w p m xs) (hA : w.heap[A]? = some (.cells #[.int .i64 a] 3 (0, 0))) (hB : w.heap[B]? = some (.cells #[.int .i64 b] 3 (0, 0))) (hs : xs.length ≤ 17592186044416) :
    Calls Try.prog 34 #[.agg #[.pointer p, .int .i64 m], (.func (.func 33) #[] #[.pointer (some ⟨A, 0, none⟩), .pointer (some ⟨B, 0, none⟩)])] w fun e w' => ∃ q j, e = .returned (.agg #[.pointer q, .int .i64 j]) ∧ Ls w' q j (xs.map (lin a b)) ∧ Below w.heap.size w w' :=
  (each_any p m xs 33 #[.pointer (some ⟨A, 0, none⟩), .pointer (some ⟨B, 0, none⟩)] (lin a b) w h.1 hs (fun u W hW => each_g u a b A B W (blk_below hA hW) (blk_below hB hW)) (enters_of Try.func33 (by kernel_rfl) rfl)).mono fun e w' ⟨q, h1, h2, h3⟩ => ⟨q, _, h1, ⟨h2, by rw [List.length_map]⟩, h3⟩

set_option maxHeartbeats 1000000 in
theorem each_gf (x a b c d : Int) (A B C D P Q : Nat) (w : World) (hP : w.heap[P]? = some (.cells #[(.func (.func 32) #[] #[.pointer (some ⟨A, 0, none⟩), .pointer (some ⟨B, 0, none⟩)])] 53 (0, 0))) (hQ : w.heap[Q]? = some (.cells #[(.func (.func 33) #[] #[.pointer (some ⟨C, 0, none⟩), .pointer (some ⟨D, 0, none⟩)])] 53 (0, 0)))
    (hA : w.heap[A]? = some (.cells #[.int .i64 a] 3 (0, 0))) (hB : w.heap[B]? = some (.cells #[.int .i64 b] 3 (0, 0))) (hC : w.heap[C]? = some (.cells #[.int .i64 c] 3 (0, 0))) (hD : w.heap[D]? = some (.cells #[.int .i64 d] 3 (0, 0))) :
    Calls Try.prog 35 #[.int .i64 x, .pointer (some ⟨Q, 0, none⟩), .pointer (some ⟨P, 0, none⟩)] w fun e w' => e = .returned (.int .i64 (lin c d (lin a b x))) ∧ Below w.heap.size w w' := by
  have cP := (blk hP).1 0
  have cQ := (blk hQ).1 0
  have K1 : ∀ W, Below w.heap.size w W → Calls Try.prog 32 #[.int .i64 x, .pointer (some ⟨A, 0, none⟩), .pointer (some ⟨B, 0, none⟩)] W fun e w' => e = .returned (.int .i64 (lin a b x)) ∧ Below w.heap.size w w' := fun W hW =>
    (each_f x a b A B W (blk_below hA hW) (blk_below hB hW)).mono fun e w' ⟨h1, h2⟩ => ⟨h1, below_then hW h2⟩
  have K2 : ∀ W, Below w.heap.size w W → Calls Try.prog 33 #[.int .i64 (lin a b x), .pointer (some ⟨C, 0, none⟩), .pointer (some ⟨D, 0, none⟩)] W fun e w' => e = .returned (.int .i64 (lin c d (lin a b x))) ∧ Below w.heap.size w w' := fun W hW =>
    (each_g (lin a b x) c d C D W (blk_below hC hW) (blk_below hD hW)).mono fun e w' ⟨h1, h2⟩ => ⟨h1, below_then hW h2⟩
  have HH := Lib.hid (⟨K1, K2⟩ : _ ∧ _)
  have HPQ := Lib.hid (⟨hP, hQ⟩ : _ ∧ _)
  clear K1 K2 hP hQ hA hB hC hD
  go_enter Try.func35, Try.ntmps35
  go_wp2_with fail
  go_region_held3 (fun w' => w'.cell? ⟨P, 0, none⟩ = some (.func (.func 32) #[] #[.pointer (some ⟨A, 0, none⟩), .pointer (some ⟨B, 0, none⟩)]) ∧ w'.cell? ⟨Q, 0, none⟩ = some (.func (.func 33) #[] #[.pointer (some ⟨C, 0, none⟩), .pointer (some ⟨D, 0, none⟩)])) (go_keep) (first
    | (go_at_call 33; refine (HH.out.2 _ bw).mono ?_; rintro e w2 ⟨rfl, bw2⟩; have zP := (blk (blk_below HPQ.out.1 bw2)).1 0; have zQ := (blk (blk_below HPQ.out.2 bw2)).1 0)
    | (go_at_call 32; refine (HH.out.1 _ (by first | exact Below.refl _ _ | exact below_drewN (Below.refl _ _) _)).mono ?_; rintro e w1 ⟨rfl, bw⟩; have yP := (blk (blk_below HPQ.out.1 bw)).1 0; have yQ := (blk (blk_below HPQ.out.2 bw)).1 0))
  go_wp2_with fail
  go_ret
  exact ⟨rfl, bw2⟩
theorem egf_ls (p : Option Addr) (m : Int) (xs : List Int) (a b c d : Int) (A B C D P Q : Nat) (w : World) (h : Ls w p m xs) (hP : w.heap[P]? = some (.cells #[(.func (.func 32) #[] #[.pointer (some ⟨A, 0, none⟩), .pointer (some ⟨B, 0, none⟩)])] 53 (0, 0))) (hQ : w.heap[Q]? = some (.cells #[(.func (.func 33) #[] #[.pointer (some ⟨C, 0, none⟩), .pointer (some ⟨D, 0, none⟩)])] 53 (0, 0)))
    (hA : w.heap[A]? = some (.cells #[.int .i64 a] 3 (0, 0))) (hB : w.heap[B]? = some (.cells #[.int .i64 b] 3 (0, 0))) (hC : w.heap[C]? = some (.cells #[.int .i64 c] 3 (0, 0))) (hD : w.heap[D]? = some (.cells #[.int .i64 d] 3 (0, 0))) (hs : xs.length ≤ 17592186044416) :
    Calls Try.prog 34 #[.agg #[.pointer p, .int .i64 m], (.func (.func 35) #[] #[.pointer (some ⟨Q, 0, none⟩), .pointer (some ⟨P, 0, none⟩)])] w fun e w' => ∃ q j, e = .returned (.agg #[.pointer q, .int .i64 j]) ∧ Ls w' q j (xs.map (fun x => lin c d (lin a b x))) ∧ Below w.heap.size w w' :=
  (each_any p m xs 35 #[.pointer (some ⟨Q, 0, none⟩), .pointer (some ⟨P, 0, none⟩)] (fun x => lin c d (lin a b x)) w h.1 hs (fun u W hW => each_gf u a b c d A B C D P Q W (blk_below hP hW) (blk_below hQ hW) (blk_below hA hW) (blk_below hB hW) (blk_below hC hW) (blk_below hD hW)) (enters_of Try.func35 (by kernel_rfl) rfl)).mono fun e w' ⟨q, h1, h2, h3⟩ => ⟨q, _, h1, ⟨h2, by rw [List.length_map]⟩, h3⟩
end Go.Proofs.Ytooejhijdjcmkaa
