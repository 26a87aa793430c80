/-
  The walk of the law ListFolds. Conditions: none.
-/
import Derived.Test.YtooejhijdjcmkaaListLs
import Derived.Test.YtooejhijdjcmkaaListFold
namespace Go.Proofs.Ytooejhijdjcmkaa
open Go.RowKit Go.Deep
open Go.Proofs.Ytooejhijdjcmkaa.LI
set_option linter.unusedVariables false
def foldF (a : Int) (u v : Int) : Int := wrap64 (wrap64 (a * u) + v)
theorem fold_fun (u v a : Int) (B : Nat) (w : World) (hc : w.cell? ⟨B, 0, none⟩ = some (.int .i64 a)) : Calls Try.prog 23 #[.int .i64 u, .int .i64 v, .pointer (some ⟨B, 0, none⟩)] w fun e w' => e = .returned (.int .i64 (foldF a u v)) ∧ Below w.heap.size w w' := by
  go_enter Try.func23, Try.ntmps23
  go_wp2_with fail
  go_ret
  exact ⟨rfl, Below.refl _ _⟩
theorem fold_ls (p : Option Addr) (m : Int) (xs : List Int) (z a : Int) (B : Nat) (w : World) (h : Ls w p m xs) (hb : w.heap[B]? = some (.cells #[.int .i64 a] 3 (0, 0))) :
    Calls Try.prog 24 #[.agg #[.pointer p, .int .i64 m], .int .i64 z, .func (.func 23) #[] #[.pointer (some ⟨B, 0, none⟩)]] w fun e w' => e = .returned (.int .i64 (xs.foldl (foldF a) z)) ∧ Below w.heap.size w w' :=
  fold_any p m xs z 23 #[.pointer (some ⟨B, 0, none⟩)] (foldF a) w h.1
    (fun u v W hW => fold_fun u v a B W (by have := (blk (blk_below hb hW)).1 0; simpa using this)) (enters_of Try.func23 (by kernel_rfl) rfl)

theorem fold_is (p : Option Addr) (m : Int) (xs : List Int) (z a F : Int) (B : Nat) (w : World) (h : Ls w p m xs) (hb : w.heap[B]? = some (.cells #[.int .i64 a] 3 (0, 0))) (hF : xs.foldl (foldF a) z = F) :
    Calls Try.prog 24 #[.agg #[.pointer p, .int .i64 m], .int .i64 z, .func (.func 23) #[] #[.pointer (some ⟨B, 0, none⟩)]] w fun e w' => e = .returned (.int .i64 F) ∧ Below w.heap.size w w' := by
  rw [← hF]
  exact fold_ls p m xs z a B w h hb
set_option maxHeartbeats 4000000 in
set_option maxRecDepth 100000 in
theorem ListFolds_walk (a0 : Option Addr) (n0 c0 : Nat) (x0 : List Int) (a1 : Option Addr) (n1 c1 : Nat) (x1 : List Int) (x2 x3 : Int) (w : World)
    (s0 : Sl w a0 n0 c0 x0) (i0 : ∀ n ∈ x0, I64 n) (e0 : n0 ≤ 17592186043904) (s1 : Sl w a1 n1 c1 x1) (i1 : ∀ n ∈ x1, I64 n) (e1 : n1 ≤ 17592186043904) (i2 : I64 x2) (i3 : I64 x3) :
    Calls Try.prog 5 #[.slice a0 n0 c0, .slice a1 n1 c1, .int .i64 x2, .int .i64 x3] w fun e w' => e = .returned (.bool true) ∧ Below w.heap.size w w' := by
  have l0 : x0.length ≤ n0 := by rw [s0.hlen]; exact Nat.le_refl _
  have l1 : x1.length ≤ n1 := by rw [s1.hlen]; exact Nat.le_refl _
  go_enter Try.func5, Try.ntmps5
  go_wp2_with fail
  refine (listed_any _).mono ?_
  rintro e w1 ⟨rfl, b1⟩
  obtain ⟨b1, AA⟩ := hold1 b1 ⟨rfl, rfl, rfl, rfl⟩
  go_wp2_with fail
  refine (of_ls a0 n0 c0 x0 _ (s0.below b1) (by omega)).mono ?_
  rintro e w2 ⟨q1, m1, rfl, h1, b2⟩
  replace AA := blk_below AA b2
  replace b2 := below_then b1 b2
  go_wp2_with fail
  refine (of_ls a1 n1 c1 x1 _ ((s1.below b2).alloc _) (by omega)).mono ?_
  rintro e w3 ⟨q2, m2, rfl, h2, b3⟩
  obtain ⟨b3, A1⟩ := hold1 b3 ⟨rfl, rfl, rfl, rfl⟩
  replace AA := blk_below AA b3
  replace h1 := h1.below b3
  replace b3 := below_then b2 b3
  go_wp2_with fail
  obtain ⟨w4, hw⟩ : ∃ W, w3.alloc (.cells #[.pointer q2, .int .i64 m2] 28) = W := ⟨_, rfl⟩
  have bx : Below w3.heap.size w3 w4 := by rw [← hw]; exact (Below.refl _ _).alloc (Nat.le_refl _) _
  have A2 : w4.heap[w3.heap.size]? = some (.cells #[.pointer q2, .int .i64 m2] 28 (0, 0)) := by rw [← hw]; exact heap_alloc_new _ _
  rw [hw]
  clear hw
  replace AA := blk_below AA bx
  replace A1 := blk_below A1 bx
  replace h1 := h1.below bx
  replace h2 := h2.below bx
  have B := below_then b3 bx
  clear b1 b2 b3 bx
  have HA := Lib.hid (⟨A1, A2, h1, h2⟩ : _ ∧ _ ∧ _ ∧ _)
  clear A1 A2 h1 h2
  obtain ⟨u0, u1, u2⟩ := blk AA
  have HL := Lib.hid s0.hlen
  have g0 := u0 0
  clear u0
  go_loopw [13, 14] (fun v i wr => ∃ k : Nat, k ≤ n0 ∧ i = .int .i64 k ∧ v = .int .i64 ((x0.take k).foldl (foldF x3) x2) ∧ ∃ d, wr = w4.drewN d) (fun _ i _ => n0 - (intOf i).toNat)
  case atStart => exact ⟨0, Nat.zero_le _, rfl, rfl, 0, rfl⟩
  case round =>
    obtain ⟨k, hk, rfl, rfl, d, rfl⟩ := hrel
    by_cases hlt : k < n0
    · obtain ⟨b, off, rfl, hbl, hc⟩ := s0.hat (by omega)
      have g := (B.cell (p := ⟨b, off + k, none⟩) hbl).trans (hc k hlt)
      have g' : (w4.drewN d).cell? ⟨b, off + k, none⟩ = some (.int .i64 (x0[k]?.getD 0)) := g
      have g0' : (w4.drewN d).cell? ⟨w.heap.size, 0, none⟩ = some (.int .i64 x3) := by simpa using g0
      clear hc
      have hlti : (k : Int) < (n0 : Int) := by omega
      have t1 := take_snoc' x0 k (by have := HL.out; omega)
      have T1 := Lib.hid t1
      clear t1
      obtain ⟨F, hF⟩ : ∃ F, (x0.take k).foldl (foldF x3) x2 = F := ⟨_, rfl⟩
      rw [hF]
      have HF := Lib.hid hF
      clear hF
      go_wp2_with fail
      go_quiet (fail)
      go_wp2_with fail
      go_roundw
      case rel => exact ⟨k + 1, by omega, by go_num, by rw [T1.out, List.foldl_append, HF.out]; rfl, _, rfl⟩
      case measure => simp [intOf]; omega
    · have he : k = n0 := by omega
      have hxs : x0.take k = x0 := List.take_of_length_le (by have := HL.out; omega)
      rw [hxs]
      have HX := Lib.hid hxs
      clear hxs he
      obtain ⟨A1, A2, h1, h2⟩ := HA.out
      have bd : Below w4.heap.size w4 (w4.drewN d) := below_drewN (Below.refl _ _) d
      replace AA := blk_below AA bd
      replace A1 := blk_below A1 bd
      replace A2 := blk_below A2 bd
      replace h1 := h1.below bd
      replace h2 := h2.below bd
      obtain ⟨w5, hw5⟩ : ∃ W, w4.drewN d = W := ⟨_, rfl⟩
      rw [hw5] at AA A1 A2 h1 h2 bd ⊢
      have B5 := below_then B bd
      clear hw5 bd HA g0
      obtain ⟨F, hF⟩ : ∃ F, x0.foldl (foldF x3) x2 = F := ⟨_, rfl⟩
      obtain ⟨G, hG⟩ : ∃ G, x1.foldl (foldF x3) F = G := ⟨_, rfl⟩
      rw [hF]
      have HF := Lib.hid hF
      have HG := Lib.hid hG
      clear hF hG
      obtain ⟨z0, zz0, zzz0⟩ := blk A1
      obtain ⟨z1, zz1, zzz1⟩ := blk A2
      go_wp2_with fail
      go_region_held3 (fun w' => w'.cell? ⟨w2.heap.size, 0, none⟩ = some (.pointer q1) ∧ w'.cell? ⟨w2.heap.size, 1, none⟩ = some (.int .i64 m1) ∧ w'.cell? ⟨w3.heap.size, 0, none⟩ = some (.pointer q2) ∧ w'.cell? ⟨w3.heap.size, 1, none⟩ = some (.int .i64 m2)) (go_keep) (first
        | (have _t := K4; go_at_call 24; refine (fold_is q2 m2 x1 F x3 G _ _ h2 AA HG.out).mono ?_; rintro e w10 ⟨rfl, bx⟩; replace bx : Below w9.heap.size w9 w10 := (by first | exact bx | exact below_then (below_drewN (Below.refl _ _) _) bx); replace AA := blk_below AA bx; replace A1 := blk_below A1 bx; replace A2 := blk_below A2 bx; replace h1 := h1.below bx; replace h2 := h2.below bx; replace B5 := below_then B5 bx; have K5 := Lib.hid bx; clear bx; obtain ⟨z0, zz0, zzz0⟩ := blk A1; obtain ⟨z1, zz1, zzz1⟩ := blk A2)
        | (have _t := K3; go_at_call 24; refine (fold_is q1 m1 x0 x2 x3 F _ _ h1 AA HF.out).mono ?_; rintro e w9 ⟨rfl, bx⟩; replace bx : Below w8.heap.size w8 w9 := (by first | exact bx | exact below_then (below_drewN (Below.refl _ _) _) bx); replace AA := blk_below AA bx; replace A1 := blk_below A1 bx; replace A2 := blk_below A2 bx; replace h1 := h1.below bx; replace h2 := h2.below bx; replace B5 := below_then B5 bx; have K4 := Lib.hid bx; clear bx; obtain ⟨z0, zz0, zzz0⟩ := blk A1; obtain ⟨z1, zz1, zzz1⟩ := blk A2)
        | (have _t := K2; go_at_call 24; refine (fold_is q4 m4 _ x2 x3 G _ _ h4 AA (by rw [List.foldl_append, HF.out]; exact HG.out)).mono ?_; rintro e w8 ⟨rfl, bx⟩; replace bx : Below w7.heap.size w7 w8 := (by first | exact bx | exact below_then (below_drewN (Below.refl _ _) _) bx); replace AA := blk_below AA bx; replace A1 := blk_below A1 bx; replace A2 := blk_below A2 bx; replace h1 := h1.below bx; replace h2 := h2.below bx; replace B5 := below_then B5 bx; have K3 := Lib.hid bx; clear bx; obtain ⟨z0, zz0, zzz0⟩ := blk A1; obtain ⟨z1, zz1, zzz1⟩ := blk A2)
        | (have _t := K1; go_at_call 25; refine (join_ls q1 m1 x0 q2 m2 x1 _ h1 h2 (by omega)).mono ?_; rintro e w7 ⟨q4, m4, rfl, h4, bx⟩; replace bx : Below w6.heap.size w6 w7 := (by first | exact bx | exact below_then (below_drewN (Below.refl _ _) _) bx); replace AA := blk_below AA bx; replace A1 := blk_below A1 bx; replace A2 := blk_below A2 bx; replace h1 := h1.below bx; replace h2 := h2.below bx; replace B5 := below_then B5 bx; have K2 := Lib.hid bx; clear bx; obtain ⟨z0, zz0, zzz0⟩ := blk A1; obtain ⟨z1, zz1, zzz1⟩ := blk A2)
        | (go_at_call 24; refine (fold_is q1 m1 x0 x2 x3 F _ _ (by first | exact h1 | exact h1.below (below_drewN (Below.refl _ _) _)) (by first | exact AA | exact blk_below AA (below_drewN (Below.refl _ _) _)) HF.out).mono ?_; rintro e w6 ⟨rfl, bx⟩; replace bx : Below w5.heap.size w5 w6 := (by first | exact bx | exact below_then (below_drewN (Below.refl _ _) _) bx); replace AA := blk_below AA bx; replace A1 := blk_below A1 bx; replace A2 := blk_below A2 bx; replace h1 := h1.below bx; replace h2 := h2.below bx; replace B5 := below_then B5 bx; have K1 := Lib.hid bx; clear bx; obtain ⟨z0, zz0, zzz0⟩ := blk A1; obtain ⟨z1, zz1, zzz1⟩ := blk A2))
      go_wp2_with fail
      go_ret
      exact ⟨rfl, B5⟩
end Go.Proofs.Ytooejhijdjcmkaa
