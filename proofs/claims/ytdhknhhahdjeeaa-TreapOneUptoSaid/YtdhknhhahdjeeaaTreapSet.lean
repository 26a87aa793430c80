/-
  Treap: the set's functions. Conditions: sizes below 2^62.
-/
import Derived.Test.YtdhknhhahdjeeaaTreapPut
import Derived.Test.YtdhknhhahdjeeaaTreapJoin
namespace Go.Proofs.Ytdhknhhahdjeeaa.TRP
open Go.RowKit Go.Deep
open Go.Proofs.Ytdhknhhahdjeeaa Go.Proofs.Ytdhknhhahdjeeaa.ST
open Go.Proofs.Ytdhknhhahdjeeaa.TRP0 (mk split Tp Hp Plain)

theorem prio_b (x : Int) (w : World) : Calls Try.prog 34 #[.int .i64 x] w fun e w' => e = .returned (.int .i64 (prioI x)) ∧ Below w.heap.size w w' :=
  (prio_any x w).mono fun _ _ ⟨he, hw⟩ => ⟨he, hw ▸ Below.refl _ _⟩
set_option maxHeartbeats 800000 in
theorem put_set (t : ST) (x : Int) (p : Option Addr) (w : World) (h : In w p t) (hs : t.size ≤ 1152921504606846976) :
    Calls Try.prog 29 #[.agg #[.pointer p], .int .i64 x] w fun e w' => ∃ q, e = .returned (.agg #[.pointer q]) ∧ In w' q (put t x) ∧ Below w.heap.size w w' := by
  go_enter Try.func29, Try.ntmps29
  go_wp2_with fail
  obtain ⟨W, hW⟩ : ∃ W, (w.alloc (.cells #[.pointer p] 49)).alloc (.cells #[.pointer none] 49) = W := ⟨_, rfl⟩
  have bW : Below w.heap.size w W := by rw [← hW]; exact ((Below.refl _ _).alloc (Nat.le_refl _) _).alloc (by simp) _
  have x0 : W.heap[w.heap.size]? = some (.cells #[.pointer p] 49 (0, 0)) := by rw [← hW]; exact (Below.heap_alloc _ _ _ (by simp)).trans (heap_alloc_new _ _)
  have x1 : W.heap[w.heap.size + 1]? = some (.cells #[.pointer none] 49 (0, 0)) := by
    rw [← hW]
    have := heap_alloc_new (w.alloc (.cells #[.pointer p] 49)) (.cells #[.pointer none] 49)
    rwa [World.size_alloc] at this
  rw [hW]
  clear hW
  have h' := h.below bW
  have cX := (blk x0).1 0
  have Xl := (blk x0).2.2
  have hne : ¬ w.heap.size = w.heap.size + 1 := by omega
  have hne' : ¬ w.heap.size + 1 = w.heap.size := by omega
  go_region_held3 (fun w' => w'.cell? ⟨w.heap.size, 0, none⟩ = some (.pointer p)) (go_keep) (first
    | (have _t := bw1; go_at_call 47; refine (put_any t x p _ (by first | exact h'.below bw1 | exact (h'.below bw1).drew) (by omega)).mono ?_; rintro e w2 ⟨p2, rfl, hi2, hb2⟩; have bw2 := below_then bw1 hb2; have s2_0 := (bw2.cell (p := ⟨w.heap.size, 0, none⟩) Xl).trans cX; have y1 := blk_below x1 bw2; obtain ⟨c0, c1, c2⟩ := blk y1; have c0' := c0 0; have f0' := c1 0; clear c0 c1)
    | (go_at_call 34; refine (prio_b x _).mono ?_; rintro e w1 ⟨rfl, hb1⟩; have bw1 : Below W.heap.size W w1 := (by first | exact hb1 | exact below_of_drewN hb1 | exact below_of_drew hb1 | exact below_of_drewN (below_of_drew hb1) | exact below_of_drewN (below_of_drewN hb1) | exact below_of_drewN (below_of_drewN (below_of_drew hb1))); have s1_0 := (bw1.cell (p := ⟨w.heap.size, 0, none⟩) Xl).trans cX))
  go_wp2_with fail
  refine bodyPost_ret (v := .agg #[.pointer p2]) (by simp [results, Try.results29, go_sem, c0']) rfl ⟨_, rfl, hi2.keep (.setCell y1 (by decide)), (below_then bW bw2).setCell (p := ⟨w.heap.size + 1, 0, none⟩) (by simp) _⟩

set_option maxHeartbeats 800000 in
theorem drop_set (t : ST) (x : Int) (p : Option Addr) (w : World) (h : In w p t) (hs : t.size ≤ 1152921504606846976) :
    Calls Try.prog 30 #[.agg #[.pointer p], .int .i64 x] w fun e w' => ∃ q, e = .returned (.agg #[.pointer q]) ∧ In w' q (drop t x) ∧ Below w.heap.size w w' := by
  have hz := split_size t x
  have SPL := fun p W h => split_any t x p W h (by omega)
  have e : drop t x = joined (split t x).1 (split t x).2.2 := rfl
  rw [e]
  obtain ⟨sl, hsl⟩ : ∃ s, (split t x).1 = s := ⟨_, rfl⟩
  obtain ⟨sb, hsb⟩ : ∃ s, (split t x).2.1 = s := ⟨_, rfl⟩
  obtain ⟨sr, hsr⟩ : ∃ s, (split t x).2.2 = s := ⟨_, rfl⟩
  rw [hsl, hsr] at hz
  rw [hsl, hsb, hsr] at SPL
  rw [hsl, hsr]
  have SH := Lib.hid SPL
  clear hsl hsb hsr SPL e
  go_enter Try.func30, Try.ntmps30
  go_wp2_with fail
  refine (SH.out p _ ((h.alloc _).alloc _)).mono ?_
  rintro e w1 ⟨ql, qr, rfl, h1, h2, b1⟩
  obtain ⟨b1, x0, x1⟩ := hold2 b1 ⟨rfl, rfl, rfl, rfl⟩
  go_wp2_with fail
  refine (joined_any sl sr ql qr _ h1 h2 (by omega)).mono ?_
  rintro e w2 ⟨p2, rfl, hi2, b2⟩
  have y1 := blk_below x1 b2
  obtain ⟨c0, c1, c2⟩ := blk y1
  have c0' := c0 0
  have f0' := c1 0
  clear c0 c1
  go_wp2_with fail
  refine bodyPost_ret (v := .agg #[.pointer p2]) (by simp [results, Try.results30, go_sem, c0']) rfl ⟨_, rfl, hi2.keep (.setCell y1 (by decide)), (below_then b1 b2).setCell (p := ⟨w.heap.size + 1, 0, none⟩) (by simp) _⟩

set_option maxHeartbeats 800000 in
theorem has_set (t : ST) (x : Int) (p : Option Addr) (w : World) (h : In w p t) (hb : t.Bst) (hs : t.size ≤ 1152921504606846976) :
    Calls Try.prog 31 #[.agg #[.pointer p], .int .i64 x] w fun e w' => e = .returned (.bool (decide (x ∈ t.toL))) ∧ Below w.heap.size w w' := by
  rw [← has_split hb x]
  have SPL := fun p W h => split_any t x p W h (by omega)
  obtain ⟨sl, hsl⟩ : ∃ s, (split t x).1 = s := ⟨_, rfl⟩
  obtain ⟨sb, hsb⟩ : ∃ s, (split t x).2.1 = s := ⟨_, rfl⟩
  obtain ⟨sr, hsr⟩ : ∃ s, (split t x).2.2 = s := ⟨_, rfl⟩
  rw [hsl, hsb, hsr] at SPL
  rw [hsb]
  have SH := Lib.hid SPL
  clear hsl hsb hsr SPL
  go_enter Try.func31, Try.ntmps31
  go_wp2_with fail
  refine (SH.out p _ (h.alloc _)).mono ?_
  rintro e w1 ⟨ql, qr, rfl, h1, h2, b1⟩
  obtain ⟨b1, x0⟩ := hold1 b1 ⟨rfl, rfl, rfl, rfl⟩
  go_wp2_with fail
  go_ret
  exact ⟨rfl, b1⟩
end Go.Proofs.Ytdhknhhahdjeeaa.TRP
