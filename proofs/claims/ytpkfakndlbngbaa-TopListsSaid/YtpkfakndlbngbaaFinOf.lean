/-
  Finger trees: one thing joined to a tree; the tree of some numbers. Conditions: at most 2^44 numbers.
-/
import Derived.Test.YtpkfakndlbngbaaMFk
import Derived.Test.YtpkfakndlbngbaaFinJoined
namespace Go.Proofs.Ytpkfakndlbngbaa
open Go.RowKit Go.Deep
open Go.Proofs.Ytpkfakndlbngbaa.MN
set_option linter.unusedVariables false
namespace FG

open Lv
set_option maxHeartbeats 1000000 in
set_option maxRecDepth 100000 in
theorem join_tree (t : Th) (v : Lv) (pa pb : Option Addr) (d : Nat) (w : World) (ha : InV w pa (.one t)) (hb : InV w pb v) (hd : v.Ok d) (hs : t.size + v.size ≤ 17592186044416) :
    Calls Try.prog 25 #[.agg #[.pointer pa], .agg #[.pointer pb]] w fun e w' => ∃ q, e = .returned (.agg #[.pointer q]) ∧ InV w' q (pushL t v) ∧ Below w.heap.size w w' := by
  have HA := Lib.hid ha
  have HB := Lib.hid hb
  clear ha hb
  go_enter Try.func25, Try.ntmps25
  go_upto_region 1 with fail
  obtain ⟨w0, hw0⟩ : ∃ w0, (((w.alloc (.cells #[.pointer pa] 33)).alloc (.cells #[.pointer pb] 33)).alloc (.cells #[.pointer none] 33)) = w0 := ⟨_, rfl⟩
  have x0 : w0.heap[w.heap.size]? = some (.cells #[.pointer pa] 33 (0, 0)) := by
    rw [← hw0]
    have := heap_alloc_new w (.cells #[.pointer pa] 33)
    exact (Below.heap_alloc _ _ _ (by simp; try omega)).trans ((Below.heap_alloc _ _ _ (by simp; try omega)).trans (this))
  have x1 : w0.heap[w.heap.size + 1]? = some (.cells #[.pointer pb] 33 (0, 0)) := by
    rw [← hw0]
    have := heap_alloc_new (w.alloc (.cells #[.pointer pa] 33)) (.cells #[.pointer pb] 33)
    rw [World.size_alloc] at this
    exact (Below.heap_alloc _ _ _ (by simp; try omega)).trans (this)
  have x2 : w0.heap[w.heap.size + 1 + 1]? = some (.cells #[.pointer none] 33 (0, 0)) := by
    rw [← hw0]
    have := heap_alloc_new ((w.alloc (.cells #[.pointer pa] 33)).alloc (.cells #[.pointer pb] 33)) (.cells #[.pointer none] 33)
    rw [World.size_alloc, World.size_alloc] at this
    exact this
  have b0 : Below w.heap.size w w0 := by rw [← hw0]; exact (((Below.refl _ _).alloc (by simp; try omega) _).alloc (by simp; try omega) _).alloc (by simp; try omega) _
  rw [hw0]
  have hz : w0.heap.size = w.heap.size + 3 := by rw [← hw0]; simp
  clear hw0
  replace HA := Lib.hid (HA.out.below b0)
  replace HB := Lib.hid (HB.out.below b0)
  have d0 := (blk x0).1 0
  have d1 := (blk x1).1 0
  have X2 := Lib.hid x2
  clear x0 x1 x2
  go_wp2_with fail
  refine (joined_one t v pa pb d _ HA.out HB.out hd hs).mono ?_
  rintro e w1 ⟨q, rfl, V1, hb1⟩
  have y2 := blk_below X2.out hb1
  obtain ⟨g0, g1, g2⟩ := blk y2
  have d2 := g0 0
  have Y2 := Lib.hid y2
  have V1 := Lib.hid V1
  clear g0 y2 d0 d1
  go_wp2_with fail
  refine bodyPost_ret (v := .agg #[.pointer q]) (by simp [results, Try.results25, go_sem, d2]) rfl ⟨q, rfl, V1.out.keep (.set Y2.out (by decide)), (below_then b0 hb1).setCell (p := ⟨w.heap.size + 1 + 1, 0, none⟩) (by simp; try omega) _⟩
/-- The tree of some numbers, put one by one. -/
def ofL (xs : List Int) : Lv := xs.foldl (fun v x => pushR (.leaf x) v) .nil
theorem ofL_snoc (xs : List Int) (k : Nat) (h : k < xs.length) : ofL (xs.take (k + 1)) = pushR (.leaf (xs[k]?.getD 0)) (ofL (xs.take k)) := by
  unfold ofL
  rw [List.take_add_one, List.getElem?_eq_getElem h, List.foldl_append]
  rfl
theorem ofL_from (xs : List Int) : ∀ (v : Lv), v.Ok 0 → (xs.foldl (fun v x => pushR (.leaf x) v) v).Ok 0 ∧ (xs.foldl (fun v x => pushR (.leaf x) v) v).toL = v.toL ++ xs := by
  induction xs with
  | nil => intro v h; exact ⟨h, by simp⟩
  | cons x xs ih =>
    intro v h
    obtain ⟨h1, h2⟩ := pushR_ok v (.leaf x) 0 h rfl
    obtain ⟨k1, k2⟩ := ih _ h1
    exact ⟨k1, by rw [List.foldl_cons, k2, h2]; simp [Th.toL]⟩
theorem ofL_ok (xs : List Int) : (ofL xs).Ok 0 ∧ (ofL xs).toL = xs := by
  obtain ⟨h1, h2⟩ := ofL_from xs .nil trivial
  exact ⟨h1, by unfold ofL; rw [h2]; rfl⟩
theorem ofL_size (xs : List Int) : (ofL xs).size = xs.length := by rw [← Lv.len, (ofL_ok xs).2]
set_option maxHeartbeats 1000000 in
set_option maxRecDepth 100000 in
theorem of_tree (a : Option Addr) (n c : Nat) (xs : List Int) (w : World) (h : Sl w a n c xs) (hs : n ≤ 17592186044416) :
    Calls Try.prog 21 #[.slice a n c] w fun e w' => ∃ q, e = .returned (.agg #[.pointer q]) ∧ InV w' q (ofL xs) ∧ Below w.heap.size w w' := by
  have hlen := h.hlen
  have HL := Lib.hid h
  have HLEN := Lib.hid hlen
  clear h hlen
  go_enter Try.func21, Try.ntmps21
  go_upto_region 2 with fail
  obtain ⟨w0, hw0⟩ : ∃ w0, ((w.alloc (.cells #[.pointer none] 33)).alloc (.cells #[.pointer none] 33)) = w0 := ⟨_, rfl⟩
  have x0 : w0.heap[w.heap.size]? = some (.cells #[.pointer none] 33 (0, 0)) := by
    rw [← hw0]
    have := heap_alloc_new w (.cells #[.pointer none] 33)
    exact (Below.heap_alloc _ _ _ (by simp; try omega)).trans (this)
  have x1 : w0.heap[w.heap.size + 1]? = some (.cells #[.pointer none] 33 (0, 0)) := by
    rw [← hw0]
    have := heap_alloc_new (w.alloc (.cells #[.pointer none] 33)) (.cells #[.pointer none] 33)
    rw [World.size_alloc] at this
    exact this
  have b0 : Below w.heap.size w w0 := by rw [← hw0]; exact ((Below.refl _ _).alloc (by simp; try omega) _).alloc (by simp; try omega) _
  rw [hw0]
  have hz : w0.heap.size = w.heap.size + 2 := by rw [← hw0]; simp
  clear hw0
  have X0 := Lib.hid x0
  have X1 := Lib.hid x1
  clear x0 x1
  go_wp2_with fail
  go_loopw [8] (fun i wr => ∃ (k : Nat) (p : Option Addr), k ≤ n ∧ i = .int .i64 k ∧ wr.heap[w.heap.size]? = some (.cells #[.pointer none] 33 (0, 0)) ∧ wr.heap[w.heap.size + 1]? = some (.cells #[.pointer p] 33 (0, 0)) ∧ InV wr p (ofL (xs.take k)) ∧ Below w.heap.size w wr) (fun i _ => n - (intOf i).toNat)
  case atStart => exact ⟨0, none, Nat.zero_le _, rfl, X0.out, X1.out, rfl, b0⟩
  case round =>
    obtain ⟨k, p, hk, rfl, x0, x1, hv, hb⟩ := hrel
    by_cases hlt : k < n
    · obtain ⟨b, off, rfl, hbl, hc⟩ := HL.out.hat (by omega)
      have g := (hb.cell (p := ⟨b, off + k, none⟩) hbl).trans (hc k hlt)
      have HSN := Lib.hid (ofL_snoc xs k (by have := HLEN.out; omega))
      have PC := Lib.hid (push_tree (ofL (xs.take k)) (xs[k]?.getD 0) p wr hv (ofL_ok _).1 (by rw [ofL_size, List.length_take]; omega))
      obtain ⟨y, hy⟩ : ∃ y, xs[k]?.getD 0 = y := ⟨_, rfl⟩
      rw [hy] at g HSN PC
      have d1 := (blk x1).1 0
      have Y0 := Lib.hid x0
      have Y1 := Lib.hid x1
      have hlti : (k : Int) < (n : Int) := by omega
      clear hc hy x0 x1 hv
      go_wp2_with fail
      refine PC.out.mono ?_
      rintro e w1 ⟨q, rfl, V1, hb1⟩
      have y0 := blk_below Y0.out hb1
      have y1 := blk_below Y1.out hb1
      have hb2 := below_then hb hb1
      obtain ⟨u0, u1, u2⟩ := blk y1
      have d2 := u0 0
      have Z0 := Lib.hid y0
      have Z1 := Lib.hid y1
      have V1 := Lib.hid V1
      clear u0 y0 y1 d1
      go_wp2_with fail
      go_roundw
      case rel => exact ⟨k + 1, q, by omega, by go_num, blk_far Z0.out (by simp), by simpa using blk_set (i := 0) (v := .pointer q) Z1.out, by rw [HSN.out]; exact V1.out.keep (.set Z1.out (by decide)), hb2.setCell (p := ⟨w.heap.size + 1, 0, none⟩) (by simp) _⟩
      case measure => simp [intOf]; omega
    · have hxs : xs.take k = xs := List.take_of_length_le (by have := HLEN.out; omega)
      rw [hxs] at hv
      have d1 := (blk x1).1 0
      obtain ⟨u0, u1, u2⟩ := blk x0
      have d2 := u0 0
      have X0 := Lib.hid x0
      have V1 := Lib.hid hv
      clear hxs x0 x1 u0 hv
      go_wp2_with fail
      refine bodyPost_ret (v := .agg #[.pointer p]) (by simp [results, Try.results21, go_sem, d2]) rfl ⟨p, rfl, V1.out.keep (.set X0.out (by decide)), hb.setCell (p := ⟨w.heap.size, 0, none⟩) (Nat.le_refl _) _⟩
end FG
end Go.Proofs.Ytpkfakndlbngbaa
