/-
  Splay: who is asked comes up. Conditions: sizes below 2^62.
  Splay: a number is put, or dropped. Conditions: sizes below 2^62.
  Splay: who is asked is on top. Conditions: sizes below 2^62.
-/
import Derived.Test.YthokmfonedfmfaaMSplA
import Derived.Test.YthokmfonedfmfaaMSplB
namespace Go.Proofs.Ythokmfonedfmfaa.SPL
open Go.RowKit Go.Deep
open Go.Proofs.Ythokmfonedfmfaa Go.Proofs.Ythokmfonedfmfaa.ST

theorem upL_any (c c2 : Bool) (y z x : Int) (ll lr tr : ST) (p : Option Addr) (w : World) (h : In w p (.node c y (.node c2 z ll lr) tr)) (hs : (ST.node c y (.node c2 z ll lr) tr).size ≤ 4611686018427387904) (hx : x < y)
    (ih : ∀ s : ST, s.size < (ST.node c y (.node c2 z ll lr) tr).size → ∀ (p : Option Addr) (w : World), In w p s → Calls Try.prog 65 #[.pointer p, .int .i64 x] w fun e w' => ∃ q, e = .returned (.pointer q) ∧ In w' q (up s x) ∧ Below w.heap.size w w') :
    Calls Try.prog 104 #[.pointer p, .int .i64 x] w fun e w' => ∃ q, e = .returned (.pointer q) ∧ In w' q (up (.node c y (.node c2 z ll lr) tr) x) ∧ Below w.heap.size w w' := by
  by_cases h1 : x < z ∧ ll ≠ .nil
  · exact upL1 c c2 y z x ll lr tr p w h hs hx ih h1.1 h1.2
  · by_cases h2 : z < x ∧ lr ≠ .nil
    · exact upL2 c c2 y z x ll lr tr p w h hs hx ih h2.1 h2.2
    · exact upL3 c c2 y z x ll lr tr p w h hs hx ih h1 h2

theorem upR_any (c c2 : Bool) (y z x : Int) (rl rr tl : ST) (p : Option Addr) (w : World) (h : In w p (.node c y tl (.node c2 z rl rr))) (hs : (ST.node c y tl (.node c2 z rl rr)).size ≤ 4611686018427387904) (hx : y < x)
    (ih : ∀ s : ST, s.size < (ST.node c y tl (.node c2 z rl rr)).size → ∀ (p : Option Addr) (w : World), In w p s → Calls Try.prog 65 #[.pointer p, .int .i64 x] w fun e w' => ∃ q, e = .returned (.pointer q) ∧ In w' q (up s x) ∧ Below w.heap.size w w') :
    Calls Try.prog 105 #[.pointer p, .int .i64 x] w fun e w' => ∃ q, e = .returned (.pointer q) ∧ In w' q (up (.node c y tl (.node c2 z rl rr)) x) ∧ Below w.heap.size w w' := by
  by_cases h1 : z < x ∧ rr ≠ .nil
  · exact upR1 c c2 y z x rl rr tl p w h hs hx ih h1.1 h1.2
  · by_cases h2 : x < z ∧ rl ≠ .nil
    · exact upR2 c c2 y z x rl rr tl p w h hs hx ih h2.1 h2.2
    · exact upR3 c c2 y z x rl rr tl p w h hs hx ih h1 h2

set_option maxRecDepth 100000 in
set_option maxHeartbeats 1600000 in
theorem up_n (x : Int) : ∀ (n : Nat) (t : ST), t.size ≤ n → t.size ≤ 4611686018427387904 → ∀ (p : Option Addr) (w : World), In w p t →
    Calls Try.prog 65 #[.pointer p, .int .i64 x] w fun e w' => ∃ q, e = .returned (.pointer q) ∧ In w' q (up t x) ∧ Below w.heap.size w w' := by
  intro n
  induction n with
  | zero =>
    intro t ht hs p w h
    cases t with
    | node c y l r => simp only [size] at ht; omega
    | nil =>
      rw [up]
      obtain rfl : p = none := h
      clear ht hs
      go_enter Try.func65, Try.ntmps65
      go_wp2_with fail
      go_ret
      exact ⟨none, rfl, rfl, Below.refl _ _⟩
  | succ n ih =>
    intro t ht hs p w h
    cases t with
    | nil =>
      rw [up]
      obtain rfl : p = none := h
      clear ht hs ih
      go_enter Try.func65, Try.ntmps65
      go_wp2_with fail
      go_ret
      exact ⟨none, rfl, rfl, Below.refl _ _⟩
    | node c y l r =>
      have hs' := hs
      simp only [size] at hs ht
      have hh := h
      obtain ⟨k, pl, pr, rfl, klt, k0, k1, k2, k3, hl, hr⟩ := hh.open
      by_cases hx : x < y
      · have d1 : decide (x < y) = true := by simp [hx]
        have d2 : decide (y < x) = false := by simp; omega
        have d3 : ¬ y < x := by omega
        have d4 : (x == y) = false := by simp; omega
        have d5 : ¬ x = y := by omega
        cases l with
        | nil =>
          have e : up (.node c y .nil r) x = .node c y .nil r := by unfold up; simp only; rw [if_pos hx]
          rw [e]
          clear e
          obtain rfl : pl = none := hl
          clear ih
          go_enter Try.func65, Try.ntmps65
          go_wp2_with fail
          go_ret
          exact ⟨_, rfl, h, Below.refl _ _⟩
        | node c2 z ll lr =>
          have K := upL_any c c2 y z x ll lr r _ w h hs' hx (fun s hs2 p w hi => ih s (by simp only [size] at hs2 ht; omega) (by simp only [size] at hs2 hs; omega) p w hi)
          obtain ⟨b2, _, _, rfl, _⟩ := hl
          have KH := Lib.hid K
          clear K ih
          go_enter Try.func65, Try.ntmps65
          go_wp2_with fail
          refine KH.out.mono ?_
          rintro e w1 ⟨p1, rfl, hi1, hb1⟩
          go_wp2_with fail
          go_ret
          exact ⟨_, rfl, hi1, hb1⟩
      · by_cases hy : y < x
        · have d1 : decide (x < y) = false := by simp; omega
          have d2 : decide (y < x) = true := by simp [hy]
          have d4 : (x == y) = false := by simp; omega
          have d5 : ¬ x = y := by omega
          cases r with
          | nil =>
            have e : up (.node c y l .nil) x = .node c y l .nil := by unfold up; simp only; rw [if_neg hx, if_pos hy]
            rw [e]
            clear e
            obtain rfl : pr = none := hr
            clear ih
            go_enter Try.func65, Try.ntmps65
            go_wp2_with fail
            go_ret
            exact ⟨_, rfl, h, Below.refl _ _⟩
          | node c2 z rl rr =>
            have K := upR_any c c2 y z x rl rr l _ w h hs' hy (fun s hs2 p w hi => ih s (by simp only [size] at hs2 ht; omega) (by simp only [size] at hs2 hs; omega) p w hi)
            obtain ⟨b2, _, _, rfl, _⟩ := hr
            have KH := Lib.hid K
            clear K ih
            go_enter Try.func65, Try.ntmps65
            go_wp2_with fail
            refine KH.out.mono ?_
            rintro e w1 ⟨p1, rfl, hi1, hb1⟩
            go_wp2_with fail
            go_ret
            exact ⟨_, rfl, hi1, hb1⟩
        · obtain rfl : x = y := by omega
          have e : up (.node c x l r) x = .node c x l r := by unfold up; rw [if_neg hx, if_neg hy]
          rw [e]
          clear e hx hy ih
          go_enter Try.func65, Try.ntmps65
          go_wp2_with fail
          go_ret
          exact ⟨_, rfl, h, Below.refl _ _⟩

theorem up_any (t : ST) (x : Int) (p : Option Addr) (w : World) (h : In w p t) (hs : t.size ≤ 4611686018427387904) :
    Calls Try.prog 65 #[.pointer p, .int .i64 x] w fun e w' => ∃ q, e = .returned (.pointer q) ∧ In w' q (up t x) ∧ Below w.heap.size w w' := up_n x t.size t (Nat.le_refl _) hs p w h
end Go.Proofs.Ythokmfonedfmfaa.SPL

namespace Go.Proofs.Ythokmfonedfmfaa.SPL
open Go.RowKit Go.Deep
open Go.Proofs.Ythokmfonedfmfaa Go.Proofs.Ythokmfonedfmfaa.ST

theorem In.ne {w : World} {b k : Nat} {t : ST} {c : Array Value} {T : TypeId} {f : Nat × Nat} (h : In w (some ⟨b, 0, none⟩) t) (hk : w.heap[k]? = some (.cells c T f)) (hT : T ≠ 115) : ¬ b = k := by
  intro e
  subst e
  cases t with
  | nil => cases h
  | node c x l r =>
    obtain ⟨b', pl, pr, h1, h2, _⟩ := h
    cases h1
    rw [hk] at h2
    injection h2 with h2
    injection h2 with _ h2
    exact hT h2

set_option maxRecDepth 100000 in
set_option maxHeartbeats 800000 in
theorem put_set (t : ST) (x : Int) (p : Option Addr) (w : World) (h : In w p t) (hs : t.size ≤ 1152921504606846976) :
    Calls Try.prog 30 #[.agg #[.pointer p], .int .i64 x] w fun e w' => ∃ q, e = .returned (.agg #[.pointer q]) ∧ In w' q (put t x) ∧ Below w.heap.size w w' := by
  have hsz := up_size t x
  unfold put
  cases hu : up t x with
  | nil =>
    have HU := Lib.hid hu
    have UP := up_any t x
    rw [hu] at UP
    clear hu
    go_enter Try.func30, Try.ntmps30
    go_wp2_with fail
    refine (UP p _ ((h.alloc _).alloc _) (by omega)).mono ?_
    rintro e w1 ⟨p1, rfl, hi1, hb1⟩
    obtain ⟨hb1, x0, x1⟩ := hold2 hb1 ⟨rfl, rfl, rfl, rfl⟩
    obtain rfl : p1 = none := hi1
    go_wp2_with fail
    refine (made_any .nil .nil x none none _ rfl rfl (by decide)).mono ?_
    rintro e w2 ⟨p2, rfl, hi2, hb2⟩
    have y1 := (blk_below x1 hb2)
    obtain ⟨c0, c1, c2⟩ := blk y1
    have c0' := c0 0
    have f0' := c1 0
    clear c0 c1
    go_wp2_with fail
    refine bodyPost_ret (v := .agg #[.pointer p2]) (by simp [results, Try.results30, go_sem, c0']) rfl ⟨_, rfl, hi2.keep (.setCell y1 (by decide)), (below_then hb1 hb2).setCell (p := ⟨w.heap.size + 1, 0, none⟩) (by simp) _⟩
  | node c y l r =>
    rw [hu] at hsz
    simp only [size] at hsz
    have HU := Lib.hid hu
    have UP := up_any t x
    rw [hu] at UP
    clear hu
    simp only
    by_cases hx : x < y
    · rw [if_pos hx]
      have d1 : decide (x < y) = true := by simp [hx]
      go_enter Try.func30, Try.ntmps30
      go_wp2_with fail
      refine (UP p _ ((h.alloc _).alloc _) (by omega)).mono ?_
      rintro e w1 ⟨p1, rfl, hi1, hb1⟩
      obtain ⟨hb1, x0, x1⟩ := hold2 hb1 ⟨rfl, rfl, rfl, rfl⟩
      have hi1o := hi1
      obtain ⟨b, pl, pr, rfl, klt, k0, k1, k2, k3, hl, hr⟩ := hi1o.open
      have hnb := hi1.ne x1 (by decide)
      have hnb' : ¬ w.heap.size + 1 = b := fun e => hnb e.symm
      go_wp2_with fail
      go_region_held3 (fun w' => w'.cell? ⟨b, 2, none⟩ = some (.pointer pl) ∧ w'.cell? ⟨b, 0, none⟩ = some (.int .i64 y) ∧ w'.cell? ⟨b, 3, none⟩ = some (.pointer pr)) (go_keep) (first
        | (have _t := bwz1; go_at_call 66; refine (made_any l (mk .nil y r) x pl p2 _ (by first | exact hl.below bwz1 | exact (hl.below bwz1).drew) (by first | exact hi2 | exact hi2.drew) (by rw [size_mk]; simp only [size]; omega)).mono ?_; rintro e wz2 ⟨p3, rfl, hi3, hbz2⟩; have bwz2 := below_then bwz1 hbz2; have sz2_0 := (bwz2.cell (p := ⟨b, 2, none⟩) klt).trans k2; have sz2_1 := (bwz2.cell (p := ⟨b, 0, none⟩) klt).trans k0; have sz2_2 := (bwz2.cell (p := ⟨b, 3, none⟩) klt).trans k3; have y1 := blk_below x1 bwz2; obtain ⟨c0, c1, c2⟩ := blk y1; have c0' := c0 0; have f0' := c1 0; clear c0 c1)
        | (go_at_call 66; refine (made_any .nil r y none pr _ rfl (by first | exact hr | exact hr.drew | exact hr.drewN _ | exact (hr.drewN _).drew | exact (hr.drewN _).drewN _ | exact ((hr.drewN _).drewN _).drew) (by simp only [size]; omega)).mono ?_; rintro e wz1 ⟨p2, rfl, hi2, hbz1⟩; have bwz1 : Below w1.heap.size w1 wz1 := (by first | exact hbz1 | exact below_of_drewN hbz1 | exact below_of_drew hbz1 | exact below_of_drewN (below_of_drew hbz1) | exact below_of_drewN (below_of_drewN hbz1) | exact below_of_drewN (below_of_drewN (below_of_drew hbz1))); have sz1_0 := (bwz1.cell (p := ⟨b, 2, none⟩) klt).trans k2; have sz1_1 := (bwz1.cell (p := ⟨b, 0, none⟩) klt).trans k0; have sz1_2 := (bwz1.cell (p := ⟨b, 3, none⟩) klt).trans k3))
      go_wp2_with fail
      refine bodyPost_ret (v := .agg #[.pointer p3]) (by simp [results, Try.results30, go_sem, c0']) rfl ⟨_, rfl, hi3.keep (.setCell y1 (by decide)), (below_then hb1 bwz2).setCell (p := ⟨w.heap.size + 1, 0, none⟩) (by simp) _⟩
    · rw [if_neg hx]
      by_cases hy : y < x
      · rw [if_pos hy]
        have d1 : decide (x < y) = false := by simp; omega
        have d2 : decide (y < x) = true := by simp [hy]
        go_enter Try.func30, Try.ntmps30
        go_wp2_with fail
        refine (UP p _ ((h.alloc _).alloc _) (by omega)).mono ?_
        rintro e w1 ⟨p1, rfl, hi1, hb1⟩
        obtain ⟨hb1, x0, x1⟩ := hold2 hb1 ⟨rfl, rfl, rfl, rfl⟩
        have hi1o := hi1
        obtain ⟨b, pl, pr, rfl, klt, k0, k1, k2, k3, hl, hr⟩ := hi1o.open
        have hnb := hi1.ne x1 (by decide)
        have hnb' : ¬ w.heap.size + 1 = b := fun e => hnb e.symm
        go_wp2_with fail
        go_region_held3 (fun w' => w'.cell? ⟨b, 2, none⟩ = some (.pointer pl) ∧ w'.cell? ⟨b, 0, none⟩ = some (.int .i64 y) ∧ w'.cell? ⟨b, 3, none⟩ = some (.pointer pr)) (go_keep) (first
          | (have _t := bwz1; go_at_call 66; refine (made_any (mk l y .nil) r x p2 pr _ (by first | exact hi2 | exact hi2.drew) (by first | exact hr.below bwz1 | exact (hr.below bwz1).drew) (by rw [size_mk]; simp only [size]; omega)).mono ?_; rintro e wz2 ⟨p3, rfl, hi3, hbz2⟩; have bwz2 := below_then bwz1 hbz2; have sz2_0 := (bwz2.cell (p := ⟨b, 2, none⟩) klt).trans k2; have sz2_1 := (bwz2.cell (p := ⟨b, 0, none⟩) klt).trans k0; have sz2_2 := (bwz2.cell (p := ⟨b, 3, none⟩) klt).trans k3; have y1 := blk_below x1 bwz2; obtain ⟨c0, c1, c2⟩ := blk y1; have c0' := c0 0; have f0' := c1 0; clear c0 c1)
          | (go_at_call 66; refine (made_any l .nil y pl none _ (by first | exact hl | exact hl.drew | exact hl.drewN _ | exact (hl.drewN _).drew | exact (hl.drewN _).drewN _ | exact ((hl.drewN _).drewN _).drew) rfl (by simp only [size]; omega)).mono ?_; rintro e wz1 ⟨p2, rfl, hi2, hbz1⟩; have bwz1 : Below w1.heap.size w1 wz1 := (by first | exact hbz1 | exact below_of_drewN hbz1 | exact below_of_drew hbz1 | exact below_of_drewN (below_of_drew hbz1) | exact below_of_drewN (below_of_drewN hbz1) | exact below_of_drewN (below_of_drewN (below_of_drew hbz1))); have sz1_0 := (bwz1.cell (p := ⟨b, 2, none⟩) klt).trans k2; have sz1_1 := (bwz1.cell (p := ⟨b, 0, none⟩) klt).trans k0; have sz1_2 := (bwz1.cell (p := ⟨b, 3, none⟩) klt).trans k3))
        go_wp2_with fail
        refine bodyPost_ret (v := .agg #[.pointer p3]) (by simp [results, Try.results30, go_sem, c0']) rfl ⟨_, rfl, hi3.keep (.setCell y1 (by decide)), (below_then hb1 bwz2).setCell (p := ⟨w.heap.size + 1, 0, none⟩) (by simp) _⟩
      · rw [if_neg hy]
        obtain rfl : x = y := by omega
        have d1 : decide (x < x) = false := by simp
        clear hx hy
        go_enter Try.func30, Try.ntmps30
        go_wp2_with fail
        refine (UP p _ ((h.alloc _).alloc _) (by omega)).mono ?_
        rintro e w1 ⟨p1, rfl, hi1, hb1⟩
        obtain ⟨hb1, x0, x1⟩ := hold2 hb1 ⟨rfl, rfl, rfl, rfl⟩
        have hi1o := hi1
        obtain ⟨b, pl, pr, rfl, klt, k0, k1, k2, k3, hl, hr⟩ := hi1o.open
        have hnb := hi1.ne x1 (by decide)
        have hnb' : ¬ w.heap.size + 1 = b := fun e => hnb e.symm
        have y1 := x1
        obtain ⟨c0, c1, c2⟩ := blk y1
        have c0' := c0 0
        have f0' := c1 0
        clear c0 c1
        go_wp2_with fail
        refine bodyPost_ret (v := .agg #[.pointer (some ⟨b, 0, none⟩)]) (by simp [results, Try.results30, go_sem, c0']) rfl ⟨_, rfl, hi1.keep (.setCell y1 (by decide)), hb1.setCell (p := ⟨w.heap.size + 1, 0, none⟩) (by simp) _⟩

set_option maxRecDepth 100000 in
set_option maxHeartbeats 800000 in
theorem drop_set (t : ST) (x : Int) (p : Option Addr) (w : World) (h : In w p t) (hs : t.size ≤ 1152921504606846976) :
    Calls Try.prog 25 #[.agg #[.pointer p], .int .i64 x] w fun e w' => ∃ q, e = .returned (.agg #[.pointer q]) ∧ In w' q (drop t x) ∧ Below w.heap.size w w' := by
  have hsz := up_size t x
  unfold drop
  cases hu : up t x with
  | nil =>
    have UP := up_any t x
    rw [hu] at UP
    clear hu
    go_enter Try.func25, Try.ntmps25
    go_wp2_with fail
    refine (UP p _ ((h.alloc _).alloc _) (by omega)).mono ?_
    rintro e w1 ⟨p1, rfl, hi1, hb1⟩
    obtain ⟨hb1, x0, x1⟩ := hold2 hb1 ⟨rfl, rfl, rfl, rfl⟩
    obtain rfl : p1 = none := hi1
    have y1 := x1
    obtain ⟨c0, c1, c2⟩ := blk y1
    have c0' := c0 0
    have f0' := c1 0
    clear c0 c1
    go_wp2_with fail
    refine bodyPost_ret (v := .agg #[.pointer none]) (by simp [results, Try.results25, go_sem, c0']) rfl ⟨_, rfl, rfl, hb1.setCell (p := ⟨w.heap.size + 1, 0, none⟩) (by simp) _⟩
  | node c y l r =>
    rw [hu] at hsz
    simp only [size] at hsz
    have UP := up_any t x
    rw [hu] at UP
    clear hu
    simp only
    by_cases hx : y = x
    · rw [if_pos hx]
      subst hx
      have d1 : (y != y) = false := by simp
      cases l with
      | nil =>
        have e : up .nil y = .nil := by rw [up]
        rw [e]
        clear e
        go_enter Try.func25, Try.ntmps25
        go_wp2_with fail
        refine (UP p _ ((h.alloc _).alloc _) (by omega)).mono ?_
        rintro e w1 ⟨p1, rfl, hi1, hb1⟩
        obtain ⟨hb1, x0, x1⟩ := hold2 hb1 ⟨rfl, rfl, rfl, rfl⟩
        have hi1o := hi1
        obtain ⟨b, pl, pr, rfl, klt, k0, k1, k2, k3, hl, hr⟩ := hi1o.open
        have hnb := hi1.ne x1 (by decide)
        have hnb' : ¬ w.heap.size + 1 = b := fun e => hnb e.symm
        obtain rfl : pl = none := hl
        have y1 := x1
        obtain ⟨c0, c1, c2⟩ := blk y1
        have c0' := c0 0
        have f0' := c1 0
        clear c0 c1
        go_wp2_with fail
        refine bodyPost_ret (v := .agg #[.pointer pr]) (by simp [results, Try.results25, go_sem, c0']) rfl ⟨_, rfl, hr.keep (.setCell y1 (by decide)), hb1.setCell (p := ⟨w.heap.size + 1, 0, none⟩) (by simp) _⟩
      | node c2 z ll lr =>
        obtain ⟨c3, v, ul, ur, hu2⟩ := up_some (show (ST.node c2 z ll lr) ≠ .nil by simp) y
        have hsz2 := up_size (.node c2 z ll lr) y
        have UP2 := up_any (.node c2 z ll lr) y
        rw [hu2] at UP2 hsz2 ⊢
        simp only [size] at hsz2 hsz UP2
        simp only
        have UPH := Lib.hid UP2
        clear UP2 hu2
        go_enter Try.func25, Try.ntmps25
        go_wp2_with fail
        refine (UP p _ ((h.alloc _).alloc _) (by omega)).mono ?_
        rintro e w1 ⟨p1, rfl, hi1, hb1⟩
        obtain ⟨hb1, x0, x1⟩ := hold2 hb1 ⟨rfl, rfl, rfl, rfl⟩
        have hi1o := hi1
        obtain ⟨b, pl, pr, rfl, klt, k0, k1, k2, k3, hl, hr⟩ := hi1o.open
        have hnb := hi1.ne x1 (by decide)
        have hnb' : ¬ w.heap.size + 1 = b := fun e => hnb e.symm
        have hl' := hl
        obtain ⟨b', ql, qr, rfl, _⟩ := hl'
        go_wp2_with fail
        refine (UPH.out _ _ hl (by omega)).mono ?_
        rintro e w2 ⟨p2, rfl, hi2, hb2⟩
        have hi2o := hi2
        obtain ⟨b3, ql3, qr3, rfl, jlt, j0, j1, j2, j3, hl3, hr3⟩ := hi2o.open
        have hnb3 := hi2.ne (blk_below x1 hb2) (by decide)
        have hnb3' : ¬ w.heap.size + 1 = b3 := fun e => hnb3 e.symm
        have k3' := (hb2.cell (p := ⟨b, 3, none⟩) klt).trans k3
        have klt' := Nat.lt_of_lt_of_le klt hb2.size
        have x1' := blk_below x1 hb2
        have hr' := hr.below hb2
        go_wp2_with fail
        go_region_held3 (fun w' => w'.cell? ⟨b3, 2, none⟩ = some (.pointer ql3) ∧ w'.cell? ⟨b3, 0, none⟩ = some (.int .i64 v) ∧ w'.cell? ⟨b, 3, none⟩ = some (.pointer pr)) (go_keep) (first
          | (go_at_call 66; refine (made_any ul r v ql3 pr _ (by first | exact hl3 | exact hl3.drew | exact hl3.drewN _ | exact (hl3.drewN _).drew | exact (hl3.drewN _).drewN _ | exact ((hl3.drewN _).drewN _).drew) (by first | exact hr' | exact hr'.drew | exact hr'.drewN _ | exact (hr'.drewN _).drew | exact (hr'.drewN _).drewN _ | exact ((hr'.drewN _).drewN _).drew) (by omega)).mono ?_; rintro e wz1 ⟨p3, rfl, hi3, hbz1⟩; have bwz1 : Below w2.heap.size w2 wz1 := (by first | exact hbz1 | exact below_of_drewN hbz1 | exact below_of_drew hbz1 | exact below_of_drewN (below_of_drew hbz1) | exact below_of_drewN (below_of_drewN hbz1) | exact below_of_drewN (below_of_drewN (below_of_drew hbz1))); have sz1_0 := (bwz1.cell (p := ⟨b3, 2, none⟩) jlt).trans j2; have sz1_1 := (bwz1.cell (p := ⟨b3, 0, none⟩) jlt).trans j0; have sz1_2 := (bwz1.cell (p := ⟨b, 3, none⟩) klt').trans k3'; have y1 := blk_below x1' bwz1; obtain ⟨c0, c1, c2⟩ := blk y1; have c0' := c0 0; have f0' := c1 0; clear c0 c1))
        go_wp2_with fail
        refine bodyPost_ret (v := .agg #[.pointer p3]) (by simp [results, Try.results25, go_sem, c0']) rfl ⟨_, rfl, hi3.keep (.setCell y1 (by decide)), (below_then hb1 (below_then hb2 bwz1)).setCell (p := ⟨w.heap.size + 1, 0, none⟩) (by simp) _⟩
    · rw [if_neg hx]
      have d1 : (y != x) = true := by simp [hx]
      go_enter Try.func25, Try.ntmps25
      go_wp2_with fail
      refine (UP p _ ((h.alloc _).alloc _) (by omega)).mono ?_
      rintro e w1 ⟨p1, rfl, hi1, hb1⟩
      obtain ⟨hb1, x0, x1⟩ := hold2 hb1 ⟨rfl, rfl, rfl, rfl⟩
      have hi1o := hi1
      obtain ⟨b, pl, pr, rfl, klt, k0, k1, k2, k3, hl, hr⟩ := hi1o.open
      have hnb := hi1.ne x1 (by decide)
      have hnb' : ¬ w.heap.size + 1 = b := fun e => hnb e.symm
      have y1 := x1
      obtain ⟨c0, c1, c2⟩ := blk y1
      have c0' := c0 0
      have f0' := c1 0
      clear c0 c1
      go_wp2_with fail
      refine bodyPost_ret (v := .agg #[.pointer (some ⟨b, 0, none⟩)]) (by simp [results, Try.results25, go_sem, c0']) rfl ⟨_, rfl, hi1.keep (.setCell y1 (by decide)), hb1.setCell (p := ⟨w.heap.size + 1, 0, none⟩) (by simp) _⟩
end Go.Proofs.Ythokmfonedfmfaa.SPL

namespace Go.Proofs.Ythokmfonedfmfaa.SPL
open Go.RowKit Go.Deep
open Go.Proofs.Ythokmfonedfmfaa Go.Proofs.Ythokmfonedfmfaa.ST

set_option maxHeartbeats 800000 in
theorem find_set (t : ST) (x : Int) (p : Option Addr) (w : World) (h : In w p t) (hs : t.size ≤ 1152921504606846976) :
    Calls Try.prog 79 #[.agg #[.pointer p], .int .i64 x] w fun e w' => ∃ q, e = .returned (.tuple #[.agg #[.pointer q], .bool (isTop (up t x) x)]) ∧ In w' q (up t x) ∧ Below w.heap.size w w' := by
  have UP := up_any t x
  cases hu : up t x with
  | nil =>
    rw [hu] at UP
    clear hu
    rw [show isTop .nil x = false from rfl]
    go_enter Try.func79, Try.ntmps79
    go_wp2_with fail
    refine (UP p _ ((h.alloc _).alloc _) (by omega)).mono ?_
    rintro e w1 ⟨p1, rfl, hi1, hb1⟩
    obtain ⟨hb1, x0, x1⟩ := hold2 hb1 ⟨rfl, rfl, rfl, rfl⟩
    obtain rfl : p1 = none := hi1
    have y1 := x1
    obtain ⟨c0, c1, c2⟩ := blk y1
    have c0' := c0 0
    have f0' := c1 0
    clear c0 c1
    go_wp2_with fail
    go_region
    all_goals
      go_wp2_with fail
      refine bodyPost_ret (v := .tuple #[.agg #[.pointer none], .bool false]) (by simp [results, Try.results79, go_sem, c0']) rfl ⟨_, rfl, rfl, (by first | exact hb1.setCell (p := ⟨w.heap.size + 1, 0, none⟩) (by simp) _ | exact (below_then hb1 (Below.refl _ _).drew).setCell (p := ⟨w.heap.size + 1, 0, none⟩) (by simp) _)⟩
  | node c y l r =>
    rw [hu] at UP
    clear hu
    by_cases hx : y = x
    · subst hx
      rw [show isTop (.node c y l r) y = true by simp [isTop]]
      go_enter Try.func79, Try.ntmps79
      go_wp2_with fail
      refine (UP p _ ((h.alloc _).alloc _) (by omega)).mono ?_
      rintro e w1 ⟨p1, rfl, hi1, hb1⟩
      obtain ⟨hb1, x0, x1⟩ := hold2 hb1 ⟨rfl, rfl, rfl, rfl⟩
      have hi1o := hi1
      obtain ⟨b, pl, pr, rfl, klt, k0, k1, k2, k3, hl, hr⟩ := hi1o.open
      have hnb := hi1.ne x1 (by decide)
      have hnb' : ¬ w.heap.size + 1 = b := fun e => hnb e.symm
      have y1 := x1
      obtain ⟨c0, c1, c2⟩ := blk y1
      have c0' := c0 0
      have f0' := c1 0
      clear c0 c1
      have d1 : (y == y) = true := by simp
      go_wp2_with fail
      go_region
      all_goals
        go_wp2_with fail
        refine bodyPost_ret (v := .tuple #[.agg #[.pointer (some ⟨b, 0, none⟩)], .bool true]) (by simp [results, Try.results79, go_sem, c0']) rfl ⟨_, rfl, (by first | exact hi1.keep (.setCell y1 (by decide)) | exact (hi1.drew).keep (.setCell (w := w1.drew) y1 (by decide)) | exact (hi1.keep (.setCell y1 (by decide))).drew), (by first | exact hb1.setCell (p := ⟨w.heap.size + 1, 0, none⟩) (by simp) _ | exact (below_then hb1 (Below.refl _ _).drew).setCell (p := ⟨w.heap.size + 1, 0, none⟩) (by simp) _)⟩
    · rw [show isTop (.node c y l r) x = false by simp [isTop, hx]]
      have d1 : (y == x) = false := by simp [hx]
      go_enter Try.func79, Try.ntmps79
      go_wp2_with fail
      refine (UP p _ ((h.alloc _).alloc _) (by omega)).mono ?_
      rintro e w1 ⟨p1, rfl, hi1, hb1⟩
      obtain ⟨hb1, x0, x1⟩ := hold2 hb1 ⟨rfl, rfl, rfl, rfl⟩
      have hi1o := hi1
      obtain ⟨b, pl, pr, rfl, klt, k0, k1, k2, k3, hl, hr⟩ := hi1o.open
      have hnb := hi1.ne x1 (by decide)
      have hnb' : ¬ w.heap.size + 1 = b := fun e => hnb e.symm
      have y1 := x1
      obtain ⟨c0, c1, c2⟩ := blk y1
      have c0' := c0 0
      have f0' := c1 0
      clear c0 c1
      go_wp2_with fail
      go_region
      all_goals
        go_wp2_with fail
        refine bodyPost_ret (v := .tuple #[.agg #[.pointer (some ⟨b, 0, none⟩)], .bool false]) (by simp [results, Try.results79, go_sem, c0']) rfl ⟨_, rfl, (by first | exact hi1.keep (.setCell y1 (by decide)) | exact (hi1.drew).keep (.setCell (w := w1.drew) y1 (by decide)) | exact (hi1.keep (.setCell y1 (by decide))).drew), (by first | exact hb1.setCell (p := ⟨w.heap.size + 1, 0, none⟩) (by simp) _ | exact (below_then hb1 (Below.refl _ _).drew).setCell (p := ⟨w.heap.size + 1, 0, none⟩) (by simp) _)⟩

set_option maxHeartbeats 800000 in
theorem has_set (t : ST) (x : Int) (p : Option Addr) (w : World) (h : In w p t) (hb : t.Bst) (hs : t.size ≤ 1152921504606846976) :
    Calls Try.prog 40 #[.agg #[.pointer p], .int .i64 x] w fun e w' => e = .returned (.bool (decide (x ∈ t.toL))) ∧ Below w.heap.size w w' := by
  rw [← up_has hb x]
  have FS := find_set t x
  obtain ⟨bb, hbb⟩ : ∃ bb, isTop (up t x) x = bb := ⟨_, rfl⟩
  rw [hbb] at FS ⊢
  clear hbb
  go_enter Try.func40, Try.ntmps40
  go_wp2_with fail
  refine (FS p _ (h.alloc _) hs).mono ?_
  rintro e w1 ⟨p1, rfl, hi1, hb1⟩
  obtain ⟨hb1, x0⟩ := hold1 hb1 ⟨rfl, rfl, rfl, rfl⟩
  go_wp2_with fail
  go_ret
  exact ⟨rfl, hb1.alloc hb1.size _⟩
end Go.Proofs.Ythokmfonedfmfaa.SPL
