/-
  Lists of trees in memory; how many, one more. Conditions: at most 2^60 numbers.
-/
import Derived.Test.YtpkfakndlbngbaaMSk
import Derived.Test.YtpkfakndlbngbaaWords
import Derived.Test.YtpkfakndlbngbaaCalm
namespace Go.Proofs.Ytpkfakndlbngbaa
open Go.RowKit Go.Deep Go.BigFrame
open SK
set_option linter.unusedVariables false
namespace RA
/-- A tree in memory. -/
def InT (w : World) : Option Addr → RT → Prop
  | p, .nil => p = none
  | p, .node x l r => ∃ b pl pr, p = some ⟨b, 0, none⟩ ∧ w.heap[b]? = some (.cells #[.int .i64 x, .pointer pl, .pointer pr] 69 (0, 0)) ∧ InT w pl l ∧ InT w pr r
theorem InT.keep {w w' : World} (hk : KeepT 69 w w') : ∀ {t : RT} {p : Option Addr}, InT w p t → InT w' p t := by
  intro t
  induction t with
  | nil => intro p h; exact h
  | node x l r ihl ihr =>
    rintro p ⟨b, pl, pr, e, hb, hl, hr⟩
    exact ⟨b, pl, pr, e, hk _ _ hb, ihl hl, ihr hr⟩
theorem InT.below {w w' : World} {t : RT} {p : Option Addr} (h : InT w p t) (hb : Below w.heap.size w w') : InT w' p t := h.keep (.of_below hb)
/-- The spots, one behind the other. -/
def InS (w : World) : Option Addr → List Sp → Prop
  | p, [] => p = none
  | p, s :: r => ∃ b pt q, p = some ⟨b, 0, none⟩ ∧ w.heap[b]? = some (.cells #[.int .i64 (D s.1), .pointer pt, .pointer q] 67 (0, 0)) ∧ InT w pt s.2 ∧ InS w q r
theorem InS.keep {w w' : World} (hk : KeepT 69 w w') (hk2 : KeepT 67 w w') : ∀ {l : List Sp} {p : Option Addr}, InS w p l → InS w' p l
  | [], _, h => h
  | _ :: _, _, ⟨b, pt, q, e, hb, ht, hr⟩ => ⟨b, pt, q, e, hk2 _ _ hb, ht.keep hk, InS.keep hk hk2 hr⟩
theorem InS.below {w w' : World} {l : List Sp} {p : Option Addr} (h : InS w p l) (hb : Below w.heap.size w w') : InS w' p l := h.keep (.of_below hb) (.of_below hb)
/-- A list of trees in memory, by its numbers. -/
def In (w : World) (p : Option Addr) (m : Int) (xs : List Int) : Prop := ∃ ss, InS w p ss ∧ GoodS ss ∧ xs = allS ss ∧ m = (xs.length : Int)
theorem In.below {w w' : World} {p : Option Addr} {m : Int} {xs : List Int} (h : In w p m xs) (hb : Below w.heap.size w w') : In w' p m xs := by
  obtain ⟨ss, h1, h2⟩ := h
  exact ⟨ss, h1.below hb, h2⟩
theorem In.alloc {w : World} {p : Option Addr} {m : Int} {xs : List Int} (h : In w p m xs) (o : Obj) : In (w.alloc o) p m xs := h.below ((Below.refl _ _).alloc (Nat.le_refl _) _)
theorem In.drew {w : World} {p : Option Addr} {m : Int} {xs : List Int} (h : In w p m xs) : In w.drew p m xs := h.below (Below.refl _ _).drew
theorem In.drewN {w : World} {p : Option Addr} {m : Int} {xs : List Int} (h : In w p m xs) (n : Nat) : In (w.drewN n) p m xs := h.below (below_drewN (Below.refl _ _) n)
theorem In.keep {w w' : World} {p : Option Addr} {m : Int} {xs : List Int} (h : In w p m xs) (hk : KeepT 69 w w') (hk2 : KeepT 67 w w') : In w' p m xs := by
  obtain ⟨ss, h1, h2⟩ := h
  exact ⟨ss, h1.keep hk hk2, h2⟩
theorem In.nil (w : World) : In w none 0 [] := ⟨[], rfl, goodS_nil, rfl, rfl⟩
theorem In.size {w : World} {p : Option Addr} {m : Int} {xs : List Int} (h : In w p m xs) : m = (xs.length : Int) := by obtain ⟨ss, _, _, _, h⟩ := h; exact h
/-- A list's block. -/
def Box (w : World) (G : Nat) (p : Option Addr) (m : Int) : Prop := w.heap[G]? = some (.cells #[.pointer p, .int .i64 m] 29 (0, 0))
theorem Box.below {w w' : World} {G : Nat} {p : Option Addr} {m : Int} (h : Box w G p m) (hb : Below w.heap.size w w') : Box w' G p m := blk_below h hb
theorem Box.new (w : World) (p : Option Addr) (m : Int) : Box (w.alloc (.cells #[.pointer p, .int .i64 m] 29)) w.heap.size p m := heap_alloc_new _ _
theorem box_set {w : World} {G : Nat} {p p' : Option Addr} {m m' : Int} (h : Box w G p m) : Box ((w.setCell ⟨G, 0, none⟩ (.pointer p')).setCell ⟨G, 1, none⟩ (.int .i64 m')) G p' m' := blk_set (i := 1) (blk_set (i := 0) h)
theorem box_keep {w : World} {G : Nat} {p p' : Option Addr} {m m' : Int} (h : Box w G p m) (T : TypeId) (hT : 29 ≠ T) : KeepT T w ((w.setCell ⟨G, 0, none⟩ (.pointer p')).setCell ⟨G, 1, none⟩ (.int .i64 m')) :=
  (KeepT.setCell h hT).trans (KeepT.setCell (blk_set (i := 0) (v := .pointer p') h) hT)
theorem below_set2 {B : Nat} {w W : World} {G : Nat} (h : Below B w W) (hG : B ≤ G) (u v : Value) : Below B w ((W.setCell ⟨G, 0, none⟩ u).setCell ⟨G, 1, none⟩ v) :=
  (h.setCell (p := ⟨G, 0, none⟩) hG u).setCell (p := ⟨G, 1, none⟩) hG v
theorem In.box {w : World} {G : Nat} {p p' q : Option Addr} {m m' k : Int} {xs : List Int} (hX : Box w G p m) (h : In w q k xs) : In ((w.setCell ⟨G, 0, none⟩ (.pointer p')).setCell ⟨G, 1, none⟩ (.int .i64 m')) q k xs :=
  h.keep (box_keep hX _ (by decide)) (box_keep hX _ (by decide))
theorem far4 {V : World} {G b o : Nat} {u v x : Value} {o1 o2 : Obj} (hk : V.cell? ⟨b, o, none⟩ = some x) (hne : ¬ b = G) : ((((V.setCell ⟨G, 0, none⟩ u).setCell ⟨G, 1, none⟩ v).alloc o1).alloc o2).drew.cell? ⟨b, o, none⟩ = some x := by
  have hb : b < V.heap.size := World.block_lt_of_cell? V _ hk
  rw [World.cell?_drew, World.cell?_alloc_lt _ _ _ (by simp; omega), World.cell?_alloc_lt _ _ _ (by simp; omega), World.cell?_setCell_far _ _ _ _ (fun e => hne e.symm), World.cell?_setCell_far _ _ _ _ (fun e => hne e.symm)]
  exact hk
/-- A new spot of one number. -/
theorem spot_two {w : World} {q pa pb : Option Addr} {ss : List Sp} {k : Nat} {ta tb : RT} (x n : Int) (z : Nat) (hz : z = w.heap.size) (hn : n = D (k + 1)) (ha : InT w pa ta) (hb : InT w pb tb) (h : InS w q ss) : InS ((w.alloc (.cells #[.int .i64 x, .pointer pa, .pointer pb] 69)).alloc (.cells #[.int .i64 n, .pointer (some ⟨z, 0, none⟩), .pointer q] 67)) (some ⟨z + 1, 0, none⟩) ((k + 1, .node x ta tb) :: ss) := by
  subst hz
  have b := ((Below.refl w.heap.size w).alloc (Nat.le_refl _) (.cells #[.int .i64 x, .pointer pa, .pointer pb] 69)).alloc (by simp) (.cells #[.int .i64 n, .pointer (some ⟨w.heap.size, 0, none⟩), .pointer q] 67)
  refine ⟨w.heap.size + 1, some ⟨w.heap.size, 0, none⟩, q, rfl, ?_, ⟨w.heap.size, pa, pb, rfl, ?_, ha.below b, hb.below b⟩, h.below b⟩
  · have := heap_alloc_new (w.alloc (.cells #[.int .i64 x, .pointer pa, .pointer pb] 69)) (.cells #[.int .i64 n, .pointer (some ⟨w.heap.size, 0, none⟩), .pointer q] 67)
    rw [World.size_alloc] at this
    rw [this, hn]
  · exact (Below.heap_alloc _ _ _ (by simp)).trans (heap_alloc_new _ _)
theorem spot_one {w : World} {q : Option Addr} {ss : List Sp} (x : Int) (z : Nat) (hz : z = w.heap.size) (h : InS w q ss) : InS ((w.alloc (.cells #[.int .i64 x, .pointer none, .pointer none] 69)).alloc (.cells #[.int .i64 1, .pointer (some ⟨z, 0, none⟩), .pointer q] 67)) (some ⟨z + 1, 0, none⟩) ((1, .node x .nil .nil) :: ss) :=
  spot_two (k := 0) x 1 z hz rfl rfl rfl h
theorem InS.box {w : World} {G : Nat} {p p' q : Option Addr} {m m' : Int} {ss : List Sp} (hX : Box w G p m) (h : InS w q ss) : InS ((w.setCell ⟨G, 0, none⟩ (.pointer p')).setCell ⟨G, 1, none⟩ (.int .i64 m')) q ss :=
  h.keep (box_keep hX _ (by decide)) (box_keep hX _ (by decide))
theorem InT.box {w : World} {G : Nat} {p p' q : Option Addr} {m m' : Int} {t : RT} (hX : Box w G p m) (h : InT w q t) : InT ((w.setCell ⟨G, 0, none⟩ (.pointer p')).setCell ⟨G, 1, none⟩ (.int .i64 m')) q t :=
  h.keep (box_keep hX _ (by decide))
set_option maxHeartbeats 2000000 in
set_option maxRecDepth 100000 in
theorem push_any (x : Int) (p : Option Addr) (m : Int) (xs : List Int) (w : World) (h : In w p m xs) (hs : xs.length + 1 ≤ 1152921504606846976) :
    Calls Try.prog 12 #[.agg #[.pointer p, .int .i64 m], .int .i64 x] w fun e w' => ∃ q k, e = .returned (.agg #[.pointer q, .int .i64 k]) ∧ In w' q k (x :: xs) ∧ Below w.heap.size w w' := by
  obtain ⟨ss, h1, hg, rfl, hm⟩ := h
  have hm0 : 0 ≤ m := by omega
  have hm1 : m ≤ 1152921504606846975 := by omega
  have hw : IntKind.i64.wrap (m + 1) = m + 1 := IntWalk.i64_in _ (by omega)
  have PG := Lib.hid (pushS_good x hg)
  have PA := Lib.hid (pushS_all x ss)
  have HM := Lib.hid hm
  have fin : ∀ (W : World) (q : Option Addr), InS W q (pushS x ss) → In W q (m + 1) (x :: allS ss) := fun W q h => ⟨_, h, PG.out, PA.out.symm, by have := HM.out; simp only [List.length_cons]; omega⟩
  have FIN := Lib.hid fin
  clear fin hm
  cases ss with
  | nil =>
    obtain rfl : p = none := h1
    clear hg
    go_enter Try.func12, Try.ntmps12
    go_wp2_with fail
    obtain ⟨W, hW⟩ : ∃ W, ((w.alloc (.cells #[.pointer none, .int .i64 m] 29)).alloc (.cells #[.pointer none, .int .i64 0] 29)) = W := ⟨_, rfl⟩
    obtain ⟨bW, x0, x1⟩ := hold2 (w := w) (o1 := .cells #[.pointer none, .int .i64 m] 29) (o2 := .cells #[.pointer none, .int .i64 0] 29) (w1 := W) (by rw [← hW]; exact Below.refl _ _) ⟨rfl, rfl, rfl, rfl⟩
    rw [hW]
    clear hW
    obtain ⟨u0, _, _⟩ := blk x0
    have c0 : W.cell? ⟨w.heap.size, 0, none⟩ = some (.pointer none) := u0 0
    have c1 : W.cell? ⟨w.heap.size, 1, none⟩ = some (.int .i64 m) := u0 1
    clear u0
    go_quiet (fail)
    obtain ⟨V, hV⟩ : ∃ V, W.drewN nq = V := ⟨_, rfl⟩
    have bV : Below w.heap.size w V := by rw [← hV]; exact below_drewN bW _
    have y0 : Box V w.heap.size none m := by rw [← hV]; exact x0
    have y1 : Box V (w.heap.size + 1) none 0 := by rw [← hV]; exact x1
    rw [hV]
    clear hV x0 x1 c0 c1
    obtain ⟨u0, _, l0⟩ := blk y0
    have c0 : V.cell? ⟨w.heap.size, 0, none⟩ = some (.pointer none) := u0 0
    have c1 : V.cell? ⟨w.heap.size, 1, none⟩ = some (.int .i64 m) := u0 1
    obtain ⟨u1, v1, l1⟩ := blk y1
    have d0 := u1 0
    have d1 := u1 1
    have df0 := v1 0
    have df1 := v1 1
    have BV := Lib.hid bV
    have Y0 := Lib.hid y0
    have Y1 := Lib.hid y1
    have hsz := bV.size
    clear u0 u1 v1 y0 y1 bV bW
    go_wp2_with fail
    exact bodyPost_ret (v := .agg #[.pointer (some ⟨V.heap.size + 1, 0, none⟩), .int .i64 (m + 1)]) (by simp [results, Try.results12, go_sem, d0, d1, l1, l0]) rfl ⟨_, _, rfl, FIN.out _ _ (spot_one x V.heap.size (by simp) (rfl : InS _ none [])), (((below_set2 BV.out (by omega) _ _).alloc (by simp; exact hsz) _).alloc (by simp; omega) _)⟩
  | cons a r =>
    have H1 := Lib.hid h1
    obtain ⟨b, pt, q, rfl, hb, ht, hr⟩ := h1
    obtain ⟨z, _, hlt⟩ := blk hb
    have z0 : w.cell? ⟨b, 0, none⟩ = some (.int .i64 (D a.1)) := z 0
    have z1 : w.cell? ⟨b, 1, none⟩ = some (.pointer pt) := z 1
    have z2 : w.cell? ⟨b, 2, none⟩ = some (.pointer q) := z 2
    clear z hb
    cases r with
    | nil =>
      obtain rfl : q = none := hr
      clear hg
      go_enter Try.func12, Try.ntmps12
      go_wp2_with fail
      obtain ⟨W, hW⟩ : ∃ W, ((w.alloc (.cells #[.pointer (some ⟨b, 0, none⟩), .int .i64 m] 29)).alloc (.cells #[.pointer none, .int .i64 0] 29)) = W := ⟨_, rfl⟩
      obtain ⟨bW, x0, x1⟩ := hold2 (w := w) (o1 := .cells #[.pointer (some ⟨b, 0, none⟩), .int .i64 m] 29) (o2 := .cells #[.pointer none, .int .i64 0] 29) (w1 := W) (by rw [← hW]; exact Below.refl _ _) ⟨rfl, rfl, rfl, rfl⟩
      rw [hW]
      clear hW
      obtain ⟨u0, _, _⟩ := blk x0
      have c0 : W.cell? ⟨w.heap.size, 0, none⟩ = some (.pointer (some ⟨b, 0, none⟩)) := u0 0
      have c1 : W.cell? ⟨w.heap.size, 1, none⟩ = some (.int .i64 m) := u0 1
      have k2 := (bW.cell (p := ⟨b, 2, none⟩) hlt).trans z2
      clear u0
      go_quiet (fail)
      obtain ⟨V, hV⟩ : ∃ V, W.drewN nq = V := ⟨_, rfl⟩
      have bV : Below w.heap.size w V := by rw [← hV]; exact below_drewN bW _
      have y0 : Box V w.heap.size (some ⟨b, 0, none⟩) m := by rw [← hV]; exact x0
      have y1 : Box V (w.heap.size + 1) none 0 := by rw [← hV]; exact x1
      rw [hV]
      clear hV x0 x1 c0 c1
      obtain ⟨u0, _, l0⟩ := blk y0
      have c0 : V.cell? ⟨w.heap.size, 0, none⟩ = some (.pointer (some ⟨b, 0, none⟩)) := u0 0
      have c1 : V.cell? ⟨w.heap.size, 1, none⟩ = some (.int .i64 m) := u0 1
      obtain ⟨u1, v1, l1⟩ := blk y1
      have d0 := u1 0
      have d1 := u1 1
      have df0 := v1 0
      have df1 := v1 1
      have BV := Lib.hid bV
      have Y0 := Lib.hid y0
      have Y1 := Lib.hid y1
      have hsz := bV.size
      clear u0 u1 v1 y0 y1 bV bW
      go_wp2_with fail
      exact bodyPost_ret (v := .agg #[.pointer (some ⟨V.heap.size + 1, 0, none⟩), .int .i64 (m + 1)]) (by simp [results, Try.results12, go_sem, d0, d1, l1, l0]) rfl ⟨_, _, rfl, FIN.out _ _ (spot_one x V.heap.size (by simp) ((H1.out.below BV.out).box Y1.out)), (((below_set2 BV.out (by omega) _ _).alloc (by simp; exact hsz) _).alloc (by simp; omega) _)⟩
    | cons a2 r =>
      obtain ⟨b2, pt2, q2, rfl, hb2, ht2, hr2⟩ := hr
      obtain ⟨z, _, hlt2⟩ := blk hb2
      have y0 : w.cell? ⟨b2, 0, none⟩ = some (.int .i64 (D a2.1)) := z 0
      have y1 : w.cell? ⟨b2, 1, none⟩ = some (.pointer pt2) := z 1
      have y2 : w.cell? ⟨b2, 2, none⟩ = some (.pointer q2) := z 2
      clear z hb2
      have hpl := RT.perf_len (hg.perf a (List.mem_cons_self ..)).2
      have hpa := hg.perf a (List.mem_cons_self ..)
      have hal : a.2.pre.length ≤ (allS (a :: a2 :: r)).length := by rw [allS_cons, List.length_append]; omega
      obtain ⟨na, hna⟩ : ∃ na, D a.1 = na := ⟨_, rfl⟩
      obtain ⟨nb, hnb⟩ : ∃ nb, D a2.1 = nb := ⟨_, rfl⟩
      rw [hna] at z0 hpl
      rw [hnb] at y0
      have n0 : 0 ≤ na := by omega
      have n1 : na ≤ 1152921504606846976 := by omega
      have HNA := Lib.hid hna
      have HNB := Lib.hid hnb
      clear hg hpl hal hna hnb hpa
      by_cases he : a.1 = a2.1
      · have e1 : na = nb := by rw [← HNA.out, ← HNB.out, he]
        have e2 : (na == nb) = true := by rw [e1]; simp
        have HE := Lib.hid he
        clear he e1
        have hw2 : IntKind.i64.wrap (2 * na) = 2 * na := IntWalk.i64_in _ (by omega)
        have hw3 : IntKind.i64.wrap (2 * na + 1) = 2 * na + 1 := IntWalk.i64_in _ (by omega)
        go_enter Try.func12, Try.ntmps12
        go_wp2_with fail
        obtain ⟨W, hW⟩ : ∃ W, ((w.alloc (.cells #[.pointer (some ⟨b, 0, none⟩), .int .i64 m] 29)).alloc (.cells #[.pointer none, .int .i64 0] 29)) = W := ⟨_, rfl⟩
        obtain ⟨bW, x0, x1⟩ := hold2 (w := w) (o1 := .cells #[.pointer (some ⟨b, 0, none⟩), .int .i64 m] 29) (o2 := .cells #[.pointer none, .int .i64 0] 29) (w1 := W) (by rw [← hW]; exact Below.refl _ _) ⟨rfl, rfl, rfl, rfl⟩
        rw [hW]
        clear hW
        obtain ⟨u0, _, _⟩ := blk x0
        have c0 : W.cell? ⟨w.heap.size, 0, none⟩ = some (.pointer (some ⟨b, 0, none⟩)) := u0 0
        have c1 : W.cell? ⟨w.heap.size, 1, none⟩ = some (.int .i64 m) := u0 1
        have k0 := (bW.cell (p := ⟨b, 0, none⟩) hlt).trans z0
        have k2 := (bW.cell (p := ⟨b, 2, none⟩) hlt).trans z2
        have j0 := (bW.cell (p := ⟨b2, 0, none⟩) hlt2).trans y0
        clear u0
        go_quiet (fail)
        clear k0 k2 j0
        have z1' := z1
        have y1' := y1
        clear y0
        have yy1 := y1
        have yy2 := y2
        clear y1 y2
        obtain ⟨V, hV⟩ : ∃ V, W.drewN nq = V := ⟨_, rfl⟩
        have bV : Below w.heap.size w V := by rw [← hV]; exact below_drewN bW _
        have y0 : Box V w.heap.size (some ⟨b, 0, none⟩) m := by rw [← hV]; exact x0
        have y1 : Box V (w.heap.size + 1) none 0 := by rw [← hV]; exact x1
        rw [hV]
        clear hV x0 x1 c0 c1
        obtain ⟨u0, _, l0⟩ := blk y0
        have c0 : V.cell? ⟨w.heap.size, 0, none⟩ = some (.pointer (some ⟨b, 0, none⟩)) := u0 0
        have c1 : V.cell? ⟨w.heap.size, 1, none⟩ = some (.int .i64 m) := u0 1
        obtain ⟨u1, v1, l1⟩ := blk y1
        have d0 := u1 0
        have d1 := u1 1
        have df0 := v1 0
        have df1 := v1 1
        have BV := Lib.hid bV
        have Y0 := Lib.hid y0
        have Y1 := Lib.hid y1
        have hsz := bV.size
        clear u0 u1 v1 y0 y1 bV bW
        go_wp2_with fail
        have k0 := (BV.out.cell (p := ⟨b, 0, none⟩) hlt).trans z0
        have k1 := (BV.out.cell (p := ⟨b, 1, none⟩) hlt).trans z1
        have k2 := (BV.out.cell (p := ⟨b, 2, none⟩) hlt).trans z2
        have j1 := (BV.out.cell (p := ⟨b2, 1, none⟩) hlt2).trans yy1
        have j2 := (BV.out.cell (p := ⟨b2, 2, none⟩) hlt2).trans yy2
        have g1 : ¬ b = w.heap.size + 1 := by omega
        have g2 : ¬ w.heap.size + 1 = b := by omega
        have g3 : ¬ b2 = w.heap.size + 1 := by omega
        have g4 : ¬ w.heap.size + 1 = b2 := by omega
        have g5 : ¬ w.heap.size = w.heap.size + 1 := by omega
        have g6 : ¬ w.heap.size + 1 = w.heap.size := by omega
        have hlt' := Nat.lt_of_lt_of_le hlt hsz
        have hlt2' := Nat.lt_of_lt_of_le hlt2 hsz
        have g7 : b < V.heap.size + 1 := by omega
        have g8 : b2 < V.heap.size + 1 := by omega
        have g9 : w.heap.size < V.heap.size + 1 := by omega
        have g10 : b ≤ V.heap.size := by omega
        have g11 : b2 ≤ V.heap.size := by omega
        go_region_held3 (fun w' => w'.cell? ⟨b, 0, none⟩ = some (.int .i64 na) ∧ w'.cell? ⟨b, 1, none⟩ = some (.pointer pt) ∧ w'.cell? ⟨b, 2, none⟩ = some (.pointer (some ⟨b2, 0, none⟩)) ∧ w'.cell? ⟨b2, 1, none⟩ = some (.pointer pt2) ∧ w'.cell? ⟨b2, 2, none⟩ = some (.pointer q2) ∧ w'.cell? ⟨w.heap.size, 1, none⟩ = some (.int .i64 m)) (first | (go_keep; done) | exact ⟨far4 k0 g1, far4 k1 g1, far4 k2 g1, far4 j1 g3, far4 j2 g3, far4 c1 g5⟩) (fail)
        all_goals
          go_wp2_with fail
          have e3 : pushS x (a :: a2 :: r) = (a.1 + 1, .node x a.2 a2.2) :: r := by simp only [pushS]; rw [if_pos HE.out]
          have E3 := Lib.hid e3
          have e4 : 2 * na + 1 = D (a.1 + 1) := by rw [← HNA.out]; rfl
          have HT := ht.below BV.out
          have HT2 := ht2.below BV.out
          have HR2 := hr2.below BV.out
          have fi := spot_two x (2 * na + 1) V.heap.size (by simp) e4 (HT.box (p' := some ⟨V.heap.size + 1, 0, none⟩) (m' := m + 1) Y1.out) (HT2.box (p' := some ⟨V.heap.size + 1, 0, none⟩) (m' := m + 1) Y1.out) (HR2.box (p' := some ⟨V.heap.size + 1, 0, none⟩) (m' := m + 1) Y1.out)
          rw [← E3.out] at fi
          have FI := Lib.hid (fi.below (Below.refl _ _).drew)
          clear fi e3 e4
          exact bodyPost_ret (v := .agg #[.pointer (some ⟨V.heap.size + 1, 0, none⟩), .int .i64 (m + 1)]) (by simp [results, Try.results12, go_sem, d0, d1, l1, l0]) rfl ⟨_, _, rfl, FIN.out _ _ FI.out, ((((below_set2 BV.out (by omega) _ _).alloc (by simp; exact hsz) _).alloc (by simp; omega) _)).drew⟩
      · have e1 : ¬ na = nb := fun e => by
          rw [← HNA.out, ← HNB.out] at e
          exact he (D_inj e)
        have e2 : (na == nb) = false := by rw [beq_eq_false_iff_ne]; exact e1
        have HE := Lib.hid he
        clear he e1
        go_enter Try.func12, Try.ntmps12
        go_wp2_with fail
        obtain ⟨W, hW⟩ : ∃ W, ((w.alloc (.cells #[.pointer (some ⟨b, 0, none⟩), .int .i64 m] 29)).alloc (.cells #[.pointer none, .int .i64 0] 29)) = W := ⟨_, rfl⟩
        obtain ⟨bW, x0, x1⟩ := hold2 (w := w) (o1 := .cells #[.pointer (some ⟨b, 0, none⟩), .int .i64 m] 29) (o2 := .cells #[.pointer none, .int .i64 0] 29) (w1 := W) (by rw [← hW]; exact Below.refl _ _) ⟨rfl, rfl, rfl, rfl⟩
        rw [hW]
        clear hW
        obtain ⟨u0, _, _⟩ := blk x0
        have c0 : W.cell? ⟨w.heap.size, 0, none⟩ = some (.pointer (some ⟨b, 0, none⟩)) := u0 0
        have c1 : W.cell? ⟨w.heap.size, 1, none⟩ = some (.int .i64 m) := u0 1
        have k0 := (bW.cell (p := ⟨b, 0, none⟩) hlt).trans z0
        have k2 := (bW.cell (p := ⟨b, 2, none⟩) hlt).trans z2
        have j0 := (bW.cell (p := ⟨b2, 0, none⟩) hlt2).trans y0
        clear u0
        go_quiet (fail)
        clear k0 k2 j0 y0 y1 y2
        obtain ⟨V, hV⟩ : ∃ V, W.drewN nq = V := ⟨_, rfl⟩
        have bV : Below w.heap.size w V := by rw [← hV]; exact below_drewN bW _
        have y0 : Box V w.heap.size (some ⟨b, 0, none⟩) m := by rw [← hV]; exact x0
        have y1 : Box V (w.heap.size + 1) none 0 := by rw [← hV]; exact x1
        rw [hV]
        clear hV x0 x1 c0 c1
        obtain ⟨u0, _, l0⟩ := blk y0
        have c0 : V.cell? ⟨w.heap.size, 0, none⟩ = some (.pointer (some ⟨b, 0, none⟩)) := u0 0
        have c1 : V.cell? ⟨w.heap.size, 1, none⟩ = some (.int .i64 m) := u0 1
        obtain ⟨u1, v1, l1⟩ := blk y1
        have d0 := u1 0
        have d1 := u1 1
        have df0 := v1 0
        have df1 := v1 1
        have BV := Lib.hid bV
        have Y0 := Lib.hid y0
        have Y1 := Lib.hid y1
        have hsz := bV.size
        clear u0 u1 v1 y0 y1 bV bW
        go_wp2_with fail
        have e3 : pushS x (a :: a2 :: r) = (1, .node x .nil .nil) :: a :: a2 :: r := by simp only [pushS]; rw [if_neg HE.out]
        have E3 := Lib.hid e3
        clear e3
        exact bodyPost_ret (v := .agg #[.pointer (some ⟨V.heap.size + 1, 0, none⟩), .int .i64 (m + 1)]) (by simp [results, Try.results12, go_sem, d0, d1, l1, l0]) rfl ⟨_, _, rfl, FIN.out _ _ (by rw [E3.out]; exact spot_one x V.heap.size (by simp) ((H1.out.below BV.out).box Y1.out)), (((below_set2 BV.out (by omega) _ _).alloc (by simp; exact hsz) _).alloc (by simp; omega) _)⟩
end RA
end Go.Proofs.Ytpkfakndlbngbaa
