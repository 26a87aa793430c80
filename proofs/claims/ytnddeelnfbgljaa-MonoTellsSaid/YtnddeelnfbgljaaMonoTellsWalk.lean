/-
  The walk of the law MonoTells. Conditions: none.
-/
import Derived.Test.YtnddeelnfbgljaaMonoOf
import Derived.Test.YtnddeelnfbgljaaMonoRef
import Derived.Test.YtnddeelnfbgljaaMonoJoined
namespace Go.Proofs.Ytnddeelnfbgljaa
open Go.RowKit Go.Deep
set_option linter.unusedVariables false
open MN
theorem Sl.blk1 {w : World} {k : Nat} {x : Int} {T : TypeId} (h : w.heap[k]? = some (.cells #[.int .i64 x] T (0, 0))) : Sl w (some ⟨k, 0, none⟩) 1 1 [x] := by
  obtain ⟨c, _, hlt⟩ := blk h
  refine ⟨rfl, Nat.le_refl _, by decide, fun _ => ⟨k, 0, rfl, hlt, fun j hj => ?_⟩⟩
  match j, hj with
  | 0, _ => exact c 0
theorem Sl.one' (w : World) (k : Nat) (hk : k = w.heap.size) (x : Int) (T : TypeId) : Sl (w.alloc (.cells #[.int .i64 x] T)) (some ⟨k, 0, none⟩) 1 1 [x] := by
  subst hk
  exact Sl.one w x T
theorem MN.of_one (x : Int) (h : I64 x) : of [x] = one x := by
  have e2 : of [x] = join (of []) (one x) := of_snoc [] x
  unfold I64 at h
  rw [e2, join_one]
  refine Ms.ext' ?_ ?_ ?_ ?_ ?_ <;> simp only [of, zero, one, List.foldl_nil] <;> (try unfold wrap64) <;> omega

set_option maxHeartbeats 8000000 in
theorem MonoTells_core (a : Option Addr) (n c : Nat) (xs : List Int) (x : Int) (A B : Ms) (w : World) (h : Sl w a n c xs) (hx : I64 x) (hB : I64 B.n) :
    Calls Try.prog 3 #[.slice a n c, .int .i64 x, .agg #[.int .i64 A.n, .int .i64 A.s, .int .i64 A.lo, .int .i64 A.hi, .int .i64 A.h], .agg #[.int .i64 B.n, .int .i64 B.s, .int .i64 B.lo, .int .i64 B.hi, .int .i64 B.h]] w fun e w' => e = .returned (.bool true) ∧ Below w.heap.size w w' := by
  by_cases hbig : 300 < B.n
  · go_enter Try.func3, Try.ntmps3
    go_wp2_with fail
    go_ret
    exact ⟨rfl, ((Below.refl _ _).alloc (Nat.le_refl _) _).alloc (by simp) _⟩
  · have HH := Lib.hid h
    have M2 := fun w => MeasureOf_any none 0 0 [] w (Sl.nil w)
    have C3 := fun w => one_any x w
    have M4 := fun p w => MeasureOf_any p 1 1 [x] w
    have C5 := fun w => of_any a n c xs w
    have M6 := fun w => MeasureOf_any a n c xs w
    have J7 := fun w => join_any A B w hB
    have J8 := fun w => Joined_any A B w (by omega)
    have e1 := of_one x hx
    have e2 : of [] = zero := rfl
    rw [e1] at M4
    rw [e2] at M2
    clear h e1 e2
    obtain ⟨m, hm⟩ : ∃ m, of xs = m := ⟨_, rfl⟩
    rw [hm] at C5 M6
    clear hm
    obtain ⟨o, ho⟩ : ∃ m, one x = m := ⟨_, rfl⟩
    rw [ho] at C3 M4
    clear ho
    obtain ⟨j, hj⟩ : ∃ m, join A B = m := ⟨_, rfl⟩
    rw [hj] at J7 J8
    clear hj
    simp only [Ms.val] at M2 C3 M4 C5 M6 J7 J8
    have xa : At ((w.alloc (.cells #[.int .i64 A.n, .int .i64 A.s, .int .i64 A.lo, .int .i64 A.hi, .int .i64 A.h] 24)).alloc (.cells #[.int .i64 B.n, .int .i64 B.s, .int .i64 B.lo, .int .i64 B.hi, .int .i64 B.h] 24)) w.heap.size A := (Below.heap_alloc _ _ _ (by simp)).trans (heap_alloc_new _ _)
    have xb : At ((w.alloc (.cells #[.int .i64 A.n, .int .i64 A.s, .int .i64 A.lo, .int .i64 A.hi, .int .i64 A.h] 24)).alloc (.cells #[.int .i64 B.n, .int .i64 B.s, .int .i64 B.lo, .int .i64 B.hi, .int .i64 B.h] 24)) (w.heap.size + 1) B := by
      have := heap_alloc_new (w.alloc (.cells #[.int .i64 A.n, .int .i64 A.s, .int .i64 A.lo, .int .i64 A.hi, .int .i64 A.h] 24)) (.cells #[.int .i64 B.n, .int .i64 B.s, .int .i64 B.lo, .int .i64 B.hi, .int .i64 B.h] 24)
      rwa [World.size_alloc] at this
    obtain ⟨⟨p0, p1, p2, p3, p4⟩, _, pl⟩ := xa.cells
    obtain ⟨⟨q0, q1, q2, q3, q4⟩, _, ql⟩ := xb.cells
    have XA := Lib.hid xa
    have XB := Lib.hid xb
    have hc0 := Lib.hid (((Below.refl w.heap.size w).alloc (o := (.cells #[.int .i64 A.n, .int .i64 A.s, .int .i64 A.lo, .int .i64 A.hi, .int .i64 A.h] 24)) (Nat.le_refl _)).alloc (o := (.cells #[.int .i64 B.n, .int .i64 B.s, .int .i64 B.lo, .int .i64 B.hi, .int .i64 B.h] 24)) (by simp))
    clear xa xb
    go_enter Try.func3, Try.ntmps3
    go_wp2_with fail
    go_region_held3 (fun w' => w'.cell? ⟨w.heap.size, 0, none⟩ = some (.int .i64 A.n) ∧ w'.cell? ⟨w.heap.size, 1, none⟩ = some (.int .i64 A.s) ∧ w'.cell? ⟨w.heap.size, 2, none⟩ = some (.int .i64 A.lo) ∧ w'.cell? ⟨w.heap.size, 3, none⟩ = some (.int .i64 A.hi) ∧ w'.cell? ⟨w.heap.size, 4, none⟩ = some (.int .i64 A.h) ∧ w'.cell? ⟨w.heap.size + 1, 0, none⟩ = some (.int .i64 B.n) ∧ w'.cell? ⟨w.heap.size + 1, 1, none⟩ = some (.int .i64 B.s) ∧ w'.cell? ⟨w.heap.size + 1, 2, none⟩ = some (.int .i64 B.lo) ∧ w'.cell? ⟨w.heap.size + 1, 3, none⟩ = some (.int .i64 B.hi) ∧ w'.cell? ⟨w.heap.size + 1, 4, none⟩ = some (.int .i64 B.h)) (go_keep) (first
      | (go_at_call 14; have _t := hk7; refine (J8 _).mono ?_; rintro e v8 ⟨rfl, hk8⟩; have hn8 : Below v7.heap.size v7 v8 := (by first | exact hk8 | exact below_of_drew hk8 | exact below_of_drewN hk8 | exact (hold1 hk8 ⟨rfl, rfl, rfl, rfl⟩).1); have a8 : At v8 w.heap.size A := blk_below (by exact A7.out) hn8; have b8 : At v8 (w.heap.size + 1) B := blk_below (by exact B7.out) hn8; obtain ⟨⟨p80, p81, p82, p83, p84⟩, _, pl8⟩ := a8.cells; obtain ⟨⟨q80, q81, q82, q83, q84⟩, _, ql8⟩ := b8.cells; have A8 := Lib.hid a8; have B8 := Lib.hid b8; clear a8 b8; have hc8 := Lib.hid (below_then hc7.out hn8))
      | (go_at_call 13; have _t := hk6; refine (J7 _).mono ?_; rintro e v7 ⟨rfl, hk7⟩; have hn7 : Below v6.heap.size v6 v7 := (by first | exact hk7 | exact below_of_drew hk7 | exact below_of_drewN hk7 | exact (hold1 hk7 ⟨rfl, rfl, rfl, rfl⟩).1); have a7 : At v7 w.heap.size A := blk_below (by exact A6.out) hn7; have b7 : At v7 (w.heap.size + 1) B := blk_below (by exact B6.out) hn7; obtain ⟨⟨p70, p71, p72, p73, p74⟩, _, pl7⟩ := a7.cells; obtain ⟨⟨q70, q71, q72, q73, q74⟩, _, ql7⟩ := b7.cells; have A7 := Lib.hid a7; have B7 := Lib.hid b7; clear a7 b7; have hc7 := Lib.hid (below_then hc6.out hn7))
      | (go_at_call 10; have _t := hk5; refine (M6 _ (by first | exact HH.out.below hc5.out | exact (HH.out.below hc5.out).drew | exact (HH.out.below hc5.out).drewN _)).mono ?_; rintro e v6 ⟨rfl, hk6⟩; have hn6 : Below v5.heap.size v5 v6 := (by first | exact hk6 | exact below_of_drew hk6 | exact below_of_drewN hk6 | exact (hold1 hk6 ⟨rfl, rfl, rfl, rfl⟩).1); have a6 : At v6 w.heap.size A := blk_below (by exact A5.out) hn6; have b6 : At v6 (w.heap.size + 1) B := blk_below (by exact B5.out) hn6; obtain ⟨⟨p60, p61, p62, p63, p64⟩, _, pl6⟩ := a6.cells; obtain ⟨⟨q60, q61, q62, q63, q64⟩, _, ql6⟩ := b6.cells; have A6 := Lib.hid a6; have B6 := Lib.hid b6; clear a6 b6; have hc6 := Lib.hid (below_then hc5.out hn6))
      | (go_at_call 12; have _t := hk4; refine (C5 _ (by first | exact HH.out.below hc4.out | exact (HH.out.below hc4.out).drew | exact (HH.out.below hc4.out).drewN _)).mono ?_; rintro e v5 ⟨rfl, hk5⟩; have hn5 : Below v4.heap.size v4 v5 := (by first | exact hk5 | exact below_of_drew hk5 | exact below_of_drewN hk5 | exact (hold1 hk5 ⟨rfl, rfl, rfl, rfl⟩).1); have a5 : At v5 w.heap.size A := blk_below (by exact A4.out) hn5; have b5 : At v5 (w.heap.size + 1) B := blk_below (by exact B4.out) hn5; obtain ⟨⟨p50, p51, p52, p53, p54⟩, _, pl5⟩ := a5.cells; obtain ⟨⟨q50, q51, q52, q53, q54⟩, _, ql5⟩ := b5.cells; have A5 := Lib.hid a5; have B5 := Lib.hid b5; clear a5 b5; have hc5 := Lib.hid (below_then hc4.out hn5))
      | (go_at_call 10; have _t := hk3; refine (M4 _ _ (by first | exact Sl.blk1 (by exact SB.out) | exact Sl.one' _ _ (by simp) _ _)).mono ?_; rintro e v4 ⟨rfl, hk4⟩; have hn4 : Below v3.heap.size v3 v4 := (by first | exact hk4 | exact below_of_drew hk4 | exact below_of_drewN hk4 | exact (hold1 hk4 ⟨rfl, rfl, rfl, rfl⟩).1); have a4 : At v4 w.heap.size A := blk_below (by exact A3.out) hn4; have b4 : At v4 (w.heap.size + 1) B := blk_below (by exact B3.out) hn4; obtain ⟨⟨p40, p41, p42, p43, p44⟩, _, pl4⟩ := a4.cells; obtain ⟨⟨q40, q41, q42, q43, q44⟩, _, ql4⟩ := b4.cells; have A4 := Lib.hid a4; have B4 := Lib.hid b4; clear a4 b4; have hc4 := Lib.hid (below_then hc3.out hn4))
      | (go_at_call 11; have _t := hk2; refine (C3 _).mono ?_; rintro e v3 ⟨rfl, hk3⟩; have hn3 : Below v2.heap.size v2 v3 := (by first | exact hk3 | exact below_of_drew hk3 | exact below_of_drewN hk3 | exact (hold1 hk3 ⟨rfl, rfl, rfl, rfl⟩).1); have a3 : At v3 w.heap.size A := blk_below (by exact A2.out) hn3; have b3 : At v3 (w.heap.size + 1) B := blk_below (by exact B2.out) hn3; obtain ⟨⟨p30, p31, p32, p33, p34⟩, _, pl3⟩ := a3.cells; obtain ⟨⟨q30, q31, q32, q33, q34⟩, _, ql3⟩ := b3.cells; have A3 := Lib.hid a3; have B3 := Lib.hid b3; clear a3 b3; have hc3 := Lib.hid (below_then hc2.out hn3); first | (obtain ⟨_, sb⟩ := hold1 hk3 ⟨rfl, rfl, rfl, rfl⟩; have SB := Lib.hid sb; clear sb) | skip)
      | (go_at_call 10; have _t := hk1; refine (M2 _).mono ?_; rintro e v2 ⟨rfl, hk2⟩; have hn2 : Below v1.heap.size v1 v2 := (by first | exact hk2 | exact below_of_drew hk2 | exact below_of_drewN hk2 | exact (hold1 hk2 ⟨rfl, rfl, rfl, rfl⟩).1); have a2 : At v2 w.heap.size A := blk_below (by exact A1.out) hn2; have b2 : At v2 (w.heap.size + 1) B := blk_below (by exact B1.out) hn2; obtain ⟨⟨p20, p21, p22, p23, p24⟩, _, pl2⟩ := a2.cells; obtain ⟨⟨q20, q21, q22, q23, q24⟩, _, ql2⟩ := b2.cells; have A2 := Lib.hid a2; have B2 := Lib.hid b2; clear a2 b2; have hc2 := Lib.hid (below_then hc1.out hn2))
      | (go_at_call 9; refine (none_any _).mono ?_; rintro e v1 ⟨rfl, hk1⟩; have hn1 : Below ((w.alloc (.cells #[.int .i64 A.n, .int .i64 A.s, .int .i64 A.lo, .int .i64 A.hi, .int .i64 A.h] 24)).alloc (.cells #[.int .i64 B.n, .int .i64 B.s, .int .i64 B.lo, .int .i64 B.hi, .int .i64 B.h] 24)).heap.size ((w.alloc (.cells #[.int .i64 A.n, .int .i64 A.s, .int .i64 A.lo, .int .i64 A.hi, .int .i64 A.h] 24)).alloc (.cells #[.int .i64 B.n, .int .i64 B.s, .int .i64 B.lo, .int .i64 B.hi, .int .i64 B.h] 24)) v1 := (by first | exact hk1 | exact below_of_drew hk1 | exact below_of_drewN hk1 | exact (hold1 hk1 ⟨rfl, rfl, rfl, rfl⟩).1); have a1 : At v1 w.heap.size A := blk_below (by exact XA.out) hn1; have b1 : At v1 (w.heap.size + 1) B := blk_below (by exact XB.out) hn1; obtain ⟨⟨p10, p11, p12, p13, p14⟩, _, pl1⟩ := a1.cells; obtain ⟨⟨q10, q11, q12, q13, q14⟩, _, ql1⟩ := b1.cells; have A1 := Lib.hid a1; have B1 := Lib.hid b1; clear a1 b1; have hc1 := Lib.hid (below_then hc0.out hn1)))
    all_goals
      have hend := hc8.out
      go_wp2_with fail
      go_ret
      first
        | exact ⟨rfl, hend⟩
        | exact ⟨rfl, hend.drew⟩
        | exact ⟨rfl, below_drewN hend _⟩

theorem MonoTells_walk (a : Option Addr) (n c : Nat) (xs : List Int) (x f20 f21 f22 f23 f24 f30 f31 f32 f33 f34 : Int) (w : World) (h : Sl w a n c xs) (hi : ∀ x ∈ xs, I64 x) (hn : n ≤ 17592186043904) (hx : I64 x)
    (u20 : I64 f20) (u21 : I64 f21) (u22 : I64 f22) (u23 : I64 f23) (u24 : I64 f24) (u30 : I64 f30) (u31 : I64 f31) (u32 : I64 f32) (u33 : I64 f33) (u34 : I64 f34) :
    Calls Try.prog 3 #[.slice a n c, .int .i64 x, .agg #[.int .i64 f20, .int .i64 f21, .int .i64 f22, .int .i64 f23, .int .i64 f24], .agg #[.int .i64 f30, .int .i64 f31, .int .i64 f32, .int .i64 f33, .int .i64 f34]] w fun e w' => e = .returned (.bool true) ∧ Below w.heap.size w w' :=
  MonoTells_core a n c xs x ⟨f20, f21, f22, f23, f24⟩ ⟨f30, f31, f32, f33, f34⟩ w h hx u30
end Go.Proofs.Ytnddeelnfbgljaa
