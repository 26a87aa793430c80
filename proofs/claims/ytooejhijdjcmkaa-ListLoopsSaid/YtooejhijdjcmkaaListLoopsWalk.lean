/-
  The walk of the law ListLoops. Conditions: none.
-/
import Derived.Test.YtooejhijdjcmkaaListLs
namespace Go.Proofs.Ytooejhijdjcmkaa
open Go.RowKit Go.Deep Go.Shelf
open Go.Proofs.Ytooejhijdjcmkaa.LI
set_option linter.unusedVariables false
attribute [local go_sem] Oper.semAt_some
theorem loop_end {x : Int} {xs p : List Int} {y : Int} (h : p ++ [y] <+: xs) (h1 : x ≤ (p.length : Int)) (h2 : (p.length : Int) ≤ x ∨ p = []) : p = xs.take x.toNat := by
  obtain ⟨r, rfl⟩ := h
  rcases h2 with h2 | rfl
  · have e : x.toNat = p.length := by omega
    rw [e, List.append_assoc, List.take_left]
  · simp only [List.length_nil] at h1
    have e : x.toNat = 0 := by simp at h1; omega
    rw [e]
    rfl
theorem loop_all {x : Int} {xs : List Int} (h2 : (xs.length : Int) ≤ x ∨ xs = []) : xs = xs.take x.toNat := by
  rcases h2 with h2 | rfl
  · rw [List.take_of_length_le (by omega)]
  · simp
set_option maxRecDepth 100000 in
set_option maxHeartbeats 2000000 in
theorem ListLoops_lo (a : Option Addr) (n c : Nat) (xs : List Int) (z : Int) (w : World) (s0 : Sl w a n c xs) (e0 : n ≤ 17592186043904) (hx : z < 0) :
    Calls Try.prog 3 #[.slice a n c, .int .i64 z] w fun e w' => e = .returned (.bool true) ∧ Below w.heap.size w w' := by
  obtain ⟨i0, hi, hz0, hz1, hz2⟩ := info_parts Try.infoInt
  have hlo : z < 0 := hx
  have l0 : xs.length ≤ n := by rw [s0.hlen]; exact Nat.le_refl _
  refine (callsIn_wide (n := 5)).1 ?_
  refine callsIn_of_wp_marks Try.func3 rfl trivial ?_ rfl
  simp only [Try.ntmps3, List.size_toArray, List.length_cons, List.length_nil, Nat.reduceAdd, Nat.reduceSub, Array.replicate_succ, Array.replicate_zero, List.push_toArray, List.append_toArray, List.nil_append, List.cons_append]
  have TT : ∀ f, Fence.wide.fn f := fun _ => trivial
  have T1 := TT 11
  have T2 := TT 12
  have T3 := TT 13
  have T4 := TT 14
  gi_wp2_with (gi_at_call 11; refine (callsIn_wide.2 (listed_any _)).mono ?_; rintro e w1 ⟨rfl, b1⟩; obtain ⟨b1, NB⟩ := hold1 b1 ⟨rfl, rfl, rfl, rfl⟩)
  have OF := fun o => of_ls a n c xs (w1.alloc o) ((s0.below b1).alloc _) (by omega)
  have NBH := Lib.hid NB
  clear NB
  gi_wp2_with (first
    | (gi_at_call 12; refine (callsIn_wide.2 (OF _)).mono ?_; rintro e w2 ⟨q1, m1, rfl, h1, b2⟩; obtain ⟨b2, GB⟩ := hold1 b2 ⟨rfl, rfl, rfl, rfl⟩)
    | (gi_at_call 13; refine (callsIn_wide.2 (all_any _ _ _)).mono ?_; rintro e w' ⟨rfl, rfl⟩))
  clear OF
  have NB := blk_below NBH.out b2
  have B2 := below_then b1 b2
  obtain ⟨WW, hWW⟩ : ∃ WW, w2.alloc (.cells #[.pointer q1, .int .i64 m1] 28) = WW := ⟨_, rfl⟩
  have hA : Below w2.heap.size w2 WW := by rw [← hWW]; exact (Below.refl _ _).alloc (Nat.le_refl _) _
  have hz : WW.heap.size = w2.heap.size + 1 := by rw [← hWW]; simp
  have hC : WW.heap[w2.heap.size]? = some (.cells #[.pointer q1, .int .i64 m1] 28 (0, 0)) := by rw [← hWW]; exact heap_alloc_new _ _
  have hB0 := below_then B2 hA
  have hs1 := (blk NBH.out).2.2
  have hs2 := b2.size
  have NW := blk_below NB hA
  have GW := blk_below GB hA
  rw [hWW]
  clear hWW NB GB NBH b1 b2
  refine wpIn_rangeFunc_ownG rfl (by decide) (gf := 37) (lb := #[.pointer (some ⟨w2.heap.size, 0, none⟩)]) rfl trivial (enters_of Try.func37 (by kernel_rfl) rfl)
    (all_stops Fence.wide (5 - 1) trivial rfl (by decide) w2.heap.size q1 m1 xs w2 WW h1.1 (.of_below hA) hC) KeepW.trans (fun W l o o' _ h1 h2 _ => keepW_b W l o o' h1 h2) (Below.refl _ _) (fun _ => rfl)
    (fun pre W => ((∃ v, Boxed W w1.heap.size 22 v ∧ W.ownsRow (w.heap.size + 1) 3 1 v pre.length (pre.map (Value.int .i64)) ∧ True) ∧ W.heap[w.heap.size]? = some (.cells #[.int .i64 z] 3 (0, 0)) ∧ ((pre.length : Int) ≤ z ∨ pre = [])) ∧ Below w.heap.size w W)
    (fun cd pre W => (∃ p y, pre = p ++ [y] ∧ cd = .exit 0 ∧ (∃ v, Boxed W w1.heap.size 22 v ∧ W.ownsRow (w.heap.size + 1) 3 1 v p.length (p.map (Value.int .i64)) ∧ True) ∧ W.heap[w.heap.size]? = some (.cells #[.int .i64 z] 3 (0, 0)) ∧ z ≤ (p.length : Int) ∧ ((p.length : Int) ≤ z ∨ p = [])) ∧ Below w.heap.size w W)
    (OwnFrom.and (Own.from (fun s A B row hs hg hr => ⟨holdsRow_own (w.heap.size + 1) w1.heap.size 22 3 1 (fun pre => pre.length) (fun pre : List Int => pre.map (Value.int .i64)) (fun _ _ => True) s A B row hs.1 hg hr, (grownBy_keeps_cells hg hr hs.2.1 rfl).trans hs.2.1, hs.2.2⟩) _) (ownFrom_below (Nat.le_refl _) (by omega)))
    (fun cd => OwnFrom.and (Own.from (fun s A B row hs hg hr => by
      obtain ⟨p, y, e1, e2, h3, h4, h5, h6⟩ := hs
      exact ⟨p, y, e1, e2, holdsRow_own (w.heap.size + 1) w1.heap.size 22 3 1 (fun pre => pre.length) (fun pre : List Int => pre.map (Value.int .i64)) (fun _ _ => True) p A B row h3 hg hr, (grownBy_keeps_cells hg hr h4 rfl).trans h4, h5, h6⟩) _) (ownFrom_below (Nat.le_refl _) (by omega)))
    ⟨⟨⟨_, GW, World.ownsRow_nil _ _ _ _, trivial⟩, NW, .inr rfl⟩, hB0⟩
    (fun x => { tmps := #[.slice a n c, .int .i64 z, undef, .pointer (some ⟨w.heap.size, 0, none⟩), .bool false, .bool true, .pointer (some ⟨w1.heap.size, 0, none⟩), .int .i64 x, undef, undef, .bool true, .bool true, .bool false, .slice a n c, .agg #[.pointer q1, .int .i64 m1], (.func (.func 37) #[] #[.pointer (some ⟨w2.heap.size, 0, none⟩)]), .int .i64 x, undef, undef, undef, undef, undef, undef, undef, undef, undef, undef, undef, undef, undef, undef, undef, undef, undef, undef, undef, undef, undef, undef], defers := [] }) ?assign ?body ?done ?stop
  case assign =>
    intro l x W K hK
    gi_wp2
    exact hK
  case body =>
    rintro l pre x W ⟨⟨⟨v, hv, hrow, _⟩, hN, hpre⟩, hB⟩ hlt
    have hc := hv.cell
    have hN0 := (blk hN).1 0
    have XN := Lib.hid hN
    have hsz := hB.size
    have hszb := hv.lt
    obtain ⟨av, cv, rfl, hslv⟩ := Sl.of_own hrow
    have HP := Lib.hid hpre
    clear hN hslv hpre
    by_cases hgo : z ≤ (pre.length : Int)
    · gi_wp2
      exact ⟨KeepsFrom.refl _ _, ⟨pre, x, rfl, rfl, ⟨_, hv, hrow, trivial⟩, XN.out, hgo, HP.out⟩, hB⟩
    · exact absurd (by omega) hgo
  case done =>
    rintro D ys W hD rfl ⟨⟨⟨v, hv, hrow, _⟩, hN, hpre⟩, hB⟩ hK
    have hN0 := (blk hN).1 0
    clear hN
    have hg := loop_all hpre
    have HB := Lib.hid hB
    have S0 := Lib.hid s0
    obtain ⟨a', c', rfl, hsl⟩ := Sl.of_own hrow
    have hc := hv.cell
    have SY := same_yes _ _ _ _ _ _ _ _ W hsl (Sl.nil _) (hg.trans (by rw [show z.toNat = 0 by omega]; rfl))
    have HK := Lib.hid hK
    have HV := Lib.hid hv
    clear hK hv hrow hsl hg s0 hB
    gi_wp2_with (gi_at_call 14; refine (callsIn_wide.2 SY).mono ?_; rintro e wz ⟨rfl, bz⟩)
    have hKz : wz.heap[D]? = some (.deferred (some [])) := (bz.block D (Array.getElem?_eq_some_iff.1 HK.out).1).trans HK.out
    refine ⟨by simp, .inl ⟨_, _, rfl, run_takeDeferred hKz, ?_⟩⟩
    have hle := HB.out.size
    have hlz := bz.size
    exact ⟨_, results_tmp rfl _ _ _, rfl, (HB.out.trans (bz.mono hle)).trans (belowK_b (w := w) (Nat.le_refl _) wz D _ _ (by omega) hKz rfl rfl)⟩
  case stop =>
    rintro D cd pre W hD hpx ⟨⟨p, y, rfl, rfl, ⟨v, hv, hrow, _⟩, hN, h5, h6⟩, hB⟩ hK
    have hN0 := (blk hN).1 0
    clear hN
    have hg := loop_end hpx h5 h6
    have HB := Lib.hid hB
    have S0 := Lib.hid s0
    obtain ⟨a', c', rfl, hsl⟩ := Sl.of_own hrow
    have hc := hv.cell
    have SY := same_yes _ _ _ _ _ _ _ _ W hsl (Sl.nil _) (hg.trans (by rw [show z.toNat = 0 by omega]; rfl))
    have HK := Lib.hid hK
    have HV := Lib.hid hv
    clear hK hv hrow hsl hg s0 hB
    gi_wp2_with (gi_at_call 14; refine (callsIn_wide.2 SY).mono ?_; rintro e wz ⟨rfl, bz⟩)
    have hKz : wz.heap[D]? = some (.deferred (some [])) := (bz.block D (Array.getElem?_eq_some_iff.1 HK.out).1).trans HK.out
    refine ⟨by simp, .inl ⟨_, _, rfl, run_takeDeferred hKz, ?_⟩⟩
    have hle := HB.out.size
    have hlz := bz.size
    exact ⟨_, results_tmp rfl _ _ _, rfl, (HB.out.trans (bz.mono hle)).trans (belowK_b (w := w) (Nat.le_refl _) wz D _ _ (by omega) hKz rfl rfl)⟩
set_option maxRecDepth 100000 in
set_option maxHeartbeats 2000000 in
theorem ListLoops_mid (a : Option Addr) (n c : Nat) (xs : List Int) (k : Nat) (w : World) (s0 : Sl w a n c xs) (e0 : n ≤ 17592186043904) (hx : k < n) :
    Calls Try.prog 3 #[.slice a n c, .int .i64 ((k : Nat) : Int)] w fun e w' => e = .returned (.bool true) ∧ Below w.heap.size w w' := by
  obtain ⟨i0, hi, hz0, hz1, hz2⟩ := info_parts Try.infoInt
  have hk0 : (0 : Int) ≤ (k : Int) := by omega
  have hkn : (k : Int) < (n : Int) := by omega
  have hkc : (k : Int) ≤ (c : Int) := by have := s0.hcap; omega
  have hfr : Sl w a k c (xs.take k) := s0.front (by omega)
  have SLF := Lib.hid hfr
  clear hfr
  have l0 : xs.length ≤ n := by rw [s0.hlen]; exact Nat.le_refl _
  refine (callsIn_wide (n := 5)).1 ?_
  refine callsIn_of_wp_marks Try.func3 rfl trivial ?_ rfl
  simp only [Try.ntmps3, List.size_toArray, List.length_cons, List.length_nil, Nat.reduceAdd, Nat.reduceSub, Array.replicate_succ, Array.replicate_zero, List.push_toArray, List.append_toArray, List.nil_append, List.cons_append]
  have TT : ∀ f, Fence.wide.fn f := fun _ => trivial
  have T1 := TT 11
  have T2 := TT 12
  have T3 := TT 13
  have T4 := TT 14
  gi_wp2_with (gi_at_call 11; refine (callsIn_wide.2 (listed_any _)).mono ?_; rintro e w1 ⟨rfl, b1⟩; obtain ⟨b1, NB⟩ := hold1 b1 ⟨rfl, rfl, rfl, rfl⟩)
  have OF := fun o => of_ls a n c xs (w1.alloc o) ((s0.below b1).alloc _) (by omega)
  have NBH := Lib.hid NB
  clear NB
  gi_wp2_with (first
    | (gi_at_call 12; refine (callsIn_wide.2 (OF _)).mono ?_; rintro e w2 ⟨q1, m1, rfl, h1, b2⟩; obtain ⟨b2, GB⟩ := hold1 b2 ⟨rfl, rfl, rfl, rfl⟩)
    | (gi_at_call 13; refine (callsIn_wide.2 (all_any _ _ _)).mono ?_; rintro e w' ⟨rfl, rfl⟩))
  clear OF
  have NB := blk_below NBH.out b2
  have B2 := below_then b1 b2
  obtain ⟨WW, hWW⟩ : ∃ WW, w2.alloc (.cells #[.pointer q1, .int .i64 m1] 28) = WW := ⟨_, rfl⟩
  have hA : Below w2.heap.size w2 WW := by rw [← hWW]; exact (Below.refl _ _).alloc (Nat.le_refl _) _
  have hz : WW.heap.size = w2.heap.size + 1 := by rw [← hWW]; simp
  have hC : WW.heap[w2.heap.size]? = some (.cells #[.pointer q1, .int .i64 m1] 28 (0, 0)) := by rw [← hWW]; exact heap_alloc_new _ _
  have hB0 := below_then B2 hA
  have hs1 := (blk NBH.out).2.2
  have hs2 := b2.size
  have NW := blk_below NB hA
  have GW := blk_below GB hA
  rw [hWW]
  clear hWW NB GB NBH b1 b2
  refine wpIn_rangeFunc_ownG rfl (by decide) (gf := 37) (lb := #[.pointer (some ⟨w2.heap.size, 0, none⟩)]) rfl trivial (enters_of Try.func37 (by kernel_rfl) rfl)
    (all_stops Fence.wide (5 - 1) trivial rfl (by decide) w2.heap.size q1 m1 xs w2 WW h1.1 (.of_below hA) hC) KeepW.trans (fun W l o o' _ h1 h2 _ => keepW_b W l o o' h1 h2) (Below.refl _ _) (fun _ => rfl)
    (fun pre W => ((∃ v, Boxed W w1.heap.size 22 v ∧ W.ownsRow (w.heap.size + 1) 3 1 v pre.length (pre.map (Value.int .i64)) ∧ True) ∧ W.heap[w.heap.size]? = some (.cells #[.int .i64 ((k : Nat) : Int)] 3 (0, 0)) ∧ ((pre.length : Int) ≤ ((k : Nat) : Int) ∨ pre = [])) ∧ Below w.heap.size w W)
    (fun cd pre W => (∃ p y, pre = p ++ [y] ∧ cd = .exit 0 ∧ (∃ v, Boxed W w1.heap.size 22 v ∧ W.ownsRow (w.heap.size + 1) 3 1 v p.length (p.map (Value.int .i64)) ∧ True) ∧ W.heap[w.heap.size]? = some (.cells #[.int .i64 ((k : Nat) : Int)] 3 (0, 0)) ∧ ((k : Nat) : Int) ≤ (p.length : Int) ∧ ((p.length : Int) ≤ ((k : Nat) : Int) ∨ p = [])) ∧ Below w.heap.size w W)
    (OwnFrom.and (Own.from (fun s A B row hs hg hr => ⟨holdsRow_own (w.heap.size + 1) w1.heap.size 22 3 1 (fun pre => pre.length) (fun pre : List Int => pre.map (Value.int .i64)) (fun _ _ => True) s A B row hs.1 hg hr, (grownBy_keeps_cells hg hr hs.2.1 rfl).trans hs.2.1, hs.2.2⟩) _) (ownFrom_below (Nat.le_refl _) (by omega)))
    (fun cd => OwnFrom.and (Own.from (fun s A B row hs hg hr => by
      obtain ⟨p, y, e1, e2, h3, h4, h5, h6⟩ := hs
      exact ⟨p, y, e1, e2, holdsRow_own (w.heap.size + 1) w1.heap.size 22 3 1 (fun pre => pre.length) (fun pre : List Int => pre.map (Value.int .i64)) (fun _ _ => True) p A B row h3 hg hr, (grownBy_keeps_cells hg hr h4 rfl).trans h4, h5, h6⟩) _) (ownFrom_below (Nat.le_refl _) (by omega)))
    ⟨⟨⟨_, GW, World.ownsRow_nil _ _ _ _, trivial⟩, NW, .inr rfl⟩, hB0⟩
    (fun x => { tmps := #[.slice a n c, .int .i64 ((k : Nat) : Int), undef, .pointer (some ⟨w.heap.size, 0, none⟩), .bool false, .bool true, .pointer (some ⟨w1.heap.size, 0, none⟩), .int .i64 x, undef, undef, .bool true, .bool true, .bool false, .slice a n c, .agg #[.pointer q1, .int .i64 m1], (.func (.func 37) #[] #[.pointer (some ⟨w2.heap.size, 0, none⟩)]), .int .i64 x, undef, undef, undef, undef, undef, undef, undef, undef, undef, undef, undef, undef, undef, undef, undef, undef, undef, undef, undef, undef, undef, undef], defers := [] }) ?assign ?body ?done ?stop
  case assign =>
    intro l x W K hK
    gi_wp2
    exact hK
  case body =>
    rintro l pre x W ⟨⟨⟨v, hv, hrow, _⟩, hN, hpre⟩, hB⟩ hlt
    have hc := hv.cell
    have hN0 := (blk hN).1 0
    have XN := Lib.hid hN
    have hsz := hB.size
    have hszb := hv.lt
    obtain ⟨av, cv, rfl, hslv⟩ := Sl.of_own hrow
    have HP := Lib.hid hpre
    clear hN hslv hpre
    by_cases hgo : ((k : Nat) : Int) ≤ (pre.length : Int)
    · gi_wp2
      exact ⟨KeepsFrom.refl _ _, ⟨pre, x, rfl, rfl, ⟨_, hv, hrow, trivial⟩, XN.out, hgo, HP.out⟩, hB⟩
    · gi_wp2_with (gi_at_builtin; refine wpListIn_append_own _ rfl _ _ 22 rfl (w.heap.size + 1) 3 i0 (.int .i64 0) 1 8 Try.underlying22 hi hz0 hz1 hz2 rfl (by decide) _ _ _ rfl (hrow.alloc _) ⟨W.heap.size, 0, none⟩ 1 1 [.int .i64 x] rfl rfl (cell_one_new _ _ _) (by simp [Value.oneCell']) (by unfold maxLen; omega) (by omega) (by simp; omega) ?_; intro v' w3 hown' hgrow _; obtain ⟨g', cap', rfl⟩ := ownsRow_succ hown'; obtain ⟨hv1, hv2, hr2, hk2, hb3⟩ := hv.appended (by decide) hrow (by omega) (by omega) hown' hgrow; have hc1 := hv1.cell; have hf1 := hv1.frozen)
      have kN : (w3.setCell ⟨w1.heap.size, 0, none⟩ (.slice (some ⟨g', 0, none⟩) (pre.length + 1) cap')).heap[w.heap.size]? = some (Obj.cells #[.int .i64 ((k : Nat) : Int)] 3 (0, 0)) := by
        exact (hb3.block w.heap.size (by omega)).trans XN.out
      have kT : KeepT 60 W (w3.setCell ⟨w1.heap.size, 0, none⟩ (.slice (some ⟨g', 0, none⟩) (pre.length + 1) cap')) := (((KeepT.refl _ _).alloc _).trans (.of_grown (hrow.alloc _) hgrow (by decide))).trans (.setCell hv1 (by decide))
      have hr3 : (w3.setCell ⟨w1.heap.size, 0, none⟩ (.slice (some ⟨g', 0, none⟩) (pre.length + 1) cap')).ownsRow (w.heap.size + 1) 3 1 (.slice (some ⟨g', 0, none⟩) (pre.length + 1) cap') (pre ++ [x]).length ((pre ++ [x]).map (Value.int .i64)) := by simpa using hr2
      exact ⟨hk2.from _, .of_keepT kT, ⟨⟨_, hv2, hr3⟩, kN, .inl (by simp only [List.length_append, List.length_cons, List.length_nil]; omega)⟩, hB.trans (hb3.mono (Nat.le_succ _))⟩
  case done =>
    rintro D ys W hD rfl ⟨⟨⟨v, hv, hrow, _⟩, hN, hpre⟩, hB⟩ hK
    have hN0 := (blk hN).1 0
    clear hN
    have hg := loop_all hpre
    have HB := Lib.hid hB
    have S0 := Lib.hid s0
    obtain ⟨a', c', rfl, hsl⟩ := Sl.of_own hrow
    have hc := hv.cell
    have SY := same_yes _ _ _ _ _ _ _ _ W hsl ((SLF.out.below HB.out)) (hg.trans (by simp))
    have HK := Lib.hid hK
    have HV := Lib.hid hv
    clear hK hv hrow hsl hg s0 hB
    gi_wp2_with (gi_at_call 14; refine (callsIn_wide.2 SY).mono ?_; rintro e wz ⟨rfl, bz⟩)
    have hKz : wz.heap[D]? = some (.deferred (some [])) := (bz.block D (Array.getElem?_eq_some_iff.1 HK.out).1).trans HK.out
    refine ⟨by simp, .inl ⟨_, _, rfl, run_takeDeferred hKz, ?_⟩⟩
    have hle := HB.out.size
    have hlz := bz.size
    exact ⟨_, results_tmp rfl _ _ _, rfl, (HB.out.trans (bz.mono hle)).trans (belowK_b (w := w) (Nat.le_refl _) wz D _ _ (by omega) hKz rfl rfl)⟩
  case stop =>
    rintro D cd pre W hD hpx ⟨⟨p, y, rfl, rfl, ⟨v, hv, hrow, _⟩, hN, h5, h6⟩, hB⟩ hK
    have hN0 := (blk hN).1 0
    clear hN
    have hg := loop_end hpx h5 h6
    have HB := Lib.hid hB
    have S0 := Lib.hid s0
    obtain ⟨a', c', rfl, hsl⟩ := Sl.of_own hrow
    have hc := hv.cell
    have SY := same_yes _ _ _ _ _ _ _ _ W hsl ((SLF.out.below HB.out)) (hg.trans (by simp))
    have HK := Lib.hid hK
    have HV := Lib.hid hv
    clear hK hv hrow hsl hg s0 hB
    gi_wp2_with (gi_at_call 14; refine (callsIn_wide.2 SY).mono ?_; rintro e wz ⟨rfl, bz⟩)
    have hKz : wz.heap[D]? = some (.deferred (some [])) := (bz.block D (Array.getElem?_eq_some_iff.1 HK.out).1).trans HK.out
    refine ⟨by simp, .inl ⟨_, _, rfl, run_takeDeferred hKz, ?_⟩⟩
    have hle := HB.out.size
    have hlz := bz.size
    exact ⟨_, results_tmp rfl _ _ _, rfl, (HB.out.trans (bz.mono hle)).trans (belowK_b (w := w) (Nat.le_refl _) wz D _ _ (by omega) hKz rfl rfl)⟩
set_option maxRecDepth 100000 in
set_option maxHeartbeats 2000000 in
theorem ListLoops_hi (a : Option Addr) (n c : Nat) (xs : List Int) (z : Int) (w : World) (s0 : Sl w a n c xs) (e0 : n ≤ 17592186043904) (hx : (n : Int) ≤ z) :
    Calls Try.prog 3 #[.slice a n c, .int .i64 z] w fun e w' => e = .returned (.bool true) ∧ Below w.heap.size w w' := by
  obtain ⟨i0, hi, hz0, hz1, hz2⟩ := info_parts Try.infoInt
  have hk0 : (0 : Int) ≤ z := by omega
  have hkn : (n : Int) ≤ z := hx
  have l0 : xs.length ≤ n := by rw [s0.hlen]; exact Nat.le_refl _
  refine (callsIn_wide (n := 5)).1 ?_
  refine callsIn_of_wp_marks Try.func3 rfl trivial ?_ rfl
  simp only [Try.ntmps3, List.size_toArray, List.length_cons, List.length_nil, Nat.reduceAdd, Nat.reduceSub, Array.replicate_succ, Array.replicate_zero, List.push_toArray, List.append_toArray, List.nil_append, List.cons_append]
  have TT : ∀ f, Fence.wide.fn f := fun _ => trivial
  have T1 := TT 11
  have T2 := TT 12
  have T3 := TT 13
  have T4 := TT 14
  gi_wp2_with (gi_at_call 11; refine (callsIn_wide.2 (listed_any _)).mono ?_; rintro e w1 ⟨rfl, b1⟩; obtain ⟨b1, NB⟩ := hold1 b1 ⟨rfl, rfl, rfl, rfl⟩)
  have OF := fun o => of_ls a n c xs (w1.alloc o) ((s0.below b1).alloc _) (by omega)
  have NBH := Lib.hid NB
  clear NB
  gi_wp2_with (first
    | (gi_at_call 12; refine (callsIn_wide.2 (OF _)).mono ?_; rintro e w2 ⟨q1, m1, rfl, h1, b2⟩; obtain ⟨b2, GB⟩ := hold1 b2 ⟨rfl, rfl, rfl, rfl⟩)
    | (gi_at_call 13; refine (callsIn_wide.2 (all_any _ _ _)).mono ?_; rintro e w' ⟨rfl, rfl⟩))
  clear OF
  have NB := blk_below NBH.out b2
  have B2 := below_then b1 b2
  obtain ⟨WW, hWW⟩ : ∃ WW, w2.alloc (.cells #[.pointer q1, .int .i64 m1] 28) = WW := ⟨_, rfl⟩
  have hA : Below w2.heap.size w2 WW := by rw [← hWW]; exact (Below.refl _ _).alloc (Nat.le_refl _) _
  have hz : WW.heap.size = w2.heap.size + 1 := by rw [← hWW]; simp
  have hC : WW.heap[w2.heap.size]? = some (.cells #[.pointer q1, .int .i64 m1] 28 (0, 0)) := by rw [← hWW]; exact heap_alloc_new _ _
  have hB0 := below_then B2 hA
  have hs1 := (blk NBH.out).2.2
  have hs2 := b2.size
  have NW := blk_below NB hA
  have GW := blk_below GB hA
  rw [hWW]
  clear hWW NB GB NBH b1 b2
  refine wpIn_rangeFunc_ownG rfl (by decide) (gf := 37) (lb := #[.pointer (some ⟨w2.heap.size, 0, none⟩)]) rfl trivial (enters_of Try.func37 (by kernel_rfl) rfl)
    (all_stops Fence.wide (5 - 1) trivial rfl (by decide) w2.heap.size q1 m1 xs w2 WW h1.1 (.of_below hA) hC) KeepW.trans (fun W l o o' _ h1 h2 _ => keepW_b W l o o' h1 h2) (Below.refl _ _) (fun _ => rfl)
    (fun pre W => ((∃ v, Boxed W w1.heap.size 22 v ∧ W.ownsRow (w.heap.size + 1) 3 1 v pre.length (pre.map (Value.int .i64)) ∧ True) ∧ W.heap[w.heap.size]? = some (.cells #[.int .i64 z] 3 (0, 0)) ∧ ((pre.length : Int) ≤ z ∨ pre = [])) ∧ Below w.heap.size w W)
    (fun cd pre W => (∃ p y, pre = p ++ [y] ∧ cd = .exit 0 ∧ (∃ v, Boxed W w1.heap.size 22 v ∧ W.ownsRow (w.heap.size + 1) 3 1 v p.length (p.map (Value.int .i64)) ∧ True) ∧ W.heap[w.heap.size]? = some (.cells #[.int .i64 z] 3 (0, 0)) ∧ z ≤ (p.length : Int) ∧ ((p.length : Int) ≤ z ∨ p = [])) ∧ Below w.heap.size w W)
    (OwnFrom.and (Own.from (fun s A B row hs hg hr => ⟨holdsRow_own (w.heap.size + 1) w1.heap.size 22 3 1 (fun pre => pre.length) (fun pre : List Int => pre.map (Value.int .i64)) (fun _ _ => True) s A B row hs.1 hg hr, (grownBy_keeps_cells hg hr hs.2.1 rfl).trans hs.2.1, hs.2.2⟩) _) (ownFrom_below (Nat.le_refl _) (by omega)))
    (fun cd => OwnFrom.and (Own.from (fun s A B row hs hg hr => by
      obtain ⟨p, y, e1, e2, h3, h4, h5, h6⟩ := hs
      exact ⟨p, y, e1, e2, holdsRow_own (w.heap.size + 1) w1.heap.size 22 3 1 (fun pre => pre.length) (fun pre : List Int => pre.map (Value.int .i64)) (fun _ _ => True) p A B row h3 hg hr, (grownBy_keeps_cells hg hr h4 rfl).trans h4, h5, h6⟩) _) (ownFrom_below (Nat.le_refl _) (by omega)))
    ⟨⟨⟨_, GW, World.ownsRow_nil _ _ _ _, trivial⟩, NW, .inr rfl⟩, hB0⟩
    (fun x => { tmps := #[.slice a n c, .int .i64 z, undef, .pointer (some ⟨w.heap.size, 0, none⟩), .bool false, .bool true, .pointer (some ⟨w1.heap.size, 0, none⟩), .int .i64 x, undef, undef, .bool true, .bool true, .bool false, .slice a n c, .agg #[.pointer q1, .int .i64 m1], (.func (.func 37) #[] #[.pointer (some ⟨w2.heap.size, 0, none⟩)]), .int .i64 x, undef, undef, undef, undef, undef, undef, undef, undef, undef, undef, undef, undef, undef, undef, undef, undef, undef, undef, undef, undef, undef, undef], defers := [] }) ?assign ?body ?done ?stop
  case assign =>
    intro l x W K hK
    gi_wp2
    exact hK
  case body =>
    rintro l pre x W ⟨⟨⟨v, hv, hrow, _⟩, hN, hpre⟩, hB⟩ hlt
    have hc := hv.cell
    have hN0 := (blk hN).1 0
    have XN := Lib.hid hN
    have hsz := hB.size
    have hszb := hv.lt
    obtain ⟨av, cv, rfl, hslv⟩ := Sl.of_own hrow
    have HP := Lib.hid hpre
    clear hN hslv hpre
    by_cases hgo : z ≤ (pre.length : Int)
    · gi_wp2
      exact ⟨KeepsFrom.refl _ _, ⟨pre, x, rfl, rfl, ⟨_, hv, hrow, trivial⟩, XN.out, hgo, HP.out⟩, hB⟩
    · gi_wp2_with (gi_at_builtin; refine wpListIn_append_own _ rfl _ _ 22 rfl (w.heap.size + 1) 3 i0 (.int .i64 0) 1 8 Try.underlying22 hi hz0 hz1 hz2 rfl (by decide) _ _ _ rfl (hrow.alloc _) ⟨W.heap.size, 0, none⟩ 1 1 [.int .i64 x] rfl rfl (cell_one_new _ _ _) (by simp [Value.oneCell']) (by unfold maxLen; omega) (by omega) (by simp; omega) ?_; intro v' w3 hown' hgrow _; obtain ⟨g', cap', rfl⟩ := ownsRow_succ hown'; obtain ⟨hv1, hv2, hr2, hk2, hb3⟩ := hv.appended (by decide) hrow (by omega) (by omega) hown' hgrow; have hc1 := hv1.cell; have hf1 := hv1.frozen)
      have kN : (w3.setCell ⟨w1.heap.size, 0, none⟩ (.slice (some ⟨g', 0, none⟩) (pre.length + 1) cap')).heap[w.heap.size]? = some (Obj.cells #[.int .i64 z] 3 (0, 0)) := by
        exact (hb3.block w.heap.size (by omega)).trans XN.out
      have kT : KeepT 60 W (w3.setCell ⟨w1.heap.size, 0, none⟩ (.slice (some ⟨g', 0, none⟩) (pre.length + 1) cap')) := (((KeepT.refl _ _).alloc _).trans (.of_grown (hrow.alloc _) hgrow (by decide))).trans (.setCell hv1 (by decide))
      have hr3 : (w3.setCell ⟨w1.heap.size, 0, none⟩ (.slice (some ⟨g', 0, none⟩) (pre.length + 1) cap')).ownsRow (w.heap.size + 1) 3 1 (.slice (some ⟨g', 0, none⟩) (pre.length + 1) cap') (pre ++ [x]).length ((pre ++ [x]).map (Value.int .i64)) := by simpa using hr2
      exact ⟨hk2.from _, .of_keepT kT, ⟨⟨_, hv2, hr3⟩, kN, .inl (by simp only [List.length_append, List.length_cons, List.length_nil]; omega)⟩, hB.trans (hb3.mono (Nat.le_succ _))⟩
  case done =>
    rintro D ys W hD rfl ⟨⟨⟨v, hv, hrow, _⟩, hN, hpre⟩, hB⟩ hK
    have hN0 := (blk hN).1 0
    clear hN
    have hg := loop_all hpre
    have HB := Lib.hid hB
    have S0 := Lib.hid s0
    obtain ⟨a', c', rfl, hsl⟩ := Sl.of_own hrow
    have hc := hv.cell
    have SY := same_yes _ _ _ _ _ _ _ _ W hsl (S0.out.below HB.out) (hg.trans (List.take_of_length_le (by have := S0.out.hlen; omega)))
    have HK := Lib.hid hK
    have HV := Lib.hid hv
    clear hK hv hrow hsl hg s0 hB
    gi_wp2_with (gi_at_call 14; refine (callsIn_wide.2 SY).mono ?_; rintro e wz ⟨rfl, bz⟩)
    have hKz : wz.heap[D]? = some (.deferred (some [])) := (bz.block D (Array.getElem?_eq_some_iff.1 HK.out).1).trans HK.out
    refine ⟨by simp, .inl ⟨_, _, rfl, run_takeDeferred hKz, ?_⟩⟩
    have hle := HB.out.size
    have hlz := bz.size
    exact ⟨_, results_tmp rfl _ _ _, rfl, (HB.out.trans (bz.mono hle)).trans (belowK_b (w := w) (Nat.le_refl _) wz D _ _ (by omega) hKz rfl rfl)⟩
  case stop =>
    rintro D cd pre W hD hpx ⟨⟨p, y, rfl, rfl, ⟨v, hv, hrow, _⟩, hN, h5, h6⟩, hB⟩ hK
    have hN0 := (blk hN).1 0
    clear hN
    have hg := loop_end hpx h5 h6
    have HB := Lib.hid hB
    have S0 := Lib.hid s0
    obtain ⟨a', c', rfl, hsl⟩ := Sl.of_own hrow
    have hc := hv.cell
    have SY := same_yes _ _ _ _ _ _ _ _ W hsl (S0.out.below HB.out) (hg.trans (List.take_of_length_le (by have := S0.out.hlen; omega)))
    have HK := Lib.hid hK
    have HV := Lib.hid hv
    clear hK hv hrow hsl hg s0 hB
    gi_wp2_with (gi_at_call 14; refine (callsIn_wide.2 SY).mono ?_; rintro e wz ⟨rfl, bz⟩)
    have hKz : wz.heap[D]? = some (.deferred (some [])) := (bz.block D (Array.getElem?_eq_some_iff.1 HK.out).1).trans HK.out
    refine ⟨by simp, .inl ⟨_, _, rfl, run_takeDeferred hKz, ?_⟩⟩
    have hle := HB.out.size
    have hlz := bz.size
    exact ⟨_, results_tmp rfl _ _ _, rfl, (HB.out.trans (bz.mono hle)).trans (belowK_b (w := w) (Nat.le_refl _) wz D _ _ (by omega) hKz rfl rfl)⟩
theorem ListLoops_walk (a0 : Option Addr) (n0 c0 : Nat) (x0 : List Int) (x1 : Int) (w : World) (s0 : Sl w a0 n0 c0 x0) (i0 : ∀ n ∈ x0, I64 n) (e0 : n0 ≤ 17592186043904) (i1 : I64 x1) :
    Calls Try.prog 3 #[.slice a0 n0 c0, .int .i64 x1] w fun e w' => e = .returned (.bool true) ∧ Below w.heap.size w w' := by
  by_cases hlo : x1 < 0
  · exact ListLoops_lo a0 n0 c0 x0 x1 w s0 e0 hlo
  · by_cases hin : x1 < (n0 : Int)
    · obtain ⟨k, rfl⟩ : ∃ k : Nat, x1 = (k : Int) := ⟨x1.toNat, by omega⟩
      exact ListLoops_mid a0 n0 c0 x0 k w s0 e0 (by omega)
    · exact ListLoops_hi a0 n0 c0 x0 x1 w s0 e0 (by omega)
end Go.Proofs.Ytooejhijdjcmkaa
