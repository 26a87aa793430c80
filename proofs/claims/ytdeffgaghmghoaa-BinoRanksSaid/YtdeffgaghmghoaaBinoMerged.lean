/-
  Binomial heaps: the trees of two, merged. Conditions: no more than 2^46 numbers in both.
-/
import Derived.Test.YtdeffgaghmghoaaBinoLink
import Derived.Test.YtdeffgaghmghoaaFull
namespace Go.Proofs.Ytdeffgaghmghoaa
open Go.RowKit Go.Deep
set_option linter.unusedVariables false
namespace BN
theorem bin_length : ∀ (r : Nat) (f : BF), BF.Bin r f → f.trees.length = r := by
  intro r
  induction r with
  | zero => rintro f rfl; rfl
  | succ r ih =>
    rintro f ⟨x, k, n, rfl, _, hn⟩
    simp [BF.trees, ih n hn]
theorem rank_small {t : Tr} (h : BinT t) (hs : (allT t).length ≤ 70368744177664) : t.2.1 ≤ 46 := by
  rw [allT_size h] at hs
  by_cases h46 : t.2.1 ≤ 46
  · exact h46
  · have : 2 ^ 47 ≤ 2 ^ t.2.1 := Nat.pow_le_pow_right (by decide) (by omega)
    have e : (2 : Nat) ^ 47 = 140737488355328 := by decide
    omega
theorem rise_len : ∀ (l : List Tr) (k : Nat), l.Pairwise (fun a b => a.2.1 < b.2.1) → (∀ t ∈ l, k ≤ t.2.1 ∧ t.2.1 ≤ 46) → k ≤ 47 → l.length + k ≤ 47 := by
  intro l
  induction l with
  | nil => intro k _ _ h; simpa using h
  | cons t l ih =>
    intro k h1 h2 h3
    have a := h2 t (List.mem_cons_self ..)
    have b := ih (t.2.1 + 1) (List.pairwise_cons.1 h1).2 (fun s hs => ⟨(List.pairwise_cons.1 h1).1 s hs, (h2 s (List.mem_cons_of_mem _ hs)).2⟩) (by omega)
    rw [List.length_cons]
    omega
theorem allT_le' {t : Tr} {ts : List Tr} (h : t ∈ ts) : (allT t).length ≤ (allL ts).length := by
  obtain ⟨pre, post, rfl⟩ := List.append_of_mem h
  rw [allL_append, allL_cons, List.length_append, List.length_append]
  omega
theorem good_len {l : List Tr} (h : GoodL l) (hs : (allL l).length ≤ 70368744177664) : l.length ≤ 47 :=
  rise_len l 0 h.rise (fun t ht => ⟨Nat.zero_le _, rank_small (h.bin t ht) (by have := allT_le' ht; omega)⟩) (by omega)
theorem allT_pos (t : Tr) : 1 ≤ (allT t).length := by simp [allT]
theorem good_tail {t : Tr} {l : List Tr} (h : GoodL (t :: l)) : GoodL l := ⟨fun s hs => h.ok s (List.mem_cons_of_mem _ hs), fun s hs => h.bin s (List.mem_cons_of_mem _ hs), (List.pairwise_cons.1 h.rise).2⟩
theorem length_all (l : List Tr) : l.length ≤ (allL l).length := by
  induction l with
  | nil => exact Nat.le_refl _
  | cons t l ih =>
    rw [allL_cons, List.length_append, List.length_cons]
    have := allT_pos t
    omega
theorem allL_len (t : Tr) (l : List Tr) : (allL (t :: l)).length = (allT t).length + (allL l).length := by rw [allL_cons, List.length_append]
theorem mg_count {a b m : List Tr} (h : Mg a b m) : (allL m).length = (allL a).length + (allL b).length := by
  have := (mg_all h).length_eq
  rwa [List.length_append] at this

theorem Pl.lit (w : World) (p : Option Addr) : Pl (w.alloc (.cells #[.pointer p] 42)) (some ⟨w.heap.size, 0, none⟩) 1 1 [p] :=
  ⟨rfl, Nat.le_refl _, by decide, fun _ => ⟨w.heap.size, 0, _, rfl, heap_alloc_new _ _, fun j hj => by
    obtain rfl : j = 0 := by omega
    rfl⟩⟩
theorem bnd1 {k v a b : Nat} (h : v ≤ a + b) (e : k = v) (hs : a + b ≤ 1099511627776) : 1 + k ≤ maxLen := by simp only [maxLen]; omega
theorem bnd2 {k v a b : Nat} (h : v ≤ a + b) (e : k = v) (hs : a + b ≤ 1099511627776) : (1 + k) * 8 ≤ 140737488355328 := by omega
theorem Try.elemTrees : Try.prog.elem 24 = 42 := by kernel_rfl
theorem Try.sizeTree (w : World) : (sizeOf 42).run Try.prog w = .ok 1 w := by kernel_rfl
theorem Try.underTrees : Try.prog.underlying 24 = some (.slice (Try.prog.elem 24)) := by kernel_rfl
theorem Try.slice_trees (a : Option Addr) (n c k : Nat) (hk : k ≤ n) (w : World) : (Instr.slice 24 (.slice a n c) (some (.int .i64 (k : Int))) none none).run Try.prog w = .ok (.slice (cutAt a c k) (n - k) (c - k)) w := by
  rw [run_slice_l (ht := by rw [Try.elemTrees]; exact Try.underlying24) (h0 := by omega) (h1 := by omega), Try.elemTrees, Try.sizeTree]
  simp only [Result.andThen, sliced, Int.toNat_natCast, Nat.mul_one, cutAt]
set_option maxHeartbeats 2000000 in
theorem merged_any : ∀ (N : Nat) (ts us : List Tr) (a : Option Addr) (n c : Nat) (ps : List (Option Addr)) (b : Option Addr) (m d : Nat) (qs : List (Option Addr)) (w : World), ts.length + us.length ≤ N →
    Pl w a n c ps → InL w ps ts → Pl w b m d qs → InL w qs us → GoodL ts → GoodL us → (allL ts).length + (allL us).length ≤ 70368744177664 →
    Calls Try.prog 18 #[.slice a n c, .slice b m d] w fun e w' => ∃ o k cc rs vs, e = .returned (.slice o k cc) ∧ Pl w' o k cc rs ∧ InL w' rs vs ∧ Mg ts us vs ∧ Below w.heap.size w w' := by
  obtain ⟨i0, hi0, hz0, hz1, hz2⟩ := info_parts Try.infoTree
  intro N
  induction N with
  | zero =>
    intro ts us a n c ps b m d qs w hN p1 k1 p2 k2 g1 g2 hs
    obtain rfl : ts = [] := List.eq_nil_of_length_eq_zero (by omega)
    have hn : n = 0 := by have := p1.hlen; have := k1.length; simp only [List.length_nil] at this; omega
    subst hn
    have P2 := Lib.hid p2
    have K2 := Lib.hid k2
    clear p1 p2 k1 k2
    go_enter Try.func18, Try.ntmps18
    go_wp2_with fail
    go_ret
    exact ⟨b, m, d, qs, us, rfl, P2.out, K2.out, .left us, Below.refl _ _⟩
  | succ N ih =>
    intro ts us a n c ps b m d qs w hN p1 k1 p2 k2 g1 g2 hs
    have P1 := Lib.hid p1
    have P2 := Lib.hid p2
    have K1 := Lib.hid k1
    have K2 := Lib.hid k2
    have hn1 : n = ts.length := by have := p1.hlen; have := k1.length; omega
    have hm1 : m = us.length := by have := p2.hlen; have := k2.length; omega
    cases ts with
    | nil =>
      simp only [List.length_nil] at hn1
      subst hn1
      clear p1 p2 k1 k2
      go_enter Try.func18, Try.ntmps18
      go_wp2_with fail
      go_ret
      exact ⟨b, m, d, qs, us, rfl, P2.out, K2.out, .left us, Below.refl _ _⟩
    | cons t ts =>
      cases us with
      | nil =>
        simp only [List.length_nil] at hm1
        subst hm1
        have hn0 : (0 : Int) < (n : Int) := by rw [hn1]; simp only [List.length_cons]; omega
        have HN := Lib.hid hn1
        clear p1 p2 k1 k2 hn1
        go_enter Try.func18, Try.ntmps18
        go_wp2_with fail
        go_ret
        exact ⟨a, n, c, ps, t :: ts, rfl, P1.out, K1.out, .right _, Below.refl _ _⟩
      | cons u us =>
        cases ps with
        | nil => exact k1.elim
        | cons p ps =>
        cases qs with
        | nil => exact k2.elim
        | cons q qs =>
        obtain ⟨⟨b1, ks1, a1, m1, c1, rfl, h1, l1, j1⟩, k1⟩ := k1
        obtain ⟨⟨b2, ks2, a2, m2, c2, rfl, h2, l2, j2⟩, k2⟩ := k2
        have c10 := (blk h1).1 1
        have c20 := (blk h2).1 1
        have d1 := (blk h1).2.2
        have d2 := (blk h2).2.2
        have hn0 : 0 < n := by rw [hn1]; simp
        have hm0 : 0 < m := by rw [hm1]; simp
        obtain ⟨bb, off, rfl, hbl, hc⟩ := p1.cell hn0
        obtain ⟨bb2, off2, rfl, hbl2, hc2⟩ := p2.cell hm0
        have g10 := hc 0 hn0
        have g20 := hc2 0 hm0
        simp only [Nat.add_zero, List.getElem?_cons_zero, Option.getD_some] at g10 g20
        clear hc hc2
        have hni : (0 : Int) < (n : Int) := by omega
        have hmi : (0 : Int) < (m : Int) := by omega
        rw [allL_len, allL_len] at hs
        simp only [List.length_cons] at hN hn1 hm1
        have lt1 := allT_pos t
        have lt2 := allT_pos u
        have le1 := good_len (good_tail g1) (by omega)
        have le2 := good_len (good_tail g2) (by omega)
        by_cases hlt : t.2.1 < u.2.1
        · have hd : decide ((t.2.1 : Int) < (u.2.1 : Int)) = true := by simp [hlt]
          have hdn : decide (t.2.1 < u.2.1) = true := by simp [hlt]
          have C : ∀ W, Below w.heap.size w W → Calls Try.prog 18 #[.slice (cutAt (some ⟨bb, off, none⟩) c 1) (n - 1) (c - 1), .slice (some ⟨bb2, off2, none⟩) m d] W (fun e w' => ∃ o k cc rs vs, e = .returned (.slice o k cc) ∧ Pl w' o k cc rs ∧ InL w' rs vs ∧ Mg ts (u :: us) vs ∧ Below W.heap.size W w' ∧ Below w.heap.size w w') := fun W hW =>
            (ih ts (u :: us) _ _ _ _ _ _ _ _ W (by simp only [List.length_cons]; omega) ((show Pl w _ _ _ ps by simpa using p1.rest (k := 1) (by omega)).below hW) (k1.below hW) (p2.below hW) (K2.out.below hW) (good_tail g1) g2 (by rw [allL_len]; omega)).mono
              fun e w' ⟨o, k, cc, rs, vs, h1, h2, h3, h4, h5⟩ => ⟨o, k, cc, rs, vs, h1, h2, h3, h4, h5, below_then hW h5⟩
          obtain ⟨of1, hof1, hof2⟩ : ∃ o' : Nat, cutAt (some ⟨bb, off, none⟩) c 1 = some ⟨bb, o', none⟩ ∧ (if c = 1 then (some ⟨bb, off, none⟩ : Option Addr) else some ⟨bb, off + 1, none⟩) = some ⟨bb, o', none⟩ := by
            by_cases hc1 : c = 1
            · exact ⟨off, by simp [cutAt, hc1], by simp [hc1]⟩
            · exact ⟨off + 1, by simp [cutAt, hc1, Addr.add], by simp [hc1]⟩
          rw [hof1] at C
          clear hof1
          have hni1 : (1 : Int) ≤ (n : Int) := by omega
          have hnc : (n : Int) ≤ (c : Int) := by have := p1.hcap; omega
          have HN := Lib.hid hn1
          have HM := Lib.hid hm1
          have CC := Lib.hid C
          have H1 := Lib.hid h1
          have L1 := Lib.hid l1
          have J1 := Lib.hid j1
          have H2 := Lib.hid h2
          have L2 := Lib.hid l2
          have J2 := Lib.hid j2
          have LT := Lib.hid hlt
          clear C h1 h2 l1 l2 j1 j2 g1 g2 p1 p2 k1 k2 hlt K1 K2 P1 P2 ih hn1 hm1
          go_enter Try.func18, Try.ntmps18
          go_wp2_with fail
          go_quiet (fail)
          go_wp2_with fail
          go_region_held3 (fun w' => w'.cell? ⟨bb, off, none⟩ = some (.pointer (some ⟨b1, 0, none⟩))) (go_keep) (first
            | (go_at_call 18; refine (CC.out _ (by first | exact Below.refl _ _ | exact below_drewN (Below.refl _ _) _ | exact (below_drewN (Below.refl _ _) _).alloc (Nat.le_refl _) _ | exact (Below.refl w.heap.size w).alloc (Nat.le_refl _) _)).mono ?_; rintro e w2 ⟨o, k, cc, rs, vs, rfl, p3, k3, mg, b3, bw⟩; have zz := (bw.cell (p := ⟨bb, off, none⟩) hbl).trans g10; have R3 := Lib.hid p3.reads; have hk3 : k = vs.length := (by have := p3.hlen; have := k3.length; omega); have hk4 := mg_length mg; have B3 := Lib.hid b3; have bz := bw.size; have Z3 := Lib.hid k3; have MG := Lib.hid mg; have HK := Lib.hid hk3; clear k3 p3 b3 mg hk3)
            | (refine step_append_full _ rfl (.tmp 32) (.tmp 36) 24 rfl w.heap.size 42 i0 (.pointer none) 1 8 Try.underlying24 hi0 hz0 hz1 hz2 rfl (by decide) w.heap.size 1 [.pointer (some ⟨b1, 0, none⟩)] rfl (by have B4 := B3.out; first | exact own_keep (World.ownsRow_lit (base := w.heap.size) (e := 42) (size := 1) (w.drewN _) #[.pointer (some ⟨b1, 0, none⟩)] 1 (Nat.le_refl _) (by decide) rfl) (.of_below B4) | exact own_keep (World.ownsRow_lit (base := w.heap.size) (e := 42) (size := 1) ((w.drewN _).drewN _) #[.pointer (some ⟨b1, 0, none⟩)] 1 (Nat.le_refl _) (by decide) rfl) (.of_below B4)) w2.heap.size o k cc _ rfl R3.out (by have := HK.out; exact BN.bnd1 hk4 this (by have := HN.out; have := HM.out; simp only [List.length_cons]; omega)) (by have := HK.out; exact BN.bnd2 hk4 this (by have := HN.out; have := HM.out; simp only [List.length_cons]; omega)) bz ?_; intro v2 w3 hown3 hg3; have y3 := (Below.refl w2.heap.size w2).grown hg3 (Nat.le_refl _) (by simp); have z3 := (below_then bw y3); have zy := (z3.cell (p := ⟨bb, off, none⟩) hbl).trans g10)
            | (refine step_append_full _ rfl (.tmp 32) (.tmp 36) 24 rfl w.heap.size 42 i0 (.pointer none) 1 8 Try.underlying24 hi0 hz0 hz1 hz2 rfl (by decide) w2.heap.size 1 [.pointer (some ⟨b1, 0, none⟩)] rfl (by exact World.ownsRow_lit (base := w.heap.size) (e := 42) (size := 1) _ #[.pointer (some ⟨b1, 0, none⟩)] 1 bz (by decide) rfl) w2.heap.size o k cc _ rfl (by exact R3.out.alloc (Nat.le_refl _) _) (by have := HK.out; exact BN.bnd1 hk4 this (by have := HN.out; have := HM.out; simp only [List.length_cons]; omega)) (by have := HK.out; exact BN.bnd2 hk4 this (by have := HN.out; have := HM.out; simp only [List.length_cons]; omega)) (by simp; omega) ?_; intro v2 w3 hown3 hg3; have y3 := ((Below.refl w2.heap.size w2).alloc (Nat.le_refl _) _).grown hg3 (by simp) (by simp); have z3 := (below_then bw y3); have zy := (z3.cell (p := ⟨bb, off, none⟩) hbl).trans g10))
          all_goals
            go_wp2_with fail
            go_ret
            obtain ⟨a5, k5, rfl, P5⟩ := Pl.of_own (ps := some ⟨b1, 0, none⟩ :: rs) (n := 1 + k) (by simpa using hown3)
            exact ⟨a5, _, k5, some ⟨b1, 0, none⟩ :: rs, t :: vs, rfl, P5, ⟨⟨b1, ks1, a1, m1, c1, rfl, blk_below H1.out z3, L1.out.below z3, J1.out.below z3⟩, Z3.out.below y3⟩, .low LT.out MG.out, z3⟩
        · by_cases hgt : u.2.1 < t.2.1
          · have hd : decide ((t.2.1 : Int) < (u.2.1 : Int)) = false := by simp; omega
            have hdn : decide (t.2.1 < u.2.1) = false := by simp; omega
            have hdm : decide (u.2.1 < t.2.1) = true := by simp; omega
            have hd2 : decide ((u.2.1 : Int) < (t.2.1 : Int)) = true := by simp [hgt]
            have C : ∀ W, Below w.heap.size w W → Calls Try.prog 18 #[.slice (some ⟨bb, off, none⟩) n c, .slice (cutAt (some ⟨bb2, off2, none⟩) d 1) (m - 1) (d - 1)] W (fun e w' => ∃ o k cc rs vs, e = .returned (.slice o k cc) ∧ Pl w' o k cc rs ∧ InL w' rs vs ∧ Mg (t :: ts) us vs ∧ Below W.heap.size W w' ∧ Below w.heap.size w w') := fun W hW =>
              (ih (t :: ts) us _ _ _ _ _ _ _ _ W (by simp only [List.length_cons]; omega) (p1.below hW) (K1.out.below hW) ((show Pl w _ _ _ qs by simpa using p2.rest (k := 1) (by omega)).below hW) (k2.below hW) g1 (good_tail g2) (by rw [allL_len]; omega)).mono
                fun e w' ⟨o, k, cc, rs, vs, h1, h2, h3, h4, h5⟩ => ⟨o, k, cc, rs, vs, h1, h2, h3, h4, h5, below_then hW h5⟩
            obtain ⟨of1, hof1, hof2⟩ : ∃ o' : Nat, cutAt (some ⟨bb2, off2, none⟩) d 1 = some ⟨bb2, o', none⟩ ∧ (if d = 1 then (some ⟨bb2, off2, none⟩ : Option Addr) else some ⟨bb2, off2 + 1, none⟩) = some ⟨bb2, o', none⟩ := by
              by_cases hc1 : d = 1
              · exact ⟨off2, by simp [cutAt, hc1], by simp [hc1]⟩
              · exact ⟨off2 + 1, by simp [cutAt, hc1, Addr.add], by simp [hc1]⟩
            rw [hof1] at C
            clear hof1
            have hni1 : (1 : Int) ≤ (m : Int) := by omega
            have hnc : (m : Int) ≤ (d : Int) := by have := p2.hcap; omega
            have HN := Lib.hid hn1
            have HM := Lib.hid hm1
            have CC := Lib.hid C
            have H1 := Lib.hid h1
            have L1 := Lib.hid l1
            have J1 := Lib.hid j1
            have H2 := Lib.hid h2
            have L2 := Lib.hid l2
            have J2 := Lib.hid j2
            have LT := Lib.hid hgt
            clear C h1 h2 l1 l2 j1 j2 g1 g2 p1 p2 k1 k2 hlt K1 K2 P1 P2 ih hn1 hm1 hgt
            go_enter Try.func18, Try.ntmps18
            go_wp2_with fail
            go_quiet (fail)
            go_wp2_with fail
            go_quiet (fail)
            go_wp2_with fail
            go_region_held3 (fun w' => w'.cell? ⟨bb2, off2, none⟩ = some (.pointer (some ⟨b2, 0, none⟩))) (go_keep) (first
              | (go_at_call 18; refine (CC.out _ (by first | exact Below.refl _ _ | exact below_drewN (Below.refl _ _) _ | exact (below_drewN (Below.refl _ _) _).alloc (Nat.le_refl _) _ | exact (Below.refl w.heap.size w).alloc (Nat.le_refl _) _)).mono ?_; rintro e w2 ⟨o, k, cc, rs, vs, rfl, p3, k3, mg, b3, bw⟩; have zz := (bw.cell (p := ⟨bb2, off2, none⟩) hbl2).trans g20; have R3 := Lib.hid p3.reads; have hk3 : k = vs.length := (by have := p3.hlen; have := k3.length; omega); have hk4 := mg_length mg; have B3 := Lib.hid b3; have bz := bw.size; have Z3 := Lib.hid k3; have MG := Lib.hid mg; have HK := Lib.hid hk3; clear k3 p3 b3 mg hk3)
              | (refine step_append_full _ rfl (.tmp 55) (.tmp 59) 24 rfl w.heap.size 42 i0 (.pointer none) 1 8 Try.underlying24 hi0 hz0 hz1 hz2 rfl (by decide) w.heap.size 1 [.pointer (some ⟨b2, 0, none⟩)] rfl (by have B4 := B3.out; first | exact own_keep (World.ownsRow_lit (base := w.heap.size) (e := 42) (size := 1) (w.drewN _) #[.pointer (some ⟨b2, 0, none⟩)] 1 (Nat.le_refl _) (by decide) rfl) (.of_below B4) | exact own_keep (World.ownsRow_lit (base := w.heap.size) (e := 42) (size := 1) ((w.drewN _).drewN _) #[.pointer (some ⟨b2, 0, none⟩)] 1 (Nat.le_refl _) (by decide) rfl) (.of_below B4)) w2.heap.size o k cc _ rfl R3.out (by have := HK.out; exact BN.bnd1 hk4 this (by have := HN.out; have := HM.out; simp only [List.length_cons]; omega)) (by have := HK.out; exact BN.bnd2 hk4 this (by have := HN.out; have := HM.out; simp only [List.length_cons]; omega)) bz ?_; intro v2 w3 hown3 hg3; have y3 := (Below.refl w2.heap.size w2).grown hg3 (Nat.le_refl _) (by simp); have z3 := (below_then bw y3); have zy := (z3.cell (p := ⟨bb2, off2, none⟩) hbl2).trans g20)
              | (refine step_append_full _ rfl (.tmp 55) (.tmp 59) 24 rfl w.heap.size 42 i0 (.pointer none) 1 8 Try.underlying24 hi0 hz0 hz1 hz2 rfl (by decide) w2.heap.size 1 [.pointer (some ⟨b2, 0, none⟩)] rfl (by exact World.ownsRow_lit (base := w.heap.size) (e := 42) (size := 1) _ #[.pointer (some ⟨b2, 0, none⟩)] 1 bz (by decide) rfl) w2.heap.size o k cc _ rfl (by exact R3.out.alloc (Nat.le_refl _) _) (by have := HK.out; exact BN.bnd1 hk4 this (by have := HN.out; have := HM.out; simp only [List.length_cons]; omega)) (by have := HK.out; exact BN.bnd2 hk4 this (by have := HN.out; have := HM.out; simp only [List.length_cons]; omega)) (by simp; omega) ?_; intro v2 w3 hown3 hg3; have y3 := ((Below.refl w2.heap.size w2).alloc (Nat.le_refl _) _).grown hg3 (by simp) (by simp); have z3 := (below_then bw y3); have zy := (z3.cell (p := ⟨bb2, off2, none⟩) hbl2).trans g20))
            all_goals
              go_wp2_with fail
              go_ret
              obtain ⟨a5, k5, rfl, P5⟩ := Pl.of_own (ps := some ⟨b2, 0, none⟩ :: rs) (n := 1 + k) (by simpa using hown3)
              exact ⟨a5, _, k5, some ⟨b2, 0, none⟩ :: rs, u :: vs, rfl, P5, ⟨⟨b2, ks2, a2, m2, c2, rfl, blk_below H2.out z3, L2.out.below z3, J2.out.below z3⟩, Z3.out.below y3⟩, .high LT.out MG.out, z3⟩
          · have heq : t.2.1 = u.2.1 := by omega
            have hd : decide ((t.2.1 : Int) < (u.2.1 : Int)) = false := by simp; omega
            have hdn : decide (t.2.1 < u.2.1) = false := by simp; omega
            have hdm : decide (u.2.1 < t.2.1) = false := by simp; omega
            have hd2 : decide ((u.2.1 : Int) < (t.2.1 : Int)) = false := by simp; omega
            have bt := g1.bin t (List.mem_cons_self ..)
            have bu := g2.bin u (List.mem_cons_self ..)
            have ot := g1.ok t (List.mem_cons_self ..)
            have ou := g2.ok u (List.mem_cons_self ..)
            have rt := rank_small bt (by omega)
            have ru := rank_small bu (by omega)
            have it : InT w (some ⟨b1, 0, none⟩) t := ⟨b1, ks1, a1, m1, c1, rfl, h1, l1, j1⟩
            have iu : InT w (some ⟨b2, 0, none⟩) u := ⟨b2, ks2, a2, m2, c2, rfl, h2, l2, j2⟩
            have lk := link_bin bt bu heq
            have lc := (link_all t u).length_eq
            rw [List.length_append] at lc
            have L : ∀ W, Below w.heap.size w W → Calls Try.prog 25 #[.pointer (some ⟨b1, 0, none⟩), .pointer (some ⟨b2, 0, none⟩)] W (fun e w' => ∃ p, e = .returned (.pointer p) ∧ InT w' p (link t u) ∧ Below W.heap.size W w' ∧ Below w.heap.size w w') := fun W hW =>
              (link_any t u _ _ W (it.below hW) (iu.below hW) (by omega) (by omega) (by rw [bin_length _ _ bt]; omega) (by rw [bin_length _ _ bu]; omega)).mono fun e w' ⟨p, h1, h2, h3⟩ => ⟨p, h1, h2, h3, below_then hW h3⟩
            have C : ∀ W, Below w.heap.size w W → Calls Try.prog 18 #[.slice (cutAt (some ⟨bb, off, none⟩) c 1) (n - 1) (c - 1), .slice (cutAt (some ⟨bb2, off2, none⟩) d 1) (m - 1) (d - 1)] W (fun e w' => ∃ o k cc rs vs, e = .returned (.slice o k cc) ∧ Pl w' o k cc rs ∧ InL w' rs vs ∧ Mg ts us vs ∧ Below W.heap.size W w' ∧ Below w.heap.size w w') := fun W hW =>
              (ih ts us _ _ _ _ _ _ _ _ W (by omega) ((show Pl w _ _ _ ps by simpa using p1.rest (k := 1) (by omega)).below hW) (k1.below hW) ((show Pl w _ _ _ qs by simpa using p2.rest (k := 1) (by omega)).below hW) (k2.below hW) (good_tail g1) (good_tail g2) (by omega)).mono
                fun e w' ⟨o, k, cc, rs, vs, h1, h2, h3, h4, h5⟩ => ⟨o, k, cc, rs, vs, h1, h2, h3, h4, h5, below_then hW h5⟩
            have D : ∀ (W : World) (g : Nat) (o : Option Addr) (k cc : Nat) (rs : List (Option Addr)) (vs : List Tr) (pl : Option Addr), Pl W (some ⟨g, 0, none⟩) 1 1 [pl] → InT W pl (link t u) → Pl W o k cc rs → InL W rs vs → Mg ts us vs → Below w.heap.size w W →
                Calls Try.prog 18 #[.slice (some ⟨g, 0, none⟩) 1 1, .slice o k cc] W (fun e w' => ∃ o k cc rs vs, e = .returned (.slice o k cc) ∧ Pl w' o k cc rs ∧ InL w' rs vs ∧ Mg (t :: ts) (u :: us) vs ∧ Below W.heap.size W w' ∧ Below w.heap.size w w') := fun W g o k cc rs vs pl q1 q2 q3 q4 q5 hW =>
              (ih [link t u] vs _ _ _ _ _ _ _ _ W (by have := mg_length q5; simp only [List.length_cons, List.length_nil]; omega) q1 ⟨q2, trivial⟩ q3 q4
                ⟨fun s hs => by rw [List.mem_singleton] at hs; subst hs; exact link_ok ot ou, fun s hs => by rw [List.mem_singleton] at hs; subst hs; exact lk.1, List.pairwise_singleton _ _⟩ (mg_good q5 (good_tail g1) (good_tail g2)) (by rw [allL_len, mg_count q5, lc]; have e0 : (allL []).length = 0 := rfl; rw [e0]; omega)).mono
                fun e w' ⟨o, k, cc, rs, vs', h1, h2, h3, h4, h5⟩ => ⟨o, k, cc, rs, vs', h1, h2, h3, .same heq q5 h4, h5, below_then hW h5⟩
            obtain ⟨of1, hof1, hof2⟩ : ∃ o' : Nat, cutAt (some ⟨bb, off, none⟩) c 1 = some ⟨bb, o', none⟩ ∧ (if c = 1 then (some ⟨bb, off, none⟩ : Option Addr) else some ⟨bb, off + 1, none⟩) = some ⟨bb, o', none⟩ := by
              by_cases hc1 : c = 1
              · exact ⟨off, by simp [cutAt, hc1], by simp [hc1]⟩
              · exact ⟨off + 1, by simp [cutAt, hc1, Addr.add], by simp [hc1]⟩
            obtain ⟨of2, hof3, hof4⟩ : ∃ o' : Nat, cutAt (some ⟨bb2, off2, none⟩) d 1 = some ⟨bb2, o', none⟩ ∧ (if d = 1 then (some ⟨bb2, off2, none⟩ : Option Addr) else some ⟨bb2, off2 + 1, none⟩) = some ⟨bb2, o', none⟩ := by
              by_cases hc1 : d = 1
              · exact ⟨off2, by simp [cutAt, hc1], by simp [hc1]⟩
              · exact ⟨off2 + 1, by simp [cutAt, hc1, Addr.add], by simp [hc1]⟩
            rw [hof1, hof3] at C
            clear hof1 hof3
            have hni1 : (1 : Int) ≤ (n : Int) := by omega
            have hnc : (n : Int) ≤ (c : Int) := by have := p1.hcap; omega
            have hmi1 : (1 : Int) ≤ (m : Int) := by omega
            have hmd : (m : Int) ≤ (d : Int) := by have := p2.hcap; omega
            have LL := Lib.hid L
            have CC := Lib.hid C
            have DD := Lib.hid D
            clear L C D h1 h2 l1 l2 j1 j2 g1 g2 p1 p2 k1 k2 hlt hgt K1 K2 P1 P2 ih hn1 hm1 bt bu ot ou it iu lk lc heq rt ru hs hN lt1 lt2 le1 le2
            go_enter Try.func18, Try.ntmps18
            go_wp2_with fail
            go_quiet (fail)
            go_wp2_with fail
            go_quiet (fail)
            go_wp2_with fail
            go_region_held3 (fun w' => w'.cell? ⟨bb, off, none⟩ = some (.pointer (some ⟨b1, 0, none⟩)) ∧ w'.cell? ⟨bb2, off2, none⟩ = some (.pointer (some ⟨b2, 0, none⟩))) (go_keep) (first
              | (go_at_call 25; refine (LL.out _ (by first | exact Below.refl _ _ | exact below_drewN (Below.refl _ _) _ | exact below_drewN (below_drewN (Below.refl _ _) _) _ | exact BWL.out.alloc BWL.out.size _ | exact BWL.out | exact BW3.out)).mono ?_; rintro e wl ⟨pl, rfl, hil, bl, bwl⟩; have y10 := (bwl.cell (p := ⟨bb, off, none⟩) hbl).trans g10; have y20 := (bwl.cell (p := ⟨bb2, off2, none⟩) hbl2).trans g20; have BL := Lib.hid bl; have BWL := Lib.hid bwl; have HIL := Lib.hid hil; have zl := bwl.size; clear hil bl bwl)
              | (have _t := Z3; go_at_call 18; refine (DD.out _ _ o k cc rs vs pl (by first | exact Pl.lit _ _ | exact (Pl.lit _ _).below B3.out) (by first | exact (HIL.out.below ((Below.refl _ _).alloc (Nat.le_refl _) _)).below B3.out | exact (HIL.out.below B3.out).below ((Below.refl _ _).alloc (Nat.le_refl _) _) | exact HIL.out.below ((Below.refl _ _).alloc (Nat.le_refl _) _)) (by first | exact P3.out | exact P3.out.below ((Below.refl _ _).alloc (Nat.le_refl _) _) | exact (P3.out.below BL.out).below ((Below.refl _ _).alloc (Nat.le_refl _) _)) (by first | exact Z3.out | exact Z3.out.below ((Below.refl _ _).alloc (Nat.le_refl _) _) | exact (Z3.out.below BL.out).below ((Below.refl _ _).alloc (Nat.le_refl _) _)) MG.out (by first | exact BW3.out | exact BW3.out.alloc BW3.out.size _ | exact BWL.out.alloc BWL.out.size _)).mono ?_; rintro e w5 ⟨o5, k5, cc5, rs5, vs5, rfl, p5, i5, mg5, b5, bw5⟩; have x10 := (bw5.cell (p := ⟨bb, off, none⟩) hbl).trans g10; have x20 := (bw5.cell (p := ⟨bb2, off2, none⟩) hbl2).trans g20)
              | (go_at_call 18; refine (CC.out _ (by first | exact Below.refl _ _ | exact below_drewN (Below.refl _ _) _ | exact below_drewN (below_drewN (Below.refl _ _) _) _ | exact BWL.out.alloc BWL.out.size _ | exact BWL.out | exact BW3.out)).mono ?_; rintro e w2 ⟨o, k, cc, rs, vs, rfl, p3, k3, mg, b3, bw⟩; have z10 := (bw.cell (p := ⟨bb, off, none⟩) hbl).trans g10; have z20 := (bw.cell (p := ⟨bb2, off2, none⟩) hbl2).trans g20; have B3 := Lib.hid b3; have BW3 := Lib.hid bw; have bz := bw.size; have Z3 := Lib.hid k3; have P3 := Lib.hid p3; have MG := Lib.hid mg; clear k3 p3 b3 mg bw))
            all_goals
              go_wp2_with fail
              go_ret
              exact ⟨o5, k5, cc5, rs5, vs5, rfl, p5, i5, mg5, bw5⟩
end BN
end Go.Proofs.Ytdeffgaghmghoaa
