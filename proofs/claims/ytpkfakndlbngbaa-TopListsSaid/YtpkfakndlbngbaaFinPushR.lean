/-
  Finger trees: a thing behind. Conditions: at most 2^44 numbers.
-/
import Derived.Test.YtpkfakndlbngbaaFinPushL
namespace Go.Proofs.Ytpkfakndlbngbaa
open Go.RowKit Go.Deep
open Go.Proofs.Ytpkfakndlbngbaa.MN
set_option linter.unusedVariables false
namespace FG

theorem own_mono {w : World} {base base' : Nat} {e : TypeId} {size : Nat} {v : Value} {n : Nat} {xs : List Value} (h : w.ownsRow base e size v n xs) (hb : base' ≤ base) : w.ownsRow base' e size v n xs := by
  refine ⟨h.1, ?_⟩
  rcases h.2 with hn | ⟨g, cap, cur, hv, hg, r⟩
  · exact .inl hn
  · exact .inr ⟨g, cap, cur, hv, Nat.le_trans hb hg, r⟩
theorem Pl.lit (w : World) (p : Option Addr) : Pl (w.alloc (.cells #[.pointer p] 84)) (some ⟨w.heap.size, 0, none⟩) 1 1 [p] :=
  ⟨rfl, Nat.le_refl _, by decide, fun _ => ⟨w.heap.size, 0, _, rfl, heap_alloc_new _ _, fun j hj => by
    obtain rfl : j = 0 := by omega
    rfl⟩⟩
set_option maxHeartbeats 1000000 in
theorem clone_any (a : Option Addr) (n c : Nat) (xs : List Value) (w : World) (r : Reads w w.heap.size 1 a n xs) (o : ∀ u ∈ xs, u.oneCell' = true) (hs : n ≤ 8796093022208) :
    Calls Try.prog 55 #[.slice a n c] w fun e w' => ∃ v, e = .returned v ∧ w'.ownsRow w.heap.size 84 1 v n xs ∧ Below w.heap.size w w' := by
  obtain ⟨i0, hi0, hz0, hz1, hz2⟩ := info_parts Try.infoThing
  cases a with
  | none =>
    have hn : n = 0 := by
      rcases Nat.eq_zero_or_pos n with h | h
      · exact h
      · obtain ⟨ad, e, _⟩ := r.2 h; cases e
    subst hn
    have hx : xs = [] := by have := r.1; simpa using this
    subst hx
    have q := fun W => eql_things_nil none 0 c W
    simp only [Option.isNone_none] at q
    go_enter Try.func55, Try.ntmps55
    go_wp2_with fail
    go_ret
    exact ⟨_, rfl, World.ownsRow_nil _ _ _ _, Below.refl _ _⟩
  | some ad =>
    have RR := Lib.hid r
    have OO := Lib.hid o
    clear r o
    have q := fun W => eql_things_nil (some ad) n c W
    simp only [Option.isNone_some] at q
    go_enter Try.func55, Try.ntmps55
    go_wp2_with (at_builtin; refine wpList_append_any _ rfl (.tmp 5) (.tmp 6) _ rfl w.heap.size 84 i0 _ 1 8 Try.underlying90 hi0 hz0 hz1 hz2 rfl (by omega) _ 0 [] rfl (World.ownsRow_lit (base := w.heap.size) (e := 84) (size := 1) _ #[] 0 (by simp) (by decide) rfl) w.heap.size (some ad) n c _ rfl (RR.out.alloc (by simp) _) OO.out (by simp only [maxLen]; omega) (by omega) (by simp) ?_; intro v2 w2 hown2 hg2 hat2)
    have hb2 : Below w.heap.size w w2 := below_grown ((Below.refl w.heap.size w).alloc (by simp) _) (World.ownsRow_lit (base := w.heap.size) (e := 84) (size := 1) _ #[] 0 (by simp) (by decide) rfl) hg2 (Nat.le_refl _) (by simp)
    go_wp2_with fail
    go_ret
    exact ⟨_, rfl, by simpa using hown2, hb2⟩
set_option maxHeartbeats 4000000 in
set_option maxRecDepth 100000 in
theorem pushR_any (v : Lv) : ∀ (t : Th) (p q : Option Addr) (d : Nat) (w : World), InT w p t → InV w q v → v.Ok d → t.size + v.size ≤ 17592186044416 →
    Calls Try.prog 40 #[.pointer q, .pointer p] w fun e w' => ∃ r, e = .returned (.pointer r) ∧ InV w' r (Lv.pushR t v) ∧ Below w.heap.size w w' := by
  obtain ⟨i0, hi0, hz0, hz1, hz2⟩ := info_parts Try.infoThing
  induction v with
  | nil =>
    intro t p q d w ht hv ok hs
    obtain rfl : q = none := hv
    have HT := Lib.hid ht
    clear ht
    go_enter Try.func40, Try.ntmps40
    go_wp2_with fail
    refine (alone_any p t _ HT.out).mono ?_
    rintro e w1 ⟨r, rfl, hr, hb⟩
    go_wp2_with fail
    go_ret
    exact ⟨r, rfl, hr, hb⟩
  | one s =>
    intro t p q d w ht hv ok hs
    obtain ⟨b, m, x, a, c, rfl, hn, hh, hp, hx⟩ := hv
    obtain ⟨c1, _, c3⟩ := blk hh
    have k5 : w.cell? ⟨b, 5, none⟩ = some (.slice a 1 c) := c1 5
    have k6 : w.cell? ⟨b, 6, none⟩ = some (.slice none 0 0) := c1 6
    have hq : ∀ W : World, (binOp .eql 90 (.slice none 0 0) (.slice none 0 0)).run Try.prog W = .ok (.bool true) W := fun W => eql_things_nil none 0 0 W
    have HT := Lib.hid ht
    have hD : Dg w a 1 c [s] := ⟨[x], hp, hx, trivial⟩
    have HP := Lib.hid hD
    clear hh c1 hp hx ht hn hD
    go_enter Try.func40, Try.ntmps40
    go_wp2_with fail
    refine (deep_any a 1 c [s] none .nil _ 1 1 [t] _ (HP.out.below ((Below.refl _ _).alloc (Nat.le_refl _) _)) rfl (Dg.one HT.out) (by simp only [Lv.size, tsN] at *; omega)).mono ?_
    rintro e w1 ⟨r, rfl, hr, hb⟩
    go_wp2_with fail
    go_ret
    exact ⟨r, rfl, hr, ((Below.refl _ _).alloc (Nat.le_refl _) _).trans (hb.mono (by simp))⟩
  | deep l v r ih =>
    intro t p q d w ht hv ok hs
    obtain ⟨⟨o1, o2, o3⟩, o4, ⟨o5, o6, o7⟩⟩ := ok
    obtain ⟨b, m, a, a', x, n, c, n', c', rfl, hn, hh, hl, hr, hm⟩ := hv
    have ln := hl.len
    have rn := hr.len
    obtain ⟨c1, _, c3⟩ := blk hh
    obtain ⟨b6, off6, rfl⟩ : ∃ b6 off6, a' = some ⟨b6, off6, none⟩ := by
      obtain ⟨psr, hpr, hir⟩ := hr
      obtain ⟨b6, off6, e, _⟩ := hpr.cell (by omega)
      exact ⟨b6, off6, e⟩
    obtain ⟨b5, off5, rfl⟩ : ∃ b5 off5, a = some ⟨b5, off5, none⟩ := by
      obtain ⟨psr, hpr, hir⟩ := hl
      obtain ⟨b6, off6, e, _⟩ := hpr.cell (by omega)
      exact ⟨b6, off6, e⟩
    have hq : ∀ W : World, (binOp .eql 90 (.slice (some ⟨b6, off6, none⟩) n' c') (.slice none 0 0)).run Try.prog W = .ok (.bool false) W := fun W => eql_things_nil (some ⟨b6, off6, none⟩) n' c' W
    have k5 : w.cell? ⟨b, 5, none⟩ = some (.slice (some ⟨b5, off5, none⟩) n c) := c1 5
    have k6 : w.cell? ⟨b, 6, none⟩ = some (.slice (some ⟨b6, off6, none⟩) n' c') := c1 6
    have k7 : w.cell? ⟨b, 7, none⟩ = some (.pointer x) := c1 7
    have HT := Lib.hid ht
    have HL := Lib.hid hl
    have HR := Lib.hid hr
    have HM := Lib.hid hm
    have HS := Lib.hid hs
    have H4 := Lib.hid o4
    clear hh c1 hr ht hl hm hn hs
    by_cases hlen : r.length < 4
    · rw [Lv.pushR_few _ _ _ _ hlen]
      obtain ⟨psr, hpr, hir⟩ := HR.out
      have HPR := Lib.hid hpr
      have HIR := Lib.hid hir
      have hs := HS.out
      simp only [Lv.size] at hs
      have HS9 : Hid ((Lv.deep l v (r ++ [t])).size ≤ 17592186044416) := Lib.hid (by simp only [Lv.size, tsN_append, tsN]; omega)
      clear hpr hir hs
      have hn4 : (n' : Int) < 4 := by omega
      have hn5 : n' ≤ 4 := by omega
      clear ih o1 o2 o3 o4 o5 o6 o7 hlen ln rn
      go_enter Try.func40, Try.ntmps40
      go_wp2_with fail
      go_region_held3 (fun w' => w'.cell? ⟨b, 5, none⟩ = some (.slice (some ⟨b5, off5, none⟩) n c) ∧ w'.cell? ⟨b, 6, none⟩ = some (.slice (some ⟨b6, off6, none⟩) n' c') ∧ w'.cell? ⟨b, 7, none⟩ = some (.pointer x)) (go_keep) (first
        | (have _t := B4; go_at_call 54; refine (deep_any (some ⟨b5, off5, none⟩) n c l x v a4 (n' + 1) k4 (r ++ [t]) _ (by first | exact (HL.out.below B4) | exact (HL.out.below B4).below ((Below.refl _ _).alloc (Nat.le_refl _) _) | exact (HL.out.below B4).below ((below_drewN (Below.refl _ _) _)) | exact (HL.out.below B4).below (Below.refl _ _).drew | exact ((HL.out.below B4).below ((Below.refl _ _).alloc (Nat.le_refl _) _)).below (below_drewN (Below.refl _ _) _) | exact ((HL.out.below B4).below ((Below.refl _ _).alloc (Nat.le_refl _) _)).below (Below.refl _ _).drew) (by first | exact (HM.out.below B4) | exact (HM.out.below B4).below ((Below.refl _ _).alloc (Nat.le_refl _) _) | exact (HM.out.below B4).below ((below_drewN (Below.refl _ _) _)) | exact (HM.out.below B4).below (Below.refl _ _).drew | exact ((HM.out.below B4).below ((Below.refl _ _).alloc (Nat.le_refl _) _)).below (below_drewN (Below.refl _ _) _) | exact ((HM.out.below B4).below ((Below.refl _ _).alloc (Nat.le_refl _) _)).below (Below.refl _ _).drew) (by first | exact DG | exact DG.below (Below.refl _ _).drew | exact DG.below (below_drewN (Below.refl _ _) _)) HS9.out).mono ?_; rintro e w3 ⟨r3, rfl, hr3, hb3⟩; have B5 : Below w2.heap.size w2 w3 := (by first | exact hb3 | exact below_of_drew hb3 | exact below_of_drewN hb3 | exact below_of_alloc hb3 | exact below_of_alloc (below_of_drew hb3) | exact below_of_alloc (below_of_drewN hb3)); have B45 := below_then B4 B5; have zc_0 := (B45.cell (p := ⟨b, 5, none⟩) c3).trans k5; have zc_1 := (B45.cell (p := ⟨b, 6, none⟩) c3).trans k6; have zc_2 := (B45.cell (p := ⟨b, 7, none⟩) c3).trans k7)
        | (have _t := bw1; refine step_append_any _ rfl (.tmp 42) (.tmp 44) 90 rfl w.heap.size 84 i0 (.pointer none) 1 8 Try.underlying90 hi0 hz0 hz1 hz2 rfl (by decide) v1 n' (psr.map Value.pointer) rfl (by first | exact O1 | exact World.ownsRow.alloc O1 _ | exact own_same (w := w1) O1 ⟨rfl, rfl, rfl, rfl⟩ | exact World.ownsRow.alloc (own_same (w := w1) O1 ⟨rfl, rfl, rfl, rfl⟩) _ | exact own_same (w := w1.alloc _) (World.ownsRow.alloc O1 _) ⟨rfl, rfl, rfl, rfl⟩) _ _ 1 1 [.pointer p] rfl (by first | exact PG.reads | exact (PG.below (Below.refl _ _).drew).reads | exact (PG.below (below_drewN (Below.refl _ _) _)).reads | exact (Pl.lit w1 p).reads | exact ((Pl.lit w1 p).below (Below.refl _ _).drew).reads | exact ((Pl.lit w1 p).below (below_drewN (Below.refl _ _) _)).reads) (by simp [Value.oneCell']) (by simp only [maxLen]; omega) (by omega) (by first | exact bw1.size | (simp; have := bw1.size; omega)) ?_; intro v2 w2 hown2 hg2 hat2; obtain ⟨a4, k4, rfl, P4⟩ := Pl.of_own (ps := psr ++ [p]) (n := n' + 1) (by simpa using hown2); have B4 : Below w.heap.size w w2 := (by refine below_grown (xs := psr.map Value.pointer) (n := n') (e := 84) (size := 1) (base := w.heap.size) ?_ ?_ hg2 (Nat.le_refl _) ?_; (first | exact bw1 | exact bw1.drew | exact bw1.alloc bw1.size _ | exact (bw1.alloc bw1.size _).drew); exact (by first | exact O1 | exact World.ownsRow.alloc O1 _ | exact own_same (w := w1) O1 ⟨rfl, rfl, rfl, rfl⟩ | exact World.ownsRow.alloc (own_same (w := w1) O1 ⟨rfl, rfl, rfl, rfl⟩) _ | exact own_same (w := w1.alloc _) (World.ownsRow.alloc O1 _) ⟨rfl, rfl, rfl, rfl⟩); (first | exact bw1.size | (simp; have := bw1.size; omega))); have DG : Dg w2 a4 (n' + 1) k4 (r ++ [t]) := ⟨psr ++ [p], P4, InL.snoc (HT.out.below B4) (HIR.out.below B4)⟩; have zb_0 := (B4.cell (p := ⟨b, 5, none⟩) c3).trans k5; have zb_1 := (B4.cell (p := ⟨b, 6, none⟩) c3).trans k6; have zb_2 := (B4.cell (p := ⟨b, 7, none⟩) c3).trans k7)
        | (go_at_call 55; refine (clone_any (some ⟨b6, off6, none⟩) n' c' (psr.map Value.pointer) _ (by first | exact HPR.out.reads | exact (HPR.out.below (Below.refl _ _).drew).reads | exact (HPR.out.below (below_drewN (Below.refl _ _) _)).reads | exact (HPR.out.below ((Below.refl _ _).alloc (Nat.le_refl _) _)).reads | exact ((HPR.out.below ((Below.refl _ _).alloc (Nat.le_refl _) _)).below (Below.refl _ _).drew).reads | exact ((HPR.out.below ((Below.refl _ _).alloc (Nat.le_refl _) _)).below (below_drewN (Below.refl _ _) _)).reads) (ptr_cells psr) (by omega)).mono ?_; rintro e w1 ⟨v1, rfl, hown1, hb1⟩; have bw1 : Below w.heap.size w w1 := (by first | exact hb1 | exact below_of_drew hb1 | exact below_of_drewN hb1 | exact below_of_alloc hb1 | exact below_of_alloc (below_of_drew hb1) | exact below_of_alloc (below_of_drewN hb1)); have O1 : w1.ownsRow w.heap.size 84 1 v1 n' (psr.map Value.pointer) := own_mono hown1 (by simp); have za_0 := (bw1.cell (p := ⟨b, 5, none⟩) c3).trans k5; have za_1 := (bw1.cell (p := ⟨b, 6, none⟩) c3).trans k6; have za_2 := (bw1.cell (p := ⟨b, 7, none⟩) c3).trans k7; (first | (have PG := (Pl.lit w p).below hb1) | (have PG := (Pl.lit w p).below (below_of_drew hb1)) | (have PG := (Pl.lit w p).below (below_of_drewN hb1)) | skip)))
      all_goals
        go_wp2_with fail
        go_ret
        exact ⟨r3, rfl, hr3, B45⟩
    · obtain ⟨y1, y2, y3, y4, rfl⟩ := Lv.four (l := r) (by omega)
      obtain rfl : 4 = n' := rn
      have hcc : 4 ≤ c' := by obtain ⟨pl, hpl, _⟩ := HR.out; exact hpl.hcap
      have hfront := HR.out.front (k := 3) (by omega)
      obtain ⟨ba, oa, q4, e, hba, ka, hy4⟩ : ∃ ba oa q4, (some ⟨b6, off6, none⟩ : Option Addr) = some ⟨ba, oa, none⟩ ∧ ba < w.heap.size ∧ w.cell? ⟨ba, oa + 3, none⟩ = some (.pointer q4) ∧ InT w q4 y4 := by
        obtain ⟨pl, hpl, hil⟩ := HR.out
        obtain ⟨ba, oa, e, hb, hcl⟩ := hpl.cell (by omega)
        exact ⟨ba, oa, _, e, hb, hcl 3 (by omega), by simpa using hil.get 3 (by simp)⟩
      obtain ⟨rfl, rfl⟩ : b6 = ba ∧ off6 = oa := by simpa using e
      have HK := Lib.hid hfront
      have HY4 := Lib.hid hy4
      have hsl : ∀ W : World, (Instr.slice 90 (.slice (some ⟨b6, off6, none⟩) 4 c') none (some (.int .i64 3)) none).run Try.prog W = .ok (.slice (some ⟨b6, off6, none⟩) 3 c') W := fun W => by
        simpa using Try.things_to (some ⟨b6, off6, none⟩) 4 c' 3 (by omega) W
      have hs := HS.out
      simp only [Lv.size, tsN] at hs
      have HS1 : Hid ((Th.node y1 y2 y3).size ≤ 17592186044416) := Lib.hid (by simp only [Th.size]; omega)
      have HS2 : Hid ((Th.node y1 y2 y3).size + v.size ≤ 17592186044416) := Lib.hid (by simp only [Th.size]; omega)
      have hpl := (Lv.pushR_ok v (.node y1 y2 y3) (d + 1) H4.out ⟨d, rfl, o7 _ (by simp), o7 _ (by simp), o7 _ (by simp)⟩).2
      have HS3 : Hid ((Lv.deep l (Lv.pushR (.node y1 y2 y3) v) [y4, t]).size ≤ 17592186044416) := Lib.hid (by
        have e := congrArg List.length hpl
        simp only [Lv.len, Th.len, List.length_append, Th.size] at e
        simp only [Lv.size, tsN]
        omega)
      have IH := Lib.hid ih
      rw [show Lv.pushR t (.deep l v [y1, y2, y3, y4]) = .deep l (Lv.pushR (.node y1 y2 y3) v) [y4, t] from rfl]
      clear ih o1 o2 o3 o4 o5 o6 o7 hlen ln hfront hs hpl hy4 e
      go_enter Try.func40, Try.ntmps40
      go_wp2_with fail
      go_region_held3 (fun w' => w'.cell? ⟨b, 5, none⟩ = some (.slice (some ⟨b5, off5, none⟩) n c) ∧ w'.cell? ⟨b, 6, none⟩ = some (.slice (some ⟨b6, off6, none⟩) 4 c') ∧ w'.cell? ⟨b, 7, none⟩ = some (.pointer x) ∧ w'.cell? ⟨b6, off6 + 3, none⟩ = some (.pointer q4)) (go_keep) (first
        | (have _t := bw2; go_at_call 54; refine (deep_any (some ⟨b5, off5, none⟩) n c l x2 (Lv.pushR (.node y1 y2 y3) v) _ 2 2 [y4, t] _ (by first | exact (HL.out.below bw12) | exact (HL.out.below bw12).below ((Below.refl _ _).alloc (Nat.le_refl _) _) | exact (HL.out.below bw12).below ((below_drewN (Below.refl _ _) _)) | exact (HL.out.below bw12).below (Below.refl _ _).drew | exact ((HL.out.below bw12).below ((Below.refl _ _).alloc (Nat.le_refl _) _)).below (below_drewN (Below.refl _ _) _) | exact ((HL.out.below bw12).below ((Below.refl _ _).alloc (Nat.le_refl _) _)).below (Below.refl _ _).drew) (by first | exact hv2 | exact hv2.below ((Below.refl _ _).alloc (Nat.le_refl _) _) | exact hv2.below ((below_drewN (Below.refl _ _) _)) | exact hv2.below (Below.refl _ _).drew | exact (hv2.below ((Below.refl _ _).alloc (Nat.le_refl _) _)).below (below_drewN (Below.refl _ _) _) | exact (hv2.below ((Below.refl _ _).alloc (Nat.le_refl _) _)).below (Below.refl _ _).drew) (by first | exact DG | exact DG.below (Below.refl _ _).drew | exact DG.below (below_drewN (Below.refl _ _) _) | exact Dg.two (HY4.out.below bw12) (HT.out.below bw12) | exact (Dg.two (HY4.out.below bw12) (HT.out.below bw12)).below (Below.refl _ _).drew | exact (Dg.two (HY4.out.below bw12) (HT.out.below bw12)).below (below_drewN (Below.refl _ _) _)) HS3.out).mono ?_; rintro e w3 ⟨x3, rfl, hv3, hb3⟩; have bw3 : Below w2.heap.size w2 w3 := (by first | exact hb3 | exact below_of_drew hb3 | exact below_of_drewN hb3 | exact below_of_alloc hb3 | exact below_of_alloc (below_of_drew hb3) | exact below_of_alloc (below_of_drewN hb3)); have bw123 := below_then bw12 bw3; have zc_0 := (bw123.cell (p := ⟨b, 5, none⟩) c3).trans k5; have zc_1 := (bw123.cell (p := ⟨b, 6, none⟩) c3).trans k6; have zc_2 := (bw123.cell (p := ⟨b, 7, none⟩) c3).trans k7; have zc_3 := (bw123.cell (p := ⟨b6, off6 + 3, none⟩) hba).trans ka)
        | (have _t := bw1; go_at_call 40; refine (IH.out (.node y1 y2 y3) p1 x (d + 1) _ (by first | exact hv1 | exact hv1.below ((Below.refl _ _).alloc (Nat.le_refl _) _) | exact hv1.below ((below_drewN (Below.refl _ _) _)) | exact hv1.below (Below.refl _ _).drew | exact (hv1.below ((Below.refl _ _).alloc (Nat.le_refl _) _)).below (below_drewN (Below.refl _ _) _) | exact (hv1.below ((Below.refl _ _).alloc (Nat.le_refl _) _)).below (Below.refl _ _).drew) (by first | exact (HM.out.below bw1) | exact (HM.out.below bw1).below ((Below.refl _ _).alloc (Nat.le_refl _) _) | exact (HM.out.below bw1).below ((below_drewN (Below.refl _ _) _)) | exact (HM.out.below bw1).below (Below.refl _ _).drew | exact ((HM.out.below bw1).below ((Below.refl _ _).alloc (Nat.le_refl _) _)).below (below_drewN (Below.refl _ _) _) | exact ((HM.out.below bw1).below ((Below.refl _ _).alloc (Nat.le_refl _) _)).below (Below.refl _ _).drew) H4.out HS2.out).mono ?_; rintro e w2 ⟨x2, rfl, hv2, hb2⟩; have bw2 : Below w1.heap.size w1 w2 := (by first | exact hb2 | exact below_of_drew hb2 | exact below_of_drewN hb2 | exact below_of_alloc hb2 | exact below_of_alloc (below_of_drew hb2) | exact below_of_alloc (below_of_drewN hb2)); have bw12 := below_then bw1 bw2; have zb_0 := (bw12.cell (p := ⟨b, 5, none⟩) c3).trans k5; have zb_1 := (bw12.cell (p := ⟨b, 6, none⟩) c3).trans k6; have zb_2 := (bw12.cell (p := ⟨b, 7, none⟩) c3).trans k7; have zb_3 := (bw12.cell (p := ⟨b6, off6 + 3, none⟩) hba).trans ka; (first | (replace DG := DG.below hb2) | (replace DG := DG.below (below_of_drew hb2)) | (replace DG := DG.below (below_of_drewN hb2)) | (have DG := (Dg.two (HY4.out.below bw1) (HT.out.below bw1)).below hb2) | (have DG := (Dg.two (HY4.out.below bw1) (HT.out.below bw1)).below (below_of_drew hb2)) | (have DG := (Dg.two (HY4.out.below bw1) (HT.out.below bw1)).below (below_of_drewN hb2)) | skip))
        | (go_at_call 56; refine (group_any (some ⟨b6, off6, none⟩) c' y1 y2 y3 _ (by first | exact HK.out | exact HK.out.below ((Below.refl _ _).alloc (Nat.le_refl _) _) | exact HK.out.below ((below_drewN (Below.refl _ _) _)) | exact HK.out.below (Below.refl _ _).drew | exact (HK.out.below ((Below.refl _ _).alloc (Nat.le_refl _) _)).below (below_drewN (Below.refl _ _) _) | exact (HK.out.below ((Below.refl _ _).alloc (Nat.le_refl _) _)).below (Below.refl _ _).drew) HS1.out).mono ?_; rintro e w1 ⟨p1, rfl, hv1, hb1⟩; have bw1 : Below w.heap.size w w1 := (by first | exact hb1 | exact below_of_drew hb1 | exact below_of_drewN hb1 | exact below_of_alloc hb1 | exact below_of_alloc (below_of_drew hb1) | exact below_of_alloc (below_of_drewN hb1)); have za_0 := (bw1.cell (p := ⟨b, 5, none⟩) c3).trans k5; have za_1 := (bw1.cell (p := ⟨b, 6, none⟩) c3).trans k6; have za_2 := (bw1.cell (p := ⟨b, 7, none⟩) c3).trans k7; have za_3 := (bw1.cell (p := ⟨b6, off6 + 3, none⟩) hba).trans ka; (first | (have DG := (Dg.two HY4.out HT.out).below hb1) | (have DG := (Dg.two HY4.out HT.out).below (below_of_drew hb1)) | (have DG := (Dg.two HY4.out HT.out).below (below_of_drewN hb1)) | skip)))
      all_goals
        go_wp2_with fail
        go_ret
        exact ⟨x3, rfl, hv3, bw123⟩
end FG
end Go.Proofs.Ytpkfakndlbngbaa
