/-
  Lists of trees: a list with another number at a place. Conditions: at most 2^60 numbers.
-/
import Derived.Test.YthjghbifcnfcmaaRalWith
namespace Go.Proofs.Ythjghbifcnfcmaa
open Go.RowKit Go.Deep Go.BigFrame
open SK
set_option linter.unusedVariables false
namespace RA
/-- The spots, their blocks all of a kind. -/
def InZ (S : Nat → Prop) (w : World) : Option Addr → List Sp → Prop
  | p, [] => p = none
  | p, s :: r => ∃ b pt q, p = some ⟨b, 0, none⟩ ∧ S b ∧ w.heap[b]? = some (.cells #[.int .i64 (D s.1), .pointer pt, .pointer q] 71 (0, 0)) ∧ InT w pt s.2 ∧ InZ S w q r
theorem InZ.of {S : Nat → Prop} {w : World} (hS : ∀ b, b < w.heap.size → S b) : ∀ {l : List Sp} {p : Option Addr}, InS w p l → InZ S w p l
  | [], _, h => h
  | _ :: _, _, ⟨b, pt, q, e, hb, ht, hr⟩ => ⟨b, pt, q, e, hS b (blk hb).2.2, hb, ht, InZ.of hS hr⟩
theorem InZ.to {S : Nat → Prop} {w : World} : ∀ {l : List Sp} {p : Option Addr}, InZ S w p l → InS w p l
  | [], _, h => h
  | _ :: _, _, ⟨b, pt, q, e, _, hb, ht, hr⟩ => ⟨b, pt, q, e, hb, ht, InZ.to hr⟩
theorem InZ.turn {S S' : Nat → Prop} {w w' : World} (hT : KeepT 73 w w') (hk : ∀ b c, S b → w.heap[b]? = some (.cells c 71 (0, 0)) → S' b ∧ w'.heap[b]? = some (.cells c 71 (0, 0))) : ∀ {l : List Sp} {p : Option Addr}, InZ S w p l → InZ S' w' p l
  | [], _, h => h
  | _ :: _, _, ⟨b, pt, q, e, hs, hb, ht, hr⟩ => ⟨b, pt, q, e, (hk b _ hs hb).1, (hk b _ hs hb).2, ht.keep hT, InZ.turn hT hk hr⟩
theorem InZ.below {S S' : Nat → Prop} {w w' : World} (hb : Below w.heap.size w w') (hS : ∀ b, S b → b < w.heap.size → S' b) {l : List Sp} {p : Option Addr} (h : InZ S w p l) : InZ S' w' p l :=
  h.turn (.of_below hb) fun b c hs hc => ⟨hS b hs (blk hc).2.2, blk_below hc hb⟩
theorem InZ.set {S : Nat → Prop} {w : World} {G o : Nat} {v : Value} {c : Array Value} {l : List Sp} {p : Option Addr} (hX : w.heap[G]? = some (.cells c 71 (0, 0))) (h : InZ (fun b => S b ∧ b ≠ G) w p l) : InZ S (w.setCell ⟨G, o, none⟩ v) p l :=
  h.turn (.setCell hX (by decide)) fun b c hs hc => ⟨hs.1, blk_far hc hs.2⟩
set_option maxHeartbeats 4000000 in
set_option maxRecDepth 100000 in
theorem with_spot (y : Int) : ∀ (ss : List Sp) (i : Nat) (p : Option Addr) (w : World) (S : Nat → Prop), (∀ b, w.heap.size ≤ b → S b) → InZ S w p ss → (∀ s ∈ ss, 1 ≤ s.1 ∧ RT.Perf s.1 s.2) → i < (allS ss).length → (allS ss).length ≤ 1152921504606846976 →
    Calls Try.prog 37 #[.pointer p, .int .i64 (i : Int), .int .i64 y] w fun e w' => ∃ q, e = .returned (.pointer q) ∧ InZ S w' q (putS ss i y) ∧ Below w.heap.size w w' := by
  intro ss
  induction ss with
  | nil => intro i p w S _ _ _ hi; simp [allS] at hi
  | cons s r ih =>
    intro i p w S hS h hp hi hs
    obtain ⟨b, pt, q, rfl, hSb, hb, ht, hr⟩ := h
    obtain ⟨z, _, hlt⟩ := blk hb
    have z0 : w.cell? ⟨b, 0, none⟩ = some (.int .i64 (D s.1)) := z 0
    have z1 : w.cell? ⟨b, 1, none⟩ = some (.pointer pt) := z 1
    have z2 : w.cell? ⟨b, 2, none⟩ = some (.pointer q) := z 2
    clear z hb
    have hps := hp s (List.mem_cons_self ..)
    have hpr : ∀ t ∈ r, 1 ≤ t.1 ∧ RT.Perf t.1 t.2 := fun t ht => hp t (List.mem_cons_of_mem _ ht)
    have hll := RT.perf_len hps.2
    rw [allS_cons, List.length_append] at hi hs
    obtain ⟨na, hna⟩ : ∃ na, D s.1 = na := ⟨_, rfl⟩
    rw [hna] at z0 hll
    have na1 : na ≤ 1152921504606846976 := by omega
    have na0 : 0 ≤ na := by omega
    have HNA := Lib.hid hna
    have HLL := Lib.hid hll
    have HT := Lib.hid ht
    have HR := Lib.hid hr
    have HPS := Lib.hid hps
    have HPR := Lib.hid hpr
    have HS := Lib.hid hS
    have IH := Lib.hid ih
    by_cases hc : (i : Int) < na
    · have HPUT : Hid (putS (s :: r) i y = (s.1, s.2.put i y) :: r) := Lib.hid (by simp only [putS]; rw [if_pos (by omega)])
      have CON : Hid (∀ W, Below w.heap.size w W → w.heap.size + 1 ≤ W.heap.size → Calls Try.prog 45 #[.pointer pt, .int .i64 na, .int .i64 (i : Int), .int .i64 y] W fun e w' => ∃ q, e = .returned (.pointer q) ∧ InT w' q (s.2.put i y) ∧ Below W.heap.size W w') := by
        refine Lib.hid fun W hW hWs => ?_
        have h := with_tree y s.2 s.1 i pt W (fun _ => True) (fun _ _ => trivial) (InA.of (fun _ _ => trivial) (ht.below hW)) hps.2 (by omega) (by omega)
        rw [hna] at h
        exact h.mono fun e w' ⟨q, h1, h2, h3⟩ => ⟨q, h1, h2.to, h3⟩
      clear ih hna hll ht hr hps hpr hS hp
      go_enter Try.func37, Try.ntmps37
      go_wp2_with fail
      obtain ⟨V, hV⟩ : ∃ V, w.alloc (.cells #[.int .i64 na, .pointer pt, .pointer q] 71) = V := ⟨_, rfl⟩
      have bV : Below w.heap.size w V := by rw [← hV]; exact (Below.refl _ _).alloc (Nat.le_refl _) _
      have X : V.heap[w.heap.size]? = some (.cells #[.int .i64 na, .pointer pt, .pointer q] 71 (0, 0)) := by rw [← hV]; exact heap_alloc_new _ _
      have hVs : V.heap.size = w.heap.size + 1 := by rw [← hV]; simp
      rw [hV]
      clear hV
      have hltV := Nat.lt_of_lt_of_le hlt bV.size
      have k0 := (bV.cell (p := ⟨b, 0, none⟩) hlt).trans z0
      have k1 := (bV.cell (p := ⟨b, 1, none⟩) hlt).trans z1
      have C := Lib.hid (fun W (hW : Below V.heap.size V W) => CON.out W (below_then bV hW) (by have := hW.size; omega))
      have XX := Lib.hid X
      have BV := Lib.hid bV
      have ne1 : ¬ b = w.heap.size := by omega
      have ne2 : ¬ w.heap.size = b := by omega
      clear X bV z0 z1 z2 CON hVs
      go_region_held3 (fun w' => w'.cell? ⟨b, 0, none⟩ = some (.int .i64 na) ∧ w'.cell? ⟨b, 1, none⟩ = some (.pointer pt)) (go_keep) (first
        | (go_at_call 45; refine (C.out _ (by first | exact Below.refl _ _ | exact (Below.refl _ _).drew | exact below_drewN (Below.refl _ _) _)).mono ?_; rintro e w2 ⟨q2, rfl, hq, b2⟩; have hb2 : Below V.heap.size V w2 := (by first | exact b2 | exact below_of_drew b2 | exact below_of_drewN b2); have s0 := (hb2.cell (p := ⟨b, 0, none⟩) hltV).trans k0; have s1 := (hb2.cell (p := ⟨b, 1, none⟩) hltV).trans k1; obtain ⟨u2, v2, l2⟩ := blk (blk_below XX.out hb2); have uc := u2 1; have vc := v2 1; clear u2 v2))
      all_goals
        go_wp2_with fail
        go_ret
        have X2 := blk_below XX.out hb2
        have bw2 := below_then BV.out hb2
        rw [HPUT.out]
        exact ⟨_, rfl, ⟨w.heap.size, q2, q, rfl, HS.out _ (Nat.le_refl _), by rw [HNA.out]; exact blk_set (i := 1) X2, hq.keep (.setCell X2 (by decide)), (HR.out.below bw2 (fun b h1 h2 => (⟨h1, by omega⟩ : S b ∧ b ≠ w.heap.size))).set X2⟩, bw2.setCell (p := ⟨w.heap.size, 1, none⟩) (Nat.le_refl _) _⟩
    · have HPUT : Hid (putS (s :: r) i y = s :: putS r (i - s.2.pre.length) y) := Lib.hid (by simp only [putS]; rw [if_neg (by omega)])
      have CON : Hid (∀ W, Below w.heap.size w W → w.heap.size + 1 ≤ W.heap.size → Calls Try.prog 37 #[.pointer q, .int .i64 ((i : Int) - na), .int .i64 y] W fun e w' => ∃ q, e = .returned (.pointer q) ∧ InZ (fun b => S b ∧ b ≠ w.heap.size) w' q (putS r (i - s.2.pre.length) y) ∧ Below W.heap.size W w') := by
        refine Lib.hid fun W hW hWs => ?_
        have h := ih (i - s.2.pre.length) q W (fun b => S b ∧ b ≠ w.heap.size) (fun b hb => ⟨hS b (by omega), by omega⟩) (hr.below hW (fun b h1 h2 => ⟨h1, by omega⟩)) hpr (by omega) (by omega)
        rw [show ((i - s.2.pre.length : Nat) : Int) = (i : Int) - na by omega] at h
        exact h
      have hsb : IntKind.i64.wrap ((i : Int) - na) = (i : Int) - na := IntWalk.i64_in _ (by omega)
      clear ih hna hll ht hr hps hpr hS hp
      go_enter Try.func37, Try.ntmps37
      go_wp2_with fail
      obtain ⟨V, hV⟩ : ∃ V, w.alloc (.cells #[.int .i64 na, .pointer pt, .pointer q] 71) = V := ⟨_, rfl⟩
      have bV : Below w.heap.size w V := by rw [← hV]; exact (Below.refl _ _).alloc (Nat.le_refl _) _
      have X : V.heap[w.heap.size]? = some (.cells #[.int .i64 na, .pointer pt, .pointer q] 71 (0, 0)) := by rw [← hV]; exact heap_alloc_new _ _
      have hVs : V.heap.size = w.heap.size + 1 := by rw [← hV]; simp
      rw [hV]
      clear hV
      have hltV := Nat.lt_of_lt_of_le hlt bV.size
      have k0 := (bV.cell (p := ⟨b, 0, none⟩) hlt).trans z0
      have k2 := (bV.cell (p := ⟨b, 2, none⟩) hlt).trans z2
      have C := Lib.hid (fun W (hW : Below V.heap.size V W) => CON.out W (below_then bV hW) (by have := hW.size; omega))
      have XX := Lib.hid X
      have BV := Lib.hid bV
      have ne1 : ¬ b = w.heap.size := by omega
      have ne2 : ¬ w.heap.size = b := by omega
      clear X bV z0 z1 z2 CON hVs
      go_region_held3 (fun w' => w'.cell? ⟨b, 0, none⟩ = some (.int .i64 na) ∧ w'.cell? ⟨b, 2, none⟩ = some (.pointer q)) (go_keep) (first
        | (go_at_call 37; refine (C.out _ (by first | exact Below.refl _ _ | exact (Below.refl _ _).drew | exact below_drewN (Below.refl _ _) _)).mono ?_; rintro e w2 ⟨q2, rfl, hq, b2⟩; have hb2 : Below V.heap.size V w2 := (by first | exact b2 | exact below_of_drew b2 | exact below_of_drewN b2); have s0 := (hb2.cell (p := ⟨b, 0, none⟩) hltV).trans k0; have s1 := (hb2.cell (p := ⟨b, 2, none⟩) hltV).trans k2; obtain ⟨u2, v2, l2⟩ := blk (blk_below XX.out hb2); have uc := u2 2; have vc := v2 2; clear u2 v2))
      all_goals
        go_wp2_with fail
        go_ret
        have X2 := blk_below XX.out hb2
        have bw2 := below_then BV.out hb2
        rw [HPUT.out]
        exact ⟨_, rfl, ⟨w.heap.size, pt, q2, rfl, HS.out _ (Nat.le_refl _), by rw [HNA.out]; exact blk_set (i := 2) X2, (HT.out.below bw2).keep (.setCell X2 (by decide)), hq.set X2⟩, bw2.setCell (p := ⟨w.heap.size, 2, none⟩) (Nat.le_refl _) _⟩
set_option maxHeartbeats 4000000 in
set_option maxRecDepth 100000 in
theorem set_in (i : Nat) (y : Int) (p : Option Addr) (m : Int) (xs : List Int) (w : World) (h : In w p m xs) (hi : i < xs.length) (hs : xs.length ≤ 1152921504606846976) :
    Calls Try.prog 23 #[.agg #[.pointer p, .int .i64 m], .int .i64 (i : Int), .int .i64 y] w fun e w' => ∃ q, e = .returned (.tuple #[.agg #[.pointer q, .int .i64 m], .bool true]) ∧ In w' q m (xs.set i y) ∧ Below w.heap.size w w' := by
  obtain ⟨ss, h1, hg, rfl, hm⟩ := h
  have him : (i : Int) < m := by omega
  have hi0 : (0 : Int) ≤ (i : Int) := by omega
  have CON : Hid (∀ W, Below w.heap.size w W → Calls Try.prog 37 #[.pointer p, .int .i64 (i : Int), .int .i64 y] W fun e w' => ∃ q, e = .returned (.pointer q) ∧ In w' q m ((allS ss).set i y) ∧ Below W.heap.size W w') :=
    Lib.hid fun W hW => (with_spot y ss i p W (fun _ => True) (fun _ _ => trivial) (InZ.of (fun _ _ => trivial) (h1.below hW)) hg.perf hi hs).mono fun e w' ⟨q, h2, h3, h4⟩ =>
      ⟨q, h2, ⟨_, h3.to, putS_good hg i y, (putS_all ss i y).symm, by rw [List.length_set]; exact hm⟩, h4⟩
  clear h1 hg hm hi hs
  go_enter Try.func23, Try.ntmps23
  go_wp2_with fail
  obtain ⟨W, hW⟩ : ∃ W, ((w.alloc (.cells #[.pointer p, .int .i64 m] 44)).alloc (.cells #[.pointer none, .int .i64 0] 44)) = W := ⟨_, rfl⟩
  obtain ⟨bW, x0, x1⟩ := hold2 (w := w) (o1 := .cells #[.pointer p, .int .i64 m] 44) (o2 := .cells #[.pointer none, .int .i64 0] 44) (w1 := W) (by rw [← hW]; exact Below.refl _ _) ⟨rfl, rfl, rfl, rfl⟩
  rw [hW]
  clear hW
  obtain ⟨uz, _, lz⟩ := blk x0
  have c0 : W.cell? ⟨w.heap.size, 0, none⟩ = some (.pointer p) := uz 0
  have c1 : W.cell? ⟨w.heap.size, 1, none⟩ = some (.int .i64 m) := uz 1
  have g5 : ¬ w.heap.size = w.heap.size + 1 := by omega
  have g6 : ¬ w.heap.size + 1 = w.heap.size := by omega
  have BW := Lib.hid bW
  have Y1 : Hid (Box W (w.heap.size + 1) none 0) := Lib.hid x1
  have C := Lib.hid (fun V (hV : Below W.heap.size W V) => CON.out V (below_then bW hV))
  clear uz x0 x1 bW CON
  go_region_held3 (fun w' => w'.cell? ⟨w.heap.size, 0, none⟩ = some (.pointer p) ∧ w'.cell? ⟨w.heap.size, 1, none⟩ = some (.int .i64 m)) (go_keep) (first
    | (go_at_call 37; refine (C.out _ (by first | exact Below.refl _ _ | exact (Below.refl _ _).drew | exact below_drewN (Below.refl _ _) _)).mono ?_; rintro e w2 ⟨q2, rfl, hq, b2⟩; have hb2 : Below W.heap.size W w2 := (by first | exact b2 | exact below_of_drew b2 | exact below_of_drewN b2); have s0 := (hb2.cell (p := ⟨w.heap.size, 0, none⟩) lz).trans c0; have s1 := (hb2.cell (p := ⟨w.heap.size, 1, none⟩) lz).trans c1; obtain ⟨u2, v2, l2⟩ := blk (Y1.out.below hb2); have d0 := u2 0; have d1 := u2 1; have df0 := v2 0; have df1 := v2 1; clear u2 v2))
  all_goals
    go_wp2_with fail
    have Y2 := Y1.out.below hb2
    exact bodyPost_ret (v := .tuple #[.agg #[.pointer q2, .int .i64 m], .bool true]) (by simp [results, Try.results23, go_sem, d0, d1]) rfl ⟨q2, rfl, hq.box Y2, below_set2 (below_then BW.out hb2) (by omega) _ _⟩
set_option maxHeartbeats 2000000 in
theorem set_out (i y : Int) (p : Option Addr) (m : Int) (xs : List Int) (w : World) (h : In w p m xs) (hn : ¬ (0 ≤ i ∧ i < (xs.length : Int))) :
    Calls Try.prog 23 #[.agg #[.pointer p, .int .i64 m], .int .i64 i, .int .i64 y] w fun e w' => e = .returned (.tuple #[.agg #[.pointer none, .int .i64 0], .bool false]) ∧ Below w.heap.size w w' := by
  rw [← h.size] at hn
  clear h
  have B : Below w.heap.size w ((w.alloc (.cells #[.pointer p, .int .i64 m] 44)).alloc (.cells #[.pointer none, .int .i64 0] 44)) := ((Below.refl _ _).alloc (Nat.le_refl _) _).alloc (by simp) _
  by_cases h0 : i < 0
  · go_enter Try.func23, Try.ntmps23
    go_wp2_with fail
    exact bodyPost_ret (v := .tuple #[.agg #[.pointer none, .int .i64 0], .bool false]) (by simp [results, Try.results23, go_sem]) rfl ⟨rfl, B⟩
  · have h0' : (0 : Int) ≤ i := by omega
    have h1 : m ≤ i := by omega
    clear hn
    go_enter Try.func23, Try.ntmps23
    go_wp2_with fail
    exact bodyPost_ret (v := .tuple #[.agg #[.pointer none, .int .i64 0], .bool false]) (by simp [results, Try.results23, go_sem]) rfl ⟨rfl, B⟩
end RA
end Go.Proofs.Ythjghbifcnfcmaa
