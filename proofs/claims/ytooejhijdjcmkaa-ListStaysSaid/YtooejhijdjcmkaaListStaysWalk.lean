/-
  The walk of the law ListStays. Conditions: none.
-/
import Derived.Test.YtooejhijdjcmkaaListLs
namespace Go.Proofs.Ytooejhijdjcmkaa
open Go.RowKit Go.Deep
open Go.Proofs.Ytooejhijdjcmkaa.LI
set_option linter.unusedVariables false
theorem len_to (p : Option Addr) (m : Int) (xs : List Int) (S : Int) (w : World) (h : Ls w p m xs) (e : (xs.length : Int) = S) : Calls Try.prog 21 #[.agg #[.pointer p, .int .i64 m]] w fun e w' => e = .returned (.int .i64 S) ∧ Below w.heap.size w w' := by
  rw [← e]
  exact len_ls p m xs w h
theorem ls_keep {w w' : World} {p : Option Addr} {m : Int} {xs : List Int} (h : Ls w p m xs) (hk : KeepT 60 w w') : Ls w' p m xs := ⟨h.1.keep hk, h.2⟩
set_option maxHeartbeats 4000000 in
set_option maxRecDepth 100000 in
theorem ListStays_walk (a0 : Option Addr) (n0 c0 : Nat) (x0 : List Int) (x1 : Int) (a2 : Option Addr) (n2 c2 : Nat) (x2 : List Int) (w : World)
    (s0 : Sl w a0 n0 c0 x0) (i0 : ∀ n ∈ x0, I64 n) (e0 : n0 ≤ 17592186043904) (i1 : I64 x1) (s2 : Sl w a2 n2 c2 x2) (i2 : ∀ n ∈ x2, I64 n) (e2 : n2 ≤ 17592186043904) :
    Calls Try.prog 9 #[.slice a0 n0 c0, .int .i64 x1, .slice a2 n2 c2] w fun e w' => e = .returned (.bool true) ∧ Below w.heap.size w w' := by
  have l0 : x0.length ≤ n0 := by rw [s0.hlen]; exact Nat.le_refl _
  have l2 : x2.length ≤ n2 := by rw [s2.hlen]; exact Nat.le_refl _
  obtain ⟨t0, hi0, hz0, hz1, hz2⟩ := info_parts Try.infoInt
  go_enter Try.func9, Try.ntmps9
  go_wp2_with fail
  refine (listed_any _).mono ?_
  rintro e w1 ⟨rfl, bx⟩
  have B := bx
  clear bx
  go_wp2_with fail
  refine (of_ls a0 n0 c0 x0 _ (s0.below B) (by omega)).mono ?_
  rintro e w2 ⟨q43, m43, rfl, h43, bx⟩
  replace B := below_then B bx
  clear bx
  go_wp2_with fail
  refine (push_ls x1 q43 m43 _ _ (h43.alloc _) (by (repeat (first | rw [List.length_reverse] | rw [List.length_append] | rw [List.length_cons] | rw [List.length_nil])); omega)).mono ?_
  rintro e w3 ⟨q44, m44, rfl, h44, bx⟩
  obtain ⟨bx, A43⟩ := hold1 bx ⟨rfl, rfl, rfl, rfl⟩
  replace h43 := h43.below bx
  replace B := below_then B bx
  clear bx
  go_wp2_with fail
  obtain ⟨w4, hw⟩ : ∃ W, (w3.alloc (.cells #[.pointer q44, .int .i64 m44] 28)) = W := ⟨_, rfl⟩
  have bx : Below w3.heap.size w3 w4 := by rw [← hw]; exact ((Below.refl _ _).alloc (by simp; try omega) _)
  have A44 : w4.heap[w3.heap.size]? = some (.cells #[.pointer q44, .int .i64 m44] 28 (0, 0)) := by
    rw [← hw]
    have := heap_alloc_new w3 (.cells #[.pointer q44, .int .i64 m44] 28)
    exact this
  rw [hw]
  clear hw
  replace h43 := h43.below bx
  replace A43 := blk_below A43 bx
  replace h44 := h44.below bx
  replace B := below_then B bx
  clear bx
  obtain ⟨z0, zz0, zzz0⟩ := blk A43
  obtain ⟨y0, yy0, yyy0⟩ := blk A44
  clear y0 yy0
  go_wp2_with fail
  go_cut [10] (fun v wx => ∃ (C : Nat) (qc : Option Addr) (mc : Int), v = .pointer (some ⟨C, 0, none⟩) ∧ wx.heap[C]? = some (.cells #[.pointer qc, .int .i64 mc] 28 (0, 0)) ∧ wx.heap[w2.heap.size]? = some (.cells #[.pointer q43, .int .i64 m43] 28 (0, 0)) ∧ wx.heap[w3.heap.size]? = some (.cells #[.pointer q44, .int .i64 m44] 28 (0, 0)) ∧
    Ls wx q43 m43 x0 ∧ Ls wx q44 m44 (x1 :: x0) ∧ Ls wx qc mc (x2 ++ x0) ∧ Below w.heap.size w wx)
  case first =>
    go_region_held3 (fun w' => w'.cell? ⟨w2.heap.size, 0, none⟩ = some (.pointer q43) ∧ w'.cell? ⟨w2.heap.size, 1, none⟩ = some (.int .i64 m43)) (go_keep) (first
      | (have _t := HM1; go_at_call 25; first
          | (have _c := CB1; refine (join_ls qj mj _ q43 m43 _ _ hj h43 (by (repeat (first | rw [List.length_reverse] | rw [List.length_append] | rw [List.length_cons] | rw [List.length_nil])); omega)).mono ?_; rintro e wj ⟨qc, mc, rfl, hc, bx⟩; replace CB1 := blk_below CB1 bx; obtain ⟨v0, vv0, vvv0⟩ := blk CB1; replace h43 := h43.below bx; replace A43 := blk_below A43 bx; replace h44 := h44.below bx; replace A44 := blk_below A44 bx; replace hj := hj.below bx; replace B := below_then B bx; have HM2 := Lib.hid bx; clear bx; obtain ⟨z0, zz0, zzz0⟩ := blk A43)
          | (refine (join_ls qj mj _ q43 m43 _ _ hj h43 (by (repeat (first | rw [List.length_reverse] | rw [List.length_append] | rw [List.length_cons] | rw [List.length_nil])); omega)).mono ?_; rintro e wj ⟨qc, mc, rfl, hc, bx⟩; replace h43 := h43.below bx; replace A43 := blk_below A43 bx; replace h44 := h44.below bx; replace A44 := blk_below A44 bx; replace hj := hj.below bx; replace B := below_then B bx; have HM2 := Lib.hid bx; clear bx; obtain ⟨z0, zz0, zzz0⟩ := blk A43)
          | (refine (join_ls qj mj _ q43 m43 _ _ (hj.alloc _) (h43.alloc _) (by (repeat (first | rw [List.length_reverse] | rw [List.length_append] | rw [List.length_cons] | rw [List.length_nil])); omega)).mono ?_; rintro e wj ⟨qc, mc, rfl, hc, bx⟩; obtain ⟨bx, CB⟩ := hold1 bx ⟨rfl, rfl, rfl, rfl⟩; have hsi := B.size; have hn1 : ¬ w2.heap.size = wi.heap.size := (by have := zzz0; omega); have hn1' : ¬ wi.heap.size = w2.heap.size := (by have := zzz0; omega); have hn2 : ¬ w3.heap.size = wi.heap.size := (by have := yyy0; omega); replace h43 := h43.below bx; replace A43 := blk_below A43 bx; replace h44 := h44.below bx; replace A44 := blk_below A44 bx; replace hj := hj.below bx; replace B := below_then B bx; have HM2 := Lib.hid bx; clear bx; obtain ⟨z0, zz0, zzz0⟩ := blk A43; obtain ⟨v0, vv0, vvv0⟩ := blk CB))
      | (go_at_call 12; first
          | (refine (of_ls a2 n2 c2 x2 _ (by first | exact s2.below B | exact (s2.below B).below (below_drewN (Below.refl _ _) _)) (by omega)).mono ?_; rintro e wi ⟨qj, mj, rfl, hj, bx⟩; replace bx : Below w4.heap.size w4 wi := (by first | exact bx | exact below_then (below_drewN (Below.refl _ _) _) bx); replace h43 := h43.below bx; replace A43 := blk_below A43 bx; replace h44 := h44.below bx; replace A44 := blk_below A44 bx; replace B := below_then B bx; have HM1 := Lib.hid bx; clear bx; obtain ⟨z0, zz0, zzz0⟩ := blk A43; obtain ⟨y0, yy0, yyy0⟩ := blk A44; clear y0 yy0)
          | (refine (of_ls a2 n2 c2 x2 _ (((s2.below B).alloc _).drew) (by omega)).mono ?_; rintro e wi ⟨qj, mj, rfl, hj, bx⟩; obtain ⟨bx, CB1⟩ := hold1 bx ⟨rfl, rfl, rfl, rfl⟩; have hsi := B.size; have hn1 : ¬ w2.heap.size = w4.heap.size := (by have := zzz0; omega); have hn1' : ¬ w4.heap.size = w2.heap.size := (by have := zzz0; omega); have hn2 : ¬ w3.heap.size = w4.heap.size := (by have := yyy0; omega); replace h43 := h43.below bx; replace A43 := blk_below A43 bx; replace h44 := h44.below bx; replace A44 := blk_below A44 bx; replace B := below_then B bx; have HM1 := Lib.hid bx; clear bx; obtain ⟨z0, zz0, zzz0⟩ := blk A43; obtain ⟨y0, yy0, yyy0⟩ := blk A44; clear y0 yy0)))
    all_goals (go_wp2_with fail; go_meet)
    all_goals first
      | exact ⟨wi.heap.size, qc, mc, rfl, blk_set (i := 1) (v := .int .i64 mc) (blk_set (i := 0) (v := .pointer qc) CB), blk_far (blk_far A43 hn1) hn1, blk_far (blk_far A44 hn2) hn2, ls_keep (ls_keep h43 (.setCell CB (by decide))) (.setCell (blk_set CB) (by decide)), ls_keep (ls_keep h44 (.setCell CB (by decide))) (.setCell (blk_set CB) (by decide)), ls_keep (ls_keep hc (.setCell CB (by decide))) (.setCell (blk_set CB) (by decide)), (B.setCell (p := ⟨wi.heap.size, 0, none⟩) hsi _).setCell (p := ⟨wi.heap.size, 1, none⟩) hsi _⟩
      | exact ⟨w4.heap.size, qc, mc, rfl, blk_set (i := 1) (v := .int .i64 mc) (blk_set (i := 0) (v := .pointer qc) CB1), blk_far (blk_far A43 hn1) hn1, blk_far (blk_far A44 hn2) hn2, ls_keep (ls_keep h43 (.setCell CB1 (by decide))) (.setCell (blk_set CB1) (by decide)), ls_keep (ls_keep h44 (.setCell CB1 (by decide))) (.setCell (blk_set CB1) (by decide)), ls_keep (ls_keep hc (.setCell CB1 (by decide))) (.setCell (blk_set CB1) (by decide)), (B.setCell (p := ⟨w4.heap.size, 0, none⟩) hsi _).setCell (p := ⟨w4.heap.size, 1, none⟩) hsi _⟩
      | exact ⟨_, qc, mc, rfl, heap_alloc_new _ _, (Below.heap_alloc _ _ _ (blk A43).2.2).trans A43, (Below.heap_alloc _ _ _ (blk A44).2.2).trans A44, h43.alloc _, h44.alloc _, hc.alloc _, B.alloc B.size _⟩
      | trace_state
  case rest =>
  obtain ⟨C, qc, mc, rfl, AC, A43', A44', h43', h44', hc, B⟩ := hcut
  clear zzz0 yyy0 z0 zz0
  obtain ⟨u0, uu0, uuu0⟩ := blk A43'
  go_wp2_with fail
  refine (pop_tail q43 m43 _ _ h43' (by (repeat (first | rw [List.length_reverse] | rw [List.length_append] | rw [List.length_cons] | rw [List.length_nil])); omega)).mono ?_
  rintro e w5 ⟨y45, z45, q45, m45, rfl, h45, bx⟩
  clear u0 uu0 uuu0
  replace AC := blk_below AC bx
  replace A43' := blk_below A43' bx
  replace A44' := blk_below A44' bx
  replace h43' := h43'.below bx
  replace h44' := h44'.below bx
  replace hc := hc.below bx
  replace B := below_then B bx
  clear bx
  obtain ⟨u0, uu0, uuu0⟩ := blk A43'
  go_wp2_with fail
  refine (rev_ls q43 m43 _ _ (h43'.alloc _) (by (repeat (first | rw [List.length_reverse] | rw [List.length_append] | rw [List.length_cons] | rw [List.length_nil])); omega)).mono ?_
  rintro e w6 ⟨q46, m46, rfl, h46, bx⟩
  obtain ⟨bx, AD⟩ := hold1 bx ⟨rfl, rfl, rfl, rfl⟩
  clear u0 uu0 uuu0
  replace AC := blk_below AC bx
  replace A43' := blk_below A43' bx
  replace A44' := blk_below A44' bx
  replace h43' := h43'.below bx
  replace h44' := h44'.below bx
  replace hc := hc.below bx
  replace h45 := h45.below bx
  replace B := below_then B bx
  clear bx
  obtain ⟨u0, uu0, uuu0⟩ := blk A43'
  go_wp2_with fail
  refine (ints_ls q43 m43 _ _ (h43'.alloc _) (by (repeat (first | rw [List.length_reverse] | rw [List.length_append] | rw [List.length_cons] | rw [List.length_nil])); omega)).mono ?_
  rintro e w7 ⟨a47, k47, c47, rfl, s47, bx⟩
  obtain ⟨bx, AE⟩ := hold1 bx ⟨rfl, rfl, rfl, rfl⟩
  clear u0 uu0 uuu0
  replace AC := blk_below AC bx
  replace A43' := blk_below A43' bx
  replace A44' := blk_below A44' bx
  replace h43' := h43'.below bx
  replace h44' := h44'.below bx
  replace hc := hc.below bx
  replace h45 := h45.below bx
  replace AD := blk_below AD bx
  replace h46 := h46.below bx
  replace B := below_then B bx
  clear bx
  go_wp2_with fail
  refine (same_yes _ _ _ _ _ _ _ _ _ s47 (s0.below B) rfl).mono ?_
  rintro e w8 ⟨rfl, bx⟩
  replace AC := blk_below AC bx
  replace A43' := blk_below A43' bx
  replace A44' := blk_below A44' bx
  replace h43' := h43'.below bx
  replace h44' := h44'.below bx
  replace hc := hc.below bx
  replace h45 := h45.below bx
  replace AD := blk_below AD bx
  replace h46 := h46.below bx
  replace AE := blk_below AE bx
  replace s47 := s47.below bx
  replace B := below_then B bx
  clear bx
  obtain ⟨u0, uu0, uuu0⟩ := blk A44'
  go_wp2_with fail
  refine (ints_ls q44 m44 _ _ h44' (by (repeat (first | rw [List.length_reverse] | rw [List.length_append] | rw [List.length_cons] | rw [List.length_nil])); omega)).mono ?_
  rintro e w9 ⟨a48, k48, c48, rfl, s48, bx⟩
  clear u0 uu0 uuu0
  replace AC := blk_below AC bx
  replace A43' := blk_below A43' bx
  replace A44' := blk_below A44' bx
  replace h43' := h43'.below bx
  replace h44' := h44'.below bx
  replace hc := hc.below bx
  replace h45 := h45.below bx
  replace AD := blk_below AD bx
  replace h46 := h46.below bx
  replace AE := blk_below AE bx
  replace s47 := s47.below bx
  replace B := below_then B bx
  clear bx
  go_wp2_with (at_builtin; refine wpList_append_any _ rfl (.tmp 44) (.tmp 45) _ rfl w9.heap.size 3 t0 (.int .i64 0) 1 8 Try.underlying22 hi0 hz0 hz1 hz2 rfl (by omega) (.slice (some ⟨w9.heap.size, 0, none⟩) 1 1) 1 [.int .i64 x1] rfl (World.ownsRow_lit (base := w9.heap.size) (e := 3) (size := 1) _ #[.int .i64 x1] 1 (Nat.le_refl _) (by decide) rfl) _ a0 n0 c0 _ rfl (((s0.below B).alloc _).reads) (one_cells x0) (by simp only [maxLen]; omega) (by omega) (by simp) ?_; intro vv w10 hown hg hat)
  have bx : Below w9.heap.size w9 w10 := below_grown ((Below.refl _ _).alloc (Nat.le_refl _) _) (World.ownsRow_lit (base := w9.heap.size) (e := 3) (size := 1) w9 #[.int .i64 x1] 1 (Nat.le_refl _) (by decide) rfl) hg (Nat.le_refl _) (by simp)
  obtain ⟨a49, c49, rfl, s49⟩ := Sl.of_own (xs := x1 :: x0) (n := 1 + n0) (by simpa using hown)
  clear hown hg hat
  replace AC := blk_below AC bx
  replace A43' := blk_below A43' bx
  replace A44' := blk_below A44' bx
  replace h43' := h43'.below bx
  replace h44' := h44'.below bx
  replace hc := hc.below bx
  replace h45 := h45.below bx
  replace AD := blk_below AD bx
  replace h46 := h46.below bx
  replace AE := blk_below AE bx
  replace s47 := s47.below bx
  replace s48 := s48.below bx
  replace B := below_then B bx
  clear bx
  go_wp2_with fail
  refine (same_yes _ _ _ _ _ _ _ _ _ s48 s49 rfl).mono ?_
  rintro e w11 ⟨rfl, bx⟩
  replace AC := blk_below AC bx
  replace A43' := blk_below A43' bx
  replace A44' := blk_below A44' bx
  replace h43' := h43'.below bx
  replace h44' := h44'.below bx
  replace hc := hc.below bx
  replace h45 := h45.below bx
  replace AD := blk_below AD bx
  replace h46 := h46.below bx
  replace AE := blk_below AE bx
  replace s47 := s47.below bx
  replace s48 := s48.below bx
  replace s49 := s49.below bx
  replace B := below_then B bx
  clear bx
  obtain ⟨u0, uu0, uuu0⟩ := blk AC
  go_wp2_with fail
  refine (len_to qc mc _ ((n2 : Int) + (n0 : Int)) _ hc (by rw [List.length_append, s2.hlen, s0.hlen]; omega)).mono ?_
  rintro e w12 ⟨rfl, bx⟩
  clear u0 uu0 uuu0
  replace AC := blk_below AC bx
  replace A43' := blk_below A43' bx
  replace A44' := blk_below A44' bx
  replace h43' := h43'.below bx
  replace h44' := h44'.below bx
  replace hc := hc.below bx
  replace h45 := h45.below bx
  replace AD := blk_below AD bx
  replace h46 := h46.below bx
  replace AE := blk_below AE bx
  replace s47 := s47.below bx
  replace s48 := s48.below bx
  replace s49 := s49.below bx
  replace B := below_then B bx
  clear bx
  obtain ⟨u0, uu0, uuu0⟩ := blk AE
  go_wp2_with fail
  refine (len_to q46 m46 _ (n0 : Int) _ h46 (by rw [List.length_reverse, s0.hlen])).mono ?_
  rintro e w13 ⟨rfl, bx⟩
  clear u0 uu0 uuu0
  replace AC := blk_below AC bx
  replace A43' := blk_below A43' bx
  replace A44' := blk_below A44' bx
  replace h43' := h43'.below bx
  replace h44' := h44'.below bx
  replace hc := hc.below bx
  replace h45 := h45.below bx
  replace AD := blk_below AD bx
  replace h46 := h46.below bx
  replace AE := blk_below AE bx
  replace s47 := s47.below bx
  replace s48 := s48.below bx
  replace s49 := s49.below bx
  replace B := below_then B bx
  clear bx
  obtain ⟨u0, uu0, uuu0⟩ := blk AD
  go_wp2_with fail
  refine (len_to q45 m45 _ (((x0.drop 1).length : Nat) : Int) _ h45 rfl).mono ?_
  rintro e w14 ⟨rfl, bx⟩
  clear u0 uu0 uuu0
  replace AC := blk_below AC bx
  replace A43' := blk_below A43' bx
  replace A44' := blk_below A44' bx
  replace h43' := h43'.below bx
  replace h44' := h44'.below bx
  replace hc := hc.below bx
  replace h45 := h45.below bx
  replace AD := blk_below AD bx
  replace h46 := h46.below bx
  replace AE := blk_below AE bx
  replace s47 := s47.below bx
  replace s48 := s48.below bx
  replace s49 := s49.below bx
  replace B := below_then B bx
  clear bx
  go_wp2_with fail
  all_goals
    go_ret
    refine ⟨?_, B⟩
    have hl := s0.hlen
    simp
    omega
end Go.Proofs.Ytooejhijdjcmkaa
