/-
  Finger trees: one thing alone joined to a level. Conditions: at most 2^44 numbers.
-/
import Derived.Test.YtpkfakndlbngbaaFinBack
import Derived.Test.YtpkfakndlbngbaaBack
namespace Go.Proofs.Ytpkfakndlbngbaa
open Go.RowKit Go.Deep Go.Shelf
open Go.Proofs.Ytpkfakndlbngbaa.MN
set_option linter.unusedVariables false
attribute [local go_sem] Oper.semAt_some
namespace FG

open Lv
set_option maxRecDepth 100000 in
set_option maxHeartbeats 2000000 in
theorem joined_one (t : Th) (v : Lv) (pa pb : Option Addr) (d : Nat) (w : World) (ha : InV w pa (.one t)) (hb : InV w pb v) (hd : v.Ok d) (hs : t.size + v.size ≤ 17592186044416) :
    Calls Try.prog 42 #[.pointer pa, .slice none 0 0, .pointer pb] w fun e w' => ∃ q, e = .returned (.pointer q) ∧ InV w' q (pushL t v) ∧ Below w.heap.size w w' := by
  obtain ⟨b, mm, x, a, c, rfl, hn, hh, hp, hx⟩ := ha
  obtain ⟨c1, _, c3⟩ := blk hh
  obtain ⟨b5, off5, rfl, hb5, hcl⟩ := hp.cell (by omega)
  have ka : w.cell? ⟨b5, off5, none⟩ = some (.pointer x) := hcl 0 (by omega)
  have k5 : w.cell? ⟨b, 5, none⟩ = some (.slice (some ⟨b5, off5, none⟩) 1 c) := c1 5
  have k6 : w.cell? ⟨b, 6, none⟩ = some (.slice none 0 0) := c1 6
  have hq : ∀ W : World, (binOp .eql 90 (.slice none 0 0) (.slice none 0 0)).run Try.prog W = .ok (.bool true) W := fun W => eql_things_nil none 0 0 W
  have HX := Lib.hid hx
  have HB := Lib.hid hb
  have HD := Lib.hid hd
  have HS := Lib.hid hs
  have ne1 : ¬ w.heap.size = b := by omega
  have ne2 : ¬ w.heap.size = b5 := by omega
  clear hh c1 hp hcl hx hn hb hd hs
  refine (callsIn_wide (n := 5)).1 ?_
  refine callsIn_of_wp_marks Try.func42 rfl trivial ?_ rfl
  simp only [Try.ntmps42, List.size_toArray, List.length_cons, List.length_nil, Nat.reduceAdd, Nat.reduceSub, Array.replicate_succ, Array.replicate_zero, List.push_toArray, List.append_toArray, List.nil_append, List.cons_append]
  have TT : ∀ f, Fence.wide.fn f := fun _ => trivial
  have TA := TT 58
  gi_wp2_with (gi_at_call 58; refine (callsIn_wide.2 (backT_any _ _ _ _)).mono ?_; rintro e w' ⟨rfl, rfl⟩)
  obtain ⟨WW, hWW⟩ : ∃ WW, (((w.alloc (.cells #[.pointer pb] 31)).alloc (.cells #[.pointer x] 84)).alloc (.cells #[.slice (some ⟨w.heap.size + 1, 0, none⟩) 1 1] 90)) = WW := ⟨_, rfl⟩
  have hB0 : Below w.heap.size w WW := by rw [← hWW]; exact ((((Below.refl _ w).alloc (by simp) _).alloc (by simp) _).alloc (by simp; omega) _)
  have hz : WW.heap.size = w.heap.size + 3 := by rw [← hWW]; simp
  have x0 : WW.heap[w.heap.size]? = some (.cells #[.pointer pb] 31 (0, 0)) := by
    rw [← hWW]
    refine (Below.heap_alloc _ _ _ (by simp; try omega)).trans ((Below.heap_alloc _ _ _ (by simp; try omega)).trans (?_))
    exact heap_alloc_new w (.cells #[.pointer pb] 31)
  have x1 : WW.heap[w.heap.size + 1]? = some (.cells #[.pointer x] 84 (0, 0)) := by
    rw [← hWW]
    refine (Below.heap_alloc _ _ _ (by simp; try omega)).trans (?_)
    have := heap_alloc_new (w.alloc (.cells #[.pointer pb] 31)) (.cells #[.pointer x] 84)
    rwa [World.size_alloc] at this
  have x2 : WW.heap[w.heap.size + 1 + 1]? = some (.cells #[.slice (some ⟨w.heap.size + 1, 0, none⟩) 1 1] 90 (0, 0)) := by
    rw [← hWW]
    have := heap_alloc_new ((w.alloc (.cells #[.pointer pb] 31)).alloc (.cells #[.pointer x] 84)) (.cells #[.slice (some ⟨w.heap.size + 1, 0, none⟩) 1 1] 90)
    rwa [World.size_alloc, World.size_alloc] at this
  rw [hWW]
  clear hWW
  replace HX := Lib.hid (HX.out.below hB0)
  replace HB := Lib.hid (HB.out.below hB0)
  clear k5 k6 ka hq ne1 ne2 hb5 c3
  refine wpIn_rangeFunc_ownG rfl (by decide) (gf := 68) (lb := #[.pointer (some ⟨w.heap.size + 1 + 1, 0, none⟩)]) rfl trivial (enters_of Try.func68 (by kernel_rfl) rfl)
    (backT_stops Fence.wide (5 - 1) trivial rfl (by decide) (w.heap.size + 1 + 1) (w.heap.size + 1) x WW x2 x1) KeepJ.trans (fun W l o o' _ h hc _ => keepJ_b W l o o' h hc) (Below.refl _ _) (fun _ => rfl)
    (fun pre W => (∃ q0, W.heap[w.heap.size]? = some (.cells #[.pointer q0] 31 (0, 0)) ∧ InT W x t ∧ InV W q0 (if List.length pre = 0 then v else pushL t v)) ∧ Below w.heap.size w W)
    (fun _ _ _ => False)
    (OwnFrom.and (Own.from (fun s A B row hs hg hr => by
      obtain ⟨q, h1, h2, h3⟩ := hs
      have kv : KV A B := ⟨fun k c h => (grownBy_keeps_cells hg hr h rfl).trans h, fun k c h => (grownBy_keeps_cells hg hr h rfl).trans h, fun k c h => (grownBy_keeps_cells hg hr h rfl).trans h⟩
      exact ⟨q, (grownBy_keeps_cells hg hr h1 rfl).trans h1, h2.keep kv.ht kv.hp, h3.keep kv⟩) _) (ownFrom_below (Nat.le_refl _) (by omega)))
    (fun _ _ _ _ _ hs _ _ => hs)
    ⟨⟨pb, x0, HX.out, HB.out⟩, hB0⟩
    (fun _ => { tmps := #[.pointer (some ⟨b, 0, none⟩), .slice (some ⟨w.heap.size + 1, 0, none⟩) 1 1, .pointer pb, undef, undef, .pointer (some ⟨w.heap.size, 0, none⟩), .pointer none, undef, .pointer x, undef, undef, .bool true, .pointer (some ⟨b, 0, none⟩), .bool false, .bool false, .pointer (some ⟨b, 0, none⟩), .pointer (some ⟨b, 0, none⟩), .pointer (some ⟨b, 6, none⟩), .slice none 0 0, .bool true, .bool true, .pointer (some ⟨b, 0, none⟩), .bool true, .pointer (some ⟨b, 0, none⟩), .pointer (some ⟨b, 0, none⟩), .pointer (some ⟨b, 5, none⟩), .slice (some ⟨b5, off5, none⟩) 1 c, .pointer (some ⟨b5, off5, none⟩), .pointer x, .slice (some ⟨w.heap.size + 1, 0, none⟩) 1 1, .slice none 0 0, .slice (some ⟨w.heap.size + 1, 0, none⟩) 1 1, .slice (some ⟨w.heap.size + 1, 0, none⟩) 1 1, .func (.func 68) #[] #[.pointer (some ⟨w.heap.size + 1 + 1, 0, none⟩)], .int .i64 0, .pointer x, undef, undef, undef, undef, undef, undef, undef, undef, undef, undef, undef, undef, undef, undef, undef, undef, undef, undef, undef, undef, undef, undef, undef, undef, undef, undef, undef, undef, undef, undef, undef, undef, undef, undef, undef, undef, undef, undef, undef, undef, undef, undef, undef, undef, undef, undef, undef, undef, undef, undef, undef, undef, undef, undef, undef, undef, undef, undef, undef, undef, undef, undef, undef, undef, undef, undef, undef], defers := [] }) ?assign ?body ?done ?stop
  case assign =>
    intro l u W K hK
    gi_wp2
    exact hK
  case body =>
    rintro l pre u W ⟨⟨q0, h1, h2, h3⟩, hB⟩ hlt
    obtain rfl : pre = [] := List.eq_nil_of_length_eq_zero (by omega)
    obtain ⟨c0, c1, c2⟩ := blk h1
    have e0 := c0 0
    clear c0
    have P := pushL_any v t x q0 d W h2 h3 HD.out HS.out
    have H1 := Lib.hid h1
    have H2 := Lib.hid h2
    have hn : 1 ≤ 5 - 1 - 1 := by decide
    have T26 : Fence.wide.fn 52 := trivial
    clear h1 h2 h3
    gi_wp2_with (gi_at_call 52; refine (CallsIn.inRound l (callsIn_wide.2 P)).mono ?_; rintro e w2 ⟨q2, rfl, hi2, hb2⟩; have h1 := blk_below H1.out hb2; obtain ⟨d0, d1, d2⟩ := blk h1; have d3 := d0 0; have H3 := Lib.hid h1; clear h1 d0)
    have hle := hB.size
    have kv : KV w2 (w2.setCell ⟨w.heap.size, 0, none⟩ (.pointer q2)) := .set H3.out (by decide)
    refine ⟨((LI.ko_below hb2).trans (KeepsOthers.setCell _ _ _)).from _, ⟨by have := hb2.size; simpa using this, fun hb => blk_far (blk_below hb hb2) (by omega), fun hb => blk_far (blk_below hb hb2) (by omega)⟩, ⟨q2, ?_, ?_, ?_⟩, (hB.trans (hb2.mono hle)).setCell (p := ⟨w.heap.size, 0, none⟩) (Nat.le_refl _) _⟩
    · simpa using blk_set (i := 0) (v := .pointer q2) H3.out
    · exact (H2.out.below hb2).keep kv.ht kv.hp
    · exact hi2.keep kv
  case done =>
    rintro D ys W hD hys ⟨⟨q0, h1, h2, h3⟩, hB⟩ hK
    rw [if_neg (by omega)] at h3
    obtain ⟨c0, c1, c2⟩ := blk h1
    have e0 := c0 0
    have H1 := Lib.hid h1
    have H3 := Lib.hid h3
    clear h1 h2 h3 c0
    gi_wp2
    refine ⟨by simp, .inl ⟨_, _, rfl, run_takeDeferred hK, ?_⟩⟩
    have kv : KV W (W.putObj D (.deferred none)) := ⟨fun k c h => (grownBy_keeps_cells (grownBy_putObj' _ D (.deferred none)) (fun r e => by cases e; exact ⟨_, hK, rfl⟩) h rfl).trans h, fun k c h => (grownBy_keeps_cells (grownBy_putObj' _ D (.deferred none)) (fun r e => by cases e; exact ⟨_, hK, rfl⟩) h rfl).trans h, fun k c h => (grownBy_keeps_cells (grownBy_putObj' _ D (.deferred none)) (fun r e => by cases e; exact ⟨_, hK, rfl⟩) h rfl).trans h⟩
    refine ⟨.pointer q0, ?_, q0, rfl, H3.out.keep kv, hB.trans (belowK_b (w := w) (Nat.le_refl _) _ D _ (.deferred none) (by omega) hK rfl rfl)⟩
    simp [results, Try.f42, go_sem]
  case stop =>
    rintro D c pre W _ _ h _
    exact h.elim
end FG
end Go.Proofs.Ytpkfakndlbngbaa
