/-
  Binomial heaps: all numbers, one by one. Conditions: at most 2^46 numbers.
-/
import Derived.Test.YtdeffgaghmghoaaBinoOf
namespace Go.Proofs.Ytdeffgaghmghoaa
open Go.RowKit Go.Deep
namespace BH
set_option maxHeartbeats 1600000 in
theorem ints_any (t : BH) (p : Option Addr) (pn pc : Nat) (w : World) (h : In w p pn pc t) (hs : t.size ≤ 17592186044415) :
    Calls Try.prog 13 #[.agg #[.slice p pn pc]] w fun e w' => ∃ v, e = .returned v ∧ w'.ownsRow w.heap.size 3 1 v (ints t).length ((ints t).map (Value.int .i64)) ∧ Below w.heap.size w w' := by
  obtain ⟨i0, hi0, hz0, hz1, hz2⟩ := info_parts Try.infoInt
  have hlen := ints_length t
  have HL := Lib.hid hlen
  clear hlen
  go_enter Try.func13, Try.ntmps13
  go_wp2_with fail
  refine (pop_any t p pn pc _ (h.alloc _)).mono ?_
  rintro e w1 ⟨q1, qn, qc, rfl, hi1, hb1⟩
  obtain ⟨hb1, x0⟩ := hold1 hb1 ⟨rfl, rfl, rfl, rfl⟩
  go_wp2_with fail
  go_loopg [3, 4, 5, 6] t.size (fun m v x g has wr => ∃ (s : BH) (G : Nat) (q : Option Addr) (qn qc : Nat) (d : List Int) (y : Int) (b : Bool), s.size ≤ m ∧ s.least = (y, b) ∧ x = .int .i64 y ∧ has = .bool b ∧ g = .pointer (some ⟨G, 0, none⟩) ∧ w.heap.size ≤ G ∧
    wr.heap[G]? = some (.cells #[.slice q qn qc] 26) ∧ In wr q qn qc (pop s) ∧ ints t = d ++ ints s ∧ wr.ownsRow w.heap.size 3 1 v d.length (d.map (Value.int .i64)) ∧ Below w.heap.size w wr)
  case atStart =>
    exact ⟨t, w1.heap.size, q1, qn, qc, [], t.least.1, t.least.2, Nat.le_refl _, rfl, rfl, rfl, rfl, hb1.size, heap_alloc_new _ _, hi1.alloc _, rfl, World.ownsRow_nil _ _ _ _, hb1.alloc hb1.size _⟩
  case round =>
    obtain ⟨s, G, q, qn', qc', d, y, bb, hm, hle, rfl, rfl, rfl, hG, y0, hi, hd, hown, hb⟩ := hrel
    have HD := Lib.hid hd
    have Y0 := Lib.hid y0
    have HE := Lib.hid hle
    clear hd y0 x0 hle
    cases bb
    case true =>
      have hd1 : d.length + 1 ≤ 17592186044416 := by
        have h1 := congrArg List.length HD.out
        rw [ints_pop HE.out, List.length_append, List.length_cons, HL.out] at h1
        omega
      have hless := pop_less HE.out
      have hbs := hb.size
      go_wp2_with (at_builtin; refine wpList_append_own _ rfl _ _ 22 rfl w.heap.size 3 i0 (.int .i64 0) 1 8 Try.underlying22 hi0 hz0 hz1 hz2 rfl (by decide) _ _ _ rfl (hown.alloc _) ⟨wr.heap.size, 0, none⟩ 1 1 [.int .i64 y] rfl rfl (cell_one_new _ _ _) (by simp [Value.oneCell']) (by unfold maxLen; omega) (by omega) (by simp; omega) ?_; intro v' w2 hown' hgrow _; have y1 := KeepT.of_grown (T := 26) (hown.alloc _) hgrow (by decide) _ _ ((Below.heap_alloc _ _ _ (Array.getElem?_eq_some_iff.1 Y0.out).1).trans Y0.out); obtain ⟨c0, c1, c2⟩ := blk y1)
      have hi2 : In w2 q qn' qc' (pop s) := (hi.alloc _).keep (KeepT.of_grown (hown.alloc _) hgrow (by decide)) (KeepT.of_grown (hown.alloc _) hgrow (by decide))
      have hb2 : Below w.heap.size w w2 := below_grown (hb.alloc hbs _) (hown.alloc _) hgrow (Nat.le_refl _) (by simp; omega)
      refine (pop_any (pop s) q qn' qc' _ (hi2.alloc _)).mono ?_
      rintro e w4 ⟨q4, m4, d4, rfl, hi4, hb4⟩
      obtain ⟨hb4, z0⟩ := hold1 hb4 ⟨rfl, rfl, rfl, rfl⟩
      obtain ⟨e0, e1, e2⟩ := blk z0
      have Z0 := Lib.hid z0
      clear z0
      go_wp2_with fail
      go_roundg (pop s).size
      case measure => omega
      case rel =>
        have z1 := blk_set (i := 0) (v := .slice q4 m4 d4) Z0.out
        refine ⟨pop s, w2.heap.size, q4, m4, d4, d ++ [y], (pop s).least.1, (pop s).least.2, Nat.le_refl _, rfl, rfl, rfl, rfl, hb2.size, z1, hi4.keep (.setCell Z0.out (by decide)) (.setCell Z0.out (by decide)), ?_, ?_, ?_⟩
        · rw [HD.out, ints_pop HE.out]; simp
        · have : w4.ownsRow w.heap.size 3 1 v' (d ++ [y]).length ((d ++ [y]).map (Value.int .i64)) := by
            have h1 := own_keep hown' (.of_below hb4)
            simpa using h1
          exact own_keep this (.setCell Z0.out (by decide))
        · exact (hb2.trans (hb4.mono hb2.size)).setCell (p := ⟨w2.heap.size, 0, none⟩) hb2.size _
    case false =>
      have hdone := ints_done HE.out
      have HN := Lib.hid hdone
      clear hdone
      go_wp2_with fail
      go_ret
      have : ints t = d := by rw [HD.out, HN.out]; simp
      rw [this]
      exact ⟨_, rfl, hown, hb⟩
end BH
end Go.Proofs.Ytdeffgaghmghoaa
