/-
  Red: the set's functions, as plain trees. Conditions: sizes below 2^60.
-/
import Derived.Test.YtchglmgbnmdffaaRedSet
import Derived.Test.YtchglmgbnmdffaaApp
import Derived.Test.YtchglmgbnmdffaaSame
namespace Go.Proofs.Ytchglmgbnmdffaa.RED
open Go.RowKit Go.Deep
open Go.Proofs.Ytchglmgbnmdffaa Go.Proofs.Ytchglmgbnmdffaa.ST


set_option maxHeartbeats 800000 in
theorem of_any (a : Option Addr) (n c : Nat) (xs : List Int) (w : World) (h : Sl w a n c xs) (hn : n ≤ 288230376151711744) :
    Calls Try.prog 38 #[.slice a n c] w fun e w' => ∃ q, e = .returned (.agg #[.pointer q]) ∧ In w' q (ofL xs) ∧ Below w.heap.size w w' := by
  have HL := Lib.hid h.hlen
  have HH := Lib.hid h
  clear h
  go_enter Try.func38, Try.ntmps38
  go_wp2_with fail
  go_loopw [8] (fun i wr => ∃ (k : Nat) (q : Option Addr), k ≤ n ∧ i = .int .i64 k ∧ wr.heap[w.heap.size]? = some (.cells #[.pointer none] 57) ∧ wr.heap[w.heap.size + 1]? = some (.cells #[.pointer q] 57) ∧ In wr q (ofL (xs.take k)) ∧ Below w.heap.size w wr) (fun i _ => n - (intOf i).toNat)
  case atStart =>
    refine ⟨0, none, Nat.zero_le _, rfl, ?_, ?_, rfl, ((Below.refl _ _).alloc (Nat.le_refl _) _).alloc (by simp) _⟩
    · exact (Below.heap_alloc _ _ _ (by simp)).trans (heap_alloc_new _ _)
    · have := heap_alloc_new (w.alloc (.cells #[.pointer none] 57)) (.cells #[.pointer none] 57)
      rwa [World.size_alloc] at this
  case round =>
    obtain ⟨k, q, hk, rfl, x0, x1, hi, hb⟩ := hrel
    obtain ⟨c0, c1, c2⟩ := blk x0
    obtain ⟨d0, d1, d2⟩ := blk x1
    have X0 := Lib.hid x0
    have X1 := Lib.hid x1
    clear x0 x1
    by_cases hlt : k < n
    · obtain ⟨b, off, rfl, hbl, hc⟩ := HH.out.hat (by omega)
      have g := (hb.cell (p := ⟨b, off + k, none⟩) hbl).trans (hc k hlt)
      clear hc
      have hlti : (k : Int) < (n : Int) := by omega
      have hsz : (ofL (xs.take k)).size ≤ 288230376151711744 := by have := ofL_size (xs.take k); rw [List.length_take] at this; omega
      have t1 := take_snoc' xs k (by have := HL.out; omega)
      have hpush : ofL (xs.take (k + 1)) = put (ofL (xs.take k)) (xs[k]?.getD 0) := by rw [t1, ofL_snoc]
      have HP := Lib.hid hpush
      clear t1 hpush
      go_wp2_with fail
      refine (put_set _ _ q _ hi (by omega)).mono ?_
      rintro e w2 ⟨q2, rfl, hi2, hb2⟩
      have y0 := blk_below X0.out hb2
      have y1 := blk_below X1.out hb2
      obtain ⟨e0, e1, e2⟩ := blk y0
      obtain ⟨f0, f1, f2⟩ := blk y1
      have Y0 := Lib.hid y0
      have Y1 := Lib.hid y1
      clear y0 y1
      go_wp2_with fail
      go_roundw
      case rel => exact ⟨k + 1, q2, by omega, by go_num, blk_far Y0.out (by omega), blk_set Y1.out, by rw [HP.out]; exact hi2.keep (.setCell Y1.out (by decide)), (hb.trans (hb2.mono hb.size)).setCell (p := ⟨w.heap.size + 1, 0, none⟩) (by simp) _⟩
      case measure => simp [intOf]; omega
    · have he : k = n := by omega
      have hxs : xs.take k = xs := List.take_of_length_le (by have := HL.out; omega)
      rw [hxs] at hi
      have HX := Lib.hid hxs
      clear hxs he
      go_wp2_with fail
      refine bodyPost_ret (v := .agg #[.pointer q]) (by simp [results, Try.results38, go_sem, c0]) rfl ⟨q, rfl, hi.keep (.setCell X0.out (by decide)), hb.setCell (p := ⟨w.heap.size, 0, none⟩) (Nat.le_refl _) _⟩
end Go.Proofs.Ytchglmgbnmdffaa.RED
