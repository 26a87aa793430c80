/-
  Binomial heaps: a heap of a list's numbers. Conditions: at most 2^46 numbers.
-/
import Derived.Test.YtdeffgaghmghoaaBinoHeap
import Derived.Test.YtdeffgaghmghoaaSame
namespace Go.Proofs.Ytdeffgaghmghoaa
open Go.RowKit Go.Deep
namespace BH
set_option maxHeartbeats 800000 in
theorem of_any (a : Option Addr) (n c : Nat) (xs : List Int) (w : World) (h : Sl w a n c xs) (hn : n ≤ 70368744177664) :
    Calls Try.prog 7 #[.slice a n c] w fun e w' => ∃ o k cc, e = .returned (.agg #[.slice o k cc]) ∧ In w' o k cc (ofL xs) ∧ Below w.heap.size w w' := by
  have HL := Lib.hid h.hlen
  have HH := Lib.hid h
  clear h
  go_enter Try.func7, Try.ntmps7
  go_wp2_with fail
  go_loopw [8] (fun i wr => ∃ (k : Nat) (q : Option Addr) (m d : Nat), k ≤ n ∧ i = .int .i64 k ∧ wr.heap[w.heap.size]? = some (.cells #[.slice none 0 0] 26) ∧ wr.heap[w.heap.size + 1]? = some (.cells #[.slice q m d] 26) ∧ In wr q m d (ofL (xs.take k)) ∧ Below w.heap.size w wr) (fun i _ => n - (intOf i).toNat)
  case atStart =>
    refine ⟨0, none, 0, 0, Nat.zero_le _, rfl, ?_, ?_, In.nil _, ((Below.refl _ _).alloc (Nat.le_refl _) _).alloc (by simp) _⟩
    · exact (Below.heap_alloc _ _ _ (by simp)).trans (heap_alloc_new _ _)
    · have := heap_alloc_new (w.alloc (.cells #[.slice none 0 0] 26)) (.cells #[.slice none 0 0] 26)
      rwa [World.size_alloc] at this
  case round =>
    obtain ⟨k, q, m, d, hk, rfl, x0, x1, hi, hb⟩ := hrel
    obtain ⟨c0, c1, c2⟩ := blk x0
    obtain ⟨d0, d1, d2⟩ := blk x1
    have X0 := Lib.hid x0
    have X1 := Lib.hid x1
    clear x0 x1
    by_cases hlt : k < n
    · obtain ⟨b, off, rfl, hbl, hc⟩ := HH.out.hat (by omega)
      have g := (hb.cell (p := ⟨b, off + k, none⟩) hbl).trans (hc k hlt)
      clear hc
      have hlti : (k : Int) < (n : Int) := by omega
      have hsz : (ofL (xs.take k)).size + 1 ≤ 70368744177664 := by rw [ofL_size, List.length_take]; omega
      have t1 := take_snoc' xs k (by have := HL.out; omega)
      have hpush : ofL (xs.take (k + 1)) = push (ofL (xs.take k)) (xs[k]?.getD 0) := by rw [t1, ofL_snoc]
      have HP := Lib.hid hpush
      clear t1 hpush
      go_wp2_with fail
      refine (push_any _ _ q m d _ hi hsz).mono ?_
      rintro e w2 ⟨q2, m2, d2', rfl, hi2, hb2⟩
      have y0 := blk_below X0.out hb2
      have y1 := blk_below X1.out hb2
      obtain ⟨e0, e1, e2⟩ := blk y0
      obtain ⟨f0, f1, f2⟩ := blk y1
      have Y0 := Lib.hid y0
      have Y1 := Lib.hid y1
      clear y0 y1
      go_wp2_with fail
      go_roundw
      case rel =>
        have y2 := blk_set (i := 0) (v := .slice q2 m2 d2') Y1.out
        refine ⟨k + 1, q2, m2, d2', by omega, by go_num, blk_far Y0.out (by omega), y2, ?_, (hb.trans (hb2.mono hb.size)).setCell (p := ⟨w.heap.size + 1, 0, none⟩) (by simp) _⟩
        rw [HP.out]
        exact hi2.keep (.setCell Y1.out (by decide)) (.setCell Y1.out (by decide))
      case measure => simp [intOf]; omega
    · have he : k = n := by omega
      have hxs : xs.take k = xs := List.take_of_length_le (by have := HL.out; omega)
      rw [hxs] at hi
      have HX := Lib.hid hxs
      clear hxs he
      go_wp2_with fail
      have y2 := blk_set (i := 0) (v := .slice q m d) X0.out
      obtain ⟨f0, f1, f2⟩ := blk y2
      refine bodyPost_ret (v := .agg #[.slice q m d]) (by simp [results, Try.results7, go_sem, f0]) rfl ⟨q, m, d, rfl, hi.keep (.setCell X0.out (by decide)) (.setCell X0.out (by decide)), hb.setCell (p := ⟨w.heap.size, 0, none⟩) (Nat.le_refl _) _⟩
end BH
end Go.Proofs.Ytdeffgaghmghoaa
