/-
  The document's sorted list. Conditions: fewer than 2^44 numbers.
-/
import Derived.Test.YtdeffgaghmghoaaRef
namespace Go.Proofs.Ytdeffgaghmghoaa
open Go.RowKit Go.Deep

set_option maxHeartbeats 800000 in
theorem sorted_any (a : Option Addr) (n c : Nat) (xs : List Int) (w : World) (h : Sl w a n c xs) (hn : n ≤ 17592186044416) :
    Calls Try.prog 14 #[.slice a n c] w fun e w' => ∃ a' c', e = .returned (.slice a' n c') ∧ Sl w' a' n c' (sortL xs) ∧ Below w.heap.size w w' := by
  have hm := h.hmax
  have hm2 := h.hcap
  unfold maxLen at hm
  have HL := Lib.hid h.hlen
  have HH := Lib.hid h
  clear h
  go_enter Try.func14, Try.ntmps14
  go_wp2_with fail
  go_loopw [3, 4] (fun v i wr => ∃ (k : Nat) (a' : Option Addr) (c' : Nat), k ≤ n ∧ i = .int .i64 k ∧ v = .slice a' k c' ∧ Sl wr a' k c' (sortL (xs.take k)) ∧ Below w.heap.size w wr) (fun _ i _ => n - (intOf i).toNat)
  case atStart => exact ⟨0, none, 0, Nat.zero_le _, rfl, rfl, Sl.nil _, Below.refl _ _⟩
  case round =>
    obtain ⟨k, a', c', hk, rfl, rfl, hs, hb⟩ := hrel
    by_cases hlt : k < n
    · obtain ⟨b, off, rfl, hbl, hc⟩ := HH.out.hat (by omega)
      have g := (hb.cell (p := ⟨b, off + k, none⟩) hbl).trans (hc k hlt)
      have hbl2 : b < wr.heap.size := Nat.lt_of_lt_of_le hbl hb.size
      clear hc
      have hlti : (k : Int) < (n : Int) := by omega
      have t1 := take_snoc' xs k (by have := HL.out; omega)
      have t2 := sortL_snoc (xs.take k) (xs[k]?.getD 0)
      rw [← t1] at t2
      have T2 := Lib.hid t2
      clear t1 t2
      have hle := belowN_le (sortL (xs.take k)) (xs[k]?.getD 0)
      have hle2 : (sortL (xs.take k)).length ≤ k := by rw [hs.hlen]; exact Nat.le_refl _
      go_wp2_with fail
      go_region_held3 (fun w' => w'.cell? ⟨b, off + k, none⟩ = some (.int .i64 (xs[k]?.getD 0))) (go_keep) (first
        | (go_at_call 24; refine (below_any a' k c' _ (xs[k]?.getD 0) _ (by first | exact hs.drew | exact hs.drewN _)).mono ?_; rintro e w' ⟨rfl, rfl⟩)
        | (go_at_call 23; refine (with_any a' k c' _ _ (xs[k]?.getD 0) _ (by first | exact hs.drew | exact hs.drewN _) (by omega) (by omega)).mono ?_; rintro e w2 ⟨v2, rfl, hown, hb2⟩; obtain ⟨a2, c2, rfl, hs2⟩ := Sl.of_own hown; replace hb2 := below_of_drew hb2; have g2 := (hb2.cell (p := ⟨b, off + k, none⟩) hbl2).trans g))
      go_wp2_with fail
      go_roundw
      case rel => exact ⟨k + 1, a2, c2, by omega, by go_num, rfl, by rw [T2.out]; exact hs2, hb.trans (hb2.mono hb.size)⟩
      case measure => simp [intOf]; omega
    · have he : k = n := by omega
      subst he
      have hxs : xs.take k = xs := List.take_of_length_le (by have := HL.out; omega)
      rw [hxs] at hs
      clear hxs
      go_wp2_with fail
      go_ret
      exact ⟨_, _, rfl, hs, hb⟩
end Go.Proofs.Ytdeffgaghmghoaa
