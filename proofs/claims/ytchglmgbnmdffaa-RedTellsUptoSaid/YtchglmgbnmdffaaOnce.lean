/-
  The document's sets: how often a number is there, each number once, those that another list has or has not. Conditions: fewer than 2^44 numbers.
-/
import Derived.Test.YtchglmgbnmdffaaRef
import Derived.Test.YtchglmgbnmdffaaSetPlain
namespace Go.Proofs.Ytchglmgbnmdffaa
open Go.RowKit Go.Deep

theorem own_mono {w : World} {base base' : Nat} {e : TypeId} {size : Nat} {v : Value} {n : Nat} {xs : List Value} (h : w.ownsRow base e size v n xs) (hb : base' ≤ base) : w.ownsRow base' e size v n xs := by
  refine ⟨h.1, ?_⟩
  rcases h.2 with hn | ⟨g, cap, cur, hv, hg, r⟩
  · exact .inl hn
  · exact .inr ⟨g, cap, cur, hv, Nat.le_trans hb hg, r⟩

theorem often_any (a : Option Addr) (n c : Nat) (xs : List Int) (x : Int) (w : World) (h : Sl w a n c xs) :
    Calls Try.prog 27 #[.slice a n c, .int .i64 x] w fun e w' => e = .returned (.int .i64 (oftenN xs x : Int)) ∧ w = w' := by
  have hm := h.hmax
  have hm2 := h.hcap
  unfold maxLen at hm
  have HL := Lib.hid h.hlen
  have HH := Lib.hid h
  clear h
  go_enter Try.func27, Try.ntmps27
  go_wp2
  go_loop [5, 6] (fun m i => ∃ k : Nat, k ≤ n ∧ i = .int .i64 k ∧ m = .int .i64 (oftenN (xs.take k) x : Int)) (fun _ i => n - (intOf i).toNat)
  case atStart => exact ⟨0, Nat.zero_le _, rfl, rfl⟩
  case round =>
    obtain ⟨k, hk, rfl, rfl⟩ := hrel
    by_cases hlt : k < n
    · obtain ⟨b, off, rfl, hbl, hc⟩ := HH.out.hat (by omega)
      have g := hc k hlt
      clear hc
      have hlti : (k : Int) < (n : Int) := by omega
      have hb1 := often_le (xs.take k) x
      have hb2 : (xs.take k).length ≤ k := List.length_take_le _ _
      have hb3 : (oftenN (xs.take k) x : Int) + 1 ≤ 9223372036854775807 := by omega
      have t1 := take_snoc' xs k (by have := HL.out; omega)
      have t2 := often_snoc (xs.take k) (xs[k]?.getD 0) x
      rw [← t1] at t2
      have T2 := Lib.hid t2
      clear t1 t2
      by_cases hv : xs[k]?.getD 0 = x
      · have hvb : (xs[k]?.getD 0 == x) = true := by simp [hv]
        have HV := Lib.hid hv
        clear hv
        go_wp2
        go_round
        case rel => exact ⟨k + 1, by omega, by go_num, by rw [T2.out, if_pos HV.out]; go_num⟩
        case measure => simp [intOf]; omega
      · have hvb : (xs[k]?.getD 0 == x) = false := by simp [hv]
        have HV := Lib.hid hv
        clear hv
        go_wp2
        go_round
        case rel => exact ⟨k + 1, by omega, by go_num, by rw [T2.out, if_neg HV.out]; go_num⟩
        case measure => simp [intOf]; omega
    · have hxs : xs.take k = xs := List.take_of_length_le (by have := HL.out; omega)
      rw [hxs]
      have HX := Lib.hid hxs
      clear hxs
      go_wp2
      go_ret
      exact ⟨rfl, rfl⟩

set_option maxHeartbeats 1600000 in
theorem once_any (a : Option Addr) (n c : Nat) (xs : List Int) (w : World) (h : Sl w a n c xs) (hn : n ≤ 17592186044416) :
    Calls Try.prog 25 #[.slice a n c] w fun e w' => ∃ v m, e = .returned v ∧ w'.ownsRow w.heap.size 3 1 v m ((onceL xs).map (Value.int .i64)) ∧ m ≤ n ∧ Below w.heap.size w w' := by
  have hm := h.hmax
  have hm2 := h.hcap
  unfold maxLen at hm
  have HL := Lib.hid h.hlen
  have HH := Lib.hid h
  clear h
  go_enter Try.func25, Try.ntmps25
  go_wp2_with fail
  go_loopw [3, 4] (fun v i wr => ∃ (k m : Nat), k ≤ n ∧ m ≤ k ∧ i = .int .i64 k ∧ wr.ownsRow w.heap.size 3 1 v m ((onceL (xs.take k)).map (Value.int .i64)) ∧ Below w.heap.size w wr) (fun _ i _ => n - (intOf i).toNat)
  case atStart => exact ⟨0, 0, Nat.zero_le _, Nat.le_refl _, rfl, World.ownsRow_nil _ _ _ _, Below.refl _ _⟩
  case round =>
    obtain ⟨k, m, hk, hmk, rfl, hown0, hb⟩ := hrel
    obtain ⟨a', c', rfl, hs⟩ := Sl.of_own hown0
    have HOW := Lib.hid hown0
    clear hown0
    have hbs0 := hb.size
    by_cases hlt : k < n
    · obtain ⟨b, off, rfl, hbl, hc⟩ := HH.out.hat (by omega)
      have g := (hb.cell (p := ⟨b, off + k, none⟩) hbl).trans (hc k hlt)
      have hbl2 : b < wr.heap.size := Nat.lt_of_lt_of_le hbl hb.size
      clear hc
      have hlti : (k : Int) < (n : Int) := by omega
      have t1 := take_snoc' xs k (by have := HL.out; omega)
      have t2 := onceL_snoc (xs.take k) (xs[k]?.getD 0)
      rw [← t1] at t2
      have T2 := Lib.hid t2
      clear t1 t2
      have hle2 : (onceL (xs.take k)).length = m := hs.hlen
      obtain ⟨L, hL⟩ : ∃ L, onceL (xs.take k) = L := ⟨_, rfl⟩
      rw [hL] at hs hle2
      have HLL := Lib.hid hL
      have HLE := Lib.hid hle2
      clear hL hle2
      have hle := belowN_le L (xs[k]?.getD 0)
      have hbm : belowN L (xs[k]?.getD 0) ≤ m := by have := HLE.out; omega
      clear hle
      by_cases hz : oftenN L (xs[k]?.getD 0) = 0
      · have hzb : ((oftenN L (xs[k]?.getD 0) : Int) == 0) = true := by simp [hz]
        have hone : onceStep L (xs[k]?.getD 0) = withL L (belowN L (xs[k]?.getD 0)) (xs[k]?.getD 0) := by unfold onceStep; rw [if_pos hz]; rfl
        have HO := Lib.hid hone
        clear hone hz
        go_wp2_with fail
        refine (often_any a' m c' L (xs[k]?.getD 0) _ hs).mono ?_
        rintro e w1 ⟨rfl, rfl⟩
        go_wp2_with fail
        go_region_held3 (fun w' => w'.cell? ⟨b, off + k, none⟩ = some (.int .i64 (xs[k]?.getD 0))) (go_keep) (first
          | (go_at_call 35; refine (below_any a' m c' _ (xs[k]?.getD 0) _ (by first | exact hs.drew | exact hs.drewN _)).mono ?_; rintro e w' ⟨rfl, rfl⟩)
          | (go_at_call 52; refine (with_any a' m c' _ _ (xs[k]?.getD 0) _ (by first | exact hs.drew | exact hs.drewN _) (by omega) (by omega)).mono ?_; rintro e w2 ⟨v2, rfl, hown, hb2⟩; replace hb2 := below_of_drew hb2; have g2 := (hb2.cell (p := ⟨b, off + k, none⟩) hbl2).trans g))
        go_wp2_with fail
        go_roundw
        case rel => exact ⟨k + 1, m + 1, by omega, by omega, by go_num, by rw [T2.out, HLL.out, HO.out]; exact own_mono hown hbs0, hb.trans (hb2.mono hb.size)⟩
        case measure => simp [intOf]; omega
      · have hzb : ((oftenN L (xs[k]?.getD 0) : Int) == 0) = false := by simp [hz]
        have hone : onceStep L (xs[k]?.getD 0) = L := by unfold onceStep; rw [if_neg hz]
        have HO := Lib.hid hone
        clear hone hz
        go_wp2_with fail
        refine (often_any a' m c' L (xs[k]?.getD 0) _ hs).mono ?_
        rintro e w1 ⟨rfl, rfl⟩
        go_wp2_with fail
        go_roundw
        case rel => exact ⟨k + 1, m, by omega, by omega, by go_num, by rw [T2.out, HLL.out, HO.out, ← HLL.out]; exact HOW.out, hb⟩
        case measure => simp [intOf]; omega
    · have he : k = n := by omega
      subst he
      have hxs : xs.take k = xs := List.take_of_length_le (by have := HL.out; omega)
      have HX := Lib.hid hxs
      clear hxs
      go_wp2_with fail
      go_ret
      exact ⟨_, _, rfl, by have := HOW.out; rwa [HX.out] at this, hmk, hb⟩
end Go.Proofs.Ytchglmgbnmdffaa
