/-
  Finger trees: some things as a level. Conditions: at most 2^44 numbers.
-/
import Derived.Test.YtpkfakndlbngbaaFinPushR
namespace Go.Proofs.Ytpkfakndlbngbaa
open Go.RowKit Go.Deep
open Go.Proofs.Ytpkfakndlbngbaa.MN
set_option linter.unusedVariables false
namespace FG

theorem some_snoc (l : List Th) (k : Nat) (h : k < l.length) : Lv.someL (l.take (k + 1)) = Lv.pushR (l[k]?.getD (.leaf 0)) (Lv.someL (l.take k)) := by
  unfold Lv.someL
  rw [List.take_add_one, List.getElem?_eq_getElem h, List.foldl_append]
  rfl
theorem some_size {l : List Th} {d : Nat} (h : All d l) : (Lv.someL l).size = tsN l := by
  rw [← Lv.len, (Lv.some_ok h).2, tsL_len]
set_option maxHeartbeats 1000000 in
theorem some_any (a : Option Addr) (n c : Nat) (l : List Th) (d : Nat) (w : World) (h : Dg w a n c l) (hd : All d l) (hs : tsN l ≤ 17592186044416) :
    Calls Try.prog 65 #[.slice a n c] w fun e w' => ∃ p, e = .returned (.pointer p) ∧ InV w' p (Lv.someL l) ∧ Below w.heap.size w w' := by
  have hlen := h.len
  obtain ⟨ps, hp, hl⟩ := h
  have hm := hp.hmax
  have hm2 := hp.hcap
  unfold maxLen at hm
  have HP := Lib.hid hp
  have HI := Lib.hid hl
  have HLEN := Lib.hid hlen
  have HSZ := Lib.hid hs
  have HD := Lib.hid hd
  clear hp hl hlen hs hd
  go_enter Try.func65, Try.ntmps65
  go_wp2_with fail
  go_loopw [3, 8] (fun vv i wr => ∃ (k : Nat) (pv : Option Addr), k ≤ n ∧ i = .int .i64 k ∧ vv = .pointer pv ∧ InV wr pv (Lv.someL (l.take k)) ∧ Below w.heap.size w wr) (fun _ i _ => n - (intOf i).toNat)
  case atStart => exact ⟨0, none, Nat.zero_le _, rfl, rfl, rfl, Below.refl _ _⟩
  case round =>
    obtain ⟨k, pv, hk, rfl, rfl, hv, hb⟩ := hrel
    by_cases hlt : k < n
    · obtain ⟨b, off, rfl, hbl, hc⟩ := HP.out.cell (by omega)
      have g := (hb.cell (p := ⟨b, off + k, none⟩) hbl).trans (hc k hlt)
      have ht := (HI.out.get k (by have := HLEN.out; omega)).below hb
      have hdk := at_dp HD.out (k := k) (by have := HLEN.out; omega)
      have e1 := tsN_take_snoc l k (by have := HLEN.out; omega)
      have e2 := tsN_take_le l (k + 1)
      have e3 := some_size (HD.out.take k)
      have hsz : (l[k]?.getD (.leaf 0)).size + (Lv.someL (l.take k)).size ≤ 17592186044416 := by have := HSZ.out; omega
      have hok := (Lv.some_ok (HD.out.take k)).1
      have HC := Lib.hid (pushR_any _ _ _ _ d wr ht hv hok hsz)
      have SN := Lib.hid (some_snoc l k (by have := HLEN.out; omega))
      have hlti : (k : Int) < (n : Int) := by omega
      obtain ⟨q, hq⟩ : ∃ q, ps[k]?.getD none = q := ⟨_, rfl⟩
      rw [hq] at g HC
      clear hc ht hdk e1 e2 e3 hsz hok hv hq
      go_wp2_with fail
      refine HC.out.mono ?_
      rintro e w1 ⟨r, rfl, hr, hb1⟩
      have hb2 := below_then hb hb1
      go_wp2_with fail
      go_roundw
      case rel => exact ⟨k + 1, r, by omega, by go_num, rfl, by rw [SN.out]; exact hr, hb2⟩
      case measure => simp [intOf]; omega
    · have hxs : l.take k = l := List.take_of_length_le (by have := HLEN.out; omega)
      rw [hxs] at hv
      clear hxs
      go_wp2_with fail
      go_ret
      exact ⟨pv, rfl, hv, hb⟩
end FG
end Go.Proofs.Ytpkfakndlbngbaa
