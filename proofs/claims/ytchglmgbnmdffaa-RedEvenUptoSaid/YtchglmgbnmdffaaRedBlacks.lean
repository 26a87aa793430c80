/-
  How many black ones are on each way down of a told tree. Conditions: none.
-/
import Derived.Test.YtchglmgbnmdffaaRedShape
namespace Go.Proofs.Ytchglmgbnmdffaa.RED
open Go.RowKit Go.Deep
open Go.Proofs.Ytchglmgbnmdffaa Go.Proofs.Ytchglmgbnmdffaa.ST

theorem bh_le (t : ST) : bh t ≤ t.size := by
  induction t with
  | nil => exact Nat.le_refl _
  | node c x l r ihl _ => cases c <;> simp only [bh, ST.size] <;> simp <;> omega

set_option maxHeartbeats 400000 in
theorem blacks_any (S : List Nd) (a : Option Addr) (n c : Nat) (t : ST) : ∀ (k : Nat) (w : World), Nl w a n c S → At mrk S t k → RB t →
    Calls Try.prog 45 #[.slice a n c, .int .i64 (refOf t k)] w fun e w' => e = .returned (.int .i64 (bh t : Int)) ∧ w' = w := by
  induction t with
  | nil =>
    intro k w h hat _
    rw [ref_nil]
    go_enter Try.func45, Try.ntmps45
    go_wp2
    go_ret
    exact ⟨rfl, rfl⟩
  | node x0 x l r ihl ihr =>
    intro k w h hat hrb
    rw [ref_node]
    have hsz := at_size _ _ hat (by simp)
    have hk := at_lt hat
    rw [h.hlen] at hk hsz
    simp only [ST.size] at hsz
    have hh1 := bh_le l
    have hm := h.hmax
    have hm2 := h.hcap
    unfold maxLen at hm
    have IL := Lib.hid (fun w h => ihl (k + 1) w h hat.2.1 hrb.1)
    have IR := Lib.hid (fun w h => ihr (k + 1 + l.size) w h hat.2.2 hrb.2.1)
    have HH := Lib.hid h
    obtain ⟨b, off, rfl, hb, hc⟩ := h.hat (by omega)
    obtain ⟨g0, g1, g2, g3⟩ := hc k _ hat.1
    have hbh := hrb.2.2.1
    rw [← hbh] at IR
    have hki : (0 : Int) ≤ (k : Int) := by omega
    have hkn : (k : Int) < (n : Int) := by omega
    rw [mrk_node] at g3
    have g1' : w.cell? ⟨b, off + k * 4 + 1, none⟩ = some (.int .i64 (refOf l (k + 1))) := g1
    have g2' : w.cell? ⟨b, off + k * 4 + 2, none⟩ = some (.int .i64 (refOf r (k + 1 + l.size))) := g2
    clear hc g0 g1 g2 hat hrb hbh h ihl ihr
    obtain ⟨B, hB⟩ : ∃ B, bh l = B := ⟨_, rfl⟩
    rw [hB] at IL IR hh1
    have hd : ¬ ((B : Int) < 0) := by omega
    have hd2 : decide ((B : Int) < 0) = false := by rw [decide_eq_false_iff_not]; omega
    have hr1 : IntKind.i64.wrap ((B : Int) + 1) = (B : Int) + 1 := IntWalk.i64_in _ (by omega)
    cases x0 with
    | true =>
      have e : bh (ST.node true x l r) = B := by simp [bh, hB]
      rw [e]
      have g3' : w.cell? ⟨b, off + k * 4 + 3, none⟩ = some (.int .i64 1) := g3
      clear g3 e hB
      go_enter Try.func45, Try.ntmps45
      go_wp2_with fail
      refine (IL.out _ HH.out).mono ?_
      rintro e w' ⟨rfl, rfl⟩
      go_wp2_with fail
      refine (IR.out _ HH.out).mono ?_
      rintro e w' ⟨rfl, rfl⟩
      go_wp2_with fail
      go_ret
      exact ⟨rfl, rfl⟩
    | false =>
      have e : bh (ST.node false x l r) = B + 1 := by simp [bh, hB]
      rw [e]
      have g3' : w.cell? ⟨b, off + k * 4 + 3, none⟩ = some (.int .i64 0) := g3
      clear g3 e hB
      go_enter Try.func45, Try.ntmps45
      go_wp2_with fail
      refine (IL.out _ HH.out).mono ?_
      rintro e w' ⟨rfl, rfl⟩
      go_wp2_with fail
      refine (IR.out _ HH.out).mono ?_
      rintro e w' ⟨rfl, rfl⟩
      go_wp2_with fail
      go_ret
      exact ⟨by go_num, rfl⟩
end Go.Proofs.Ytchglmgbnmdffaa.RED
