/-
  How many nodes a told tree has. Conditions: none.
-/
import Derived.Test.YtchglmgbnmdffaaNodes
namespace Go.Proofs.Ytchglmgbnmdffaa
open Go.RowKit Go.Deep

set_option maxHeartbeats 400000 in
theorem many_any (m : ST → Int) (S : List Nd) (a : Option Addr) (n c : Nat) (t : ST) : ∀ (k : Nat) (w : World), Nl w a n c S → At m S t k →
    Calls Try.prog 36 #[.slice a n c, .int .i64 (refOf t k)] w fun e w' => e = .returned (.int .i64 (t.size : Int)) ∧ ∃ d, w' = w.drewN d := by
  induction t with
  | nil =>
    intro k w h hat
    rw [ref_nil]
    go_enter Try.func36, Try.ntmps36
    go_wp2
    go_ret
    exact ⟨rfl, 0, rfl⟩
  | node x0 x l r ihl ihr =>
    intro k w h hat
    rw [ref_node]
    have hsz := at_size _ _ hat (by simp)
    have hk := at_lt hat
    rw [h.hlen] at hk hsz
    simp only [ST.size] at hsz
    have hm := h.hmax
    have hm2 := h.hcap
    unfold maxLen at hm
    obtain ⟨b, off, rfl, hb, hc⟩ := h.hat (by omega)
    obtain ⟨g0, g1, g2, g3⟩ := hc k _ hat.1
    obtain ⟨_, hl, hr⟩ := hat
    have hki : (0 : Int) ≤ (k : Int) := by omega
    have hkn : (k : Int) < (n : Int) := by omega
    have hr1 : IntKind.i64.wrap (1 + (l.size : Int)) = 1 + (l.size : Int) := IntWalk.i64_in _ (by omega)
    have hr2 : IntKind.i64.wrap (1 + (l.size : Int) + (r.size : Int)) = 1 + (l.size : Int) + (r.size : Int) := IntWalk.i64_in _ (by omega)
    clear hc g0 g3
    go_enter Try.func36, Try.ntmps36
    go_wp2
    go_quiet ((first | (go_at_call 36; with_reducible exact Calls.quiet_of (ihl (k + 1) _ (h.drewN _) hl)) | (go_at_call 36; with_reducible exact Calls.quiet_of (ihr (k + 1 + l.size) _ (h.drewN _) hr))))
    go_wp2
    go_ret
    exact ⟨by rw [show (((ST.node x0 x l r).size : Nat) : Int) = 1 + (l.size : Int) + (r.size : Int) by simp only [ST.size]; omega]; rfl, nq, rfl⟩
end Go.Proofs.Ytchglmgbnmdffaa
