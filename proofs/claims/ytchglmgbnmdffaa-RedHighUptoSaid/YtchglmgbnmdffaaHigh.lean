/-
  How high a told tree is. Conditions: none.
-/
import Derived.Test.YtchglmgbnmdffaaNodes
namespace Go.Proofs.Ytchglmgbnmdffaa
open Go.RowKit Go.Deep

set_option maxHeartbeats 400000 in
theorem high_any (m : ST → Int) (S : List Nd) (a : Option Addr) (n c : Nat) (t : ST) : ∀ (k : Nat) (w : World), Nl w a n c S → At m S t k →
    Calls Try.prog 46 #[.slice a n c, .int .i64 (refOf t k)] w fun e w' => e = .returned (.int .i64 (t.height : Int)) ∧ ∃ d, w' = w.drewN d := by
  induction t with
  | nil =>
    intro k w h hat
    rw [ref_nil]
    go_enter Try.func46, Try.ntmps46
    go_wp2
    go_ret
    exact ⟨rfl, 0, rfl⟩
  | node x0 x l r ihl ihr =>
    intro k w h hat
    rw [ref_node]
    have hsz := at_size _ _ hat (by simp)
    have hk := at_lt hat
    rw [h.hlen] at hk hsz
    simp only [ST.size] at hsz
    have hh1 := ST.height_le l
    have hh2 := ST.height_le r
    have hm := h.hmax
    have hm2 := h.hcap
    unfold maxLen at hm
    obtain ⟨b, off, rfl, hb, hc⟩ := h.hat (by omega)
    obtain ⟨g0, g1, g2, g3⟩ := hc k _ hat.1
    obtain ⟨_, hl, hr⟩ := hat
    have hki : (0 : Int) ≤ (k : Int) := by omega
    have hkn : (k : Int) < (n : Int) := by omega
    clear hc g0 g3
    by_cases hlt : l.height < r.height
    · have hd : ((l.height : Int) < (r.height : Int)) := by omega
      have hdn : max (l.height : Int) (r.height : Int) = (r.height : Int) := by omega
      have hr1 : IntKind.i64.wrap (1 + (r.height : Int)) = 1 + (r.height : Int) := IntWalk.i64_in _ (by omega)
      go_enter Try.func46, Try.ntmps46
      go_wp2
      go_quiet ((first | (go_at_call 46; with_reducible exact Calls.quiet_of (ihl (k + 1) _ (h.drewN _) hl)) | (go_at_call 46; with_reducible exact Calls.quiet_of (ihr (k + 1 + l.size) _ (h.drewN _) hr))))
      go_wp2
      go_ret
      exact ⟨by rw [show (((ST.node x0 x l r).height : Nat) : Int) = 1 + (r.height : Int) by simp only [ST.height]; omega]; rfl, nq, rfl⟩
    · have hd : ¬ ((l.height : Int) < (r.height : Int)) := by omega
      have hdn : max (l.height : Int) (r.height : Int) = (l.height : Int) := by omega
      have hr1 : IntKind.i64.wrap (1 + (l.height : Int)) = 1 + (l.height : Int) := IntWalk.i64_in _ (by omega)
      go_enter Try.func46, Try.ntmps46
      go_wp2
      go_quiet ((first | (go_at_call 46; with_reducible exact Calls.quiet_of (ihl (k + 1) _ (h.drewN _) hl)) | (go_at_call 46; with_reducible exact Calls.quiet_of (ihr (k + 1 + l.size) _ (h.drewN _) hr))))
      go_wp2
      go_ret
      exact ⟨by rw [show (((ST.node x0 x l r).height : Nat) : Int) = 1 + (l.height : Int) by simp only [ST.height]; omega]; rfl, nq, rfl⟩
end Go.Proofs.Ytchglmgbnmdffaa
