/-
  The number of an error, told; is an error the one told? Conditions: errors.errorType holds the handle of error.
-/
import Derived.Test.YtbmapjbljgpfkaaDoorErrAs
import Derived.Test.YtbmapjbljgpfkaaDoorSkewDec
namespace Go.Proofs.YtbmapjbljgpfkaaDoor
open Go.RowKit Go.Deep
set_option linter.unusedVariables false
namespace SK
/-- errors.errorType holds the handle of error. -/
def Hdl (w : World) : Prop := w.cell? ⟨0, 0, none⟩ = some (.iface 59 (.agg #[.pointer (some ⟨1, 28, none⟩)]))
theorem Hdl.pos {w : World} (h : Hdl w) : 0 < w.heap.size := World.block_lt_of_cell? w ⟨0, 0, none⟩ h
theorem Hdl.below {w w' : World} (h : Hdl w) (hb : Below w.heap.size w w') : Hdl w' := (hb.cell (p := ⟨0, 0, none⟩) h.pos).trans h
theorem told_nil (w : World) : Calls Tryd.prog 15 #[.nilIface] w fun e w' => e = .returned (.int .i64 0) ∧ Below w.heap.size w w' := by
  go_enter Tryd.func15, Tryd.ntmps15
  go_wp2_with fail
  go_ret
  exact ⟨rfl, Below.refl _ _⟩
set_option maxHeartbeats 1000000 in
theorem told_err (v : Int) (w : World) (h : Hdl w) : Calls Tryd.prog 15 #[.iface 24 (.int .i64 v)] w fun e w' => e = .returned (.int .i64 v) ∧ Below w.heap.size w w' := by
  have b1 : Below w.heap.size w (w.alloc (.cells #[.int .i64 0] 24)) := (Below.refl _ _).alloc (Nat.le_refl _) _
  have hg := h.below b1
  have H := Lib.hid hg
  have hp := h.pos
  clear hg h
  go_enter Tryd.func15, Tryd.ntmps15
  go_wp2_with fail
  refine (as_hit v ⟨w.heap.size, 0, none⟩ (.int .i64 0) _ H.out (by simp) (by simp)).mono ?_
  rintro e w2 ⟨rfl, rfl⟩
  go_wp2_with fail
  go_ret
  refine ⟨rfl, ?_⟩
  exact ((((((Below.refl _ _).alloc (Nat.le_refl _) _).alloc (by simp) _).alloc (by simp; omega) _).alloc (by simp; omega) _).alloc (by simp; omega) _)
theorem error_yes (o : Option Int) (e : Int) (w : World) (h : Hdl w) (he : o.getD 0 = e) :
    Calls Tryd.prog 6 #[(match o with | none => .nilIface | some v => .iface 24 (.int .i64 v)), .int .i64 e] w fun r w' => r = .returned (.bool true) ∧ Below w.heap.size w w' := by
  cases o with
  | none =>
    obtain rfl : 0 = e := he
    go_enter Tryd.func6, Tryd.ntmps6
    go_wp2_with fail
    refine (told_nil _).mono ?_
    rintro r w1 ⟨rfl, hb⟩
    go_wp2_with fail
    go_ret
    exact ⟨rfl, hb⟩
  | some v =>
    obtain rfl : v = e := he
    have H := Lib.hid h
    clear h
    go_enter Tryd.func6, Tryd.ntmps6
    go_wp2_with fail
    refine (told_err v _ H.out).mono ?_
    rintro r w1 ⟨rfl, hb⟩
    go_wp2_with fail
    go_ret
    exact ⟨by simp, hb⟩
end SK
end Go.Proofs.YtbmapjbljgpfkaaDoor
