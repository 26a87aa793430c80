/-
  The walk of SkewTells, case by case. Conditions: errors.errorType holds the handle of error.
-/
import Derived.Test.YtbmapjbljgpfkaaDoorSkewSpec
import Derived.Test.YtbmapjbljgpfkaaDoorSame
namespace Go.Proofs.YtbmapjbljgpfkaaDoor
open Go.RowKit Go.Deep
open Go.Proofs.YtbmapjbljgpfkaaDoor.SK
set_option linter.unusedVariables false
set_option maxRecDepth 100000
set_option maxHeartbeats 4000000 in
theorem st_1111a (a0 : Option Addr) (n0 c0 : Nat) (x0 : List Int) (x1 s : Int) (w : World) (hs : Sl w a0 n0 c0 x0) (hh : Hdl w) (ix : I64 x1) (hv : valid x0) (he : x0.sum = s) (h0 : 0 ≤ s) (h1 : s ≤ 2199023255550) (hi : s < 1099511627776) (hd : ¬ s < 1) (hd2 : ¬ 1099511627777 < s) (g0 : ¬ x1 < 0) (g1 : ¬ 1099511627776 < x1) :
    Calls Tryd.prog 3 #[.slice a0 n0 c0, .int .i64 x1] w fun e w' => e = .returned (.bool true) ∧ Below w.heap.size w w' := by
  have HS := Lib.hid hs
  have HH := Lib.hid hh
  have HV := Lib.hid hv
  have HE := Lib.hid he
  have hi2 : ¬ 1099511627776 ≤ s := by omega
  clear he
  clear hs hh hv
  have ix0 := ix.1
  have ix1 := ix.2
  clear ix
  go_enter Tryd.func3, Tryd.ntmps3
  go_wp2_with fail
  refine (skewed_any _).mono ?_
  rintro e w1 ⟨rfl, hb1⟩
  go_wp2_with fail
  refine (fault_no _ _ _ x0 _ (HS.out.below hb1) HV.out).mono ?_
  rintro e w2 ⟨rfl, hb2⟩
  go_wp2_with fail
  refine (check_yes _ _ _ x0 _ (HS.out.below (below_then hb1 hb2)) HV.out).mono ?_
  rintro e w3 ⟨rfl, hb3⟩
  go_wp2_with fail
  refine (err_nil _ (HH.out.below (below_then (below_then hb1 hb2) hb3))).mono ?_
  rintro e w4 ⟨rfl, hb4⟩
  go_wp2_with fail
  refine (sum_yes _ _ _ x0 _ (HS.out.below (below_then (below_then (below_then hb1 hb2) hb3) hb4)) s HV.out HE.out).mono ?_
  rintro e w5 ⟨rfl, hb5⟩
  go_wp2_with fail
  refine (value_yes _ _ _ x0 _ (HS.out.below (below_then (below_then (below_then (below_then hb1 hb2) hb3) hb4) hb5)) s HV.out HE.out).mono ?_
  rintro e w6 ⟨rfl, hb6⟩
  go_wp2_with fail
  refine (err_nil _ (HH.out.below (below_then (below_then (below_then (below_then (below_then hb1 hb2) hb3) hb4) hb5) hb6))).mono ?_
  rintro e w7 ⟨rfl, hb7⟩
  go_wp2_with fail
  refine (skewOf_any (s + 1) _ (by omega) (by omega)).mono ?_
  rintro e w8 ⟨am, nm, cm, rfl, sm, hb8⟩
  go_wp2_with fail
  refine (skewOf_any (s - 1) _ (by omega) (by omega)).mono ?_
  rintro e w9 ⟨al, nl, cl, rfl, sl, hb9⟩
  go_wp2_with fail
  refine (inc_in _ _ _ x0 _ (HS.out.below (below_then (below_then (below_then (below_then (below_then (below_then (below_then (below_then hb1 hb2) hb3) hb4) hb5) hb6) hb7) hb8) hb9)) s HV.out HE.out (by omega)).mono ?_
  rintro e w10 ⟨ai, ni, ci, rfl, si, hb10⟩
  go_wp2_with fail
  refine (err_nil _ (HH.out.below (below_then (below_then (below_then (below_then (below_then (below_then (below_then (below_then (below_then hb1 hb2) hb3) hb4) hb5) hb6) hb7) hb8) hb9) hb10))).mono ?_
  rintro e w11 ⟨rfl, hb11⟩
  go_wp2_with fail
  refine (same_yes _ _ _ _ _ _ _ _ _ (si.below hb11) (sm.below (below_then (below_then hb9 hb10) hb11)) rfl).mono ?_
  rintro e w12 ⟨rfl, hb12⟩
  go_wp2_with fail
  refine (dec_in _ _ _ x0 _ (HS.out.below (below_then (below_then (below_then (below_then (below_then (below_then (below_then (below_then (below_then (below_then (below_then hb1 hb2) hb3) hb4) hb5) hb6) hb7) hb8) hb9) hb10) hb11) hb12)) s HV.out HE.out (by omega) (by omega)).mono ?_
  rintro e w13 ⟨ad, nd, cd, rfl, sd, hb13⟩
  go_wp2_with fail
  refine (err_nil _ (HH.out.below (below_then (below_then (below_then (below_then (below_then (below_then (below_then (below_then (below_then (below_then (below_then (below_then hb1 hb2) hb3) hb4) hb5) hb6) hb7) hb8) hb9) hb10) hb11) hb12) hb13))).mono ?_
  rintro e w14 ⟨rfl, hb14⟩
  go_wp2_with fail
  refine (same_yes _ _ _ _ _ _ _ _ _ (sd.below hb14) (sl.below (below_then (below_then (below_then (below_then hb10 hb11) hb12) hb13) hb14)) rfl).mono ?_
  rintro e w15 ⟨rfl, hb15⟩
  go_wp2_with fail
  refine (skewOf_any x1 _ (by omega) (by omega)).mono ?_
  rintro e w16 ⟨ag, ng, cg, rfl, sg, hb16⟩
  go_wp2_with fail
  refine (Digits_good x1 _ (by omega) (by omega)).mono ?_
  rintro e w17 ⟨at', nt, ct, rfl, st, hb17⟩
  go_wp2_with fail
  refine (err_nil _ (HH.out.below (below_then (below_then (below_then (below_then (below_then (below_then (below_then (below_then (below_then (below_then (below_then (below_then (below_then (below_then (below_then (below_then hb1 hb2) hb3) hb4) hb5) hb6) hb7) hb8) hb9) hb10) hb11) hb12) hb13) hb14) hb15) hb16) hb17))).mono ?_
  rintro e w18 ⟨rfl, hb18⟩
  go_wp2_with fail
  refine (same_yes _ _ _ _ _ _ _ _ _ (st.below hb18) (sg.below (below_then hb17 hb18)) rfl).mono ?_
  rintro e w19 ⟨rfl, hb19⟩
  go_wp2_with fail
  go_ret
  exact ⟨rfl, (below_then (below_then (below_then (below_then (below_then (below_then (below_then (below_then (below_then (below_then (below_then (below_then (below_then (below_then (below_then (below_then (below_then (below_then hb1 hb2) hb3) hb4) hb5) hb6) hb7) hb8) hb9) hb10) hb11) hb12) hb13) hb14) hb15) hb16) hb17) hb18) hb19)⟩
set_option maxHeartbeats 4000000 in
theorem st_1110a (a0 : Option Addr) (n0 c0 : Nat) (x0 : List Int) (x1 s : Int) (w : World) (hs : Sl w a0 n0 c0 x0) (hh : Hdl w) (ix : I64 x1) (hv : valid x0) (he : x0.sum = s) (h0 : 0 ≤ s) (h1 : s ≤ 2199023255550) (hi : s < 1099511627776) (hd : ¬ s < 1) (hd2 : ¬ 1099511627777 < s) (g0 : x1 < 0) :
    Calls Tryd.prog 3 #[.slice a0 n0 c0, .int .i64 x1] w fun e w' => e = .returned (.bool true) ∧ Below w.heap.size w w' := by
  have HS := Lib.hid hs
  have HH := Lib.hid hh
  have HV := Lib.hid hv
  have HE := Lib.hid he
  have hi2 : ¬ 1099511627776 ≤ s := by omega
  clear he
  clear hs hh hv
  have ix0 := ix.1
  have ix1 := ix.2
  clear ix
  go_enter Tryd.func3, Tryd.ntmps3
  go_wp2_with fail
  refine (skewed_any _).mono ?_
  rintro e w1 ⟨rfl, hb1⟩
  go_wp2_with fail
  refine (fault_no _ _ _ x0 _ (HS.out.below hb1) HV.out).mono ?_
  rintro e w2 ⟨rfl, hb2⟩
  go_wp2_with fail
  refine (check_yes _ _ _ x0 _ (HS.out.below (below_then hb1 hb2)) HV.out).mono ?_
  rintro e w3 ⟨rfl, hb3⟩
  go_wp2_with fail
  refine (err_nil _ (HH.out.below (below_then (below_then hb1 hb2) hb3))).mono ?_
  rintro e w4 ⟨rfl, hb4⟩
  go_wp2_with fail
  refine (sum_yes _ _ _ x0 _ (HS.out.below (below_then (below_then (below_then hb1 hb2) hb3) hb4)) s HV.out HE.out).mono ?_
  rintro e w5 ⟨rfl, hb5⟩
  go_wp2_with fail
  refine (value_yes _ _ _ x0 _ (HS.out.below (below_then (below_then (below_then (below_then hb1 hb2) hb3) hb4) hb5)) s HV.out HE.out).mono ?_
  rintro e w6 ⟨rfl, hb6⟩
  go_wp2_with fail
  refine (err_nil _ (HH.out.below (below_then (below_then (below_then (below_then (below_then hb1 hb2) hb3) hb4) hb5) hb6))).mono ?_
  rintro e w7 ⟨rfl, hb7⟩
  go_wp2_with fail
  refine (skewOf_any (s + 1) _ (by omega) (by omega)).mono ?_
  rintro e w8 ⟨am, nm, cm, rfl, sm, hb8⟩
  go_wp2_with fail
  refine (skewOf_any (s - 1) _ (by omega) (by omega)).mono ?_
  rintro e w9 ⟨al, nl, cl, rfl, sl, hb9⟩
  go_wp2_with fail
  refine (inc_in _ _ _ x0 _ (HS.out.below (below_then (below_then (below_then (below_then (below_then (below_then (below_then (below_then hb1 hb2) hb3) hb4) hb5) hb6) hb7) hb8) hb9)) s HV.out HE.out (by omega)).mono ?_
  rintro e w10 ⟨ai, ni, ci, rfl, si, hb10⟩
  go_wp2_with fail
  refine (err_nil _ (HH.out.below (below_then (below_then (below_then (below_then (below_then (below_then (below_then (below_then (below_then hb1 hb2) hb3) hb4) hb5) hb6) hb7) hb8) hb9) hb10))).mono ?_
  rintro e w11 ⟨rfl, hb11⟩
  go_wp2_with fail
  refine (same_yes _ _ _ _ _ _ _ _ _ (si.below hb11) (sm.below (below_then (below_then hb9 hb10) hb11)) rfl).mono ?_
  rintro e w12 ⟨rfl, hb12⟩
  go_wp2_with fail
  refine (dec_in _ _ _ x0 _ (HS.out.below (below_then (below_then (below_then (below_then (below_then (below_then (below_then (below_then (below_then (below_then (below_then hb1 hb2) hb3) hb4) hb5) hb6) hb7) hb8) hb9) hb10) hb11) hb12)) s HV.out HE.out (by omega) (by omega)).mono ?_
  rintro e w13 ⟨ad, nd, cd, rfl, sd, hb13⟩
  go_wp2_with fail
  refine (err_nil _ (HH.out.below (below_then (below_then (below_then (below_then (below_then (below_then (below_then (below_then (below_then (below_then (below_then (below_then hb1 hb2) hb3) hb4) hb5) hb6) hb7) hb8) hb9) hb10) hb11) hb12) hb13))).mono ?_
  rintro e w14 ⟨rfl, hb14⟩
  go_wp2_with fail
  refine (same_yes _ _ _ _ _ _ _ _ _ (sd.below hb14) (sl.below (below_then (below_then (below_then (below_then hb10 hb11) hb12) hb13) hb14)) rfl).mono ?_
  rintro e w15 ⟨rfl, hb15⟩
  go_wp2_with fail
  refine (digits_far x1 _ (by omega)).mono ?_
  rintro e w16 ⟨rfl, hb16⟩
  go_wp2_with fail
  refine (err_far _ (HH.out.below (below_then (below_then (below_then (below_then (below_then (below_then (below_then (below_then (below_then (below_then (below_then (below_then (below_then (below_then (below_then hb1 hb2) hb3) hb4) hb5) hb6) hb7) hb8) hb9) hb10) hb11) hb12) hb13) hb14) hb15) hb16))).mono ?_
  rintro e w17 ⟨rfl, hb17⟩
  go_wp2_with fail
  refine (same_yes _ _ _ _ _ _ _ _ _ (Sl.nil _) (Sl.nil _) rfl).mono ?_
  rintro e w18 ⟨rfl, hb18⟩
  go_wp2_with fail
  go_ret
  exact ⟨rfl, (below_then (below_then (below_then (below_then (below_then (below_then (below_then (below_then (below_then (below_then (below_then (below_then (below_then (below_then (below_then (below_then (below_then hb1 hb2) hb3) hb4) hb5) hb6) hb7) hb8) hb9) hb10) hb11) hb12) hb13) hb14) hb15) hb16) hb17) hb18)⟩
set_option maxHeartbeats 4000000 in
theorem st_1110b (a0 : Option Addr) (n0 c0 : Nat) (x0 : List Int) (x1 s : Int) (w : World) (hs : Sl w a0 n0 c0 x0) (hh : Hdl w) (ix : I64 x1) (hv : valid x0) (he : x0.sum = s) (h0 : 0 ≤ s) (h1 : s ≤ 2199023255550) (hi : s < 1099511627776) (hd : ¬ s < 1) (hd2 : ¬ 1099511627777 < s) (g0 : ¬ x1 < 0) (g1 : 1099511627776 < x1) :
    Calls Tryd.prog 3 #[.slice a0 n0 c0, .int .i64 x1] w fun e w' => e = .returned (.bool true) ∧ Below w.heap.size w w' := by
  have HS := Lib.hid hs
  have HH := Lib.hid hh
  have HV := Lib.hid hv
  have HE := Lib.hid he
  have hi2 : ¬ 1099511627776 ≤ s := by omega
  clear he
  clear hs hh hv
  have ix0 := ix.1
  have ix1 := ix.2
  clear ix
  go_enter Tryd.func3, Tryd.ntmps3
  go_wp2_with fail
  refine (skewed_any _).mono ?_
  rintro e w1 ⟨rfl, hb1⟩
  go_wp2_with fail
  refine (fault_no _ _ _ x0 _ (HS.out.below hb1) HV.out).mono ?_
  rintro e w2 ⟨rfl, hb2⟩
  go_wp2_with fail
  refine (check_yes _ _ _ x0 _ (HS.out.below (below_then hb1 hb2)) HV.out).mono ?_
  rintro e w3 ⟨rfl, hb3⟩
  go_wp2_with fail
  refine (err_nil _ (HH.out.below (below_then (below_then hb1 hb2) hb3))).mono ?_
  rintro e w4 ⟨rfl, hb4⟩
  go_wp2_with fail
  refine (sum_yes _ _ _ x0 _ (HS.out.below (below_then (below_then (below_then hb1 hb2) hb3) hb4)) s HV.out HE.out).mono ?_
  rintro e w5 ⟨rfl, hb5⟩
  go_wp2_with fail
  refine (value_yes _ _ _ x0 _ (HS.out.below (below_then (below_then (below_then (below_then hb1 hb2) hb3) hb4) hb5)) s HV.out HE.out).mono ?_
  rintro e w6 ⟨rfl, hb6⟩
  go_wp2_with fail
  refine (err_nil _ (HH.out.below (below_then (below_then (below_then (below_then (below_then hb1 hb2) hb3) hb4) hb5) hb6))).mono ?_
  rintro e w7 ⟨rfl, hb7⟩
  go_wp2_with fail
  refine (skewOf_any (s + 1) _ (by omega) (by omega)).mono ?_
  rintro e w8 ⟨am, nm, cm, rfl, sm, hb8⟩
  go_wp2_with fail
  refine (skewOf_any (s - 1) _ (by omega) (by omega)).mono ?_
  rintro e w9 ⟨al, nl, cl, rfl, sl, hb9⟩
  go_wp2_with fail
  refine (inc_in _ _ _ x0 _ (HS.out.below (below_then (below_then (below_then (below_then (below_then (below_then (below_then (below_then hb1 hb2) hb3) hb4) hb5) hb6) hb7) hb8) hb9)) s HV.out HE.out (by omega)).mono ?_
  rintro e w10 ⟨ai, ni, ci, rfl, si, hb10⟩
  go_wp2_with fail
  refine (err_nil _ (HH.out.below (below_then (below_then (below_then (below_then (below_then (below_then (below_then (below_then (below_then hb1 hb2) hb3) hb4) hb5) hb6) hb7) hb8) hb9) hb10))).mono ?_
  rintro e w11 ⟨rfl, hb11⟩
  go_wp2_with fail
  refine (same_yes _ _ _ _ _ _ _ _ _ (si.below hb11) (sm.below (below_then (below_then hb9 hb10) hb11)) rfl).mono ?_
  rintro e w12 ⟨rfl, hb12⟩
  go_wp2_with fail
  refine (dec_in _ _ _ x0 _ (HS.out.below (below_then (below_then (below_then (below_then (below_then (below_then (below_then (below_then (below_then (below_then (below_then hb1 hb2) hb3) hb4) hb5) hb6) hb7) hb8) hb9) hb10) hb11) hb12)) s HV.out HE.out (by omega) (by omega)).mono ?_
  rintro e w13 ⟨ad, nd, cd, rfl, sd, hb13⟩
  go_wp2_with fail
  refine (err_nil _ (HH.out.below (below_then (below_then (below_then (below_then (below_then (below_then (below_then (below_then (below_then (below_then (below_then (below_then hb1 hb2) hb3) hb4) hb5) hb6) hb7) hb8) hb9) hb10) hb11) hb12) hb13))).mono ?_
  rintro e w14 ⟨rfl, hb14⟩
  go_wp2_with fail
  refine (same_yes _ _ _ _ _ _ _ _ _ (sd.below hb14) (sl.below (below_then (below_then (below_then (below_then hb10 hb11) hb12) hb13) hb14)) rfl).mono ?_
  rintro e w15 ⟨rfl, hb15⟩
  go_wp2_with fail
  refine (digits_far x1 _ (by omega)).mono ?_
  rintro e w16 ⟨rfl, hb16⟩
  go_wp2_with fail
  refine (err_far _ (HH.out.below (below_then (below_then (below_then (below_then (below_then (below_then (below_then (below_then (below_then (below_then (below_then (below_then (below_then (below_then (below_then hb1 hb2) hb3) hb4) hb5) hb6) hb7) hb8) hb9) hb10) hb11) hb12) hb13) hb14) hb15) hb16))).mono ?_
  rintro e w17 ⟨rfl, hb17⟩
  go_wp2_with fail
  refine (same_yes _ _ _ _ _ _ _ _ _ (Sl.nil _) (Sl.nil _) rfl).mono ?_
  rintro e w18 ⟨rfl, hb18⟩
  go_wp2_with fail
  go_ret
  exact ⟨rfl, (below_then (below_then (below_then (below_then (below_then (below_then (below_then (below_then (below_then (below_then (below_then (below_then (below_then (below_then (below_then (below_then (below_then hb1 hb2) hb3) hb4) hb5) hb6) hb7) hb8) hb9) hb10) hb11) hb12) hb13) hb14) hb15) hb16) hb17) hb18)⟩
set_option maxHeartbeats 4000000 in
theorem st_1101a (a0 : Option Addr) (n0 c0 : Nat) (x0 : List Int) (x1 s : Int) (w : World) (hs : Sl w a0 n0 c0 x0) (hh : Hdl w) (ix : I64 x1) (hv : valid x0) (he : x0.sum = s) (h0 : 0 ≤ s) (h1 : s ≤ 2199023255550) (hi : s < 1099511627776) (hd : s < 1) (g0 : ¬ x1 < 0) (g1 : ¬ 1099511627776 < x1) :
    Calls Tryd.prog 3 #[.slice a0 n0 c0, .int .i64 x1] w fun e w' => e = .returned (.bool true) ∧ Below w.heap.size w w' := by
  have HS := Lib.hid hs
  have HH := Lib.hid hh
  have HV := Lib.hid hv
  have HE := Lib.hid he
  have hi2 : ¬ 1099511627776 ≤ s := by omega
  have hd2 : ¬ 1099511627777 < s := by omega
  clear he
  clear hs hh hv
  have ix0 := ix.1
  have ix1 := ix.2
  clear ix
  go_enter Tryd.func3, Tryd.ntmps3
  go_wp2_with fail
  refine (skewed_any _).mono ?_
  rintro e w1 ⟨rfl, hb1⟩
  go_wp2_with fail
  refine (fault_no _ _ _ x0 _ (HS.out.below hb1) HV.out).mono ?_
  rintro e w2 ⟨rfl, hb2⟩
  go_wp2_with fail
  refine (check_yes _ _ _ x0 _ (HS.out.below (below_then hb1 hb2)) HV.out).mono ?_
  rintro e w3 ⟨rfl, hb3⟩
  go_wp2_with fail
  refine (err_nil _ (HH.out.below (below_then (below_then hb1 hb2) hb3))).mono ?_
  rintro e w4 ⟨rfl, hb4⟩
  go_wp2_with fail
  refine (sum_yes _ _ _ x0 _ (HS.out.below (below_then (below_then (below_then hb1 hb2) hb3) hb4)) s HV.out HE.out).mono ?_
  rintro e w5 ⟨rfl, hb5⟩
  go_wp2_with fail
  refine (value_yes _ _ _ x0 _ (HS.out.below (below_then (below_then (below_then (below_then hb1 hb2) hb3) hb4) hb5)) s HV.out HE.out).mono ?_
  rintro e w6 ⟨rfl, hb6⟩
  go_wp2_with fail
  refine (err_nil _ (HH.out.below (below_then (below_then (below_then (below_then (below_then hb1 hb2) hb3) hb4) hb5) hb6))).mono ?_
  rintro e w7 ⟨rfl, hb7⟩
  go_wp2_with fail
  refine (skewOf_any (s + 1) _ (by omega) (by omega)).mono ?_
  rintro e w8 ⟨am, nm, cm, rfl, sm, hb8⟩
  go_wp2_with fail
  refine (inc_in _ _ _ x0 _ (HS.out.below (below_then (below_then (below_then (below_then (below_then (below_then (below_then hb1 hb2) hb3) hb4) hb5) hb6) hb7) hb8)) s HV.out HE.out (by omega)).mono ?_
  rintro e w9 ⟨ai, ni, ci, rfl, si, hb9⟩
  go_wp2_with fail
  refine (err_nil _ (HH.out.below (below_then (below_then (below_then (below_then (below_then (below_then (below_then (below_then hb1 hb2) hb3) hb4) hb5) hb6) hb7) hb8) hb9))).mono ?_
  rintro e w10 ⟨rfl, hb10⟩
  go_wp2_with fail
  refine (same_yes _ _ _ _ _ _ _ _ _ (si.below hb10) (sm.below (below_then hb9 hb10)) rfl).mono ?_
  rintro e w11 ⟨rfl, hb11⟩
  go_wp2_with fail
  refine (dec_far _ _ _ x0 _ (HS.out.below (below_then (below_then (below_then (below_then (below_then (below_then (below_then (below_then (below_then (below_then hb1 hb2) hb3) hb4) hb5) hb6) hb7) hb8) hb9) hb10) hb11)) s HV.out HE.out (by omega)).mono ?_
  rintro e w12 ⟨rfl, hb12⟩
  go_wp2_with fail
  refine (err_far _ (HH.out.below (below_then (below_then (below_then (below_then (below_then (below_then (below_then (below_then (below_then (below_then (below_then hb1 hb2) hb3) hb4) hb5) hb6) hb7) hb8) hb9) hb10) hb11) hb12))).mono ?_
  rintro e w13 ⟨rfl, hb13⟩
  go_wp2_with fail
  refine (same_yes _ _ _ _ _ _ _ _ _ (Sl.nil _) (Sl.nil _) rfl).mono ?_
  rintro e w14 ⟨rfl, hb14⟩
  go_wp2_with fail
  refine (skewOf_any x1 _ (by omega) (by omega)).mono ?_
  rintro e w15 ⟨ag, ng, cg, rfl, sg, hb15⟩
  go_wp2_with fail
  refine (Digits_good x1 _ (by omega) (by omega)).mono ?_
  rintro e w16 ⟨at', nt, ct, rfl, st, hb16⟩
  go_wp2_with fail
  refine (err_nil _ (HH.out.below (below_then (below_then (below_then (below_then (below_then (below_then (below_then (below_then (below_then (below_then (below_then (below_then (below_then (below_then (below_then hb1 hb2) hb3) hb4) hb5) hb6) hb7) hb8) hb9) hb10) hb11) hb12) hb13) hb14) hb15) hb16))).mono ?_
  rintro e w17 ⟨rfl, hb17⟩
  go_wp2_with fail
  refine (same_yes _ _ _ _ _ _ _ _ _ (st.below hb17) (sg.below (below_then hb16 hb17)) rfl).mono ?_
  rintro e w18 ⟨rfl, hb18⟩
  go_wp2_with fail
  go_ret
  exact ⟨rfl, (below_then (below_then (below_then (below_then (below_then (below_then (below_then (below_then (below_then (below_then (below_then (below_then (below_then (below_then (below_then (below_then (below_then hb1 hb2) hb3) hb4) hb5) hb6) hb7) hb8) hb9) hb10) hb11) hb12) hb13) hb14) hb15) hb16) hb17) hb18)⟩
set_option maxHeartbeats 4000000 in
theorem st_1100a (a0 : Option Addr) (n0 c0 : Nat) (x0 : List Int) (x1 s : Int) (w : World) (hs : Sl w a0 n0 c0 x0) (hh : Hdl w) (ix : I64 x1) (hv : valid x0) (he : x0.sum = s) (h0 : 0 ≤ s) (h1 : s ≤ 2199023255550) (hi : s < 1099511627776) (hd : s < 1) (g0 : x1 < 0) :
    Calls Tryd.prog 3 #[.slice a0 n0 c0, .int .i64 x1] w fun e w' => e = .returned (.bool true) ∧ Below w.heap.size w w' := by
  have HS := Lib.hid hs
  have HH := Lib.hid hh
  have HV := Lib.hid hv
  have HE := Lib.hid he
  have hi2 : ¬ 1099511627776 ≤ s := by omega
  have hd2 : ¬ 1099511627777 < s := by omega
  clear he
  clear hs hh hv
  have ix0 := ix.1
  have ix1 := ix.2
  clear ix
  go_enter Tryd.func3, Tryd.ntmps3
  go_wp2_with fail
  refine (skewed_any _).mono ?_
  rintro e w1 ⟨rfl, hb1⟩
  go_wp2_with fail
  refine (fault_no _ _ _ x0 _ (HS.out.below hb1) HV.out).mono ?_
  rintro e w2 ⟨rfl, hb2⟩
  go_wp2_with fail
  refine (check_yes _ _ _ x0 _ (HS.out.below (below_then hb1 hb2)) HV.out).mono ?_
  rintro e w3 ⟨rfl, hb3⟩
  go_wp2_with fail
  refine (err_nil _ (HH.out.below (below_then (below_then hb1 hb2) hb3))).mono ?_
  rintro e w4 ⟨rfl, hb4⟩
  go_wp2_with fail
  refine (sum_yes _ _ _ x0 _ (HS.out.below (below_then (below_then (below_then hb1 hb2) hb3) hb4)) s HV.out HE.out).mono ?_
  rintro e w5 ⟨rfl, hb5⟩
  go_wp2_with fail
  refine (value_yes _ _ _ x0 _ (HS.out.below (below_then (below_then (below_then (below_then hb1 hb2) hb3) hb4) hb5)) s HV.out HE.out).mono ?_
  rintro e w6 ⟨rfl, hb6⟩
  go_wp2_with fail
  refine (err_nil _ (HH.out.below (below_then (below_then (below_then (below_then (below_then hb1 hb2) hb3) hb4) hb5) hb6))).mono ?_
  rintro e w7 ⟨rfl, hb7⟩
  go_wp2_with fail
  refine (skewOf_any (s + 1) _ (by omega) (by omega)).mono ?_
  rintro e w8 ⟨am, nm, cm, rfl, sm, hb8⟩
  go_wp2_with fail
  refine (inc_in _ _ _ x0 _ (HS.out.below (below_then (below_then (below_then (below_then (below_then (below_then (below_then hb1 hb2) hb3) hb4) hb5) hb6) hb7) hb8)) s HV.out HE.out (by omega)).mono ?_
  rintro e w9 ⟨ai, ni, ci, rfl, si, hb9⟩
  go_wp2_with fail
  refine (err_nil _ (HH.out.below (below_then (below_then (below_then (below_then (below_then (below_then (below_then (below_then hb1 hb2) hb3) hb4) hb5) hb6) hb7) hb8) hb9))).mono ?_
  rintro e w10 ⟨rfl, hb10⟩
  go_wp2_with fail
  refine (same_yes _ _ _ _ _ _ _ _ _ (si.below hb10) (sm.below (below_then hb9 hb10)) rfl).mono ?_
  rintro e w11 ⟨rfl, hb11⟩
  go_wp2_with fail
  refine (dec_far _ _ _ x0 _ (HS.out.below (below_then (below_then (below_then (below_then (below_then (below_then (below_then (below_then (below_then (below_then hb1 hb2) hb3) hb4) hb5) hb6) hb7) hb8) hb9) hb10) hb11)) s HV.out HE.out (by omega)).mono ?_
  rintro e w12 ⟨rfl, hb12⟩
  go_wp2_with fail
  refine (err_far _ (HH.out.below (below_then (below_then (below_then (below_then (below_then (below_then (below_then (below_then (below_then (below_then (below_then hb1 hb2) hb3) hb4) hb5) hb6) hb7) hb8) hb9) hb10) hb11) hb12))).mono ?_
  rintro e w13 ⟨rfl, hb13⟩
  go_wp2_with fail
  refine (same_yes _ _ _ _ _ _ _ _ _ (Sl.nil _) (Sl.nil _) rfl).mono ?_
  rintro e w14 ⟨rfl, hb14⟩
  go_wp2_with fail
  refine (digits_far x1 _ (by omega)).mono ?_
  rintro e w15 ⟨rfl, hb15⟩
  go_wp2_with fail
  refine (err_far _ (HH.out.below (below_then (below_then (below_then (below_then (below_then (below_then (below_then (below_then (below_then (below_then (below_then (below_then (below_then (below_then hb1 hb2) hb3) hb4) hb5) hb6) hb7) hb8) hb9) hb10) hb11) hb12) hb13) hb14) hb15))).mono ?_
  rintro e w16 ⟨rfl, hb16⟩
  go_wp2_with fail
  refine (same_yes _ _ _ _ _ _ _ _ _ (Sl.nil _) (Sl.nil _) rfl).mono ?_
  rintro e w17 ⟨rfl, hb17⟩
  go_wp2_with fail
  go_ret
  exact ⟨rfl, (below_then (below_then (below_then (below_then (below_then (below_then (below_then (below_then (below_then (below_then (below_then (below_then (below_then (below_then (below_then (below_then hb1 hb2) hb3) hb4) hb5) hb6) hb7) hb8) hb9) hb10) hb11) hb12) hb13) hb14) hb15) hb16) hb17)⟩
end Go.Proofs.YtbmapjbljgpfkaaDoor
