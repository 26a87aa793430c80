/-
  Pairing heaps: the pairs meet, two by two, then all. Conditions: sizes below 2^44.
-/
import Derived.Test.YtajbmikicbddiaaPairWalks
import Derived.Test.YtajbmikicbddiaaVals
namespace Go.Proofs.Ytajbmikicbddiaa
open Go.RowKit Go.Deep
namespace PF
theorem Try.infoPair : (Try.prog.info? 41).map (fun i => (i.zero, i.size, i.bytes)) = some (some (.pointer none), 1, 8) := by kernel_rfl
theorem met_next (x y : Int) (k n k' n' : PF) : met (cons x k n) (cons y k' n') = met (cons x k nil) (cons y k' nil) := rfl
theorem size_pos (x : Int) (k n : PF) : n.size < (cons x k n).size := by simp only [size]; omega

set_option maxHeartbeats 1600000 in
theorem paired_any (t : PF) (p : Option Addr) (w : World) (h : In w p t) (hs : t.size ≤ 17592186044416) :
    Calls Try.prog 47 #[.pointer p] w fun e w' => ∃ q, e = .returned (.pointer q) ∧ In w' q (paired t) ∧ Below w.heap.size w w' := by
  obtain ⟨i0, hi0, hz0, hz1, hz2⟩ := info_parts Try.infoPair
  have hpl := pairs_length t
  go_enter Try.func47, Try.ntmps47
  go_wp2_with fail
  go_loopg [0, 3] t.size (fun m l v wr => ∃ (rest : PF) (q : Option Addr) (ps : List (Option Addr)) (d : List PF), rest.size ≤ m ∧ l = .pointer q ∧ In wr q rest ∧ pairsOf t = d ++ pairsOf rest ∧ Each (In wr) ps d ∧
    wr.ownsRow w.heap.size 41 1 v ps.length (ps.map Value.pointer) ∧ Below w.heap.size w wr)
  case atStart => exact ⟨t, p, [], [], Nat.le_refl _, rfl, h, rfl, trivial, World.ownsRow_nil _ _ _ _, Below.refl _ _⟩
  case round =>
    obtain ⟨rest, q, ps, d, hm, rfl, hi, hd, he, hown, hb⟩ := hrel
    have HD := Lib.hid hd
    have hbs := hb.size
    have hel := he.length
    have HEL := Lib.hid hel
    clear hd hel
    cases rest with
    | nil =>
      obtain rfl : q = none := hi
      have e0 : d = pairsOf t := by rw [HD.out]; simp [pairsOf]
      subst e0
      obtain ⟨a, cap, rfl, hv⟩ := Vl.of_own hown
      have hm1 := hv.hcap
      have hm2 := hv.hmax
      unfold maxLen at hm2
      have HV := Lib.hid hv
      have HE := Lib.hid he
      clear hv he hown
      go_wp2_with fail
      go_loopw [6, 7] (fun o i wx => ∃ (k : Nat) (q : Option Addr), k ≤ ps.length ∧ i = .int .i64 ((k : Int) - 1) ∧ o = .pointer q ∧ In wx q (((pairsOf t).drop k).foldr met nil) ∧ Below wr.heap.size wr wx) (fun _ i _ => (intOf i + 1).toNat)
      case atStart => exact ⟨ps.length, none, Nat.le_refl _, rfl, rfl, by rw [HEL.out, List.drop_length]; rfl, Below.refl _ _⟩
      case round =>
        obtain ⟨k, q, hk, rfl, rfl, hi2, hb2⟩ := hrel
        cases k with
        | zero =>
          go_wp2_with fail
          go_ret
          exact ⟨_, rfl, hi2, hb.trans (hb2.mono hbs)⟩
        | succ j =>
          obtain ⟨b, off, rfl, hbl, hc⟩ := HV.out.hat (by omega)
          have hjl : j < (pairsOf t).length := by have := HEL.out; omega
          obtain ⟨pj, hpj, hij⟩ := HE.out.get (List.getElem?_eq_getElem hjl)
          have g := (hb2.cell (p := ⟨b, off + j, none⟩) hbl).trans (hc j (by omega))
          rw [List.getElem?_map, hpj] at g
          have hdr : (pairsOf t).drop j = (pairsOf t)[j] :: (pairsOf t).drop (j + 1) := List.drop_eq_getElem_cons hjl
          have HDR := Lib.hid hdr
          have hlti : (j : Int) < (ps.length : Int) := by omega
          clear hc hpj hdr
          simp only [Option.map_some] at g
          go_wp2_with fail
          refine (met_any _ _ pj q _ (hij.below hb2) hi2).mono ?_
          rintro e w3 ⟨p3, rfl, hi3, hb3⟩
          go_wp2_with fail
          go_roundw
          case rel => exact ⟨j, p3, by omega, rfl, rfl, by rw [HDR.out]; exact hi3, below_then hb2 hb3⟩
          case measure => simp [intOf]
    | cons x k n =>
      have hd1 : ps.length + 1 ≤ 17592186044416 := by
        have h1 := congrArg List.length HD.out
        have h2 : 1 ≤ (pairsOf (cons x k n)).length := by cases n <;> simp [pairsOf]
        rw [List.length_append] at h1
        rw [HEL.out]
        omega
      obtain ⟨b, pk, pn, rfl, h2, h3, h4, h5, h6, h7⟩ := hi.open
      cases n with
      | nil =>
        obtain rfl : pn = none := h7
        go_wp2_with fail
        go_quiet (fail)
        go_wp2_with fail
        refine (met_any (cons x k nil) nil _ none _ (hi.drewN _) rfl).mono ?_
        rintro e w1 ⟨p1, rfl, hi1, hb1⟩
        replace hb1 := below_of_drewN hb1
        have hsz : w.heap.size ≤ w1.heap.size := Nat.le_trans hbs hb1.size
        go_wp2_with (at_builtin; refine wpList_append_own _ rfl (.tmp 21) (.tmp 25) 75 rfl w.heap.size 41 i0 (.pointer none) 1 8 Try.underlying75 hi0 hz0 hz1 hz2 rfl (by decide) _ _ _ rfl ((own_keep hown (.of_below hb1)).alloc _) ⟨w1.heap.size, 0, none⟩ 1 1 [.pointer p1] rfl rfl (cell_one_new _ _ _) (by simp [Value.oneCell']) (by unfold maxLen; omega) (by omega) (by simp; omega) ?_; intro v' w2 hown' hgrow _)
        have kp : KeepT 65 w1 w2 := ((KeepT.refl _ w1).alloc _).trans (.of_grown ((own_keep hown (.of_below hb1)).alloc _) hgrow (by decide))
        have he2 : Each (In w2) (ps ++ [p1]) (d ++ [cons x k nil]) := (he.imp (fun _ _ h => (h.below hb1).keep kp)).snoc (hi1.keep kp)
        have hown2 : w2.ownsRow w.heap.size 41 1 v' (ps ++ [p1]).length ((ps ++ [p1]).map Value.pointer) := by simpa using hown'
        have hb2 : Below w.heap.size w w2 := below_grown ((hb.trans (hb1.mono hbs)).alloc hsz _) ((own_keep hown (.of_below hb1)).alloc _) hgrow (Nat.le_refl _) (by simp; omega)
        clear hown'
        go_wp2_with fail
        go_roundg 0
        case measure => simp only [size] at hm; omega
        case rel =>
          exact ⟨nil, none, _, _, Nat.le_refl _, rfl, rfl, by rw [HD.out]; simp [pairsOf], he2, hown2, hb2⟩
      | cons y k' n' =>
        obtain ⟨b', pk', pn', rfl, g2, g3, g4, g5, g6, g7⟩ := h7.open
        go_wp2_with fail
        go_quiet (fail)
        go_wp2_with fail
        refine (met_any (cons x k (cons y k' n')) (cons y k' n') _ _ _ (hi.drewN _) (h7.drewN _)).mono ?_
        rintro e w1 ⟨p1, rfl, hi1, hb1⟩
        replace hb1 := below_of_drewN hb1
        have hsz : w.heap.size ≤ w1.heap.size := Nat.le_trans hbs hb1.size
        go_wp2_with (at_builtin; refine wpList_append_own _ rfl (.tmp 21) (.tmp 25) 75 rfl w.heap.size 41 i0 (.pointer none) 1 8 Try.underlying75 hi0 hz0 hz1 hz2 rfl (by decide) _ _ _ rfl ((own_keep hown (.of_below hb1)).alloc _) ⟨w1.heap.size, 0, none⟩ 1 1 [.pointer p1] rfl rfl (cell_one_new _ _ _) (by simp [Value.oneCell']) (by unfold maxLen; omega) (by omega) (by simp; omega) ?_; intro v' w2 hown' hgrow _)
        have kp : KeepT 65 w1 w2 := ((KeepT.refl _ w1).alloc _).trans (.of_grown ((own_keep hown (.of_below hb1)).alloc _) hgrow (by decide))
        have he2 : Each (In w2) (ps ++ [p1]) (d ++ [met (cons x k nil) (cons y k' nil)]) := (he.imp (fun _ _ h => (h.below hb1).keep kp)).snoc (hi1.keep kp)
        have hown2 : w2.ownsRow w.heap.size 41 1 v' (ps ++ [p1]).length ((ps ++ [p1]).map Value.pointer) := by simpa using hown'
        have hb2 : Below w.heap.size w w2 := below_grown ((hb.trans (hb1.mono hbs)).alloc hsz _) ((own_keep hown (.of_below hb1)).alloc _) hgrow (Nat.le_refl _) (by simp; omega)
        clear hown'
        go_wp2_with fail
        go_roundg n'.size
        case measure => simp only [size] at hm; omega
        case rel =>
          exact ⟨n', pn', _, _, Nat.le_refl _, rfl, (g7.below hb1).keep kp, by rw [HD.out]; simp [pairsOf], he2, hown2, hb2⟩
end PF
end Go.Proofs.Ytajbmikicbddiaa
