/-
  Binomial heaps: the least one goes. Conditions: at most 2^46 numbers.
-/
import Derived.Test.YtdeffgaghmghoaaBinoMin
namespace Go.Proofs.Ytdeffgaghmghoaa
open Go.RowKit Go.Deep Go.BigFrame
set_option linter.unusedVariables false
namespace BN
theorem InL.append {w : World} : ∀ {ps qs : List (Option Addr)} {ts us : List Tr}, InL w ps ts → InL w qs us → InL w (ps ++ qs) (ts ++ us)
  | [], _, [], _, _, h2 => h2
  | p :: ps, _, t :: ts, _, h1, h2 => ⟨h1.1, InL.append h1.2 h2⟩
  | [], _, _ :: _, _, h, _ => h.elim
  | _ :: _, _, [], _, h, _ => h.elim
theorem InL.reverse {w : World} : ∀ {ps : List (Option Addr)} {ts : List Tr}, InL w ps ts → InL w ps.reverse ts.reverse
  | [], [], _ => trivial
  | p :: ps, t :: ts, h => by
    rw [List.reverse_cons, List.reverse_cons]
    exact (InL.reverse h.2).append ⟨h.1, trivial⟩
  | [], _ :: _, h => h.elim
  | _ :: _, [], h => h.elim
theorem InL.take {w : World} : ∀ {ps : List (Option Addr)} {ts : List Tr} (k : Nat), InL w ps ts → InL w (ps.take k) (ts.take k)
  | _, _, 0, _ => trivial
  | [], [], _ + 1, _ => trivial
  | p :: ps, t :: ts, k + 1, h => ⟨h.1, InL.take k h.2⟩
  | [], _ :: _, _ + 1, h => h.elim
  | _ :: _, [], _ + 1, h => h.elim
theorem InL.drop {w : World} : ∀ {ps : List (Option Addr)} {ts : List Tr} (k : Nat), InL w ps ts → InL w (ps.drop k) (ts.drop k)
  | _, _, 0, h => h
  | [], [], _ + 1, _ => trivial
  | p :: ps, t :: ts, k + 1, h => InL.drop k h.2
  | [], _ :: _, _ + 1, h => h.elim
  | _ :: _, [], _ + 1, h => h.elim
theorem pop_count {ts : List Tr} {B : Nat} {t : Tr} (h : ts[B]? = some t) : (allL t.2.2.trees.reverse).length + (allL (ts.take B ++ ts.drop (B + 1))).length + 1 = (allL ts).length := by
  have hi : B < ts.length := (List.getElem?_eq_some_iff.1 h).1
  have h1 : ts.drop B = t :: ts.drop (B + 1) := by
    rw [List.drop_eq_getElem_cons hi, (List.getElem?_eq_some_iff.1 h).2]
  have e : (allL ts).length = (allL (ts.take B)).length + ((allT t).length + (allL (ts.drop (B + 1))).length) := by
    rw [← allL_len, ← h1, ← List.length_append, ← allL_append, List.take_append_drop]
  have k := (kids_all t.2.2).length_eq
  rw [allL_append, List.length_append, e, k]
  simp only [allT, List.length_cons]
  omega
/-- What is left. -/
def Rest (ts vs : List Tr) : Prop := (ts.length = 0 → vs = []) ∧ (ts.length ≠ 0 → ∃ t, Popped ts (bestAt ts ts.length) t vs)
set_option maxHeartbeats 2000000 in
set_option maxRecDepth 100000 in
theorem pop_any (a : Option Addr) (n c : Nat) (ts : List Tr) (w : World) (h : Hb w a n c ts) (hs : (allL ts).length ≤ 70368744177664) :
    Calls Try.prog 9 #[.agg #[.slice a n c]] w fun e w' => ∃ o k cc vs, e = .returned (.tuple #[.int .i64 (topB ts).1, .agg #[.slice o k cc], .bool (topB ts).2]) ∧ Hb w' o k cc vs ∧ Rest ts vs ∧ Below w.heap.size w w' := by
  have hl := h.len
  by_cases h0 : n = 0
  · subst h0
    have e : topB ts = (0, false) := by unfold topB; rw [if_pos hl.symm]
    have R : Rest ts [] := ⟨fun _ => rfl, fun h => absurd hl.symm h⟩
    rw [e]
    clear e hl h
    go_enter Try.func9, Try.ntmps9
    go_wp2_with fail
    refine bodyPost_ret (v := .tuple #[.int .i64 0, .agg #[.slice none 0 0], .bool false]) (by simp [results, Try.results9, go_sem]) rfl ⟨none, 0, 0, [], rfl, Hb.nil _, R, ((Below.refl _ _).alloc (Nat.le_refl _) _).alloc (by simp) _⟩
  · have hbl := bestAt_lt ts n (by omega) (by omega)
    obtain ⟨b, off, bt, t, qs, ka, km, kc, rfl, hb, ht, g0, g1, kp, ki⟩ := h.at_ (bestAt ts n) (by omega)
    have e : topB ts = (t.1, true) := by unfold topB; rw [if_neg (by omega), ← hl, ht]; rfl
    rw [e]
    have hm : n ≤ c ∧ c ≤ maxLen := by obtain ⟨⟨ps, h1, _⟩, _⟩ := h; exact ⟨h1.hcap, h1.hmax⟩
    unfold maxLen at hm
    obtain ⟨hnc, hcm⟩ := hm
    have LE := Lib.hid (fun W (hW : Hb W (some ⟨b, off, none⟩) n c ts) => least_any (some ⟨b, off, none⟩) n c ts W hW)
    have HT := Lib.hid ht
    have HL := Lib.hid hl
    obtain ⟨B, hB⟩ : ∃ B, bestAt ts n = B := ⟨_, rfl⟩
    have HB := Lib.hid hB
    rw [hB] at LE g0 hbl
    have hbi : (B : Int) < (n : Int) := by omega
    have hbi2 : (B : Int) + 1 ≤ (n : Int) := by omega
    have hbi3 : (B : Int) ≤ (c : Int) := by omega
    have hnci : (n : Int) ≤ (c : Int) := by omega
    have h0b : ((n : Int) == 0) = false := by simp; omega
    have h0c : decide (n = 0) = false := by simp; omega
    have z0 : w.cell? ⟨bt, 0, none⟩ = some (.int .i64 t.1) := (blk g1).1 0
    have z2 : w.cell? ⟨bt, 2, none⟩ = some (.slice ka km kc) := (blk g1).1 2
    have lt1 := (blk g1).2.2
    have HH := Lib.hid h
    have KR := Lib.hid kp.reads
    have KI := Lib.hid ki
    have KP := Lib.hid kp
    have ko := Lib.hid (ptr_cells qs)
    have kz : km ≤ 1000 := by
      have hmem := List.mem_of_getElem? (HT.out)
      have h1 := rank_small (HH.out.2.bin t hmem) (by obtain ⟨pre, post, rfl⟩ := List.append_of_mem hmem; rw [allL_append, allL_cons, List.length_append, List.length_append] at hs; omega)
      have h2 := bin_length _ _ (HH.out.2.bin t hmem)
      have h3 := (inB_inL.1 KI.out).length
      have h4 := KP.out.hlen
      omega
    clear e hB ht g1 h hl kp ki
    go_enter Try.func9, Try.ntmps9
    go_wp2_with fail
    refine (LE.out _ ((HH.out.alloc _).alloc _)).mono ?_
    rintro e w1 ⟨rfl, b1⟩
    obtain ⟨b1, x0, x1⟩ := hold2 b1 ⟨rfl, rfl, rfl, rfl⟩
    have cX := (blk x0).1 0
    have y0 := (b1.cell (p := ⟨b, off + B, none⟩) hb).trans g0
    have y2 := (b1.cell (p := ⟨bt, 2, none⟩) lt1).trans z2
    go_wp2_with fail
    refine (clone_any ka km kc _ _ ((KP.out.below b1).reads) ko.out (by omega)).mono ?_
    rintro e w2 ⟨v, rfl, ho, b2⟩
    go_wp2_with fail
    refine (rev_any v km w1.heap.size _ w2 ho (fun u hu => by obtain ⟨p, _, rfl⟩ := List.mem_map.1 hu; exact ⟨p, rfl⟩) (by omega)).mono ?_
    rintro e w3 ⟨rfl, ho3, b3⟩
    replace b3 := b2.trans b3
    have x0' := blk_below x0 b3
    have x1' := blk_below x1 b3
    have b13 := below_then b1 b3
    rw [← List.map_reverse] at ho3
    obtain ⟨va, vc, rfl, P3⟩ := Pl.of_own ho3
    have K3 : InL w3 qs.reverse t.2.2.trees.reverse := ((inB_inL.1 KI.out).below b13).reverse
    have cX' := (blk x0').1 0
    have y0' := (b13.cell (p := ⟨b, off + B, none⟩) hb).trans g0
    have y2' := (b13.cell (p := ⟨bt, 2, none⟩) lt1).trans z2
    have yt' := (b13.cell (p := ⟨bt, 0, none⟩) lt1).trans z0
    obtain ⟨C0, C1, C2⟩ := blk x1'
    have cY := C0 0
    have fY := C1 0
    clear cX y0 y2 z0 z2 g0 C0 C1
    obtain ⟨of1, hof1, hof2⟩ : ∃ o' : Nat, cutAt (some ⟨b, off, none⟩) c (B + 1) = some ⟨b, o', none⟩ ∧ (if c = B + 1 then (some ⟨b, off, none⟩ : Option Addr) else some ⟨b, off + (B + 1), none⟩) = some ⟨b, o', none⟩ := by
      by_cases hc1 : c = B + 1
      · exact ⟨off, by simp [cutAt, hc1], by simp [hc1]⟩
      · exact ⟨off + (B + 1), by simp [cutAt, hc1, Addr.add], by simp [hc1]⟩
    have CK : Hid (∀ (W : World) (j : Nat), j = W.heap.size → Below w3.heap.size w3 W → Calls Try.prog 22 #[.slice (some ⟨j, 0, none⟩) 2 2] (W.alloc (.cells #[.slice (some ⟨b, off, none⟩) B c, .slice (some ⟨b, of1, none⟩) (n - (B + 1)) (c - (B + 1))] 24)) fun e w' => ∃ o k cc rs, e = .returned (.slice o k cc) ∧ Pl w' o k cc rs ∧ InL w' rs (ts.take B ++ ts.drop (B + 1)) ∧ Below W.heap.size W w' ∧ Below w3.heap.size w3 w') := by
      refine Lib.hid fun W j hj hW => ?_
      subst hj
      obtain ⟨⟨ps, p1, p2⟩, _⟩ := HH.out
      have p1 := (p1.below b13).below hW
      have p2 := (p2.below b13).below hW
      have p1a := p1.front (k := B) (by omega)
      have p1b := p1.rest (k := B + 1) (by omega)
      rw [hof1] at p1b
      have X := heap_alloc_new W (.cells #[.slice (some ⟨b, off, none⟩) B c, .slice (some ⟨b, of1, none⟩) (n - (B + 1)) (c - (B + 1))] 24)
      have ba : Below W.heap.size W (W.alloc (.cells #[.slice (some ⟨b, off, none⟩) B c, .slice (some ⟨b, of1, none⟩) (n - (B + 1)) (c - (B + 1))] 24)) := (Below.refl _ _).alloc (Nat.le_refl _) _
      refine (concat_any W.heap.size 2 _ B c _ (n - (B + 1)) (c - (B + 1)) ((ps.take B).map Value.pointer) ((ps.drop (B + 1)).map Value.pointer) _ (by omega) ((blk X).1 0) ((blk X).1 1) ((blk X).2.2) (p1a.below ba).reads (p1b.below ba).reads (ptr_cells _) (ptr_cells _) (by have := good_len HH.out.2 hs; have := HL.out; omega)).mono ?_
      rintro e w4 ⟨v, rfl, ho, hb4⟩
      rw [← List.map_append] at ho
      obtain ⟨a4, c4, rfl, P4⟩ := Pl.of_own ho
      have bb := below_then ba hb4
      exact ⟨a4, _, c4, _, rfl, P4, ((p2.take B).append (p2.drop (B + 1))).below bb, bb, below_then hW bb⟩
    have MK : Hid (∀ (W : World) (o : Option Addr) (k cc : Nat) (rs : List (Option Addr)), Below w3.heap.size w3 W → Pl W o k cc rs → InL W rs (ts.take B ++ ts.drop (B + 1)) → Calls Try.prog 18 #[.slice va km vc, .slice o k cc] W fun e w' => ∃ o k cc vs, e = .returned (.slice o k cc) ∧ Hb w' o k cc vs ∧ Popped ts B t vs ∧ Below W.heap.size W w' ∧ Below w3.heap.size w3 w') := by
      refine Lib.hid fun W o k cc rs hW q1 q2 => ?_
      have ht := HT.out
      rw [HB.out] at ht
      have hg := HH.out.2
      have hmem := List.mem_of_getElem? ht
      have hk := kids_good (hg.ok t hmem) (hg.bin t hmem)
      have hsub : (ts.take B ++ ts.drop (B + 1)).Sublist ts := by
        have e : ts.take B ++ ts.drop B = ts := List.take_append_drop B ts
        have : (ts.take B ++ ts.drop (B + 1)).Sublist (ts.take B ++ ts.drop B) := by
          refine List.Sublist.append_left ?_ _
          rw [← List.drop_drop]
          exact List.drop_sublist _ _
        rwa [e] at this
      have hgr : GoodL (ts.take B ++ ts.drop (B + 1)) := ⟨fun s k => hg.ok s (hsub.subset k), fun s k => hg.bin s (hsub.subset k), hg.rise.sublist hsub⟩
      have hcn := pop_count ht
      refine (merged_any _ _ _ va km vc _ o k cc rs W (Nat.le_refl _) (P3.below hW) (K3.below hW) q1 q2 hk hgr (by omega)).mono ?_
      rintro e w4 ⟨o, k, cc, rs, vs, rfl, h1, h2, mg, hb4⟩
      exact ⟨o, k, cc, vs, rfl, ⟨⟨rs, h1, h2⟩, mg_good mg hk hgr⟩, ⟨ht, mg⟩, hb4, below_then hW hb4⟩
    have RS : Hid (∀ vs, Popped ts B t vs → Rest ts vs) := Lib.hid fun vs hv => ⟨fun h => absurd h (by omega), fun _ => ⟨t, by rw [← HL.out, HB.out]; exact hv⟩⟩
    have wB : IntKind.i64.wrap ((B : Int) + 1) = (B : Int) + 1 := IntWalk.i64_in _ (by omega)
    have wB0 : (0 : Int) ≤ (B : Int) + 1 := by omega
    have wBn : ((B : Int) + 1).toNat = B + 1 := by omega
    have wBl : (B : Int) + 1 ≤ (c : Int) := by omega
    have lX := (blk x0').2.2
    have lt3 := Nat.lt_of_lt_of_le hb b13.size
    have lt4 := Nat.lt_of_lt_of_le lt1 b13.size
    have B13 := Lib.hid b13
    have ne1 : ¬ w.heap.size = w.heap.size + 1 := by omega
    have ne2 : ¬ w.heap.size + 1 = w.heap.size := by omega
    have ne3 : ¬ bt = w.heap.size + 1 := by omega
    have ne4 : ¬ w.heap.size + 1 = bt := by omega
    have X1 := Lib.hid x1'
    clear hof1 b13 b1 b2 b3 x0 x1 x0' x1' P3 ho ho3 K3 y2' y0' C2 hb lt1 LE HH KI KP ko KR
    go_wp2_with fail
    go_region_held3 (fun w' => w'.cell? ⟨w.heap.size, 0, none⟩ = some (.slice (some ⟨b, off, none⟩) n c) ∧ w'.cell? ⟨bt, 0, none⟩ = some (.int .i64 t.1)) (go_keep) (first
      | (have _t := B4; go_at_call 18; refine (MK.out _ o k cc rs B4.out P4.out I4.out).mono ?_; rintro e w5 ⟨o5, k5, cc5, vs5, rfl, h5, p5, b5, bw5⟩; have s5_0 := (bw5.cell (p := ⟨w.heap.size, 0, none⟩) lX).trans cX'; have s5_1 := (bw5.cell (p := ⟨bt, 0, none⟩) lt4).trans yt'; obtain ⟨c5, f5, l5⟩ := blk (blk_below X1.out bw5); have f5' := f5 0; have c5' := c5 0; clear c5 f5)
      | (go_at_call 22; (first | refine (CK.out w3 _ rfl (Below.refl _ _)).mono ?_ | refine (CK.out w3.drew _ rfl (Below.refl _ _).drew).mono ?_ | refine (CK.out (w3.drewN _) _ rfl (below_drewN (Below.refl _ _) _)).mono ?_); rintro e w4 ⟨o, k, cc, rs, rfl, p4, i4, b4, bw4⟩; have s4_0 := (bw4.cell (p := ⟨w.heap.size, 0, none⟩) lX).trans cX'; have s4_1 := (bw4.cell (p := ⟨bt, 0, none⟩) lt4).trans yt'; have B4 := Lib.hid bw4; have P4 := Lib.hid p4; have I4 := Lib.hid i4; clear p4 i4 bw4))
    all_goals
      go_wp2_with fail
      have X5 := blk_below X1.out bw5
      exact bodyPost_ret (v := .tuple #[.int .i64 t.1, .agg #[.slice o5 k5 cc5], .bool true]) (by simp [results, Try.results9, go_sem, c5']) rfl ⟨o5, k5, cc5, vs5, rfl, Hb.keep (.setCell X5 (by decide)) (.setCell X5 (by decide)) h5, RS.out vs5 p5, (below_then B13.out bw5).setCell (p := ⟨w.heap.size + 1, 0, none⟩) (by simp) _⟩
end BN
end Go.Proofs.Ytdeffgaghmghoaa
