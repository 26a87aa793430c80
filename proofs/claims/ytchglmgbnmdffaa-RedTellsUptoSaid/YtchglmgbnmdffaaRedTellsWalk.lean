/-
  The walk of the law RedTells. Conditions: the arguments hold together at most 1048576 values.
-/
import Derived.Test.YtchglmgbnmdffaaRedFact
import Derived.Test.YtchglmgbnmdffaaRedShape
import Derived.Test.YtchglmgbnmdffaaCalm
import Derived.Test.YtchglmgbnmdffaaSift
import Derived.Test.YtchglmgbnmdffaaShaped
namespace Go.Proofs.Ytchglmgbnmdffaa
open Go.RowKit Go.Deep Go.BigFrame
open Go.Proofs.Ytchglmgbnmdffaa.ST
open Go.Proofs.Ytchglmgbnmdffaa.RED

theorem RedTells_put {t : ST} (h : Fit t) (x : Int) : (put t x).toL = onceL (t.toL ++ [x]) :=
  once_unique (put_good h x).bst fun z => by rw [put_mem h]; simp [or_comm]
theorem RedTells_drop {t : ST} (h : Fit t) (x : Int) : (drop t x).toL = siftL t.toL [x] false :=
  srise_unique (drop_good h x).bst (siftL_srise h.bst) fun z => by rw [drop_mem h, siftL_mem]; simp [and_comm]

set_option linter.unusedVariables false
set_option maxHeartbeats 4000000 in
set_option maxRecDepth 100000 in
theorem RedTells_walk (a0 : Option Addr) (n0 c0 : Nat) (x0 : List Int) (a1 : Option Addr) (n1 c1 : Nat) (x1 : List Bool) (x : Int) (w : World)
    (s0 : Sl w a0 n0 c0 x0) (i0 : ∀ n ∈ x0, I64 n) (s1 : Bl w a1 n1 c1 x1) (i2 : I64 x) (hn : n0 + n1 ≤ 1048576) :
    Calls Try.prog 11 #[.slice a0 n0 c0, .slice a1 n1 c1, .int .i64 x] w fun e w' => e = .returned (.bool true) ∧ Below w.heap.size w w' := by
  obtain ⟨it, hit, hz0, hz1, hz2⟩ := info_parts Try.infoInt
  have S0 := Lib.hid s0
  have S1 := Lib.hid s1
  have sm0 := s0.hmax
  have sc0 := s0.hcap
  unfold maxLen at sm0
  clear s0 s1 i0 i2
  go_enter Try.func11, Try.ntmps11
  go_wp2_with fail
  refine (fact_any _).mono ?_
  rintro e w1 ⟨rfl, b1⟩
  go_wp2_with fail
  obtain ⟨B0, hB0⟩ : ∃ k, w1.heap.size = k := ⟨_, rfl⟩
  have X : (w1.alloc (.cells #[.pointer none] 57)).heap[B0]? = some (.cells #[.pointer none] 57) := by rw [← hB0]; exact heap_alloc_new _ _
  have bX : Below w.heap.size w (w1.alloc (.cells #[.pointer none] 57)) := b1.alloc b1.size _
  have hBw : w.heap.size ≤ B0 := by rw [← hB0]; exact b1.size
  rw [hB0]
  clear hB0 b1
  go_loopg [9, 10] n0 (fun g v i wr => ∃ (k : Nat) (t : ST) (q : Option Addr) (m : Nat), g = n0 - k ∧ k ≤ n0 ∧ i = .int .i64 k ∧ Fit t ∧ t.size ≤ k ∧ In wr q t ∧ wr.heap[B0]? = some (.cells #[.pointer q] 57) ∧ wr.ownsRow w.heap.size 3 1 v m (t.toL.map (Value.int .i64)) ∧ Below w.heap.size w wr)
  case atStart =>
    exact ⟨0, .nil, none, 0, rfl, Nat.zero_le _, rfl, good_nil, Nat.le_refl _, rfl, X, World.ownsRow_nil _ _ _ _, bX⟩
  case round =>
    obtain ⟨k, t, q, m, hg, hk, rfl, gt, ht, hi, hX, ho, hb⟩ := hrel
    obtain ⟨a', c', rfl, hs⟩ := Sl.of_own ho
    have HO := Lib.hid ho
    clear ho
    have HG := Lib.hid hg
    clear hg X bX
    by_cases hlt : k < n0
    · obtain ⟨b, off, rfl, hbl, hc⟩ := S0.out.hat (by omega)
      have g := (hb.cell (p := ⟨b, off + k, none⟩) hbl).trans (hc k hlt)
      have hblr : b < wr.heap.size := Nat.lt_of_lt_of_le hbl hb.size
      clear hc
      have hlti : (k : Int) < (n0 : Int) := by omega
      obtain ⟨y, hy⟩ : ∃ y, x0[k]?.getD 0 = y := ⟨_, rfl⟩
      rw [hy] at g
      have gw : w.cell? ⟨b, off + k, none⟩ = some (.int .i64 y) := (hb.cell (p := ⟨b, off + k, none⟩) hbl).symm.trans g
      clear hy
      obtain ⟨d, hd⟩ : ∃ d, (decide (k < n1) && x1[k]?.getD false) = d := ⟨_, rfl⟩
      have hbs := hb.size
      have hbB : b < B0 := Nat.lt_of_lt_of_le hbl hBw
      have hB0r : B0 ≤ wr.heap.size := Nat.le_of_lt (blk hX).2.2
      go_upto_region 9 with (fail)
      go_cut [31] (fun v wx => v = .bool d ∧ wr = wx)
      case first =>
        by_cases hk1 : k < n1
        · obtain ⟨b', off', rfl, hbl', hc'⟩ := S1.out.hat (by omega)
          have g' := (hb.cell (p := ⟨b', off' + k, none⟩) hbl').trans (hc' k hk1)
          have hd' : x1[k]?.getD false = d := by rw [← hd, decide_eq_true hk1]; rfl
          rw [hd'] at g'
          have hki : (k : Int) < (n1 : Int) := by omega
          have hkb : decide ((k : Int) < (n1 : Int)) = true := by simp; omega
          clear hc' hd hd' g
          go_wp2_with fail
          go_meet
          exact ⟨rfl, rfl⟩
        · have hd' : d = false := by rw [← hd, decide_eq_false hk1]; rfl
          subst hd'
          have hki : ¬ (k : Int) < (n1 : Int) := by omega
          clear hd
          go_wp2_with fail
          go_meet
          exact ⟨rfl, rfl⟩
      case rest =>
      obtain ⟨rfl, rfl⟩ := hcut
      clear hd
      go_upto_if 31 with (fail)
      go_cut [9] (fun v wx => ∃ (t' : ST) (q' : Option Addr) (m'' : Nat), Fit t' ∧ t'.size ≤ k + 1 ∧ In wx q' t' ∧ wx.heap[B0]? = some (.cells #[.pointer q'] 57) ∧ wx.ownsRow w.heap.size 3 1 v m'' (t'.toL.map (Value.int .i64)) ∧ Below w.heap.size w wx)
      case first =>
        have tl := toL_length t
        obtain ⟨X0, X1, Xl⟩ := blk hX
        have cX := X0 0
        have fX := X1 0
        clear X0 X1
        have hlen := hs.hlen
        have hm1 : m ≤ 1048576 := by omega
        have HX := Lib.hid hX
        have HLN := Lib.hid hlen
        have HTL := Lib.hid tl
        clear hX hlen tl
        cases d
        · go_wp2_with fail
          go_cut [] (fun wx => ∃ q2, In wx q2 (put t y) ∧ wx.heap[B0]? = some (.cells #[.pointer q2] 57) ∧ wx.ownsRow w.heap.size 3 1 (.slice a' m c') m (t.toL.map (Value.int .i64)) ∧ Below w.heap.size w wx ∧ Below B0 wr wx)
          case first =>
            go_region_law (first | (go_simp; go_at_call 40; refine (put_set t y q _ (by first | exact hi.drew | exact hi.drewN _) (by omega)).mono ?_; rintro e w2 ⟨q2, rfl, hi2, hb2⟩; replace hb2 := below_of_drew hb2; have y0 := blk_below HX.out hb2; have e0 := (blk y0).1 0; have e1 := (blk y0).2.1 0))
            all_goals
              go_wp2_with fail
              go_meet
              exact ⟨q2, hi2.keep (.setCell y0 (by decide)), blk_set y0, own_keep (own_below HO.out hb2) (.setCell y0 (by decide)), (below_then hb hb2).setCell (p := ⟨B0, 0, none⟩) hBw _, (hb2.mono hB0r).setCell (p := ⟨B0, 0, none⟩) (Nat.le_refl _) _⟩
          case rest =>
          obtain ⟨q2, hi2, y0, ho2, bw2, b02⟩ := hcut
          obtain ⟨Y0, Y1, Yl⟩ := blk y0
          have g2 := (b02.cell (p := ⟨b, off + k, none⟩) hbB).trans g
          obtain ⟨_, _, e3, hs2⟩ := Sl.of_own ho2
          cases e3
          have z2 := put_size t y
          have e4 : (put t y).toL = onceL (t.toL ++ [y]) := RedTells_put gt y
          have E4 := Lib.hid e4
          clear e4 Y0 Y1 g hs hi cX fX
          have LIT := fun (W : World) => World.ownsRow_lit (base := W.heap.size) (e := 3) (size := 1) W #[.int .i64 y] 1 (Nat.le_refl _) (by decide) rfl
          have LITH := Lib.hid LIT
          have hbw2 := bw2.size
          have blw : b < wc.heap.size := Nat.lt_of_lt_of_le hbl hbw2
          clear LIT
          go_wp2_with fail
          go_region_held3 (fun w' => w'.cell? ⟨b, off + k, none⟩ = some (.int .i64 y)) (go_keep) (first
            | (have _t := oA; go_at_call 25; refine (once_any _ _ _ (t.toL ++ [y]) _ sA (by omega)).mono ?_; rintro e wO ⟨vO, mO, rfl, oO, hmO, bO⟩; have bwO := below_then bA bO; have sO_0 := (bwO.cell (p := ⟨b, off + k, none⟩) blw).trans g2)
            | (refine step_append_any _ (by rfl) (.tmp 52) (.tmp 57) 22 (by rfl) wc.heap.size 3 it (.int .i64 0) 1 8 Try.underlying22 hit hz0 hz1 hz2 rfl (by decide) v1 (m + 0) _ (by rfl) (o1.alloc _) _ _ 1 1 [.int .i64 y] (by rfl) (Reads.of_own (LITH.out w1)) (by simp [Value.oneCell']) (by unfold maxLen; omega) (by omega) (Nat.le_trans bw1.size (by simp)) ?_; intro vA wA oA hgA hatA; have bA := below_grown (bw1.alloc bw1.size _) (o1.alloc _) hgA (Nat.le_refl _) (Nat.le_trans bw1.size (by simp)); have oA' : wA.ownsRow wc.heap.size 3 1 vA (m + 0 + 1) ((t.toL ++ [y]).map (Value.int .i64)) := (by rw [List.append_nil] at oA; rw [List.map_append]; exact oA); obtain ⟨aA, cA, rfl, sA⟩ := Sl.of_own oA'; have sA_0 := (bA.cell (p := ⟨b, off + k, none⟩) blw).trans g2)
            | (refine step_append_any _ (by rfl) (.tmp 52) (.tmp 57) 22 (by rfl) wc.heap.size 3 it (.int .i64 0) 1 8 Try.underlying22 hit hz0 hz1 hz2 rfl (by decide) v1 (m + 0) _ (by rfl) o1 _ _ 1 1 [.int .i64 y] (by rfl) (Reads.of_own (own_below (LITH.out wc.drew) b1)) (by simp [Value.oneCell']) (by unfold maxLen; omega) (by omega) bw1.size ?_; intro vA wA oA hgA hatA; have bA := below_grown bw1 o1 hgA (Nat.le_refl _) bw1.size; have oA' : wA.ownsRow wc.heap.size 3 1 vA (m + 0 + 1) ((t.toL ++ [y]).map (Value.int .i64)) := (by rw [List.append_nil] at oA; rw [List.map_append]; exact oA); obtain ⟨aA, cA, rfl, sA⟩ := Sl.of_own oA'; have sA_0 := (bA.cell (p := ⟨b, off + k, none⟩) blw).trans g2)
            | (go_at_call 26; refine (cat_any a' none m 0 c' 0 t.toL [] _ hs2.drew (Sl.nil _) (by omega)).mono ?_; rintro e w1 ⟨v1, rfl, o1, b1⟩; replace o1 := own_mono (base' := wc.heap.size) o1 (Nat.le_refl _); have bw1 : Below wc.heap.size wc w1 := below_of_drew b1; have s1_0 := (bw1.cell (p := ⟨b, off + k, none⟩) blw).trans g2)
            | (go_at_call 26; refine (cat_any a' none m 0 c' 0 t.toL [] _ (hs2.drew.alloc _) (Sl.nil _) (by omega)).mono ?_; rintro e w1 ⟨v1, rfl, o1, b1⟩; replace o1 := own_mono (base' := wc.heap.size) o1 (by simp); have bw1 : Below wc.heap.size wc w1 := below_of_drew (below_then ((Below.refl _ _).alloc (Nat.le_refl _) _) b1); have s1_0 := (bw1.cell (p := ⟨b, off + k, none⟩) blw).trans g2))
          all_goals
            go_wp2_with fail
            go_meet
            exact ⟨put t y, q2, mO, put_good gt y, by omega, hi2.below bwO, blk_below y0 bwO, by rw [E4.out]; exact own_mono oO (Nat.le_trans hbw2 bA.size), below_then bw2 bwO⟩
        · go_wp2_with fail
          go_cut [] (fun wx => ∃ q2, In wx q2 (drop t y) ∧ wx.heap[B0]? = some (.cells #[.pointer q2] 57) ∧ wx.ownsRow w.heap.size 3 1 (.slice a' m c') m (t.toL.map (Value.int .i64)) ∧ Below w.heap.size w wx ∧ Below B0 wr wx)
          case first =>
            go_region_law (first | (go_simp; go_at_call 41; refine (drop_set t y q _ (by first | exact hi.drew | exact hi.drewN _) (by omega)).mono ?_; rintro e w2 ⟨q2, rfl, hi2, hb2⟩; replace hb2 := below_of_drew hb2; have y0 := blk_below HX.out hb2; have e0 := (blk y0).1 0; have e1 := (blk y0).2.1 0))
            all_goals
              go_wp2_with fail
              go_meet
              exact ⟨q2, hi2.keep (.setCell y0 (by decide)), blk_set y0, own_keep (own_below HO.out hb2) (.setCell y0 (by decide)), (below_then hb hb2).setCell (p := ⟨B0, 0, none⟩) hBw _, (hb2.mono hB0r).setCell (p := ⟨B0, 0, none⟩) (Nat.le_refl _) _⟩
          case rest =>
          obtain ⟨q2, hi2, y0, ho2, bw2, b02⟩ := hcut
          obtain ⟨Y0, Y1, Yl⟩ := blk y0
          have g2 := (b02.cell (p := ⟨b, off + k, none⟩) hbB).trans g
          obtain ⟨_, _, e3, hs2⟩ := Sl.of_own ho2
          cases e3
          have z2 := drop_size t y
          have e4 : (drop t y).toL = siftL t.toL [y] false := RedTells_drop gt y
          have E4 := Lib.hid e4
          have hbw2 := bw2.size
          clear e4 Y0 Y1 g gw hs hi cX fX
          go_wp2_with fail
          refine (sift_any false a' _ m c' 1 1 t.toL [y] _ (hs2.alloc _) (Sl.one _ _ _) (by omega)).mono ?_
          rintro e w3 ⟨v3, m3, rfl, o3, hm3, b3⟩
          have b3' := below_then ((Below.refl _ _).alloc (Nat.le_refl _) _) b3
          go_wp2_with fail
          go_meet
          exact ⟨drop t y, q2, m3, drop_good gt y, by omega, hi2.below b3', blk_below y0 b3', by rw [E4.out]; exact own_mono o3 (Nat.le_trans hbw2 (by simp)), below_then bw2 b3'⟩
      case rest =>
      obtain ⟨t', q', m', gt', ht', hi', hX', ho', hb'⟩ := hcut
      obtain ⟨a2, c2, rfl, hs'⟩ := Sl.of_own ho'
      obtain ⟨bb, hbb⟩ : ∃ bb, decide (x ∈ t'.toL) = bb := ⟨_, rfl⟩
      have hof : decide (0 < oftenN t'.toL x) = bb := by rw [← hbb]; exact dec_iff often_pos
      have hz : t'.size = m' := by rw [← toL_length]; exact hs'.hlen
      have hmk : m' ≤ 1048576 := by omega
      have d1 : ((t'.size : Int) != (m' : Int)) = false := by simp; omega
      have d2 : (bb != bb) = false := by simp
      have HBB := Lib.hid hbb
      have HOW := Lib.hid ho'
      have HZ := Lib.hid hz
      have cX := (blk hX').1 0
      clear hbb ho' hz hX hi hs hb g gw HO gt ht hbs hB0r hbB
      go_wp2_with fail
      refine (ints_sl t' q' _ hi' (by have := HZ.out; omega)).mono ?_
      rintro e w3 ⟨a3, m3, c3, rfl, s3, b3⟩
      go_wp2_with fail
      refine (same_yes _ _ _ _ _ _ _ _ _ s3 (hs'.below b3) rfl).mono ?_
      rintro e w4 ⟨rfl, b4⟩
      have B4 := below_then b3 b4
      have cX4 := (blk (blk_below hX' B4)).1 0
      clear cX
      go_wp2_with fail
      refine (len_set t' q' _ (hi'.below B4)).mono ?_
      rintro e w5 ⟨rfl, b5⟩
      have B5 := below_then B4 b5
      have cX5 := (blk (blk_below hX' B5)).1 0
      clear cX4
      go_wp2_with fail
      refine (has_b t' x bb q' _ (hi'.below B5) gt' (by omega) HBB.out).mono ?_
      rintro e w6 ⟨rfl, b6⟩
      have B6 := below_then B5 b6
      have cX6 := (blk (blk_below hX' B6)).1 0
      clear cX5
      go_wp2_with fail
      refine (often_any a2 m' c2 t'.toL x _ (hs'.below B6)).mono ?_
      rintro e w7 ⟨rfl, rfl⟩
      go_wp2_with fail
      refine (shape_any t' q' _ (hi'.below B6) (by have := HZ.out; omega)).mono ?_
      rintro e w8 ⟨a8, c8, rfl, N8, b8⟩
      have B8 := below_then B6 b8
      clear cX6
      go_wp2_with fail
      refine (shaped_yes mrk t' a8 a2 _ c8 _ c2 _ N8 (hs'.below B8) (by have := HZ.out; omega)).mono ?_
      rintro e w9 ⟨rfl, b9⟩
      have B9 := below_then B8 b9
      go_wp2_with fail
      go_roundg (n0 - (k + 1))
      case measure => have := HG.out; omega
      case rel => exact ⟨k + 1, t', q', m', rfl, by omega, by go_num, gt', ht', hi'.below B9, blk_below hX' B9, own_below HOW.out B9, below_then hb' B9⟩
    · have hsz := ofL_size x0
      have hln := S0.out.hlen
      have hz : (ofL x0).size ≤ n0 := by omega
      have eo := ofL_once x0
      have EO := Lib.hid eo
      clear hsz hln eo hi hX hs gt ht
      go_wp2_with fail
      refine (of_any a0 n0 c0 x0 _ (S0.out.below hb) (by omega)).mono ?_
      rintro e w2 ⟨q2, rfl, hi2, b2⟩
      go_wp2_with fail
      refine (ints_sl (ofL x0) q2 _ hi2 (by omega)).mono ?_
      rintro e w3 ⟨a3, m3, c3, rfl, s3, b3⟩
      have B3 := below_then hb (below_then b2 b3)
      go_wp2_with fail
      refine (once_any a0 n0 c0 x0 _ (S0.out.below B3) (by omega)).mono ?_
      rintro e w4 ⟨v4, m4, rfl, o4, hm4, b4⟩
      obtain ⟨a4, c4, rfl, s4⟩ := Sl.of_own o4
      have O4 := Lib.hid o4
      clear o4
      go_wp2_with fail
      refine (same_yes _ _ _ _ _ _ _ _ _ (s3.below b4) s4 EO.out).mono ?_
      rintro e w5 ⟨rfl, b5⟩
      go_wp2_with fail
      go_ret
      exact ⟨rfl, below_then (below_then B3 b4) b5⟩
end Go.Proofs.Ytchglmgbnmdffaa
