/-
  Red: a number is put, or dropped. Conditions: sizes below 2^60.
  Red: the set's functions, as plain trees. Conditions: sizes below 2^60.
  Red: the words that the laws use. Conditions: sizes below 2^44.
-/
import Derived.Test.YthokmfonedfmfaaRedHas
import Derived.Test.YthokmfonedfmfaaMRedA
import Derived.Test.YthokmfonedfmfaaRedBuilt
import Derived.Test.YthokmfonedfmfaaMRedB
import Derived.Test.YthokmfonedfmfaaRedInts
import Derived.Test.YthokmfonedfmfaaBitsLen
import Derived.Test.YthokmfonedfmfaaApp
import Derived.Test.YthokmfonedfmfaaSame
import Derived.Test.YthokmfonedfmfaaTreeLaw
namespace Go.Proofs.Ythokmfonedfmfaa.RED
open Go.RowKit Go.Deep
open Go.Proofs.Ythokmfonedfmfaa Go.Proofs.Ythokmfonedfmfaa.ST

set_option linter.unusedVariables false
set_option maxRecDepth 100000 in
set_option maxHeartbeats 1600000 in
theorem put_set (t : ST) (x : Int) (p : Option Addr) (w : World) (h : In w p t) (hs : t.size ≤ 288230376151711744) :
    Calls Try.prog 27 #[.agg #[.pointer p], .int .i64 x] w fun e w' => ∃ q, e = .returned (.agg #[.pointer q]) ∧ In w' q (put t x) ∧ Below w.heap.size w w' := by
  cases hb : hasT t x with
  | true =>
    have e : put t x = t := by unfold put; rw [if_pos hb]
    rw [e]
    have HH := Lib.hid (fun W hW => has_any t x true p W hW hb)
    clear hb e
    go_enter Try.func27, Try.ntmps27
    go_wp2_with fail
    refine (HH.out _ ((h.alloc _).alloc _)).mono ?_
    rintro e w1 ⟨rfl, b1⟩
    obtain ⟨b1, x0, x1⟩ := hold2 b1 ⟨rfl, rfl, rfl, rfl⟩
    have h1 := h.below b1
    have a0 := (blk x0).1 0
    obtain ⟨c0, c1, c2⟩ := blk x1
    have c0' := c0 0
    have f0' := c1 0
    have hne : ¬ w.heap.size = w.heap.size + 1 := by omega
    have hne' : ¬ w.heap.size + 1 = w.heap.size := by omega
    clear c0 c1
    go_wp2_with fail
    refine bodyPost_ret (v := .agg #[.pointer p]) (by simp [results, Try.results27, go_sem, c0']) rfl ⟨_, rfl, h1.keep (.setCell x1 (by decide)), b1.setCell (p := ⟨w.heap.size + 1, 0, none⟩) (by simp) _⟩
  | false =>
    have hz := ins_size t x
    have IN := Lib.hid (fun W hW => ins_any t x p W hW (by omega))
    have e : put t x = black (ins t x) := by unfold put; rw [if_neg (by rw [hb]; simp)]
    rw [e]
    obtain ⟨T, hT⟩ : ∃ T, ins t x = T := ⟨_, rfl⟩
    rw [hT] at IN hz ⊢
    have HH := Lib.hid (fun W hW => has_any t x false p W hW hb)
    cases T with
    | nil => simp only [size] at hz; omega
    | node c y l r =>
    simp only [size] at hz
    clear hb e hT
    go_enter Try.func27, Try.ntmps27
    go_wp2_with fail
    refine (HH.out _ ((h.alloc _).alloc _)).mono ?_
    rintro e w1 ⟨rfl, b1⟩
    obtain ⟨b1, x0, x1⟩ := hold2 b1 ⟨rfl, rfl, rfl, rfl⟩
    have h1 := h.below b1
    have a0 := (blk x0).1 0
    go_wp2_with fail
    refine (IN.out _ h1).mono ?_
    rintro e w2 ⟨p2, rfl, hi2, b2⟩
    have x0' := blk_below x0 b2
    have x1' := blk_below x1 b2
    have b12 := below_then b1 b2
    have hio := hi2
    obtain ⟨b, pl, pr, rfl, klt, k0, k1, k2, k3, k4, hl, hr⟩ := hio.open
    obtain ⟨c0, c1, c2⟩ := blk x1'
    have c0' := c0 0
    have f0' := c1 0
    have hne : ¬ w.heap.size + 1 = w2.heap.size := by omega
    have hne' : ¬ w2.heap.size = w.heap.size + 1 := by omega
    clear c0 c1 a0
    go_wp2_with fail
    obtain ⟨WF, hWF⟩ : ∃ WF, (w2.setCell ⟨w.heap.size + 1, 0, none⟩ (.pointer (some ⟨w2.heap.size, 0, none⟩))).alloc (.cells #[.bool false, .int .i64 y, .int .i64 ((ST.node c y l r).size : Int), .pointer pl, .pointer pr] 118) = WF := ⟨_, rfl⟩
    have hsz : (w2.setCell ⟨w.heap.size + 1, 0, none⟩ (.pointer (some ⟨w2.heap.size, 0, none⟩))).heap.size = w2.heap.size := by simp [World.setCell]
    have XF : WF.heap[w.heap.size + 1]? = some (.cells #[.pointer (some ⟨w2.heap.size, 0, none⟩)] 56 (0, 0)) := by
      rw [← hWF]
      exact (Below.heap_alloc _ _ _ (by rw [hsz]; exact c2)).trans (blk_set x1')
    have hT : In WF (some ⟨w2.heap.size, 0, none⟩) (black (.node c y l r)) := by
      have := In.new (w := w2.setCell ⟨w.heap.size + 1, 0, none⟩ (.pointer (some ⟨w2.heap.size, 0, none⟩))) (c := false) (x := y) (n := ((ST.node c y l r).size : Int)) (hl.keep (.setCell x1' (by decide))) (hr.keep (.setCell x1' (by decide))) rfl
      rw [hsz, hWF] at this
      exact this
    have BF : Below w.heap.size w WF := by
      rw [← hWF]
      exact (b12.setCell (p := ⟨w.heap.size + 1, 0, none⟩) (by simp) _).alloc (by rw [hsz]; exact b12.size) _
    rw [hWF]
    clear hWF hsz c0' f0' hne hne'
    have cF := (blk XF).1 0
    refine bodyPost_ret (v := .agg #[.pointer (some ⟨w2.heap.size, 0, none⟩)]) (by simp [results, Try.results27, go_sem, cF]) rfl ⟨_, rfl, hT, BF⟩

set_option linter.unusedVariables false
set_option maxRecDepth 100000 in
set_option maxHeartbeats 1600000 in
theorem drop_set (t : ST) (x : Int) (p : Option Addr) (w : World) (h : In w p t) (hs : t.size ≤ 17592186044414) :
    Calls Try.prog 22 #[.agg #[.pointer p], .int .i64 x] w fun e w' => ∃ q, e = .returned (.agg #[.pointer q]) ∧ In w' q (drop t x) ∧ Below w.heap.size w w' := by
  cases hb : hasT t x with
  | false =>
    have e : drop t x = t := by unfold drop; rw [if_neg (by rw [hb]; simp)]
    rw [e]
    have HH := Lib.hid (fun W hW => has_any t x false p W hW hb)
    clear hb e
    go_enter Try.func22, Try.ntmps22
    go_wp2_with fail
    refine (HH.out _ (((h.alloc _).alloc _).alloc _)).mono ?_
    rintro e w1 ⟨rfl, b1⟩
    obtain ⟨b1, x0, x1, x2⟩ := hold3 b1 ⟨rfl, rfl, rfl, rfl⟩
    have h1 := h.below b1
    have a0 := (blk x0).1 0
    obtain ⟨c0, c1, c2⟩ := blk x2
    have c0' := c0 0
    have f0' := c1 0
    have hne : ¬ w.heap.size = w.heap.size + 1 + 1 := by omega
    have hne' : ¬ w.heap.size + 1 + 1 = w.heap.size := by omega
    clear c0 c1
    go_wp2_with fail
    refine bodyPost_ret (v := .agg #[.pointer p]) (by simp [results, Try.results22, go_sem, c0']) rfl ⟨_, rfl, h1.keep (.setCell x2 (by decide)), b1.setCell (p := ⟨w.heap.size + 1 + 1, 0, none⟩) (by simp; omega) _⟩
  | true =>
    have hx := hasT_mem hb
    have e : drop t x = built (lessL t.toL x) (Nat.log2 ((lessL t.toL x).length + 1) : Nat) := by unfold drop; rw [if_pos hb]
    rw [e]
    have HH := Lib.hid (fun W hW => has_any t x true p W hW hb)
    have II := Lib.hid (fun W hW => ints_any t p W hW (by omega))
    have TL := toL_length t
    have HX := Lib.hid hx
    have lp : 0 < t.toL.length := List.length_pos_of_mem hx
    obtain ⟨L, hL⟩ : ∃ L, t.toL = L := ⟨_, rfl⟩
    rw [hL] at II TL HX lp ⊢
    obtain ⟨d, hd⟩ : ∃ d, Nat.log2 ((lessL L x).length + 1) = d := ⟨_, rfl⟩
    rw [hd]
    have HD := Lib.hid hd
    clear hb e hx hL hd
    go_enter Try.func22, Try.ntmps22
    go_wp2_with fail
    refine (HH.out _ (((h.alloc _).alloc _).alloc _)).mono ?_
    rintro e w1 ⟨rfl, b1⟩
    obtain ⟨b1, x0, x1, x2⟩ := hold3 b1 ⟨rfl, rfl, rfl, rfl⟩
    have h1 := h.below b1
    have a0 := (blk x0).1 0
    go_wp2_with fail
    refine (II.out _ h1).mono ?_
    rintro e w2 ⟨v, rfl, ho, b2⟩
    obtain ⟨n, hn⟩ : ∃ n, L.length = n := ⟨_, rfl⟩
    rw [hn] at ho lp TL
    have nb : n ≤ 17592186044414 := by omega
    have HN := Lib.hid hn
    clear hn TL
    obtain ⟨av, cv, rfl, sl⟩ := Sl.of_own ho
    have hob : ∃ g, av = some ⟨g, 0, none⟩ ∧ w1.heap.size ≤ g := by
      rcases ho.2 with ⟨h1, h0⟩ | ⟨g, cap, cur, h1, h2, _⟩
      · omega
      · cases h1; exact ⟨g, rfl, h2⟩
    obtain ⟨g, rfl, hg⟩ := hob
    have x1' := blk_below x1 b2
    have x2' := blk_below x2 b2
    have lt1 := (blk x1).2.2
    have lt2 := (blk x2).2.2
    have DE := Lib.hid (delete_any x (w.heap.size + 1) g cv n w1.heap.size L w2 ho sl x1' HX.out lt1 (by omega) hg)
    clear a0 ho sl
    go_wp2_with fail
    refine DE.out.mono ?_
    rintro e w3 ⟨a3, k, c3, rfl, s3, hk, b3⟩
    have hkl := s3.hlen
    have x2'' : w3.heap[w.heap.size + 1 + 1]? = some (.cells #[.pointer none] 56 (0, 0)) := (b3.block _ lt2).trans x2'
    have b13 : Below w.heap.size w w3 := below_then b1 (b2.trans b3)
    have hd := HD.out
    rw [hkl] at hd
    clear hkl
    have LG := Lib.hid (fun W => len_any (k + 1) W (by omega) (by omega))
    have lg : Nat.log2 (k + 1) < 63 := (Nat.log2_lt (by omega)).2 (by omega)
    rw [hd] at LG lg
    have BU := Lib.hid (fun W hW => built_any (lessL L x) a3 k c3 (d : Int) W (by omega) (by omega) (by omega) hW)
    have hki : ((k + 1 : Nat) : Int) = (k : Int) + 1 := by omega
    rw [hki] at LG
    clear hd hki
    go_wp2_with fail
    refine (LG.out _).mono ?_
    rintro e w' ⟨rfl, rfl⟩
    go_wp2_with fail
    refine (BU.out _ s3).mono ?_
    rintro e w4 ⟨p4, rfl, hi4, b4⟩
    have y1 := blk_below x2'' b4
    obtain ⟨c0, c1, c2⟩ := blk y1
    have c0' := c0 0
    have f0' := c1 0
    have hne : ¬ w.heap.size = w.heap.size + 1 + 1 := by omega
    have hne' : ¬ w.heap.size + 1 + 1 = w.heap.size := by omega
    clear c0 c1
    go_wp2_with fail
    refine bodyPost_ret (v := .agg #[.pointer p4]) (by simp [results, Try.results22, go_sem, c0']) rfl ⟨_, rfl, hi4.keep (.setCell y1 (by decide)), (below_then b13 b4).setCell (p := ⟨w.heap.size + 1 + 1, 0, none⟩) (by simp; omega) _⟩
end Go.Proofs.Ythokmfonedfmfaa.RED

namespace Go.Proofs.Ythokmfonedfmfaa.RED
open Go.RowKit Go.Deep
open Go.Proofs.Ythokmfonedfmfaa Go.Proofs.Ythokmfonedfmfaa.ST


end Go.Proofs.Ythokmfonedfmfaa.RED

namespace Go.Proofs.Ythokmfonedfmfaa.RED
open Go.RowKit Go.Deep
open Go.Proofs.Ythokmfonedfmfaa Go.Proofs.Ythokmfonedfmfaa.ST

def Fit (t : ST) : Prop := t.Bst ∧ Fine t
theorem Fit.bst {t : ST} (h : Fit t) : t.Bst := h.1
theorem good_nil : Fit .nil := ⟨bst_nil, trivial, rfl⟩
theorem put_good {t : ST} (h : Fit t) (x : Int) : Fit (put t x) := ⟨(put_spec t x h.1).1, put_fine x h.2⟩
theorem drop_good {t : ST} (h : Fit t) (x : Int) : Fit (drop t x) := ⟨(drop_spec t x h.1).1, drop_fine x h.2⟩
theorem put_mem {t : ST} (h : Fit t) (x : Int) : ∀ y, y ∈ (put t x).toL ↔ y = x ∨ y ∈ t.toL := (put_spec t x h.1).2
theorem drop_mem {t : ST} (h : Fit t) (x : Int) : ∀ y, y ∈ (drop t x).toL ↔ y ≠ x ∧ y ∈ t.toL := (drop_spec t x h.1).2
theorem ofL_good (l : List Int) : Fit (ofL l) := ⟨(ofL_spec l).1, (ofL_spec l).2.1⟩
theorem ofL_mem (l : List Int) : ∀ y, y ∈ (ofL l).toL ↔ y ∈ l := (ofL_spec l).2.2

theorem ints_sl (t : ST) (p : Option Addr) (w : World) (h : In w p t) (hs : t.size ≤ 17592186044416) :
    Calls Try.prog 32 #[.agg #[.pointer p]] w fun e w' => ∃ a m c, e = .returned (.slice a m c) ∧ Sl w' a m c t.toL ∧ Below w.heap.size w w' :=
  (ints_any t p w h hs).mono fun e w' ⟨v, he, ho, hb⟩ => by
    obtain ⟨a, c, hv, hs⟩ := Sl.of_own ho
    exact ⟨a, _, c, by rw [he, hv], hs, hb⟩
theorem has_b (t : ST) (x : Int) (b : Bool) (p : Option Addr) (w : World) (h : In w p t) (hg : Fit t) (_hs : t.size ≤ 17592186044417) (hb : decide (x ∈ t.toL) = b) :
    Calls Try.prog 37 #[.agg #[.pointer p], .int .i64 x] w fun e w' => e = .returned (.bool b) ∧ Below w.heap.size w w' :=
  (has_set t x p w h hg.bst).mono fun e w' ⟨he, hw⟩ => ⟨by rw [he, hb], hw⟩
theorem ofL_once (l : List Int) : (ofL l).toL = onceL l := once_unique (ofL_good l).bst (ofL_mem l)
end Go.Proofs.Ythokmfonedfmfaa.RED
