/-
  Binomial heaps: what is pushed, joined, the least one's place. Conditions: at most 2^46 numbers.
-/
import Derived.Test.YtdeffgaghmghoaaBinoMerged
import Derived.Test.YtdeffgaghmghoaaBinoRev
namespace Go.Proofs.Ytdeffgaghmghoaa
open Go.RowKit Go.Deep
set_option linter.unusedVariables false
namespace BN
/-- A heap in memory. -/
def Hb (w : World) (a : Option Addr) (n c : Nat) (ts : List Tr) : Prop := (∃ ps, Pl w a n c ps ∧ InL w ps ts) ∧ GoodL ts
theorem Hb.below {w w' : World} {a : Option Addr} {n c : Nat} {ts : List Tr} (h : Hb w a n c ts) (hb : Below w.heap.size w w') : Hb w' a n c ts := by
  obtain ⟨⟨ps, h1, h2⟩, h3⟩ := h
  exact ⟨⟨ps, h1.below hb, h2.below hb⟩, h3⟩
theorem InL.keep {w w' : World} (h1 : KeepT 45 w w') (h2 : KeepT 42 w w') {ps : List (Option Addr)} {ts : List Tr} (h : InL w ps ts) : InL w' ps ts := by
  have := inB_inL (w := w') (f := BF.ofT ts) (ps := ps)
  rw [BF.trees_ofT] at this
  refine this.1 (InB.keep h1 h2 ?_)
  have := inB_inL (w := w) (f := BF.ofT ts) (ps := ps)
  rw [BF.trees_ofT] at this
  exact this.2 h
theorem Hb.keep {w w' : World} (k1 : KeepT 45 w w') (k2 : KeepT 42 w w') {a : Option Addr} {n c : Nat} {ts : List Tr} (h : Hb w a n c ts) : Hb w' a n c ts := by
  obtain ⟨⟨ps, h1, h2⟩, h3⟩ := h
  exact ⟨⟨ps, h1.keep k2, h2.keep k1 k2⟩, h3⟩
theorem Hb.alloc {w : World} {a : Option Addr} {n c : Nat} {ts : List Tr} (h : Hb w a n c ts) (o : Obj) : Hb (w.alloc o) a n c ts := h.below ((Below.refl _ _).alloc (Nat.le_refl _) _)
theorem Hb.len {w : World} {a : Option Addr} {n c : Nat} {ts : List Tr} (h : Hb w a n c ts) : n = ts.length := by
  obtain ⟨⟨ps, h1, h2⟩, h3⟩ := h
  rw [← h1.hlen, h2.length]
theorem Hb.nil (w : World) : Hb w none 0 0 [] := ⟨⟨[], Pl.nil w, trivial⟩, good_nil⟩
theorem InL.at_ {w : World} : ∀ {ps : List (Option Addr)} {ts : List Tr}, InL w ps ts → ∀ (j : Nat) (t : Tr), ts[j]? = some t → ∃ p, ps[j]? = some p ∧ InT w p t
  | [], [], _, j, t, h => by simp at h
  | p :: ps, t0 :: ts, h, 0, t, e => by
    obtain rfl : t0 = t := by simpa using e
    exact ⟨p, rfl, h.1⟩
  | p :: ps, t0 :: ts, h, j + 1, t, e => by
    obtain ⟨q, h1, h2⟩ := InL.at_ h.2 j t (by simpa using e)
    exact ⟨q, by simpa using h1, h2⟩
  | [], _ :: _, h, _, _, _ => h.elim
  | _ :: _, [], h, _, _, _ => h.elim
/-- The tree at a place. -/
theorem Hb.at_ {w : World} {a : Option Addr} {n c : Nat} {ts : List Tr} (h : Hb w a n c ts) (j : Nat) (hj : j < n) : ∃ b off bt t qs ka km kc, a = some ⟨b, off, none⟩ ∧ b < w.heap.size ∧ ts[j]? = some t ∧ w.cell? ⟨b, off + j, none⟩ = some (.pointer (some ⟨bt, 0, none⟩)) ∧
    w.heap[bt]? = some (.cells #[.int .i64 t.1, .int .i64 (t.2.1 : Int), .slice ka km kc] 45 (0, 0)) ∧ Pl w ka km kc qs ∧ InB w qs t.2.2 := by
  have hl := h.len
  obtain ⟨⟨ps, h1, h2⟩, h3⟩ := h
  obtain ⟨b, off, e, hb, hc⟩ := h1.cell (by omega)
  obtain ⟨t, ht⟩ : ∃ t, ts[j]? = some t := ⟨ts[j]'(by omega), List.getElem?_eq_getElem _⟩
  obtain ⟨p, hp, hi⟩ := h2.at_ j t ht
  obtain ⟨bt, qs, ka, km, kc, rfl, g1, g2, g3⟩ := hi
  have := hc j hj
  rw [hp] at this
  exact ⟨b, off, bt, t, qs, ka, km, kc, e, hb, ht, this, g1, g2, g3⟩

set_option maxHeartbeats 800000 in
theorem join_any (a : Option Addr) (n c : Nat) (ts : List Tr) (b : Option Addr) (m d : Nat) (us : List Tr) (w : World) (h1 : Hb w a n c ts) (h2 : Hb w b m d us) (hs : (allL ts).length + (allL us).length ≤ 70368744177664) :
    Calls Try.prog 8 #[.agg #[.slice a n c], .agg #[.slice b m d]] w fun e w' => ∃ o k cc vs, e = .returned (.agg #[.slice o k cc]) ∧ Hb w' o k cc vs ∧ Mg ts us vs ∧ Below w.heap.size w w' := by
  have M := Lib.hid (fun (W : World) (hb : Below w.heap.size w W) => by
    obtain ⟨⟨ps, p1, p2⟩, p3⟩ := h1.below hb
    obtain ⟨⟨qs, q1, q2⟩, q3⟩ := h2.below hb
    exact merged_any (ts.length + us.length) ts us a n c ps b m d qs W (Nat.le_refl _) p1 p2 q1 q2 p3 q3 hs)
  have g1 := h1.2
  have g2 := h2.2
  clear h1 h2
  go_enter Try.func8, Try.ntmps8
  go_wp2_with fail
  refine (M.out _ (((((Below.refl _ _).alloc (Nat.le_refl _) _).alloc (by simp) _).alloc (by simp; omega) _))).mono ?_
  rintro e w1 ⟨o, k, cc, rs, vs, rfl, p1, p2, mg, hb⟩
  obtain ⟨b1, x0, x1, X⟩ := hold3 hb ⟨rfl, rfl, rfl, rfl⟩
  obtain ⟨c0, c1, c2⟩ := blk X
  have c0' := c0 0
  have f0' := c1 0
  clear c0 c1
  go_wp2_with fail
  exact bodyPost_ret (v := .agg #[.slice o k cc]) (by simp [results, Try.results8, go_sem, c0']) rfl ⟨o, k, cc, vs, rfl, Hb.keep (.setCell X (by decide)) (.setCell X (by decide)) ⟨⟨rs, p1, p2⟩, mg_good mg g1 g2⟩, mg, b1.setCell (p := ⟨w.heap.size + 1 + 1, 0, none⟩) (by simp; omega) _⟩
theorem lit4 (w : World) (o1 o2 o3 : Obj) (p : Option Addr) (k : Nat) (hk : k = w.heap.size + 1 + 1 + 1) : Pl ((((w.alloc o1).alloc o2).alloc o3).alloc (.cells #[.pointer p] 42)) (some ⟨k, 0, none⟩) 1 1 [p] := by
  have := Pl.lit (((w.alloc o1).alloc o2).alloc o3) p
  have e : (((w.alloc o1).alloc o2).alloc o3).heap.size = k := by simp [hk]
  rwa [e] at this
theorem four_3 (w : World) (o1 o2 o3 o4 : Obj) : ((((w.alloc o1).alloc o2).alloc o3).alloc o4).heap[w.heap.size + 1 + 1]? = some o3 := by
  have z := heap_alloc_new ((w.alloc o1).alloc o2) o3
  rw [World.size_alloc, World.size_alloc] at z
  exact (Below.heap_alloc _ _ _ (by simp)).trans z
set_option maxHeartbeats 800000 in
theorem push_any (x : Int) (a : Option Addr) (n c : Nat) (ts : List Tr) (w : World) (h1 : Hb w a n c ts) (hs : (allL ts).length + 1 ≤ 70368744177664) :
    Calls Try.prog 12 #[.agg #[.slice a n c], .int .i64 x] w fun e w' => ∃ o k cc vs, e = .returned (.agg #[.slice o k cc]) ∧ Hb w' o k cc vs ∧ Mg [(x, 0, .nil)] ts vs ∧ Below w.heap.size w w' := by
  have M := Lib.hid (fun (W : World) (k j : Nat) (hb : Below w.heap.size w W) (p1 : Pl W (some ⟨k, 0, none⟩) 1 1 [some ⟨j, 0, none⟩]) (p2 : W.heap[j]? = some (.cells #[.int .i64 x, .int .i64 0, .slice none 0 0] 45 (0, 0))) => by
    obtain ⟨⟨ps, q1, q2⟩, q3⟩ := h1.below hb
    exact merged_any (1 + ts.length) [(x, 0, .nil)] ts (some ⟨k, 0, none⟩) 1 1 [some ⟨j, 0, none⟩] a n c ps W (Nat.le_refl _) p1 ⟨⟨j, [], none, 0, 0, rfl, p2, Pl.nil W, rfl⟩, trivial⟩ q1 q2 (good_one x) q3 (by simp [allL, allT, BF.all] at hs ⊢; omega))
  have g1 := h1.2
  clear h1
  go_enter Try.func12, Try.ntmps12
  go_wp2_with fail
  refine (M.out _ (w.heap.size + 1 + 1 + 1) (w.heap.size + 1 + 1) ((((((Below.refl _ _).alloc (Nat.le_refl _) _).alloc (by simp) _).alloc (by simp; omega) _)).alloc (by simp; omega) _) (by exact lit4 w _ _ _ _ _ rfl) (by exact four_3 w _ _ _ _)).mono ?_
  rintro e w1 ⟨o, k, cc, rs, vs, rfl, p1, p2, mg, hb⟩
  obtain ⟨b0, _⟩ := hold1 hb ⟨rfl, rfl, rfl, rfl⟩
  obtain ⟨b1, x0, X, x2⟩ := hold3 b0 ⟨rfl, rfl, rfl, rfl⟩
  obtain ⟨c0, c1, c2⟩ := blk X
  have c0' := c0 0
  have f0' := c1 0
  clear c0 c1
  go_wp2_with fail
  exact bodyPost_ret (v := .agg #[.slice o k cc]) (by simp [results, Try.results12, go_sem, c0']) rfl ⟨o, k, cc, vs, rfl, Hb.keep (.setCell X (by decide)) (.setCell X (by decide)) ⟨⟨rs, p1, p2⟩, mg_good mg (good_one x) g1⟩, mg, b1.setCell (p := ⟨w.heap.size + 1, 0, none⟩) (by simp) _⟩

/-- Where the least one is, of those that lie before a place. -/
def bestAt (ts : List Tr) : Nat → Nat
  | 0 => 0
  | k + 1 => if (ts[k]?.getD (0, 0, .nil)).1 < (ts[bestAt ts k]?.getD (0, 0, .nil)).1 then k else bestAt ts k
theorem bestAt_lt (ts : List Tr) : ∀ k, k ≤ ts.length → 0 < ts.length → bestAt ts k < ts.length := by
  intro k
  induction k with
  | zero => exact fun _ h => h
  | succ k ih =>
    intro h h0
    unfold bestAt
    split
    · omega
    · exact ih (by omega) h0
theorem bestAt_least (ts : List Tr) : ∀ k, ∀ j, j < k → (ts[bestAt ts k]?.getD (0, 0, .nil)).1 ≤ (ts[j]?.getD (0, 0, .nil)).1 := by
  intro k
  induction k with
  | zero => intro j h; omega
  | succ k ih =>
    intro j h
    unfold bestAt
    split
    · rename_i hc
      rcases Nat.lt_or_ge j k with h1 | h1
      · have := ih j h1; omega
      · obtain rfl : j = k := by omega
        exact Int.le_refl _
    · rename_i hc
      rcases Nat.lt_or_ge j k with h1 | h1
      · exact ih j h1
      · obtain rfl : j = k := by omega
        omega
set_option maxHeartbeats 800000 in
theorem least_any (a : Option Addr) (n c : Nat) (ts : List Tr) (w : World) (h : Hb w a n c ts) :
    Calls Try.prog 19 #[.agg #[.slice a n c]] w fun e w' => e = .returned (.int .i64 (bestAt ts n : Int)) ∧ Below w.heap.size w w' := by
  have HH := Lib.hid h
  have hl := h.len
  have hm : n ≤ maxLen := by obtain ⟨⟨ps, h1, _⟩, _⟩ := h; exact Nat.le_trans h1.hcap h1.hmax
  unfold maxLen at hm
  have HL := Lib.hid hl
  clear h hl
  go_enter Try.func19, Try.ntmps19
  go_wp2_with fail
  go_loopw [3, 9] (fun b i wr => ∃ k d : Nat, k ≤ n ∧ i = .int .i64 (k : Int) ∧ b = .int .i64 (bestAt ts k : Int) ∧ wr = (w.alloc (.cells #[.slice a n c] 26)).drewN d) (fun _ i _ => n - (intOf i).toNat)
  case atStart => exact ⟨0, 0, Nat.zero_le _, rfl, rfl, rfl⟩
  case round =>
    obtain ⟨k, d, hk, rfl, rfl, rfl⟩ := hrel
    by_cases hlt : k < n
    · have hlti : (k : Int) < (n : Int) := by omega
      have hbl := bestAt_lt ts k (by have := HL.out; omega) (by have := HL.out; omega)
      rw [← HL.out] at hbl
      obtain ⟨b, off, bt, t, qs, ka, km, kc, rfl, hb, ht, g0, g1, _, _⟩ := HH.out.at_ k hlt
      obtain ⟨b', off', bt', t', qs', ka', km', kc', e, hb', ht', g0', g1', _, _⟩ := HH.out.at_ (bestAt ts k) hbl
      obtain ⟨rfl, rfl⟩ : b = b' ∧ off = off' := by simpa using e
      have z1 : w.cell? ⟨bt, 0, none⟩ = some (.int .i64 t.1) := (blk g1).1 0
      have z2 : w.cell? ⟨bt', 0, none⟩ = some (.int .i64 t'.1) := (blk g1').1 0
      have lt1 := (blk g1).2.2
      have lt2 := (blk g1').2.2
      have hs : bestAt ts (k + 1) = if t.1 < t'.1 then k else bestAt ts k := by
        show (if (ts[k]?.getD (0, 0, .nil)).1 < (ts[bestAt ts k]?.getD (0, 0, .nil)).1 then k else bestAt ts k) = _
        rw [ht, ht']
        rfl
      obtain ⟨B, hB⟩ : ∃ B, bestAt ts k = B := ⟨_, rfl⟩
      rw [hB] at g0' hbl hs ⊢
      have HS := Lib.hid hs
      have hbi : (B : Int) < (n : Int) := by omega
      clear g1 g1' ht ht' e hs hB
      by_cases hc : t.1 < t'.1
      · have hd : decide (t.1 < t'.1) = true := by rw [decide_eq_true_iff]; exact hc
        go_wp2_with fail
        go_quiet (fail)
        go_wp2_with fail
        go_roundw
        case rel => exact ⟨k + 1, d + nq, by omega, by go_num, by rw [HS.out, if_pos (by omega)], by first | rfl | simp⟩
        case measure => simp [intOf]; omega
      · have hd : decide (t.1 < t'.1) = false := by rw [decide_eq_false_iff_not]; exact hc
        go_wp2_with fail
        go_quiet (fail)
        go_wp2_with fail
        go_roundw
        case rel => exact ⟨k + 1, d + nq, by omega, by go_num, by rw [HS.out, if_neg (by omega)], by first | rfl | simp⟩
        case measure => simp [intOf]; omega
    · obtain rfl : k = n := by omega
      go_wp2_with fail
      go_ret
      exact ⟨rfl, below_drewN ((Below.refl _ _).alloc (Nat.le_refl _) _) _⟩
end BN
end Go.Proofs.Ytdeffgaghmghoaa
