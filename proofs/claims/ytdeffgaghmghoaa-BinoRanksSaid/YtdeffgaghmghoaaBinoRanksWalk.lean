/-
  The walk of the law BinoRanks. Conditions: each list has at most 2^44 - 512 numbers (the row's own reach).
-/
import Derived.Test.YtdeffgaghmghoaaBinoRanksOf
namespace Go.Proofs.Ytdeffgaghmghoaa
open Go.RowKit Go.Deep
open Go.Proofs.Ytdeffgaghmghoaa.BH
set_option linter.unusedVariables false
theorem least_of_size {t : Go.Proofs.Ytdeffgaghmghoaa.BH} (h : 0 < t.size) : t.least.2 = true := decide_eq_true h
set_option maxHeartbeats 4000000 in
set_option maxRecDepth 100000 in
theorem BinoRanks_walk (a0 : Option Addr) (n0 c0 : Nat) (x0 : List Int) (a1 : Option Addr) (n1 c1 : Nat) (x1 : List Int) (x2 : Int) (w : World)
    (s0 : Sl w a0 n0 c0 x0) (i0 : ∀ n ∈ x0, I64 n) (e0 : n0 ≤ 17592186043904) (s1 : Sl w a1 n1 c1 x1) (i1 : ∀ n ∈ x1, I64 n) (e1 : n1 ≤ 17592186043904) (i2 : I64 x2) :
    Calls Try.prog 3 #[.slice a0 n0 c0, .slice a1 n1 c1, .int .i64 x2] w fun e w' => e = .returned (.bool true) ∧ Below w.heap.size w w' := by
  obtain ⟨t0, hi0, hz0, hz1, hz2⟩ := info_parts Try.infoInt
  have L0 := Lib.hid s0.hlen
  have L1 := Lib.hid s1.hlen
  have z0 : (ofL x0).size ≤ n0 := by rw [ofL_size, L0.out]; exact Nat.le_refl _
  have z1 : (ofL x1).size ≤ n1 := by rw [ofL_size, L1.out]; exact Nat.le_refl _
  go_enter Try.func3, Try.ntmps3
  go_wp2_with fail
  refine (binoed_any _).mono ?_
  rintro e w1 ⟨rfl, B⟩
  go_wp2_with fail
  refine (of_any a0 n0 c0 x0 _ (s0.below B) (by omega)).mono ?_
  rintro e w2 ⟨q0, m0, d0, rfl, h0, bx⟩
  replace B := below_then B bx
  clear bx
  go_wp2_with fail
  refine (of_any a1 n1 c1 x1 _ (s1.below B) (by omega)).mono ?_
  rintro e w3 ⟨q1, m1, d1, rfl, h1, bx⟩
  replace h0 := h0.below bx
  replace B := below_then B bx
  clear bx
  go_wp2_with fail
  refine (join_any (ofL x0) (ofL x1) q0 m0 d0 q1 m1 d1 _ h0 h1 (by omega)).mono ?_
  rintro e w4 ⟨q, m, d, rfl, h, bx⟩
  replace B := below_then B bx
  clear bx h0 h1
  go_wp2_with fail
  go_loopw [9] (fun i wr => ∃ (k : Nat) (q : Option Addr) (m d : Nat) (t : Go.Proofs.Ytdeffgaghmghoaa.BH), k ≤ n0 ∧ i = .int .i64 k ∧ (k = 0 ∨ (k : Int) ≤ x2) ∧ wr.heap[w4.heap.size]? = some (.cells #[.slice q m d] 26) ∧ In wr q m d t ∧ t.size + k = n0 + n1 ∧ Below w.heap.size w wr) (fun i _ => n0 - (intOf i).toNat)
  case atStart =>
    exact ⟨0, q, m, d, _, Nat.zero_le _, rfl, .inl rfl, heap_alloc_new _ _, h.alloc _, by rw [met_size, ofL_size, ofL_size, L0.out, L1.out]; rfl, B.alloc B.size _⟩
  case round =>
    obtain ⟨k, q, m, d, t, hk, rfl, hkx, A, h, hz, B'⟩ := hrel
    have HZ := Lib.hid hz
    have HA := Lib.hid A
    have HX := Lib.hid hkx
    obtain ⟨u0, uu0, uuu0⟩ := blk A
    have hs : t.size ≤ 4611686018427387904 := by omega
    have hBs := B.size
    clear A hkx
    by_cases hg : (k : Int) < x2 ∧ k < n0
    · obtain ⟨g1, g2⟩ := hg
      have g2' : (k : Int) < (n0 : Int) := by omega
      have hpos : t.least.2 = true := least_of_size (by omega)
      have hp := pop_size t
      have hps : 0 < t.size := by omega
      have HP := Lib.hid hp
      clear hz hp
      go_wp2_with fail
      refine (pop_any t q m d _ h).mono ?_
      rw [hpos]
      rintro e w5 ⟨p, pm, pd, rfl, hp, bx⟩
      have A5 := blk_below HA.out bx
      obtain ⟨v0, vv0, vvv0⟩ := blk A5
      have A5' := Lib.hid A5
      clear A5
      go_wp2_with fail
      go_roundw
      case rel =>
        have hsz : w4.heap.size < (w5.setCell ⟨w4.heap.size, 0, none⟩ (.slice p pm pd)).heap.size := by simp [World.setCell]; exact vvv0
        exact ⟨k + 1, p, pm, pd, pop t, by omega, by go_num, .inr (by omega), (Below.heap_alloc _ _ _ hsz).trans (blk_set A5'.out), (hp.keep (.setCell A5'.out (by decide)) (.setCell A5'.out (by decide))).alloc _, by have := HP.out; have := HZ.out; omega, ((B'.trans (bx.mono B'.size)).setCell (p := ⟨w4.heap.size, 0, none⟩) hBs _).alloc (Nat.le_of_lt (Nat.lt_of_le_of_lt hBs hsz)) _⟩
      case measure => simp [intOf]; omega
    · have hg2 : ¬ (k : Int) < x2 ∨ ((k : Int) < x2 ∧ ¬ (k : Int) < (n0 : Int)) := by omega
      have HK := Lib.hid hk
      have hIn := h
      clear h
      have ts47 : t.size < 2 ^ 47 := by
        have e : (2 : Nat) ^ 47 = 140737488355328 := by decide
        omega
      have T47 := Lib.hid ts47
      clear hz hg hk ts47
      rcases hg2 with g1 | ⟨g1, g2⟩
      all_goals
        go_wp2_with fail
      all_goals
        go_loopw [13, 14, 15] (fun v n i wx => ∃ (ds : List Int) (f kk m' : Nat), m' < 2 ^ f ∧ kk + f = 47 ∧ Hid (bitsI t.size = ds ++ (bitsFrom f kk m').map (fun k : Nat => (k : Int))) ∧ i = .int .i64 kk ∧ n = .int .i64 (m' : Int) ∧ m' ≤ t.size ∧ ds.length ≤ 47 ∧ wx.heap[w4.heap.size]? = some (.cells #[.slice q m d] 26) ∧ In wx q m d t ∧ wx.ownsRow w.heap.size 3 1 v ds.length (ds.map (Value.int .i64)) ∧ Below w.heap.size w wx) (fun _ n _ _ => (intOf n).toNat)
        case atStart =>
          refine ⟨[], 47, 0, t.size, T47.out, rfl, Lib.hid rfl, rfl, ?_, Nat.le_refl _, Nat.zero_le _, HA.out, hIn, World.ownsRow_nil _ _ _ _, B'⟩
          have := HZ.out
          have := HX.out
          have := HK.out
          congr 1
          omega
        case round =>
          obtain ⟨ds, f, kk, m', hmf, hkf, hb, rfl, rfl, hms, hdl, A, h', hown, B2⟩ := hrel
          have HA2 := Lib.hid A
          clear uu0 u0 hIn
          obtain ⟨u0, uu0, uuu1⟩ := blk A
          clear A
          by_cases hm0 : 0 < m'
          · obtain ⟨f', hff, hf', hbs⟩ := bits_step kk hm0 hmf
            have hkk : (kk : Int) ≤ 46 := by omega
            have hkf' : kk + 1 + f' = 47 := by omega
            have HKF := Lib.hid hkf'
            have HF' := Lib.hid hf'
            have HBS := Lib.hid hbs
            have hbsz := B2.size
            have hm0i : (0 : Int) < (m' : Int) := by omega
            have hmsi : (m' : Int) ≤ 4611686018427387904 := by omega
            have hbl := congrArg List.length hb.out
            rw [hbs] at hbl
            have hbl2 := bits_length 47 0 t.size
            by_cases hodd : m' % 2 = 1
            · have ho : ((m' : Int) % 2 == 1) = true := by simp; omega
              have hdl2 : ds.length + 1 ≤ 47 := by
                rw [if_pos hodd] at hbl
                simp only [bitsI, List.length_map, List.length_append, List.length_cons, List.length_nil] at hbl
                omega
              have HO := Lib.hid hodd
              clear hkf hkf' hf' hff hbs hmf hbl hbl2 hodd
              go_wp2_with (at_builtin; refine wpList_append_own _ rfl _ _ 22 rfl w.heap.size 3 t0 (.int .i64 0) 1 8 Try.underlying22 hi0 hz0 hz1 hz2 rfl (by decide) _ _ _ rfl (hown.alloc _) ⟨wr.heap.size, 0, none⟩ 1 1 [.int .i64 (kk : Int)] rfl rfl (cell_one_new _ _ _) (by simp [Value.oneCell']) (by unfold maxLen; omega) (by omega) (by simp; omega) ?_; intro v' w5 hown' hgrow _)
              go_roundw
              case rel =>
                refine ⟨ds ++ [(kk : Int)], f', kk + 1, m' / 2, HF'.out, HKF.out, Lib.hid ?_, by go_num, by go_num, by omega, by simpa using hdl2, KeepT.of_grown (T := 26) (hown.alloc _) hgrow (by decide) _ _ ((Below.heap_alloc _ _ _ uuu1).trans HA2.out), (h'.alloc _).keep (KeepT.of_grown (hown.alloc _) hgrow (by decide)) (KeepT.of_grown (hown.alloc _) hgrow (by decide)), by simpa using hown', below_grown (B2.alloc hbsz _) (hown.alloc _) hgrow (Nat.le_refl _) (by simp; omega)⟩
                rw [hb.out, HBS.out, if_pos HO.out]
                simp
              case measure => simp [intOf]; omega
            · have ho : ((m' : Int) % 2 == 1) = false := by simp; omega
              have HO := Lib.hid hodd
              clear hkf hkf' hf' hff hbs hmf hbl hbl2 hodd
              go_wp2_with fail
              go_roundw
              case rel =>
                refine ⟨ds, f', kk + 1, m' / 2, HF'.out, HKF.out, Lib.hid ?_, by go_num, by go_num, by omega, hdl, HA2.out, h', hown, B2⟩
                rw [hb.out, HBS.out, if_neg HO.out]
                rfl
              case measure => simp [intOf]; omega
          · obtain rfl : m' = 0 := by omega
            clear hmf hkf hms
            go_wp2_with fail
            refine (ranks_any t q m d _ h').mono ?_
            rintro e w6 ⟨v6, rfl, o6, b6⟩
            have own6 := own_keep hown (.of_below b6)
            obtain ⟨a6, c6, rfl, s6⟩ := Sl.of_own o6
            obtain ⟨a7, c7, rfl, s7⟩ := Sl.of_own own6
            have he := hb.out
            rw [bits_zero, List.map_nil, List.append_nil] at he
            have HE := Lib.hid he
            clear he o6 own6 hown
            go_wp2_with fail
            refine (same_yes _ _ _ _ _ _ _ _ _ s6 s7 HE.out).mono ?_
            rintro e w7 ⟨rfl, b7⟩
            go_wp2_with fail
            go_ret
            exact ⟨rfl, below_then (below_then B2 b6) b7⟩
end Go.Proofs.Ytdeffgaghmghoaa
