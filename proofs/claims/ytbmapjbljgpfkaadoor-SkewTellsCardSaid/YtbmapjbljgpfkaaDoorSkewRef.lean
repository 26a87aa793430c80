/-
  The reference's words on skew digits: the sum of a list; the digits of a number. Conditions: valid digits; a number from 0 to 2^40.
-/
import Derived.Test.YtbmapjbljgpfkaaDoorSkewDec
import Derived.Test.YtbmapjbljgpfkaaDoorApp
namespace Go.Proofs.YtbmapjbljgpfkaaDoor
open Go.RowKit Go.Deep
set_option linter.unusedVariables false
namespace SK
theorem sum_take_le {l : List Int} (h : ∀ x ∈ l, 0 ≤ x) (k : Nat) : 0 ≤ (l.take k).sum ∧ (l.take k).sum ≤ l.sum := by
  induction l generalizing k with
  | nil => simp
  | cons x l ih =>
    cases k with
    | zero =>
      have h1 := ih (fun y hy => h y (List.mem_cons_of_mem _ hy)) l.length
      have h2 := h x (List.mem_cons_self ..)
      rw [List.take_length] at h1
      simp only [List.take_zero, List.sum_nil, List.sum_cons]
      omega
    | succ k =>
      have h1 := ih (fun y hy => h y (List.mem_cons_of_mem _ hy)) k
      have h2 := h x (List.mem_cons_self ..)
      simp only [List.take_succ_cons, List.sum_cons]
      omega
set_option maxHeartbeats 1000000 in
theorem sum_any (a : Option Addr) (n c : Nat) (xs : List Int) (w : World) (h : Sl w a n c xs) (hv : valid xs) :
    Calls Tryd.prog 8 #[.slice a n c] w fun e w' => e = .returned (.int .i64 xs.sum) ∧ w = w' := by
  have HL := Lib.hid h.hlen
  have HH := Lib.hid h
  have hm := h.hmax
  have hcp := h.hcap
  unfold maxLen at hm
  have hsm := (valid_uniq hv).2.1
  have hpos : ∀ x ∈ xs, 0 ≤ x := fun x hx => by have := form_pos (valid_top hv x hx); omega
  have HP := Lib.hid hpos
  clear h hv hpos
  go_enter Tryd.func8, Tryd.ntmps8
  go_wp2_with fail
  go_loop [3, 4] (fun s i => ∃ k : Nat, k ≤ n ∧ i = .int .i64 (k : Int) ∧ s = .int .i64 (xs.take k).sum) (fun _ i => n - (intOf i).toNat)
  case atStart => exact ⟨0, Nat.zero_le _, rfl, rfl⟩
  case round =>
    obtain ⟨k, hk, rfl, rfl⟩ := hrel
    by_cases hlt : k < n
    · obtain ⟨b, off, rfl, hbl, hc⟩ := HH.out.hat (by omega)
      have g := hc k hlt
      have ht := take_snoc' xs k (by have := HL.out; omega)
      obtain ⟨y, hy⟩ : ∃ y, xs[k]?.getD 0 = y := ⟨_, rfl⟩
      rw [hy] at g ht
      have s1 := sum_take_le HP.out (k + 1)
      have s0 := sum_take_le HP.out k
      have hs : (xs.take (k + 1)).sum = (xs.take k).sum + y := by rw [ht, List.sum_append]; simp
      rw [hs] at s1
      have HS := Lib.hid hs
      obtain ⟨A, hA⟩ : ∃ A, (xs.take k).sum = A := ⟨_, rfl⟩
      rw [hA] at s0 s1 HS ⊢
      obtain ⟨s00, s01⟩ := s0
      obtain ⟨s10, s11⟩ := s1
      have hlti : (k : Int) < (n : Int) := by omega
      have b1 : A + y ≤ 2199023255550 := by omega
      have b2 : A ≤ 2199023255550 := by omega
      have b3 : y ≤ 2199023255550 := by omega
      have b4 : -2199023255550 ≤ y := by omega
      clear hc ht hy hs hA s01 s11 hsm
      go_wp2_with fail
      go_round
      case rel => exact ⟨k + 1, by omega, by go_num, by rw [HS.out]⟩
      case measure => simp [intOf]; omega
    · obtain rfl : k = n := by omega
      have e : xs.take k = xs := List.take_of_length_le (by have := HL.out; omega)
      rw [e]
      have EE := Lib.hid e
      clear e
      go_wp2_with fail
      go_ret
      exact ⟨rfl, rfl⟩
theorem own_mono' {w : World} {base base' : Nat} {e : TypeId} {size : Nat} {v : Value} {n : Nat} {xs : List Value} (h : w.ownsRow base' e size v n xs) (hb : base ≤ base') : w.ownsRow base e size v n xs := by
  refine ⟨h.1, ?_⟩
  rcases h.2 with hn | ⟨g, cap, cur, hv, hg, r⟩
  · exact .inl hn
  · exact .inr ⟨g, cap, cur, hv, Nat.le_trans hb hg, r⟩
theorem gd_next (k : Nat) (n : Int) (h : ¬ D (k + 1) ≤ n) : gd (k + 1) n = gd k n := by rw [gd, if_neg h]
theorem gd_take (k : Nat) (n : Int) (h : D (k + 1) ≤ n) (h2 : n ≤ 2 * D (k + 1)) : gd (k + 1) n = D (k + 1) :: gd (k + 1) (n - D (k + 1)) ∨ (n - D (k + 1) = D (k + 1) ∧ gd (k + 1) n = [D (k + 1), D (k + 1)]) := by
  rw [gd, if_pos h]
  by_cases hd : D (k + 1) ≤ n - D (k + 1)
  · right
    exact ⟨by omega, by rw [if_pos hd]⟩
  · left
    rw [if_neg hd, gd_next k _ hd]
set_option maxHeartbeats 2000000 in
theorem skewOf_any (n : Int) (w : World) (h0 : 0 ≤ n) (h1 : n ≤ 1099511627776) :
    Calls Tryd.prog 10 #[.int .i64 n] w fun e w' => ∃ a len cap, e = .returned (.slice a len cap) ∧ Sl w' a len cap (gd 40 n).reverse ∧ Below w.heap.size w w' := by
  obtain ⟨i0, hi0, hz0, hz1, hz2⟩ := info_parts Tryd.infoInt
  have hD : D 40 = 1099511627775 := D40
  have HD := Lib.hid hD
  have hgl : ((gd 40 n).reverse).length ≤ 41 := (gd_valid h0 (by omega)).2.2
  rw [List.length_reverse] at hgl
  clear hD
  go_enter Tryd.func10, Tryd.ntmps10
  go_wp2_with fail
  go_loopw [0, 3, 4] (fun nn v d wr => ∃ (k : Nat) (m : Int) (out : List Int) (len : Nat), nn = .int .i64 m ∧ d = .int .i64 (D k) ∧ k ≤ 40 ∧ 0 ≤ m ∧ m ≤ 2 * D k ∧ Hid ((gd 40 n).reverse = (gd k m).reverse ++ out) ∧ wr.ownsRow w.heap.size 3 1 v len (out.map (Value.int .i64)) ∧ Below w.heap.size w wr) (fun nn _ d _ => (intOf nn).toNat + (intOf d).toNat)
  case atStart => exact ⟨40, n, [], 0, rfl, by rw [HD.out], Nat.le_refl _, h0, by rw [HD.out]; omega, Lib.hid (by simp), World.ownsRow_nil _ _ _ _, Below.refl _ _⟩
  case round =>
    obtain ⟨k, m, out, len, rfl, rfl, hk, hm0, hm1, HE, ho, hb⟩ := hrel
    have hd0 := D_nonneg k
    have hd40 := D_le40 hk
    by_cases hm : 0 < m
    · cases k with
      | zero => have e : D 0 = 0 := rfl; omega
      | succ k =>
      have hdk : D (k + 1) = 2 * D k + 1 := rfl
      have hdk0 := D_nonneg k
      have hlen : out.length = len := by have := ho.1; simpa using this
      have hol : out.length ≤ 41 := by
        have := congrArg List.length HE.out
        simp only [List.length_append, List.length_reverse] at this
        omega
      obtain ⟨dk, hdkk⟩ : ∃ dk, D k = dk := ⟨_, rfl⟩
      obtain ⟨dd, hdd⟩ : ∃ dd, D (k + 1) = dd := ⟨_, rfl⟩
      have HDK := Lib.hid hdkk
      have HDD := Lib.hid hdd
      rw [hdd] at hm1 hd0 hd40 hdk
      rw [hdkk] at hdk hdk0
      rw [hdd]
      have hdiv : dd / 2 = dk := by omega
      have HDV := Lib.hid hdiv
      have HQ := Lib.hid hdk
      have HLN := Lib.hid hlen
      have dd1 : 1 ≤ dd := by omega
      clear hdkk hdd hdk hdiv hlen
      by_cases hc : dd ≤ m
      · obtain ⟨va, vc, rfl, hsl⟩ := Sl.of_own (xs := out) (n := len) ho
        have hln : len ≤ 41 := by have := HLN.out; omega
        have hbs := hb.size
        have hmm : m - dd ≤ dd := by omega
        have HSL := Lib.hid hsl
        have HO := Lib.hid ho
        clear hsl ho
        go_wp2_with (at_builtin; refine wpList_append_any _ rfl (.tmp 11) (.tmp 12) 22 rfl wr.heap.size 3 i0 (.int .i64 0) 1 8 Tryd.underlying22 hi0 hz0 hz1 hz2 rfl (by decide) (.slice (some ⟨wr.heap.size, 0, none⟩) 1 1) 1 [.int .i64 dd] rfl (World.ownsRow_lit (base := wr.heap.size) (e := 3) (size := 1) wr #[.int .i64 dd] 1 (Nat.le_refl _) (by decide) rfl) _ va len vc _ rfl ((HSL.out.alloc _).reads) (one_cells out) (by simp only [maxLen]; omega) (by omega) (by simp) ?_; intro vv w2 hown hg hat)
        have bx : Below wr.heap.size wr w2 := below_grown ((Below.refl _ _).alloc (Nat.le_refl _) _) (World.ownsRow_lit (base := wr.heap.size) (e := 3) (size := 1) wr #[.int .i64 dd] 1 (Nat.le_refl _) (by decide) rfl) hg (Nat.le_refl _) (by simp)
        have own2 : w2.ownsRow w.heap.size 3 1 vv (1 + len) ((dd :: out).map (Value.int .i64)) := own_mono' (by simpa using hown) hbs
        have B2 := below_then hb bx
        go_roundw
        case rel =>
          have hgd := gd_take k m (by rw [HDD.out]; exact hc) (by rw [HDD.out]; exact hm1)
          rw [HDD.out] at hgd
          refine ⟨k + 1, m - dd, dd :: out, 1 + len, rfl, by rw [HDD.out], hk, by omega, by rw [HDD.out]; omega, Lib.hid ?_, own2, B2⟩
          rw [HE.out]
          rcases hgd with e | ⟨e1, e2⟩
          · rw [e]; simp
          · have e3 : gd (k + 1) (m - dd) = [dd] := by
              have e4 := gd_take k (m - dd) (by rw [HDD.out]; omega) (by rw [HDD.out]; omega)
              rw [HDD.out] at e4
              rcases e4 with e5 | ⟨e5, _⟩
              · rw [e5, show m - dd - dd = 0 by omega, gd_zero]
              · omega
            rw [e2, e3]
            simp
        case measure => simp [intOf]; omega
      · have HO := Lib.hid ho
        clear ho
        go_wp2_with fail
        go_roundw
        case rel => exact ⟨k, m, out, len, rfl, by rw [HDK.out, HDV.out], by omega, hm0, by rw [HDK.out]; have := HQ.out; omega, Lib.hid (by rw [HE.out, gd_next k m (by rw [HDD.out]; exact hc)]), HO.out, hb⟩
        case measure => have := HDV.out; have := HQ.out; simp [intOf]; omega
    · obtain rfl : m = 0 := by omega
      go_wp2_with fail
      go_ret
      have he := HE.out
      rw [gd_zero, List.reverse_nil, List.nil_append] at he
      obtain ⟨a, c, rfl, hsl⟩ := Sl.of_own ho
      exact ⟨a, _, c, rfl, by rw [he]; exact hsl, hb⟩
end SK
end Go.Proofs.YtbmapjbljgpfkaaDoor
