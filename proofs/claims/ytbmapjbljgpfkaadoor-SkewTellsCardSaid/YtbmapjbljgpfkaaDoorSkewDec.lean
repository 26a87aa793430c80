/-
  Skew digits: one less. Conditions: none.
-/
import Derived.Test.YtbmapjbljgpfkaaDoorSkewInc
import Derived.Laws.Cover3
namespace Go.Proofs.YtbmapjbljgpfkaaDoor
open Go.RowKit Go.Deep
set_option linter.unusedVariables false
namespace SK
/-- The digits of one less. -/
def decL : List Int → List Int
  | [] => []
  | x :: r => if x = 1 then r else x / 2 :: x / 2 :: r

theorem eql_slice_nil (a : Option Addr) (l c : Nat) (w : World) : (binOp .eql 22 (.slice a l c) (.slice none 0 0)).run Tryd.prog w = .ok (.bool a.isNone) w := by
  simp only [binOp]
  simp [run_equal_slice_nil w 22 3 a l c Tryd.underlying22]
set_option maxHeartbeats 2000000 in
theorem clone_any (a : Option Addr) (n c : Nat) (xs : List Int) (w : World) (h : Sl w a n c xs) (hn : n ≤ 17592186044415) :
    Calls Tryd.prog 17 #[.slice a n c] w fun e w' => Below w.heap.size w w' ∧ ∃ a' l' c', e = .returned (.slice a' l' c') ∧ Sl w' a' l' c' xs := by
  obtain ⟨i0, hi0, hz0, hz1, hz2⟩ := info_parts Tryd.infoInt
  have hm := h.hmax
  have hm2 := h.hcap
  unfold maxLen at hm
  cases a with
  | none =>
    have h0 : xs = [] := by
      have := h.hlen
      have : n = 0 := by
        rcases Nat.eq_zero_or_pos n with h' | h'
        · exact h'
        · obtain ⟨b, off, e, _⟩ := h.hat h'
          cases e
      exact List.eq_nil_of_length_eq_zero (by omega)
    have H0 := Lib.hid h0
    have Q := fun w => eql_slice_nil none n c w
    simp only [Option.isNone_none] at Q
    clear h h0
    go_enter Tryd.func17, Tryd.ntmps17
    go_wp2_with fail
    go_ret
    exact ⟨Below.refl _ _, none, 0, 0, rfl, by rw [H0.out]; exact Sl.nil _⟩
  | some p =>
    have R := Lib.hid h.reads
    have o1 := Lib.hid (one_cells xs)
    have Q := fun w => eql_slice_nil (some p) n c w
    simp only [Option.isNone_some] at Q
    clear h
    go_enter Tryd.func17, Tryd.ntmps17
    go_wp2_with (at_builtin; refine wpList_append_any _ rfl (.tmp 5) (.tmp 6) _ rfl w.heap.size 3 i0 _ 1 8 Tryd.underlying22 hi0 hz0 hz1 hz2 rfl (by omega) _ 0 [] rfl (World.ownsRow_lit (base := w.heap.size) (e := 3) (size := 1) _ #[] 0 (by simp) (by decide) rfl) w.heap.size (some p) n c _ rfl (R.out.alloc (by simp) _) o1.out (by simp only [maxLen]; omega) (by omega) (by simp) ?_; intro v2 w2 hown2 hg2 hat2)
    have hb2 : Below w.heap.size w w2 := below_grown ((Below.refl w.heap.size w).alloc (by simp) _) (World.ownsRow_lit (base := w.heap.size) (e := 3) (size := 1) _ #[] 0 (by simp) (by decide) rfl) hg2 (Nat.le_refl _) (by simp)
    go_wp2_with fail
    go_ret
    obtain ⟨a', c', rfl, hs⟩ := Sl.of_own (xs := xs) (n := 0 + n) (by simpa using hown2)
    exact ⟨hb2, a', _, c', rfl, hs⟩

set_option maxHeartbeats 2000000 in
theorem Dec_any (a : Option Addr) (n c : Nat) (xs : List Int) (w : World) (h : Sl w a n c xs) :
    Calls Tryd.prog 13 #[.slice a n c] w fun e w' => Below w.heap.size w w' ∧
      ((¬ valid xs ∧ e = .returned (.tuple #[.slice none 0 0, bad])) ∨ (valid xs ∧ (1099511627777 < xs.sum ∨ xs.sum = 0) ∧ e = .returned (.tuple #[.slice none 0 0, far])) ∨
        (valid xs ∧ 0 < xs.sum ∧ xs.sum ≤ 1099511627777 ∧ ∃ a len cap, e = .returned (.tuple #[.slice a len cap, .nilIface]) ∧ Sl w' a len cap (decL xs))) := by
  obtain ⟨i0, hi0, hz0, hz1, hz2⟩ := info_parts Tryd.infoInt
  have hm := h.hmax
  have hm2 := h.hcap
  unfold maxLen at hm
  have HL := Lib.hid h.hlen
  have HH := Lib.hid h
  clear h
  have C := Check_any a n c xs w HH.out
  have V := Value_any a n c xs w HH.out
  have hsum : valid xs → 0 ≤ xs.sum := fun h => (valid_uniq h).2.2
  obtain ⟨sm, hsm⟩ : ∃ s, xs.sum = s := ⟨_, rfl⟩
  rw [hsm] at V hsum ⊢
  by_cases hv : valid xs
  · have hlen := valid_length hv
    have hsum := hsum hv
    rw [HL.out] at hlen
    have HV := Lib.hid hv
    clear hv
    by_cases hbig : 1099511627777 < sm
    · clear hsm
      go_enter Tryd.func13, Tryd.ntmps13
      go_wp2_with fail
      refine C.mono ?_
      rintro e w' ⟨⟨_, rfl⟩ | ⟨hx, _⟩, rfl⟩
      · go_wp2_with fail
        refine V.mono ?_
        rintro e w' ⟨⟨_, rfl⟩ | ⟨hx, _⟩, rfl⟩
        · go_wp2_with fail
          go_ret2
          exact ⟨Below.refl _ _, .inr (.inl ⟨HV.out, .inl hbig, rfl⟩)⟩
        · exact absurd HV.out hx
      · exact absurd HV.out hx
    · by_cases hzero : sm = 0
      · subst hzero
        clear hsm
        go_enter Tryd.func13, Tryd.ntmps13
        go_wp2_with fail
        refine C.mono ?_
        rintro e w' ⟨⟨_, rfl⟩ | ⟨hx, _⟩, rfl⟩
        · go_wp2_with fail
          refine V.mono ?_
          rintro e w' ⟨⟨_, rfl⟩ | ⟨hx, _⟩, rfl⟩
          · go_wp2_with fail
            go_ret2
            exact ⟨Below.refl _ _, .inr (.inl ⟨HV.out, .inr (by first | rfl | trivial), rfl⟩)⟩
          · exact absurd HV.out hx
        · exact absurd HV.out hx
      · have hzb : (sm == 0) = false := by simp [hzero]
        obtain ⟨x, r, hxs⟩ : ∃ x r, xs = x :: r := by
          match xs, hsm with
          | x :: r, _ => exact ⟨x, r, rfl⟩
          | [], h => simp at h; omega
        clear hsm
        subst hxs
        have hn : 0 < n := by
          have := HL.out
          simp only [List.length_cons] at this
          omega
        obtain ⟨b, off, rfl, hbl, hc⟩ := HH.out.hat (by omega)
        have g0 : w.cell? ⟨b, off, none⟩ = some (.int .i64 x) := by simpa using hc 0 (by omega)
        clear hc
        have hni0 : (0 : Int) < (n : Int) := by omega
        have fx := form_top (valid_top HV.out x (by simp))
        have fx0 := form_pos (valid_top HV.out x (by simp))
        have hs1 : ∀ w : World, (Instr.slice 22 (.slice (some ⟨b, off, none⟩) n c) (some (.int .i64 1)) none none).run Tryd.prog w = .ok (.slice (cutAt (some ⟨b, off, none⟩) c 1) (n - 1) (c - 1)) w := fun w => Tryd.slice_from (some ⟨b, off, none⟩) n c 1 (by omega) w
        have HR : Sl w (cutAt (some ⟨b, off, none⟩) c 1) (n - 1) (c - 1) r := by
          have := HH.out.rest (k := 1) (by omega)
          simpa using this
        have HR2 := Lib.hid HR
        clear HR
        by_cases hx1 : x = 1
        · subst hx1
          have hI : decL (1 :: r) = r := by simp [decL]
          have HI := Lib.hid hI
          clear hI
          have K := clone_any (cutAt (some ⟨b, off, none⟩) c 1) (n - 1) (c - 1) r w HR2.out (by omega)
          go_enter Tryd.func13, Tryd.ntmps13
          go_wp2_with fail
          refine C.mono ?_
          rintro e w' ⟨⟨_, rfl⟩ | ⟨hx, _⟩, rfl⟩
          · go_wp2_with fail
            refine V.mono ?_
            rintro e w' ⟨⟨_, rfl⟩ | ⟨hx, _⟩, rfl⟩
            · go_wp2_with fail
              refine K.mono ?_
              rintro e w2 ⟨hb2, a', l', c', rfl, hs⟩
              go_wp2_with fail
              go_ret2
              exact ⟨hb2, .inr (.inr ⟨HV.out, by omega, by omega, a', l', c', rfl, by rw [HI.out]; exact hs⟩)⟩
            · exact absurd HV.out hx
          · exact absurd HV.out hx
        · have hxb : (x == 1) = false := by simp [hx1]
          have hI : decL (x :: r) = x / 2 :: x / 2 :: r := by simp [decL, hx1]
          have HI := Lib.hid hI
          clear hI
          have hq : x.tdiv 2 = x / 2 := Int.tdiv_eq_ediv_of_nonneg (by omega)
          have R2 := Lib.hid HR2.out.reads
          have o2 := Lib.hid (one_cells r)
          have hwr : IntKind.i64.wrap (x / 2) = x / 2 := IntWalk.i64_in _ (by omega)
          have OL := Lib.hid (World.ownsRow_lit (base := w.heap.size) (e := 3) (size := 1) w #[.int .i64 (x / 2), .int .i64 (x / 2)] 2 (Nat.le_refl _) (by decide) rfl)
          go_enter Tryd.func13, Tryd.ntmps13
          go_wp2_with fail
          refine C.mono ?_
          rintro e w' ⟨⟨_, rfl⟩ | ⟨hx, _⟩, rfl⟩
          · go_wp2_with fail
            refine V.mono ?_
            rintro e w' ⟨⟨_, rfl⟩ | ⟨hx, _⟩, rfl⟩
            · go_wp2_with fail
              go_region_law (first
                | (refine step_append_any _ rfl (.tmp 39) (.tmp 41) 22 rfl w.heap.size 3 i0 (.int .i64 0) 1 8 Tryd.underlying22 hi0 hz0 hz1 hz2 rfl (by decide) _ 2 [.int .i64 (x / 2), .int .i64 (x / 2)] rfl (by exact OL.out) w.heap.size (cutAt (some ⟨b, off, none⟩) c 1) (n - 1) (c - 1) _ rfl (by first | exact (R2.out.alloc (Nat.le_refl _) _).drew | exact R2.out.drew.alloc (Nat.le_refl _) _ | exact R2.out.alloc (Nat.le_refl _) _) o2.out (by simp only [maxLen]; omega) (by omega) (by simp) ?_; intro v2 w2 hown2 hg2 hat2))
              all_goals
                have hb2 : Below w.heap.size w w2 := below_grown (v := .slice (some ⟨w.heap.size, 0, none⟩) 2 2) (xs := [.int .i64 (x / 2), .int .i64 (x / 2)]) (n := 2) (e := 3) (size := 1) (base := w.heap.size) (w := (w.alloc (.cells #[.int .i64 (x / 2), .int .i64 (x / 2)] 3)).drew) ((Below.refl w.heap.size w).alloc (Nat.le_refl _) _).drew (by exact OL.out) (by exact hg2) (Nat.le_refl _) (by simp)
                go_wp2_with fail
                go_ret2
                obtain ⟨a', c', rfl, hs⟩ := Sl.of_own (xs := x / 2 :: x / 2 :: r) (n := 2 + (n - 1)) (by simpa using hown2)
                exact ⟨hb2, .inr (.inr ⟨HV.out, by omega, by omega, a', _, c', rfl, by rw [HI.out]; exact hs⟩)⟩
            · exact absurd HV.out hx
          · exact absurd HV.out hx
  · have HV := Lib.hid hv
    clear hv
    go_enter Tryd.func13, Tryd.ntmps13
    go_wp2_with fail
    refine C.mono ?_
    rintro e w' ⟨⟨hx, _⟩ | ⟨_, rfl⟩, rfl⟩
    · exact absurd hx HV.out
    · go_wp2_with fail
      go_ret2
      exact ⟨Below.refl _ _, .inl ⟨HV.out, rfl⟩⟩
end SK
end Go.Proofs.YtbmapjbljgpfkaaDoor
