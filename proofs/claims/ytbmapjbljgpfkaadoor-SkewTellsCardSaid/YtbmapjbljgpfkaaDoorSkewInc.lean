/-
  Skew digits: one more. Conditions: none.
-/
import Derived.Test.YtbmapjbljgpfkaaDoorSkewDigits
import Derived.Deep.RegionLaw
namespace Go.Proofs.YtbmapjbljgpfkaaDoor
open Go.RowKit Go.Deep
set_option linter.unusedVariables false
namespace SK
/-- The digits of one more. -/
def incL : List Int → List Int
  | x :: y :: r => if x = y then (2 * x + 1) :: r else 1 :: x :: y :: r
  | l => 1 :: l
set_option maxHeartbeats 2000000 in
theorem Inc_any (a : Option Addr) (n c : Nat) (xs : List Int) (w : World) (h : Sl w a n c xs) :
    Calls Tryd.prog 11 #[.slice a n c] w fun e w' => Below w.heap.size w w' ∧
      ((¬ valid xs ∧ e = .returned (.tuple #[.slice none 0 0, bad])) ∨ (valid xs ∧ 1099511627776 ≤ xs.sum ∧ e = .returned (.tuple #[.slice none 0 0, far])) ∨
        (valid xs ∧ xs.sum < 1099511627776 ∧ ∃ a len cap, e = .returned (.tuple #[.slice a len cap, .nilIface]) ∧ Sl w' a len cap (incL xs))) := by
  obtain ⟨i0, hi0, hz0, hz1, hz2⟩ := info_parts Tryd.infoInt
  have hm := h.hmax
  have hm2 := h.hcap
  unfold maxLen at hm
  have HL := Lib.hid h.hlen
  have HH := Lib.hid h
  clear h
  have V := Value_any a n c xs w HH.out
  obtain ⟨sm, hsm⟩ : ∃ s, xs.sum = s := ⟨_, rfl⟩
  rw [hsm] at V ⊢
  by_cases hv : valid xs
  · have hlen := valid_length hv
    rw [HL.out] at hlen
    have HV := Lib.hid hv
    clear hv
    by_cases hs : 1099511627776 ≤ sm
    · go_enter Tryd.func11, Tryd.ntmps11
      go_wp2_with fail
      refine V.mono ?_
      rintro e w' ⟨⟨_, rfl⟩ | ⟨hx, _⟩, rfl⟩
      · go_wp2_with fail
        go_ret2
        exact ⟨Below.refl _ _, .inr (.inl ⟨HV.out, hs, rfl⟩)⟩
      · exact absurd HV.out hx
    · have hs' : sm < 1099511627776 := by omega
      clear hsm
      have key : ∀ (ys : List Int), ys = incL xs → ∀ (v : Value) (l : Nat) (w' : World), w'.ownsRow w.heap.size 3 1 v l (ys.map (Value.int .i64)) → ∃ a len cap, v = .slice a len cap ∧ Sl w' a len cap (incL xs) := fun ys e v l w' ho => by
        subst e
        obtain ⟨a', c', rfl, hs⟩ := Sl.of_own ho
        exact ⟨a', l, c', rfl, hs⟩
      have KEY := Lib.hid key
      clear key
      by_cases hlow : ∃ x r, xs = x :: x :: r
      · obtain ⟨x, r, hxs⟩ := hlow
        subst hxs
        have hn : 2 ≤ n := by
          have := HL.out
          simp only [List.length_cons] at this
          omega
        obtain ⟨b, off, rfl, hbl, hc⟩ := HH.out.hat (by omega)
        have g0 : w.cell? ⟨b, off, none⟩ = some (.int .i64 x) := by simpa using hc 0 (by omega)
        have g1 : w.cell? ⟨b, off + 1, none⟩ = some (.int .i64 x) := by simpa using hc 1 (by omega)
        clear hc
        have hni : (1 : Int) < (n : Int) := by omega
        have hni0 : (0 : Int) < (n : Int) := by omega
        have hnn0 : 0 < n := by omega
        have hnn1 : 1 < n := by omega
        have fx := form_top (valid_top HV.out x (by simp))
        have fx0 := form_pos (valid_top HV.out x (by simp))
        have w1 : IntKind.i64.wrap (2 * x) = 2 * x := IntWalk.i64_in _ (by omega)
        have w2 : IntKind.i64.wrap (2 * x + 1) = 2 * x + 1 := IntWalk.i64_in _ (by omega)
        have hs2 : ∀ w : World, (Instr.slice 22 (.slice (some ⟨b, off, none⟩) n c) (some (.int .i64 2)) none none).run Tryd.prog w = .ok (.slice (cutAt (some ⟨b, off, none⟩) c 2) (n - 2) (c - 2)) w := fun w => Tryd.slice_from (some ⟨b, off, none⟩) n c 2 (by omega) w
        have R2 := Lib.hid ((HH.out.rest (k := 2) (by omega)).reads)
        have o2 := Lib.hid (one_cells ((x :: x :: r).drop 2))
        have hI : incL (x :: x :: r) = (2 * x + 1) :: r := by simp [incL]
        have HI := Lib.hid hI
        clear hI
        go_enter Tryd.func11, Tryd.ntmps11
        go_wp2_with fail
        refine V.mono ?_
        rintro e w' ⟨⟨_, rfl⟩ | ⟨hx, _⟩, rfl⟩
        · go_wp2_with fail
          go_quiet (fail)
          go_wp2_with fail
          go_region_law (first
            | (refine step_append_any _ rfl (.tmp 34) (.tmp 36) 22 rfl w.heap.size 3 i0 (.int .i64 0) 1 8 Tryd.underlying22 hi0 hz0 hz1 hz2 rfl (by decide) _ 1 [.int .i64 (2 * x + 1)] rfl (World.ownsRow_lit _ #[.int .i64 (2 * x + 1)] 1 (by simp) (by decide) rfl) w.heap.size (cutAt (some ⟨b, off, none⟩) c 2) (n - 2) (c - 2) _ rfl ((R2.out.drewN _).alloc (by simp) _) o2.out (by simp only [maxLen]; omega) (by omega) (by simp) ?_; intro v2 w2 hown2 hg2 hat2))
          all_goals
            have hb2 : Below w.heap.size w w2 := below_grown ((below_drewN (Below.refl w.heap.size w) _).alloc (by simp) _) (World.ownsRow_lit (base := w.heap.size) (e := 3) (size := 1) _ #[.int .i64 (2 * x + 1)] 1 (by simp) (by decide) rfl) hg2 (Nat.le_refl _) (by simp)
            go_wp2_with fail
            go_ret2
            refine ⟨hb2, .inr (.inr ⟨HV.out, hs', ?_⟩)⟩
            obtain ⟨a', l', c', rfl, hs3⟩ := KEY.out _ HI.out.symm _ _ _ hown2
            exact ⟨_, _, _, rfl, hs3⟩
        · exact absurd HV.out hx
      · have hI : incL xs = 1 :: xs := by
          match xs, hlow with
          | [], _ => rfl
          | [x], _ => rfl
          | x :: y :: r, h =>
            have hne : ¬ x = y := fun e => h ⟨x, r, by rw [e]⟩
            simp [incL, hne]
        have HI := Lib.hid hI
        have HW := Lib.hid hlow
        have R2 := Lib.hid HH.out.reads
        have o2 := Lib.hid (one_cells xs)
        clear hI hlow
        by_cases hn : 1 < n
        · obtain ⟨b, off, rfl, hbl, hc⟩ := HH.out.hat (by omega)
          have g0 : w.cell? ⟨b, off, none⟩ = some (.int .i64 (xs[0]?.getD 0)) := by simpa using hc 0 (by omega)
          have g1 : w.cell? ⟨b, off + 1, none⟩ = some (.int .i64 (xs[1]?.getD 0)) := by simpa using hc 1 (by omega)
          clear hc
          have hne : ¬ xs[0]?.getD 0 = xs[1]?.getD 0 := by
            intro e
            have hl := HL.out
            match xs, hl, HW.out, e with
            | x :: y :: r, _, h, e => exact h ⟨x, r, by simp at e; rw [e]⟩
            | [_], h, _, _ => simp at h; omega
            | [], h, _, _ => simp at h; omega
          obtain ⟨x, hx⟩ : ∃ x, xs[0]?.getD 0 = x := ⟨_, rfl⟩
          obtain ⟨y, hy⟩ : ∃ x, xs[1]?.getD 0 = x := ⟨_, rfl⟩
          rw [hx] at g0 hne
          rw [hy] at g1 hne
          clear hx hy
          have hneb : (x == y) = false := by simp [hne]
          have hni : (1 : Int) < (n : Int) := by omega
          have hni0 : (0 : Int) < (n : Int) := by omega
          have hnn0 : 0 < n := by omega
          go_enter Tryd.func11, Tryd.ntmps11
          go_wp2_with fail
          refine V.mono ?_
          rintro e w' ⟨⟨_, rfl⟩ | ⟨hx, _⟩, rfl⟩
          · go_wp2_with fail
            go_quiet (fail)
            go_wp2_with (at_builtin; refine wpList_append_any _ rfl (.tmp 38) (.tmp 39) _ rfl w.heap.size 3 i0 _ 1 8 Tryd.underlying22 hi0 hz0 hz1 hz2 rfl (by omega) _ 1 [.int .i64 1] rfl (World.ownsRow_lit (base := w.heap.size) (e := 3) (size := 1) _ #[.int .i64 1] 1 (by simp) (by decide) rfl) w.heap.size (some ⟨b, off, none⟩) n c _ rfl ((R2.out.drewN _).alloc (by simp) _) o2.out (by simp only [maxLen]; omega) (by omega) (by simp) ?_; intro v2 w2 hown2 hg2 hat2)
            have hb2 : Below w.heap.size w w2 := below_grown ((below_drewN (Below.refl w.heap.size w) _).alloc (by simp) _) (World.ownsRow_lit (base := w.heap.size) (e := 3) (size := 1) _ #[.int .i64 1] 1 (by simp) (by decide) rfl) hg2 (Nat.le_refl _) (by simp)
            go_wp2_with fail
            go_ret2
            refine ⟨hb2, .inr (.inr ⟨HV.out, hs', ?_⟩)⟩
            obtain ⟨a', l', c', rfl, hs3⟩ := KEY.out _ HI.out.symm _ _ _ hown2
            exact ⟨_, _, _, rfl, hs3⟩
          · exact absurd HV.out hx
        · have hni : ¬ (1 : Int) < (n : Int) := by omega
          have hnib : decide ((1 : Int) < (n : Int)) = false := by simp; omega
          go_enter Tryd.func11, Tryd.ntmps11
          go_wp2_with fail
          refine V.mono ?_
          rintro e w' ⟨⟨_, rfl⟩ | ⟨hx, _⟩, rfl⟩
          · go_wp2_with fail
            go_quiet (fail)
            go_wp2_with (at_builtin; refine wpList_append_any _ rfl (.tmp 38) (.tmp 39) _ rfl w.heap.size 3 i0 _ 1 8 Tryd.underlying22 hi0 hz0 hz1 hz2 rfl (by omega) _ 1 [.int .i64 1] rfl (World.ownsRow_lit (base := w.heap.size) (e := 3) (size := 1) _ #[.int .i64 1] 1 (by simp) (by decide) rfl) w.heap.size a n c _ rfl ((R2.out.drewN _).alloc (by simp) _) o2.out (by simp only [maxLen]; omega) (by omega) (by simp) ?_; intro v2 w2 hown2 hg2 hat2)
            have hb2 : Below w.heap.size w w2 := below_grown ((below_drewN (Below.refl w.heap.size w) _).alloc (by simp) _) (World.ownsRow_lit (base := w.heap.size) (e := 3) (size := 1) _ #[.int .i64 1] 1 (by simp) (by decide) rfl) hg2 (Nat.le_refl _) (by simp)
            go_wp2_with fail
            go_ret2
            refine ⟨hb2, .inr (.inr ⟨HV.out, hs', ?_⟩)⟩
            obtain ⟨a', l', c', rfl, hs3⟩ := KEY.out _ HI.out.symm _ _ _ hown2
            exact ⟨_, _, _, rfl, hs3⟩
          · exact absurd HV.out hx
  · have HV := Lib.hid hv
    clear hv
    go_enter Tryd.func11, Tryd.ntmps11
    go_wp2_with fail
    refine V.mono ?_
    rintro e w' ⟨⟨hx, _⟩ | ⟨_, rfl⟩, rfl⟩
    · exact absurd hx HV.out
    · go_wp2_with fail
      go_ret2
      exact ⟨Below.refl _ _, .inl ⟨HV.out, rfl⟩⟩
end SK
end Go.Proofs.YtbmapjbljgpfkaaDoor
