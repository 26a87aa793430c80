/-
  slices.Grow from nil and slices.Concat of two, of ints. Conditions: at most 2^44 elements.
-/
import Derived.Test.YtpkfakndlbngbaaWords
import Derived.Lib.AppendZeros
namespace Go.Proofs.Ytpkfakndlbngbaa
open Go.RowKit Go.Deep
set_option linter.unusedVariables false
namespace ICC
theorem Try.infoConcat : (Try.prog.info? 3).map (fun i => (i.zero, i.size, i.bytes)) = some (some (.int .i64 0), 1, 8) := by kernel_rfl

theorem list_append_any {P : Program} {w : World} {ops : Array Oper} {rest : List Oper} {o : Oper} {a : Act} {Q : Exit → Act → World → Prop} (hgd : o.guard = none) (s x : Operand) (t : TypeId)
    (ho : o.op = .call { callee := .builtin .append, args := #[s, x], argTypes := #[t, t] })
    (base : Nat) (e : TypeId) (i : TypeInfo) (z : Value) (size bytes : Nat) (ht : P.underlying t = some (.slice e)) (hi : P.info? e = some i) (hz : i.zero = some z)
    (hsize : i.size = size) (hby : i.bytes = bytes) (hzs : z.cells.size = size) (hsz : 0 < size)
    (v : Value) (n : Nat) (xs : List Value) (hs : a.eval s = v) (hown : w.ownsRow base e size v n xs)
    (B : Nat) (A : Option Addr) (m c : Nat) (news : List Value) (hx : a.eval x = .slice A m c) (hr : Reads w B size A m news) (h1 : ∀ u ∈ news, u.oneCell' = true)
    (h63 : n + m ≤ maxLen) (hbytes : (n + m) * bytes ≤ 140737488355328) (hbase : base ≤ w.heap.size)
    (h : ∀ v' w', w'.ownsRow base e size v' (n + m) (xs ++ news) → w.grownBy w' v.ownBlock → (v'.ownBlock = v.ownBlock ∨ v'.ownBlock = some w.heap.size) → wpList P ops Q rest (a.put o.dst v') w') : wpList P ops Q (o :: rest) a w :=
  wpList_plain hgd fun _ hK => wp_append_any w s x t ho base e i z size bytes ht hi hz hsize hby hzs hsz v n xs hs hown B A m c news hx hr h1 h63 hbytes hbase fun v' w' h2 h3 h4 => hK _ _ (h v' w' h2 h3 h4)

set_option maxHeartbeats 1000000 in
set_option maxRecDepth 100000 in
theorem grow_any (k : Nat) (w : World) (hk : k ≤ 17592186044416) :
    Calls Try.prog 47 #[.slice none 0 0, .int .i64 (k : Int)] w fun e w' => ∃ v, e = .returned v ∧ w'.ownsRow w.heap.size 3 1 v 0 [] ∧ Below w.heap.size w w' := by
  obtain ⟨i0, hi0, hz0, hz1, hz2⟩ := info_parts Try.infoConcat
  have h1 : ¬ ((k : Int) < 0) := by omega
  have h3 : wrap64 ((k : Int) - 0) = (k : Int) := by unfold wrap64; omega
  by_cases h0 : k = 0
  · subst h0
    go_enter Try.func47, Try.ntmps47
    go_wp2_with fail
    go_ret
    exact ⟨_, rfl, World.ownsRow_nil _ _ _ _, Below.refl _ _⟩
  · have hpos : 0 < (k : Int) := by omega
    have hrz : ∀ ty, (Builtin.append_ #[22, 3] ty #[.slice none 0 0, .int .i64 (k : Int)]).run Try.prog w = _ := fun ty =>
      Lib.run_append_nil_zeros w 22 3 ty 3 i0 (.int .i64 0) .i64 .i64 (by kernel_rfl) (by kernel_rfl) hi0 hz0 k (by omega) (by omega) (by omega) (by rw [hz2]; omega)
    have g1 : grownCap w k 0 3 ≤ maxLen := by simpa using grownCap_le_maxLen w k 0 3 (by unfold maxLen; omega)
    have g2 : k ≤ grownCap w k 0 3 := grownCap_ge w k 0 3
    obtain ⟨gc, hgc⟩ : ∃ gc, grownCap w k 0 3 = gc := ⟨_, rfl⟩
    rw [hgc] at hrz g1 g2
    unfold maxLen at g1
    have HZ := Lib.hid hrz
    clear hgc hrz
    go_enter Try.func47, Try.ntmps47
    go_wp2_with (at_builtin; refine Lib.wpList_append_run _ rfl _ _ _ _ rfl _ _ rfl rfl _ _ (HZ.out _) ?_)
    go_ret
    refine ⟨_, rfl, ⟨rfl, .inr ⟨w.heap.size, gc, _, rfl, Nat.le_refl _, heap_alloc_new w _, Nat.zero_le _, by unfold maxLen; exact g1, ?_, by simp⟩⟩, ((Below.refl _ _).drew).alloc (by simp) _⟩
    simp [Builtin.zeroCells]
    omega

set_option maxHeartbeats 2000000 in
set_option maxRecDepth 100000 in
theorem concat_any (g c : Nat) (a1 : Option Addr) (n1 c1 : Nat) (a2 : Option Addr) (n2 c2 : Nat) (xs1 xs2 : List Value) (w : World) (hc : 2 ≤ c)
    (k0 : w.cell? ⟨g, 0, none⟩ = some (.slice a1 n1 c1)) (k1 : w.cell? ⟨g, 1, none⟩ = some (.slice a2 n2 c2)) (hg : g < w.heap.size)
    (r1 : Reads w w.heap.size 1 a1 n1 xs1) (r2 : Reads w w.heap.size 1 a2 n2 xs2) (o1 : ∀ u ∈ xs1, u.oneCell' = true) (o2 : ∀ u ∈ xs2, u.oneCell' = true) (hs : n1 + n2 ≤ 17592186044416) :
    Calls Try.prog 30 #[.slice (some ⟨g, 0, none⟩) 2 c] w fun e w' => ∃ v, e = .returned v ∧ w'.ownsRow w.heap.size 3 1 v (n1 + n2) (xs1 ++ xs2) ∧ Below w.heap.size w w' := by
  obtain ⟨i0, hi0, hz0, hz1, hz2⟩ := info_parts Try.infoConcat
  have R1 := Lib.hid r1
  have R2 := Lib.hid r2
  have O1 := Lib.hid o1
  have O2 := Lib.hid o2
  have GR := Lib.hid (fun W => grow_any (n1 + n2) W hs)
  rw [show ((n1 + n2 : Nat) : Int) = (n1 : Int) + (n2 : Int) by omega] at GR
  have e1 : wrap64 (0 + (n1 : Int)) = (n1 : Int) := by unfold wrap64; omega
  have e2 : wrap64 ((n1 : Int) + (n2 : Int)) = (n1 : Int) + (n2 : Int) := by unfold wrap64; omega
  have f1 : ¬ ((n1 : Int) < 0) := by omega
  have f2 : ¬ ((n1 : Int) + (n2 : Int) < 0) := by omega
  clear r1 r2 o1 o2
  go_enter Try.func30, Try.ntmps30
  go_wp2_with fail
  go_loopw [3, 11] (fun t i wr => ∃ k : Nat, i = .int .i64 (k : Int) ∧ ((k = 0 ∧ t = .int .i64 0) ∨ (k = 1 ∧ t = .int .i64 (n1 : Int)) ∨ (k = 2 ∧ t = .int .i64 ((n1 : Int) + (n2 : Int)))) ∧ wr = w) (fun _ i _ => 2 - (intOf i).toNat)
  case atStart => exact ⟨0, rfl, .inl ⟨rfl, rfl⟩, rfl⟩
  case round =>
    obtain ⟨k, rfl, hh, hw⟩ := hrel
    obtain rfl := hw.symm
    clear hw
    rcases hh with ⟨rfl, rfl⟩ | ⟨rfl, rfl⟩ | ⟨rfl, rfl⟩
    · go_wp2_with fail
      go_roundw
      case rel => exact ⟨1, rfl, .inr (.inl ⟨rfl, rfl⟩), by first | rfl | trivial⟩
      case measure => simp [intOf]
    · go_wp2_with fail
      go_roundw
      case rel => exact ⟨2, rfl, .inr (.inr ⟨rfl, rfl⟩), by first | rfl | trivial⟩
      case measure => simp [intOf]
    · go_wp2_with fail
      refine (GR.out _).mono ?_
      rintro e w1 ⟨v, rfl, ho, hb⟩
      have k0' := (hb.cell (p := ⟨g, 0, none⟩) hg).trans k0
      have k1' := (hb.cell (p := ⟨g, 1, none⟩) hg).trans k1
      clear e1 e2 f1 f2
      go_wp2_with fail
      go_loopw [6, 27] (fun t i wr => ∃ k : Nat, i = .int .i64 (k : Int) ∧ ((k = 0 ∧ wr.ownsRow w.heap.size 3 1 t 0 []) ∨ (k = 1 ∧ wr.ownsRow w.heap.size 3 1 t n1 xs1) ∨ (k = 2 ∧ wr.ownsRow w.heap.size 3 1 t (n1 + n2) (xs1 ++ xs2))) ∧ Below w.heap.size w wr) (fun _ i _ => 2 - (intOf i).toNat)
      case atStart => exact ⟨0, rfl, .inl ⟨rfl, ho⟩, hb⟩
      case round =>
        clear k0' k1' ho hb
        obtain ⟨k, rfl, hh, hb⟩ := hrel
        have k0' := (hb.cell (p := ⟨g, 0, none⟩) hg).trans k0
        have k1' := (hb.cell (p := ⟨g, 1, none⟩) hg).trans k1
        rcases hh with ⟨rfl, ho⟩ | ⟨rfl, ho⟩ | ⟨rfl, ho⟩
        · have RR := Lib.hid (R1.out.below hb)
          go_wp2_with (at_builtin; refine list_append_any rfl (.tmp 31) (.tmp 32) 22 rfl w.heap.size 3 i0 (.int .i64 0) 1 8 (by kernel_rfl) hi0 hz0 hz1 hz2 rfl (by decide) _ 0 [] rfl ho _ a1 n1 c1 _ rfl RR.out O1.out (by unfold maxLen; omega) (by omega) hb.size ?_; intro v2 w2 hown2 hg2 hat2; have hb2 : Below w.heap.size w w2 := below_grown hb ho hg2 (Nat.le_refl _) hb.size)
          go_roundw
          case rel => exact ⟨1, rfl, .inr (.inl ⟨rfl, by simpa using hown2⟩), hb2⟩
          case measure => simp [intOf]
        · have RR := Lib.hid (R2.out.below hb)
          go_wp2_with (at_builtin; refine list_append_any rfl (.tmp 31) (.tmp 32) 22 rfl w.heap.size 3 i0 (.int .i64 0) 1 8 (by kernel_rfl) hi0 hz0 hz1 hz2 rfl (by decide) _ n1 xs1 rfl ho _ a2 n2 c2 _ rfl RR.out O2.out (by unfold maxLen; omega) (by omega) hb.size ?_; intro v2 w2 hown2 hg2 hat2; have hb2 : Below w.heap.size w w2 := below_grown hb ho hg2 (Nat.le_refl _) hb.size)
          go_roundw
          case rel => exact ⟨2, rfl, .inr (.inr ⟨rfl, by simpa using hown2⟩), hb2⟩
          case measure => simp [intOf]
        · go_wp2_with fail
          go_ret
          exact ⟨_, rfl, ho, hb⟩
end ICC
end Go.Proofs.Ytpkfakndlbngbaa
