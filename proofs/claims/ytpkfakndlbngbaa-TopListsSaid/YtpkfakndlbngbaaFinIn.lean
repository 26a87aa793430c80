/-
  Finger trees: things, slices of things and levels that lie in memory. Conditions: none.
-/
import Derived.Test.YtpkfakndlbngbaaWords
import Derived.Test.YtpkfakndlbngbaaFinPlain
import Derived.Test.YtpkfakndlbngbaaMonoJoin
namespace Go.Proofs.Ytpkfakndlbngbaa
open Go.RowKit Go.Deep
open Go.Proofs.Ytpkfakndlbngbaa.MN
set_option linter.unusedVariables false
namespace FG

/-- A slice of pointers to things, by its whole block. -/
structure Pl (w : World) (a : Option Addr) (n c : Nat) (ps : List (Option Addr)) : Prop where
  hlen : ps.length = n
  hcap : n ≤ c
  hmax : c ≤ maxLen
  hat : 0 < n → ∃ b off cur, a = some ⟨b, off, none⟩ ∧ w.heap[b]? = some (.cells cur 84 (0, 0)) ∧ ∀ j, j < n → cur[off + j]? = some (.pointer (ps[j]?.getD none))
theorem Pl.nil (w : World) : Pl w none 0 0 [] := ⟨rfl, Nat.le_refl _, Nat.zero_le _, fun h => absurd h (Nat.lt_irrefl _)⟩
theorem Pl.keep {w w' : World} {a : Option Addr} {n c : Nat} {ps : List (Option Addr)} (h : Pl w a n c ps) (hk : KeepT 84 w w') : Pl w' a n c ps :=
  ⟨h.hlen, h.hcap, h.hmax, fun h0 => by
    obtain ⟨b, off, cur, e, hb, hc⟩ := h.hat h0
    exact ⟨b, off, cur, e, hk _ _ hb, hc⟩⟩
theorem Pl.below {w w' : World} {a : Option Addr} {n c : Nat} {ps : List (Option Addr)} (h : Pl w a n c ps) (hb : Below w.heap.size w w') : Pl w' a n c ps := h.keep (.of_below hb)
theorem Pl.cell {w : World} {a : Option Addr} {n c : Nat} {ps : List (Option Addr)} (h : Pl w a n c ps) (h0 : 0 < n) : ∃ b off, a = some ⟨b, off, none⟩ ∧ b < w.heap.size ∧ ∀ j, j < n → w.cell? ⟨b, off + j, none⟩ = some (.pointer (ps[j]?.getD none)) := by
  obtain ⟨b, off, cur, e, hb, hc⟩ := h.hat h0
  obtain ⟨c1, _, c3⟩ := blk hb
  exact ⟨b, off, e, c3, fun j hj => (c1 _).trans (hc j hj)⟩
theorem Pl.of_own {w : World} {base : Nat} {v : Value} {n : Nat} {ps : List (Option Addr)} (h : w.ownsRow base 84 1 v n (ps.map Value.pointer)) : ∃ a c, v = .slice a n c ∧ Pl w a n c ps := by
  have hlen : ps.length = n := by have := h.1; simpa using this
  rcases h.2 with ⟨rfl, rfl⟩ | ⟨g, cap, cur, rfl, hg, hh, hn, hcap, hsz, htake⟩
  · have : ps = [] := List.eq_nil_of_length_eq_zero hlen
    subst this
    exact ⟨none, 0, rfl, Pl.nil w⟩
  · refine ⟨_, cap, rfl, hlen, hn, hcap, fun _ => ⟨g, 0, cur, rfl, hh, fun j hj => ?_⟩⟩
    have h1 : (cur.toList.take (n * 1))[j]? = some (Value.pointer (ps[j]?.getD none)) := by
      rw [htake, List.getElem?_map, List.getElem?_eq_getElem (by omega)]
      rfl
    rw [List.getElem?_take, if_pos (by omega)] at h1
    rw [Nat.zero_add]
    simpa using h1
theorem Pl.reads {w : World} {a : Option Addr} {n c : Nat} {ps : List (Option Addr)} (h : Pl w a n c ps) : Reads w w.heap.size 1 a n (ps.map Value.pointer) := by
  refine ⟨by simpa using h.hlen, fun h0 => ?_⟩
  obtain ⟨b, off, e, hb, hc⟩ := h.cell h0
  refine ⟨_, e, hb, fun j u hu => ?_⟩
  have hj : j < n := by
    rcases Nat.lt_or_ge j n with h' | h'
    · exact h'
    · rw [List.getElem?_eq_none (by simp [h.hlen]; omega)] at hu; cases hu
  rw [List.getElem?_map, List.getElem?_eq_getElem (by have := h.hlen; omega)] at hu
  have := hc j hj
  rw [List.getElem?_eq_getElem (by have := h.hlen; omega)] at this
  have hadd : (⟨b, off, none⟩ : Addr).add j = ⟨b, off + j, none⟩ := by
    unfold Addr.add
    split <;> simp_all
  rw [hadd, this]
  simpa using hu
theorem ptr_cells (ps : List (Option Addr)) : ∀ u ∈ ps.map Value.pointer, u.oneCell' = true := by
  intro u hu
  obtain ⟨p, _, rfl⟩ := List.mem_map.1 hu
  rfl
theorem Pl.front {w : World} {a : Option Addr} {n c : Nat} {ps : List (Option Addr)} (h : Pl w a n c ps) {k : Nat} (hk : k ≤ n) : Pl w a k c (ps.take k) := by
  refine ⟨by rw [List.length_take, h.hlen]; omega, Nat.le_trans hk h.hcap, h.hmax, fun h0 => ?_⟩
  obtain ⟨b, off, cur, e, hb, hc⟩ := h.hat (by omega)
  refine ⟨b, off, cur, e, hb, fun j hj => ?_⟩
  rw [hc j (by omega), List.getElem?_take, if_pos hj]
theorem Pl.rest {w : World} {a : Option Addr} {n c : Nat} {ps : List (Option Addr)} (h : Pl w a n c ps) {k : Nat} (hk : k ≤ n) : Pl w (cutAt a c k) (n - k) (c - k) (ps.drop k) := by
  refine ⟨by rw [List.length_drop, h.hlen], by have := h.hcap; omega, by have := h.hmax; omega, fun h0 => ?_⟩
  obtain ⟨b, off, cur, e, hb, hc⟩ := h.hat (by omega)
  subst e
  have hne : ¬ c = k := by have := h.hcap; omega
  refine ⟨b, off + k, cur, ?_, hb, fun j hj => ?_⟩
  · unfold cutAt
    rw [if_neg hne]
    simp only [Option.map_some, Option.some.injEq]
    unfold Addr.add
    split <;> simp_all
  · rw [List.getElem?_drop, Nat.add_assoc]
    exact hc (k + j) (by omega)


/-- A thing in memory: its measure tells how many numbers it has. -/
def InT (w : World) : Option Addr → Th → Prop
  | p, .leaf x => ∃ (b : Nat) (m : Ms), p = some ⟨b, 0, none⟩ ∧ m.n = 1 ∧
      w.heap[b]? = some (.cells #[.int .i64 m.n, .int .i64 m.s, .int .i64 m.lo, .int .i64 m.hi, .int .i64 m.h, .int .i64 x, .slice none 0 0] 92 (0, 0))
  | p, .node t u v => ∃ (b : Nat) (m : Ms) (pt pu pv a : Option Addr) (c : Nat), p = some ⟨b, 0, none⟩ ∧ m.n = ((Th.node t u v).size : Int) ∧
      w.heap[b]? = some (.cells #[.int .i64 m.n, .int .i64 m.s, .int .i64 m.lo, .int .i64 m.hi, .int .i64 m.h, .int .i64 0, .slice a 3 c] 92 (0, 0)) ∧
      Pl w a 3 c [pt, pu, pv] ∧ InT w pt t ∧ InT w pu u ∧ InT w pv v
theorem InT.keep {w w' : World} (h1 : KeepT 92 w w') (h2 : KeepT 84 w w') : ∀ {t : Th} {p : Option Addr}, InT w p t → InT w' p t := by
  intro t
  induction t with
  | leaf x => rintro p ⟨b, m, e, hn, hb⟩; exact ⟨b, m, e, hn, h1 _ _ hb⟩
  | node t u v iht ihu ihv =>
    rintro p ⟨b, m, pt, pu, pv, a, c, e, hn, hb, hp, k1, k2, k3⟩
    exact ⟨b, m, pt, pu, pv, a, c, e, hn, h1 _ _ hb, hp.keep h2, iht k1, ihu k2, ihv k3⟩
theorem InT.below {w w' : World} {t : Th} {p : Option Addr} (h : InT w p t) (hb : Below w.heap.size w w') : InT w' p t := h.keep (.of_below hb) (.of_below hb)
theorem InT.cells {w : World} {t : Th} {p : Option Addr} (h : InT w p t) : ∃ (b : Nat) (m : Ms), p = some ⟨b, 0, none⟩ ∧ m.n = (t.size : Int) ∧ b < w.heap.size ∧
    w.cell? ⟨b, 0, none⟩ = some (.int .i64 m.n) ∧ w.cell? ⟨b, 1, none⟩ = some (.int .i64 m.s) ∧ w.cell? ⟨b, 2, none⟩ = some (.int .i64 m.lo) ∧ w.cell? ⟨b, 3, none⟩ = some (.int .i64 m.hi) ∧ w.cell? ⟨b, 4, none⟩ = some (.int .i64 m.h) := by
  cases t with
  | leaf x =>
    obtain ⟨b, m, e, hn, hb⟩ := h
    obtain ⟨c1, _, c3⟩ := blk hb
    exact ⟨b, m, e, hn, c3, c1 0, c1 1, c1 2, c1 3, c1 4⟩
  | node t u v =>
    obtain ⟨b, m, pt, pu, pv, a, c, e, hn, hb, _⟩ := h
    obtain ⟨c1, _, c3⟩ := blk hb
    exact ⟨b, m, e, hn, c3, c1 0, c1 1, c1 2, c1 3, c1 4⟩
/-- Things in memory, one by one. -/
def InL (w : World) : List (Option Addr) → List Th → Prop
  | [], [] => True
  | p :: ps, t :: ts => InT w p t ∧ InL w ps ts
  | _, _ => False
theorem InL.below {w w' : World} : ∀ {ps : List (Option Addr)} {ts : List Th}, InL w ps ts → Below w.heap.size w w' → InL w' ps ts
  | [], [], _, _ => trivial
  | p :: ps, t :: ts, h, hb => ⟨h.1.below hb, InL.below h.2 hb⟩
  | [], _ :: _, h, _ => h.elim
  | _ :: _, [], h, _ => h.elim
theorem InL.length {w : World} : ∀ {ps : List (Option Addr)} {ts : List Th}, InL w ps ts → ps.length = ts.length
  | [], [], _ => rfl
  | p :: ps, t :: ts, h => by simp [InL.length h.2]
  | [], _ :: _, h => h.elim
  | _ :: _, [], h => h.elim
theorem InL.get {w : World} : ∀ {ps : List (Option Addr)} {ts : List Th} (k : Nat), InL w ps ts → k < ts.length → InT w (ps[k]?.getD none) (ts[k]?.getD (.leaf 0))
  | [], [], k, _, hk => by simp at hk
  | p :: ps, t :: ts, 0, h, _ => by simpa using h.1
  | p :: ps, t :: ts, k + 1, h, hk => by simpa using InL.get k h.2 (by simpa using hk)
  | [], _ :: _, _, h, _ => h.elim
  | _ :: _, [], _, h, _ => h.elim
theorem InL.take {w : World} : ∀ {ps : List (Option Addr)} {ts : List Th} (k : Nat), InL w ps ts → InL w (ps.take k) (ts.take k)
  | [], [], k, _ => by simp [InL]
  | p :: ps, t :: ts, 0, h => by simp [InL]
  | p :: ps, t :: ts, k + 1, h => ⟨h.1, InL.take k h.2⟩
  | [], _ :: _, _, h => h.elim
  | _ :: _, [], _, h => h.elim
theorem InL.drop {w : World} : ∀ {ps : List (Option Addr)} {ts : List Th} (k : Nat), InL w ps ts → InL w (ps.drop k) (ts.drop k)
  | [], [], k, _ => by simp [InL]
  | p :: ps, t :: ts, 0, h => h
  | p :: ps, t :: ts, k + 1, h => InL.drop k h.2
  | [], _ :: _, _, h => h.elim
  | _ :: _, [], _, h => h.elim
theorem InL.snoc {w : World} {p : Option Addr} {t : Th} (hp : InT w p t) : ∀ {ps : List (Option Addr)} {ts : List Th}, InL w ps ts → InL w (ps ++ [p]) (ts ++ [t])
  | [], [], _ => ⟨hp, trivial⟩
  | q :: ps, u :: ts, h => ⟨h.1, InL.snoc hp h.2⟩
  | [], _ :: _, h => h.elim
  | _ :: _, [], h => h.elim
/-- A digit: a slice of things. -/
def Dg (w : World) (a : Option Addr) (n c : Nat) (ts : List Th) : Prop := ∃ ps, Pl w a n c ps ∧ InL w ps ts
theorem Dg.below {w w' : World} {a : Option Addr} {n c : Nat} {ts : List Th} (h : Dg w a n c ts) (hb : Below w.heap.size w w') : Dg w' a n c ts := by
  obtain ⟨ps, h1, h2⟩ := h
  exact ⟨ps, h1.below hb, h2.below hb⟩
theorem Dg.len {w : World} {a : Option Addr} {n c : Nat} {ts : List Th} (h : Dg w a n c ts) : ts.length = n := by
  obtain ⟨ps, h1, h2⟩ := h
  rw [← h2.length, h1.hlen]
theorem Dg.nil (w : World) : Dg w none 0 0 [] := ⟨[], Pl.nil w, trivial⟩
theorem Dg.front {w : World} {a : Option Addr} {n c : Nat} {ts : List Th} (h : Dg w a n c ts) {k : Nat} (hk : k ≤ n) : Dg w a k c (ts.take k) := by
  obtain ⟨ps, h1, h2⟩ := h
  exact ⟨ps.take k, h1.front hk, h2.take k⟩
theorem Dg.rest {w : World} {a : Option Addr} {n c : Nat} {ts : List Th} (h : Dg w a n c ts) {k : Nat} (hk : k ≤ n) : Dg w (cutAt a c k) (n - k) (c - k) (ts.drop k) := by
  obtain ⟨ps, h1, h2⟩ := h
  exact ⟨ps.drop k, h1.rest hk, h2.drop k⟩
theorem InT.kids {w : World} {t u v : Th} {p : Option Addr} (h : InT w p (.node t u v)) : ∃ b a c, p = some ⟨b, 0, none⟩ ∧ b < w.heap.size ∧ w.cell? ⟨b, 6, none⟩ = some (.slice a 3 c) ∧ Dg w a 3 c [t, u, v] := by
  obtain ⟨b, m, pt, pu, pv, a, c, e, hn, hb, hp, k1, k2, k3⟩ := h
  obtain ⟨c1, _, c3⟩ := blk hb
  exact ⟨b, a, c, e, c3, c1 6, _, hp, k1, k2, k3, trivial⟩
/-- Levels in memory. -/
def InV (w : World) : Option Addr → Lv → Prop
  | p, .nil => p = none
  | p, .one t => ∃ (b : Nat) (m : Ms) (q a : Option Addr) (c : Nat), p = some ⟨b, 0, none⟩ ∧ m.n = (t.size : Int) ∧
      w.heap[b]? = some (.cells #[.int .i64 m.n, .int .i64 m.s, .int .i64 m.lo, .int .i64 m.hi, .int .i64 m.h, .slice a 1 c, .slice none 0 0, .pointer none] 95 (0, 0)) ∧ Pl w a 1 c [q] ∧ InT w q t
  | p, .deep l v r => ∃ (b : Nat) (m : Ms) (a a' q : Option Addr) (n c n' c' : Nat), p = some ⟨b, 0, none⟩ ∧ m.n = ((Lv.deep l v r).size : Int) ∧
      w.heap[b]? = some (.cells #[.int .i64 m.n, .int .i64 m.s, .int .i64 m.lo, .int .i64 m.hi, .int .i64 m.h, .slice a n c, .slice a' n' c', .pointer q] 95 (0, 0)) ∧
      Dg w a n c l ∧ Dg w a' n' c' r ∧ InV w q v
theorem InV.below {w w' : World} (hb : Below w.heap.size w w') : ∀ {v : Lv} {p : Option Addr}, InV w p v → InV w' p v := by
  intro v
  induction v with
  | nil => intro p h; exact h
  | one t =>
    rintro p ⟨b, m, q, a, c, e, hn, hh, hp, ht⟩
    exact ⟨b, m, q, a, c, e, hn, blk_below hh hb, hp.below hb, ht.below hb⟩
  | deep l v r ih =>
    rintro p ⟨b, m, a, a', q, n, c, n', c', e, hn, hh, h1, h2, h3⟩
    exact ⟨b, m, a, a', q, n, c, n', c', e, hn, blk_below hh hb, h1.below hb, h2.below hb, ih h3⟩
theorem Dg.one {w : World} {p : Option Addr} {t : Th} (h : InT w p t) : Dg (w.alloc (.cells #[.pointer p] 84)) (some ⟨w.heap.size, 0, none⟩) 1 1 [t] :=
  ⟨[p], ⟨rfl, Nat.le_refl _, by decide, fun _ => ⟨w.heap.size, 0, _, rfl, heap_alloc_new _ _, fun j hj => by
    obtain rfl : j = 0 := by omega
    rfl⟩⟩, h.below ((Below.refl _ _).alloc (Nat.le_refl _) _), trivial⟩
theorem Dg.two {w : World} {p q : Option Addr} {t u : Th} (h : InT w p t) (k : InT w q u) : Dg (w.alloc (.cells #[.pointer p, .pointer q] 84)) (some ⟨w.heap.size, 0, none⟩) 2 2 [t, u] :=
  ⟨[p, q], ⟨rfl, Nat.le_refl _, by decide, fun _ => ⟨w.heap.size, 0, _, rfl, heap_alloc_new _ _, fun j hj => by
    match j, hj with
    | 0, _ => rfl
    | 1, _ => rfl⟩⟩, h.below ((Below.refl _ _).alloc (Nat.le_refl _) _), k.below ((Below.refl _ _).alloc (Nat.le_refl _) _), trivial⟩
theorem Try.elemThings : Try.prog.elem 90 = 84 := by kernel_rfl
theorem Try.sizeThing (w : World) : (sizeOf 84).run Try.prog w = .ok 1 w := by kernel_rfl
/-- l[:k] -/
theorem Try.things_to (a : Option Addr) (n c k : Nat) (hk : k ≤ c) (w : World) : (Instr.slice 90 (.slice a n c) none (some (.int .i64 (k : Int))) none).run Try.prog w = .ok (.slice a k c) w := by
  rw [run_slice_h (ht := by rw [Try.elemThings]; exact Try.underlying90) (h0 := by omega) (h2 := by omega), Try.elemThings, Try.sizeThing]
  simp only [Result.andThen, sliced, Int.toNat_natCast, Nat.zero_mul, Nat.sub_zero, add_zero_map, ite_self]
/-- l[k:] -/
theorem Try.things_from (a : Option Addr) (n c k : Nat) (hk : k ≤ n) (w : World) : (Instr.slice 90 (.slice a n c) (some (.int .i64 (k : Int))) none none).run Try.prog w = .ok (.slice (cutAt a c k) (n - k) (c - k)) w := by
  rw [run_slice_l (ht := by rw [Try.elemThings]; exact Try.underlying90) (h0 := by omega) (h1 := by omega), Try.elemThings, Try.sizeThing]
  simp only [Result.andThen, sliced, Int.toNat_natCast, Nat.mul_one, cutAt]
theorem Try.infoThing : (Try.prog.info? 84).map (fun i => (i.zero, i.size, i.bytes)) = some (some (.pointer none), 1, 8) := by kernel_rfl
end FG
end Go.Proofs.Ytpkfakndlbngbaa
