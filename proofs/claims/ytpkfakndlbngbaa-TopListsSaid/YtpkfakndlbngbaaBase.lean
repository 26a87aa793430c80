/-
  What all texts of this seat share: integers that fit, slices that read as lists, and what the rows' bound on bulk gives. Conditions: none.
-/
import Derived.Test.YtpkfakndlbngbaaRows
import Derived.WalkKit
import Derived.WalkSpells
import Derived.WalkSmall
import Derived.ProofKit
import Derived.OpenShut
import Derived.ChangeOld
import Derived.Below
import Derived.SizedLaws
import Derived.JoinedCond
import Derived.Lib.Hide
import Derived.Deep.CondSized
import Derived.Deep.Slices
import Derived.Deep.Draws
import Derived.Deep.AppendLies
import Derived.Deep.QuietTactic
import Derived.Deep.RegionHeld3
import Derived.Deep.LoopGhost
import Derived.Deep.DeepCutAuto
import Derived.BigQuiet
import Derived.Laws.OwnMore
import Derived.Maps.AppendAt
namespace Go.Proofs.Ytpkfakndlbngbaa
open Go.ChangeShapes Go.WideShapes Go.ChangeAt Go.RowKit Go.Deep

/-- An int of 64 bits. -/
def I64 (n : Int) : Prop := -9223372036854775808 ≤ n ∧ n ≤ 9223372036854775807

theorem i64_of_wf {n : Int} (h : (Lit.int .i64 n).wf = true) : I64 n := by
  have h1 : IntKind.i64.min = -9223372036854775808 := rfl
  have h2 : IntKind.i64.max = 9223372036854775807 := rfl
  simp only [Lit.wf, Bool.and_eq_true, decide_eq_true_eq] at h
  unfold I64
  omega

theorem i64_wrap (n : Int) : I64 (wrap64 n) := by
  unfold I64 wrap64
  omega

/-- A slice of numbers reads as a list. -/
structure Sl (w : World) (a : Option Addr) (len cap : Nat) (xs : List Int) : Prop where
  hlen : xs.length = len
  hcap : len ≤ cap
  hmax : cap ≤ maxLen
  hat : 0 < len → ∃ b off, a = some ⟨b, off, none⟩ ∧ b < w.heap.size ∧ ∀ j, j < len → w.cell? ⟨b, off + j, none⟩ = some (.int .i64 (xs[j]?.getD 0))

theorem Sl.below {w w' : World} {a : Option Addr} {len cap : Nat} {xs : List Int} (h : Sl w a len cap xs) (hb : Below w.heap.size w w') : Sl w' a len cap xs :=
  ⟨h.hlen, h.hcap, h.hmax, fun hl => by
    obtain ⟨b, off, e, hlt, hc⟩ := h.hat hl
    exact ⟨b, off, e, Nat.lt_of_lt_of_le hlt hb.size, fun j hj => (hb.cell (p := ⟨b, off + j, none⟩) hlt).trans (hc j hj)⟩⟩

theorem Sl.nil (w : World) : Sl w none 0 0 [] := ⟨rfl, Nat.le_refl _, Nat.zero_le _, fun h => absurd h (Nat.lt_irrefl _)⟩

/-- What the call itself has built. -/
theorem Sl.of_own {w : World} {base : Nat} {e : TypeId} {v : Value} {n : Nat} {xs : List Int} (h : w.ownsRow base e 1 v n (xs.map (Value.int .i64))) :
    ∃ a cap, v = .slice a n cap ∧ Sl w a n cap xs := by
  have hlen : xs.length = n := by have := h.1; simpa using this
  have h2 := h.2
  rcases h2 with ⟨rfl, rfl⟩ | ⟨g, cap, cur, rfl, hg, hh, hn, hcap, hsz, htake⟩
  · have : xs = [] := List.eq_nil_of_length_eq_zero hlen
    subst this
    exact ⟨none, 0, rfl, Sl.nil w⟩
  · refine ⟨_, cap, rfl, hlen, hn, hcap, fun hl => ⟨g, 0, rfl, (Array.getElem?_eq_some_iff.1 hh).1, fun j hj => ?_⟩⟩
    have hu : (xs.map (Value.int .i64))[j]? = some (.int .i64 (xs[j]?.getD 0)) := by
      rw [List.getElem?_map, List.getElem?_eq_getElem (by omega)]
      rfl
    have := h.cells (g := g) rfl j _ hu
    have hadd : (⟨g, 0, none⟩ : Addr).add j = ⟨g, 0 + j, none⟩ := by
      unfold Addr.add
      split <;> simp_all
    rw [hadd] at this
    exact this

/-- A slice of truth values reads as a list. -/
structure Bl (w : World) (a : Option Addr) (len cap : Nat) (xs : List Bool) : Prop where
  hlen : xs.length = len
  hcap : len ≤ cap
  hmax : cap ≤ maxLen
  hat : 0 < len → ∃ b off, a = some ⟨b, off, none⟩ ∧ b < w.heap.size ∧ ∀ j, j < len → w.cell? ⟨b, off + j, none⟩ = some (.bool (xs[j]?.getD false))

theorem Bl.below {w w' : World} {a : Option Addr} {len cap : Nat} {xs : List Bool} (h : Bl w a len cap xs) (hb : Below w.heap.size w w') : Bl w' a len cap xs :=
  ⟨h.hlen, h.hcap, h.hmax, fun hl => by
    obtain ⟨b, off, e, hlt, hc⟩ := h.hat hl
    exact ⟨b, off, e, Nat.lt_of_lt_of_le hlt hb.size, fun j hj => (hb.cell (p := ⟨b, off + j, none⟩) hlt).trans (hc j hj)⟩⟩

theorem below_of_drewN {w w1 : World} {n : Nat} (h : Below (w.drewN n).heap.size (w.drewN n) w1) : Below w.heap.size w w1 := (below_drewN (Below.refl _ _) n).trans h
theorem below_then {a b c : World} (h : Below a.heap.size a b) (k : Below b.heap.size b c) : Below a.heap.size a c := h.trans (k.mono h.size)

/-- Two worlds that differ in draws alone. -/
structure Same (X Y : World) : Prop where
  heap : X.heap = Y.heap
  os : X.os = Y.os
  tape : X.tape = Y.tape
  output : X.output = Y.output
theorem Same.below {X Y w1 : World} (s : Same X Y) (h : Below X.heap.size X w1) : Below Y.heap.size Y w1 :=
  ⟨h.os.trans s.os, h.tape.trans s.tape, h.output.trans s.output, by rw [← s.heap]; exact h.size, fun k hk => by rw [← s.heap]; exact h.block k (by rw [s.heap]; exact hk)⟩
theorem hold1 {w w1 X : World} {o1 : Obj} (h : Below X.heap.size X w1) (s : Same X (w.alloc o1)) : Below w.heap.size w w1 ∧ w1.heap[w.heap.size]? = some o1 := by
  have h' := s.below h
  refine ⟨((Below.refl _ w).alloc (Nat.le_refl _) o1).trans (h'.mono (by simp)), ?_⟩
  rw [h'.block w.heap.size (by simp)]
  exact heap_alloc_new w o1
theorem hold2 {w w1 X : World} {o1 o2 : Obj} (h : Below X.heap.size X w1) (s : Same X ((w.alloc o1).alloc o2)) : Below w.heap.size w w1 ∧ w1.heap[w.heap.size]? = some o1 ∧ w1.heap[w.heap.size + 1]? = some o2 := by
  obtain ⟨h1, h2⟩ := hold1 h s
  obtain ⟨h3, h4⟩ := hold1 h1 ⟨rfl, rfl, rfl, rfl⟩
  rw [World.size_alloc] at h2
  exact ⟨h3, h4, h2⟩
theorem hold3 {w w1 X : World} {o1 o2 o3 : Obj} (h : Below X.heap.size X w1) (s : Same X (((w.alloc o1).alloc o2).alloc o3)) :
    Below w.heap.size w w1 ∧ w1.heap[w.heap.size]? = some o1 ∧ w1.heap[w.heap.size + 1]? = some o2 ∧ w1.heap[w.heap.size + 1 + 1]? = some o3 := by
  obtain ⟨h1, h2⟩ := hold1 h s
  obtain ⟨h3, h4, h5⟩ := hold2 h1 ⟨rfl, rfl, rfl, rfl⟩
  rw [World.size_alloc, World.size_alloc] at h2
  exact ⟨h3, h4, h5, h2⟩
/-- What a block that is known whole gives. -/
theorem blk {w : World} {k : Nat} {c : Array Value} {T : TypeId} (h : w.heap[k]? = some (.cells c T (0, 0))) : (∀ i, w.cell? ⟨k, i, none⟩ = c[i]?) ∧ (∀ i, w.frozen? ⟨k, i, none⟩ = false) ∧ k < w.heap.size :=
  ⟨fun i => cell_of_row w k i c T (0, 0) h, fun i => by simp [World.frozen?, h], (Array.getElem?_eq_some_iff.1 h).1⟩
theorem blk_below {w w' : World} {k : Nat} {o : Obj} (h : w.heap[k]? = some o) (hb : Below w.heap.size w w') : w'.heap[k]? = some o :=
  (hb.block k (Array.getElem?_eq_some_iff.1 h).1).trans h

/-- Every block of a type stays as it is. -/
def KeepT (T : TypeId) (w w' : World) : Prop := ∀ (k : Nat) (c : Array Value), w.heap[k]? = some (Obj.cells c T (0, 0)) → w'.heap[k]? = some (Obj.cells c T (0, 0))
theorem KeepT.of_below {T : TypeId} {w w' : World} (h : Below w.heap.size w w') : KeepT T w w' := fun k _ hk => (h.block k (Array.getElem?_eq_some_iff.1 hk).1).trans hk
theorem KeepT.refl (T : TypeId) (w : World) : KeepT T w w := fun _ _ h => h
theorem KeepT.trans {T : TypeId} {a b c : World} (h : KeepT T a b) (k : KeepT T b c) : KeepT T a c := fun i x hx => k i x (h i x hx)
theorem KeepT.setCell {T T' : TypeId} {w : World} {k i : Nat} {c : Array Value} {f : Nat × Nat} {v : Value} (hk : w.heap[k]? = some (.cells c T' f)) (hne : T' ≠ T) : KeepT T w (w.setCell ⟨k, i, none⟩ v) := by
  intro j x hx
  by_cases hj : j = k
  · subst hj
    rw [hk] at hx
    injection hx with hx
    injection hx with _ hx
    exact absurd hx hne
  · exact (Below.heap_setCell w ⟨k, i, none⟩ v j hj).trans hx
theorem blk_set {w : World} {k i : Nat} {c : Array Value} {T : TypeId} {f : Nat × Nat} {v : Value} (h : w.heap[k]? = some (.cells c T f)) : (w.setCell ⟨k, i, none⟩ v).heap[k]? = some (.cells (c.setIfInBounds i v) T f) := by
  simp [World.setCell, Array.getElem?_modify, h]
theorem blk_far {w : World} {k j i : Nat} {o : Obj} {v : Value} (h : w.heap[k]? = some o) (hne : k ≠ j) : (w.setCell ⟨j, i, none⟩ v).heap[k]? = some o := (Below.heap_setCell w ⟨j, i, none⟩ v k hne).trans h

theorem KeepT.of_grown {T e : TypeId} {w w' : World} {base size n : Nat} {v : Value} {xs : List Value} (ho : w.ownsRow base e size v n xs) (hg : w.grownBy w' v.ownBlock) (hne : e ≠ T) : KeepT T w w' := by
  intro k c hk
  refine (hg.block k (Array.getElem?_eq_some_iff.1 hk).1 fun he => ?_).trans hk
  rcases ho.2 with ⟨rfl, _⟩ | ⟨g, cap, cur, rfl, _, hh, _⟩
  · simp [Value.ownBlock] at he
  · have : k = g := by simpa [Value.ownBlock] using he
    subst this
    rw [hh] at hk
    injection hk with hk
    injection hk with _ hk
    exact hne hk
theorem KeepT.alloc {T : TypeId} {w w' : World} (h : KeepT T w w') (o : Obj) : KeepT T w (w'.alloc o) := h.trans (.of_below ((Below.refl _ _).alloc (Nat.le_refl _) _))
/-- A row that the call owns stays owned while blocks of another type are written, and new ones laid. -/
theorem own_keep {w w' : World} {base : Nat} {e : TypeId} {size : Nat} {v : Value} {n : Nat} {xs : List Value} (h : w.ownsRow base e size v n xs) (hk : KeepT e w w') : w'.ownsRow base e size v n xs := by
  refine ⟨h.1, ?_⟩
  rcases h.2 with hn | ⟨g, cap, cur, hv, hg, hh, r⟩
  · exact .inl hn
  · exact .inr ⟨g, cap, cur, hv, hg, hk _ _ hh, r⟩
/-- What an own row was grown by lies from the row's base on. -/
theorem below_grown {B base : Nat} {a w w' : World} {e : TypeId} {size n : Nat} {v : Value} {xs : List Value} (h : Below B a w) (ho : w.ownsRow base e size v n xs) (hg : w.grownBy w' v.ownBlock) (hB : B ≤ base) (hs : B ≤ w.heap.size) : Below B a w' :=
  h.grown hg hs (fun k hk => Nat.le_trans hB (ho.lt k hk).1)

section opening
variable {H : Type} {enc : TypeId × Value → H} {P : Program} {W : World} {held : Bool}

/-- AN ARGUMENT OF NUMBERS, OPENED. -/
theorem open_sl {t e : TypeId} {a : Option Addr} {len cap : Nat} {d : DataW H} {ps : List MemPlace} (ht : P.underlying t = some (.slice e)) (he : P.underlying e = some (.int .i64)) (hc : P.cellsOf e = 1)
    (h : DataW.Trod enc P W 0 (fun _ => true) held t (.slice a len cap) d ps) :
    ∃ xs, Sl W a len cap xs ∧ (∀ n ∈ xs, I64 n) ∧ ((d = .nil ∧ len = 0) ∨ ∃ el sp : List (DataW H), d = .slice el sp ∧ el.length = len ∧ sp.length = cap - len) := by
  obtain ⟨fuel, hf⟩ := h
  rcases open_ints ht he hc hf with ⟨hcs, hx⟩ | ⟨x, l, c, zs, hcs, _, hl, hm, hz, hx, hcell, hwz⟩
  · simp [Value.cells] at hcs
    obtain ⟨rfl, rfl, rfl⟩ := hcs
    simp only [Prod.mk.injEq] at hx
    exact ⟨[], Sl.nil W, by simp, .inl ⟨hx.1, rfl⟩⟩
  · simp [Value.cells] at hcs
    obtain ⟨rfl, rfl, rfl⟩ := hcs
    simp only [Prod.mk.injEq] at hx
    simp only [if_true] at hz
    have hlen : (zs.take len).length = len := by rw [List.length_take]; omega
    refine ⟨zs.take len, ⟨hlen, hl, hm, fun h0 => ?_⟩, fun n hn => i64_of_wf (hwz n (List.mem_of_mem_take hn)), .inr ⟨_, _, hx.1, by simp only [lits, List.length_map]; exact hlen, by simp only [lits, List.length_map, List.length_drop]; omega⟩⟩
    have h00 := hcell 0 (by omega)
    obtain ⟨b, off, spot⟩ := x
    have hspot : spot = none := by simpa [Addr.add] using World.cell?_spot h00
    subst hspot
    refine ⟨b, off, rfl, by simpa [Addr.add] using World.block_lt_of_cell? W _ h00, fun j hj => ?_⟩
    have := hcell j (by omega)
    have hadd : (⟨b, off, none⟩ : Addr).add j = ⟨b, off + j, none⟩ := by
      unfold Addr.add
      split <;> simp_all
    rw [hadd] at this
    rw [this, List.getElem?_take, if_pos hj]
    simp [List.getD]

/-- AN ARGUMENT OF TRUTH VALUES, OPENED. -/
theorem open_bl {t e : TypeId} {a : Option Addr} {len cap : Nat} {d : DataW H} {ps : List MemPlace} (ht : P.underlying t = some (.slice e)) (he : P.underlying e = some .bool) (hc : P.cellsOf e = 1)
    (h : DataW.Trod enc P W 0 (fun _ => true) held t (.slice a len cap) d ps) :
    ∃ xs, Bl W a len cap xs ∧ ((d = .nil ∧ len = 0) ∨ ∃ el sp : List (DataW H), d = .slice el sp ∧ el.length = len ∧ sp.length = cap - len) := by
  obtain ⟨fuel, hf⟩ := h
  rcases open_slice1 ht hc hf with ⟨hcs, hx⟩ | ⟨x, l, c, m, n, V, D, Pl, hcs, _, hl, hm, hmm, hx, hcell⟩
  · simp [Value.cells] at hcs
    obtain ⟨rfl, rfl, rfl⟩ := hcs
    simp only [Prod.mk.injEq] at hx
    exact ⟨[], ⟨rfl, Nat.le_refl _, Nat.zero_le _, fun h => absurd h (Nat.lt_irrefl _)⟩, .inl ⟨hx.1, rfl⟩⟩
  · simp [Value.cells] at hcs
    obtain ⟨rfl, rfl, rfl⟩ := hcs
    simp only [Prod.mk.injEq] at hx
    simp only [if_true] at hmm
    have hB : ∀ i, i < m → ∃ b : Bool, V i = .bool b := fun i hi => by
      obtain ⟨b, hb, _⟩ := DataW.trod_bool he (hcell i hi).2
      simp at hb
      exact ⟨b, hb⟩
    let bs : List Bool := (List.range len).map fun i => match V i with | .bool b => b | _ => false
    have hlen : bs.length = len := by simp [bs]
    refine ⟨bs, ⟨hlen, hl, hm, fun h0 => ?_⟩, .inr ⟨_, _, hx.1, by simp, by simp; omega⟩⟩
    have h00 := (hcell 0 (by omega)).1
    obtain ⟨b, off, spot⟩ := x
    have hspot : spot = none := by simpa [Addr.add] using World.cell?_spot h00
    subst hspot
    refine ⟨b, off, rfl, by simpa [Addr.add] using World.block_lt_of_cell? W _ h00, fun j hj => ?_⟩
    have := (hcell j (by omega)).1
    have hadd : (⟨b, off, none⟩ : Addr).add j = ⟨b, off + j, none⟩ := by
      unfold Addr.add
      split <;> simp_all
    rw [hadd] at this
    obtain ⟨b', hb'⟩ := hB j (by omega)
    rw [this]
    simp [bs, hj, hb']

/-- THE ROW's OWN REACH. -/
theorem reach_sl {ts : List TypeId} {ds : List (DataW H)} (h : (DataW.weightsEach P ts ds).all (· ≤ reachBytes) = true) {j len cap : Nat} {t e : TypeId} {d : DataW H} (hl : len ≤ cap) (ht : ts[j]? = some t) (hd : ds[j]? = some d) (hu : P.underlying t = some (.slice e)) (hb : P.bytesOf e = 8)
    (hs : (d = .nil ∧ len = 0) ∨ ∃ el sp : List (DataW H), d = .slice el sp ∧ el.length = len ∧ sp.length = cap - len) : len ≤ 17592186043904 := by
  rcases hs with ⟨_, rfl⟩ | ⟨el, sp, rfl, h1, h2⟩
  · omega
  · have := sized_slice h ht hd hu
    rw [hb, h1, h2] at this
    simp only [reachBytes] at this
    omega
end opening

/-! ### What the bound on bulk gives. -/
theorem bulk_one {H : Type} (d : DataW H) : 1 ≤ Rows.uptoBulk d := by
  cases d with
  | lit l => cases l <;> simp [Rows.uptoBulk]
  | nil => simp [Rows.uptoBulk]
  | ptr d => simp [Rows.uptoBulk]
  | slice elems spare => simp [Rows.uptoBulk]
  | agg parts => simp [Rows.uptoBulk]
  | iface t d => simp [Rows.uptoBulk]
  | map entries => simp [Rows.uptoBulk]
  | held h => simp [Rows.uptoBulk]
theorem bulk_length {H : Type} (l : List (DataW H)) : l.length ≤ Rows.uptoBulkAll l := by
  induction l with
  | nil => simp [Rows.uptoBulkAll]
  | cons x r ih => have := bulk_one x; simp only [Rows.uptoBulkAll, List.length_cons]; omega
theorem bulk_sl {H : Type} {len cap : Nat} {d : DataW H} (hs : (d = .nil ∧ len = 0) ∨ ∃ el sp : List (DataW H), d = .slice el sp ∧ el.length = len ∧ sp.length = cap - len) : len ≤ Rows.uptoBulk d := by
  rcases hs with ⟨_, rfl⟩ | ⟨el, sp, rfl, h1, h2⟩
  · omega
  · have := bulk_length el
    simp only [Rows.uptoBulk]
    omega
theorem bulk_bound {H : Type} {l : List (DataW H)} (hk : Rows.uptoSmall H l = true) : Rows.uptoBulkAll l ≤ 1048576 := of_decide_eq_true hk
theorem bulk_append {H : Type} (l r : List (DataW H)) : Rows.uptoBulkAll (l ++ r) = Rows.uptoBulkAll l + Rows.uptoBulkAll r := by
  induction l with
  | nil => simp [Rows.uptoBulkAll]
  | cons x l ih => simp only [List.cons_append, Rows.uptoBulkAll, ih]; omega

/-! ### Closed facts of the program. -/
theorem Try.own : ownKnob Try.prog.godebug = none := by kernel_rfl
theorem Try.laidOut : laidOutB Try.prog = true := by kernel_rfl
theorem Try.cellsInt : Try.prog.cellsOf 3 = 1 := by kernel_rfl
theorem Try.bytesInt : Try.prog.bytesOf 3 = 8 := by kernel_rfl
theorem Try.cellsBool : Try.prog.cellsOf 4 = 1 := by kernel_rfl
theorem Try.infoInt : (Try.prog.info? 3).map (fun i => (i.zero, i.size, i.bytes)) = some (some (.int .i64 0), 1, 8) := by kernel_rfl
end Go.Proofs.Ytpkfakndlbngbaa
