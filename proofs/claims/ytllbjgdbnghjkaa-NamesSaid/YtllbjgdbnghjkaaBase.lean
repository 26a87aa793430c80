/-
  What all texts of this seat share: integers that fit, slices that read as lists, and what the rows' bound on bulk gives. Conditions: none.
-/
import Derived.Test.YtllbjgdbnghjkaaRows
import Derived.WalkKit
import Derived.WalkSpells
import Derived.WalkSmall
import Derived.ProofKit
import Derived.OpenShut
import Derived.ChangeOld
import Derived.Below
import Derived.SizedLaws
import Derived.JoinedCond
import Derived.Lib.Hide
import Derived.Deep.CondSized
import Derived.Deep.Slices
import Derived.Deep.Draws
import Derived.Deep.AppendLies
import Derived.Deep.QuietTactic
import Derived.Deep.RegionHeld3
import Derived.Deep.LoopGhost
import Derived.BigQuiet
import Derived.Laws.OwnMore
import Derived.Maps.AppendAt
namespace Go.Proofs.Ytllbjgdbnghjkaa
open Go.ChangeShapes Go.WideShapes Go.ChangeAt Go.RowKit Go.Deep

/-- An int of 64 bits. -/
def I64 (n : Int) : Prop := -9223372036854775808 ≤ n ∧ n ≤ 9223372036854775807

theorem i64_of_wf {n : Int} (h : (Lit.int .i64 n).wf = true) : I64 n := by
  have h1 : IntKind.i64.min = -9223372036854775808 := rfl
  have h2 : IntKind.i64.max = 9223372036854775807 := rfl
  simp only [Lit.wf, Bool.and_eq_true, decide_eq_true_eq] at h
  unfold I64
  omega

theorem i64_wrap (n : Int) : I64 (wrap64 n) := by
  unfold I64 wrap64
  omega

/-- A slice of numbers reads as a list. -/
structure Sl (w : World) (a : Option Addr) (len cap : Nat) (xs : List Int) : Prop where
  hlen : xs.length = len
  hcap : len ≤ cap
  hmax : cap ≤ maxLen
  hat : 0 < len → ∃ b off, a = some ⟨b, off, none⟩ ∧ b < w.heap.size ∧ ∀ j, j < len → w.cell? ⟨b, off + j, none⟩ = some (.int .i64 (xs[j]?.getD 0))

theorem Sl.below {w w' : World} {a : Option Addr} {len cap : Nat} {xs : List Int} (h : Sl w a len cap xs) (hb : Below w.heap.size w w') : Sl w' a len cap xs :=
  ⟨h.hlen, h.hcap, h.hmax, fun hl => by
    obtain ⟨b, off, e, hlt, hc⟩ := h.hat hl
    exact ⟨b, off, e, Nat.lt_of_lt_of_le hlt hb.size, fun j hj => (hb.cell (p := ⟨b, off + j, none⟩) hlt).trans (hc j hj)⟩⟩

theorem Sl.nil (w : World) : Sl w none 0 0 [] := ⟨rfl, Nat.le_refl _, Nat.zero_le _, fun h => absurd h (Nat.lt_irrefl _)⟩

/-- What the call itself has built. -/
theorem Sl.of_own {w : World} {base : Nat} {e : TypeId} {v : Value} {n : Nat} {xs : List Int} (h : w.ownsRow base e 1 v n (xs.map (Value.int .i64))) :
    ∃ a cap, v = .slice a n cap ∧ Sl w a n cap xs := by
  have hlen : xs.length = n := by have := h.1; simpa using this
  have h2 := h.2
  rcases h2 with ⟨rfl, rfl⟩ | ⟨g, cap, cur, rfl, hg, hh, hn, hcap, hsz, htake⟩
  · have : xs = [] := List.eq_nil_of_length_eq_zero hlen
    subst this
    exact ⟨none, 0, rfl, Sl.nil w⟩
  · refine ⟨_, cap, rfl, hlen, hn, hcap, fun hl => ⟨g, 0, rfl, (Array.getElem?_eq_some_iff.1 hh).1, fun j hj => ?_⟩⟩
    have hu : (xs.map (Value.int .i64))[j]? = some (.int .i64 (xs[j]?.getD 0)) := by
      rw [List.getElem?_map, List.getElem?_eq_getElem (by omega)]
      rfl
    have := h.cells (g := g) rfl j _ hu
    have hadd : (⟨g, 0, none⟩ : Addr).add j = ⟨g, 0 + j, none⟩ := by
      unfold Addr.add
      split <;> simp_all
    rw [hadd] at this
    exact this

/-- A slice of truth values reads as a list. -/
structure Bl (w : World) (a : Option Addr) (len cap : Nat) (xs : List Bool) : Prop where
  hlen : xs.length = len
  hcap : len ≤ cap
  hmax : cap ≤ maxLen
  hat : 0 < len → ∃ b off, a = some ⟨b, off, none⟩ ∧ b < w.heap.size ∧ ∀ j, j < len → w.cell? ⟨b, off + j, none⟩ = some (.bool (xs[j]?.getD false))

theorem Bl.below {w w' : World} {a : Option Addr} {len cap : Nat} {xs : List Bool} (h : Bl w a len cap xs) (hb : Below w.heap.size w w') : Bl w' a len cap xs :=
  ⟨h.hlen, h.hcap, h.hmax, fun hl => by
    obtain ⟨b, off, e, hlt, hc⟩ := h.hat hl
    exact ⟨b, off, e, Nat.lt_of_lt_of_le hlt hb.size, fun j hj => (hb.cell (p := ⟨b, off + j, none⟩) hlt).trans (hc j hj)⟩⟩

section opening
variable {H : Type} {enc : TypeId × Value → H} {P : Program} {W : World} {held : Bool}

/-- AN ARGUMENT OF NUMBERS, OPENED. -/
theorem open_sl {t e : TypeId} {a : Option Addr} {len cap : Nat} {d : DataW H} {ps : List MemPlace} (ht : P.underlying t = some (.slice e)) (he : P.underlying e = some (.int .i64)) (hc : P.cellsOf e = 1)
    (h : DataW.Trod enc P W 0 (fun _ => true) held t (.slice a len cap) d ps) :
    ∃ xs, Sl W a len cap xs ∧ (∀ n ∈ xs, I64 n) ∧ ((d = .nil ∧ len = 0) ∨ ∃ el sp : List (DataW H), d = .slice el sp ∧ el.length = len ∧ sp.length = cap - len) := by
  obtain ⟨fuel, hf⟩ := h
  rcases open_ints ht he hc hf with ⟨hcs, hx⟩ | ⟨x, l, c, zs, hcs, _, hl, hm, hz, hx, hcell, hwz⟩
  · simp [Value.cells] at hcs
    obtain ⟨rfl, rfl, rfl⟩ := hcs
    simp only [Prod.mk.injEq] at hx
    exact ⟨[], Sl.nil W, by simp, .inl ⟨hx.1, rfl⟩⟩
  · simp [Value.cells] at hcs
    obtain ⟨rfl, rfl, rfl⟩ := hcs
    simp only [Prod.mk.injEq] at hx
    simp only [if_true] at hz
    have hlen : (zs.take len).length = len := by rw [List.length_take]; omega
    refine ⟨zs.take len, ⟨hlen, hl, hm, fun h0 => ?_⟩, fun n hn => i64_of_wf (hwz n (List.mem_of_mem_take hn)), .inr ⟨_, _, hx.1, by simp only [lits, List.length_map]; exact hlen, by simp only [lits, List.length_map, List.length_drop]; omega⟩⟩
    have h00 := hcell 0 (by omega)
    obtain ⟨b, off, spot⟩ := x
    have hspot : spot = none := by simpa [Addr.add] using World.cell?_spot h00
    subst hspot
    refine ⟨b, off, rfl, by simpa [Addr.add] using World.block_lt_of_cell? W _ h00, fun j hj => ?_⟩
    have := hcell j (by omega)
    have hadd : (⟨b, off, none⟩ : Addr).add j = ⟨b, off + j, none⟩ := by
      unfold Addr.add
      split <;> simp_all
    rw [hadd] at this
    rw [this, List.getElem?_take, if_pos hj]
    simp [List.getD]

/-- AN ARGUMENT OF TRUTH VALUES, OPENED. -/
theorem open_bl {t e : TypeId} {a : Option Addr} {len cap : Nat} {d : DataW H} {ps : List MemPlace} (ht : P.underlying t = some (.slice e)) (he : P.underlying e = some .bool) (hc : P.cellsOf e = 1)
    (h : DataW.Trod enc P W 0 (fun _ => true) held t (.slice a len cap) d ps) :
    ∃ xs, Bl W a len cap xs ∧ ((d = .nil ∧ len = 0) ∨ ∃ el sp : List (DataW H), d = .slice el sp ∧ el.length = len ∧ sp.length = cap - len) := by
  obtain ⟨fuel, hf⟩ := h
  rcases open_slice1 ht hc hf with ⟨hcs, hx⟩ | ⟨x, l, c, m, n, V, D, Pl, hcs, _, hl, hm, hmm, hx, hcell⟩
  · simp [Value.cells] at hcs
    obtain ⟨rfl, rfl, rfl⟩ := hcs
    simp only [Prod.mk.injEq] at hx
    exact ⟨[], ⟨rfl, Nat.le_refl _, Nat.zero_le _, fun h => absurd h (Nat.lt_irrefl _)⟩, .inl ⟨hx.1, rfl⟩⟩
  · simp [Value.cells] at hcs
    obtain ⟨rfl, rfl, rfl⟩ := hcs
    simp only [Prod.mk.injEq] at hx
    simp only [if_true] at hmm
    have hB : ∀ i, i < m → ∃ b : Bool, V i = .bool b := fun i hi => by
      obtain ⟨b, hb, _⟩ := DataW.trod_bool he (hcell i hi).2
      simp at hb
      exact ⟨b, hb⟩
    let bs : List Bool := (List.range len).map fun i => match V i with | .bool b => b | _ => false
    have hlen : bs.length = len := by simp [bs]
    refine ⟨bs, ⟨hlen, hl, hm, fun h0 => ?_⟩, .inr ⟨_, _, hx.1, by simp, by simp; omega⟩⟩
    have h00 := (hcell 0 (by omega)).1
    obtain ⟨b, off, spot⟩ := x
    have hspot : spot = none := by simpa [Addr.add] using World.cell?_spot h00
    subst hspot
    refine ⟨b, off, rfl, by simpa [Addr.add] using World.block_lt_of_cell? W _ h00, fun j hj => ?_⟩
    have := (hcell j (by omega)).1
    have hadd : (⟨b, off, none⟩ : Addr).add j = ⟨b, off + j, none⟩ := by
      unfold Addr.add
      split <;> simp_all
    rw [hadd] at this
    obtain ⟨b', hb'⟩ := hB j (by omega)
    rw [this]
    simp [bs, hj, hb']

/-- THE ROW's OWN REACH. -/
theorem reach_sl {ts : List TypeId} {ds : List (DataW H)} (h : (DataW.weightsEach P ts ds).all (· ≤ reachBytes) = true) {j len cap : Nat} {t e : TypeId} {d : DataW H} (hl : len ≤ cap) (ht : ts[j]? = some t) (hd : ds[j]? = some d) (hu : P.underlying t = some (.slice e)) (hb : P.bytesOf e = 8)
    (hs : (d = .nil ∧ len = 0) ∨ ∃ el sp : List (DataW H), d = .slice el sp ∧ el.length = len ∧ sp.length = cap - len) : len ≤ 17592186043904 := by
  rcases hs with ⟨_, rfl⟩ | ⟨el, sp, rfl, h1, h2⟩
  · omega
  · have := sized_slice h ht hd hu
    rw [hb, h1, h2] at this
    simp only [reachBytes] at this
    omega
end opening

/-! ### What the bound on bulk gives. -/
theorem bulk_one {H : Type} (d : DataW H) : 1 ≤ Rows.uptoBulk d := by
  cases d with
  | lit l => cases l <;> simp [Rows.uptoBulk]
  | nil => simp [Rows.uptoBulk]
  | ptr d => simp [Rows.uptoBulk]
  | slice elems spare => simp [Rows.uptoBulk]
  | agg parts => simp [Rows.uptoBulk]
  | iface t d => simp [Rows.uptoBulk]
  | map entries => simp [Rows.uptoBulk]
  | held h => simp [Rows.uptoBulk]
theorem bulk_length {H : Type} (l : List (DataW H)) : l.length ≤ Rows.uptoBulkAll l := by
  induction l with
  | nil => simp [Rows.uptoBulkAll]
  | cons x r ih => have := bulk_one x; simp only [Rows.uptoBulkAll, List.length_cons]; omega
theorem bulk_sl {H : Type} {len cap : Nat} {d : DataW H} (hs : (d = .nil ∧ len = 0) ∨ ∃ el sp : List (DataW H), d = .slice el sp ∧ el.length = len ∧ sp.length = cap - len) : len ≤ Rows.uptoBulk d := by
  rcases hs with ⟨_, rfl⟩ | ⟨el, sp, rfl, h1, h2⟩
  · omega
  · have := bulk_length el
    simp only [Rows.uptoBulk]
    omega
theorem bulk_bound {H : Type} {l : List (DataW H)} (hk : Rows.uptoSmall H l = true) : Rows.uptoBulkAll l ≤ 1048576 := of_decide_eq_true hk
theorem bulk_append {H : Type} (l r : List (DataW H)) : Rows.uptoBulkAll (l ++ r) = Rows.uptoBulkAll l + Rows.uptoBulkAll r := by
  induction l with
  | nil => simp [Rows.uptoBulkAll]
  | cons x l ih => simp only [List.cons_append, Rows.uptoBulkAll, ih]; omega

/-! ### Closed facts of the program. -/
theorem Try.own : ownKnob Try.prog.godebug = none := by kernel_rfl
theorem Try.laidOut : laidOutB Try.prog = true := by kernel_rfl
theorem Try.cellsInt : Try.prog.cellsOf 3 = 1 := by kernel_rfl
theorem Try.bytesInt : Try.prog.bytesOf 3 = 8 := by kernel_rfl
theorem Try.cellsBool : Try.prog.cellsOf 4 = 1 := by kernel_rfl
theorem Try.infoInt : (Try.prog.info? 3).map (fun i => (i.zero, i.size, i.bytes)) = some (some (.int .i64 0), 1, 8) := by kernel_rfl
end Go.Proofs.Ytllbjgdbnghjkaa
