/-
  A row of ints of one's own whose first ones have been cut off: it may be appended to, and cut again. Conditions: the model's bounds on a slice.
-/
import Derived.Test.YthjghbifcnfcmaaWords
import Derived.Test.YthjghbifcnfcmaaSame
namespace Go.Proofs.Ythjghbifcnfcmaa
open Go.RowKit Go.Deep
set_option linter.unusedVariables false
/-- Such a row: it lies somewhere in a block of ints that lies not below the base. -/
def Tl (w : World) (base : Nat) (v : Value) (n : Nat) (xs : List Int) : Prop :=
  xs.length = n ∧ ((v = .slice none 0 0 ∧ n = 0) ∨
   ∃ g off cap cur, v = .slice (some ⟨g, off, none⟩) n cap ∧ base ≤ g ∧ w.heap[g]? = some (.cells cur 3 (0, 0)) ∧ n ≤ cap ∧ cap ≤ maxLen ∧ off + cap ≤ cur.size ∧ (cur.toList.drop off).take n = xs.map (Value.int .i64))
theorem Tl.nil (w : World) (base : Nat) : Tl w base (.slice none 0 0) 0 [] := ⟨rfl, .inl ⟨rfl, rfl⟩⟩
theorem Tl.of_own {w : World} {base n : Nat} {v : Value} {xs : List Int} (h : w.ownsRow base 3 1 v n (xs.map (Value.int .i64))) : Tl w base v n xs := by
  refine ⟨by have := h.1; simpa using this, ?_⟩
  rcases h.2 with h0 | ⟨g, cap, cur, e, hb, hg, hn, hc, hs, ht⟩
  · exact .inl h0
  · exact .inr ⟨g, 0, cap, cur, e, hb, hg, hn, hc, by omega, by simpa using ht⟩
theorem Tl.keep {w w' : World} {base n : Nat} {v : Value} {xs : List Int} (h : Tl w base v n xs) (hk : KeepT 3 w w') : Tl w' base v n xs := by
  refine ⟨h.1, ?_⟩
  rcases h.2 with h0 | ⟨g, off, cap, cur, e, hb, hg, r⟩
  · exact .inl h0
  · exact .inr ⟨g, off, cap, cur, e, hb, hk _ _ hg, r⟩
theorem Tl.below {w w' : World} {base n : Nat} {v : Value} {xs : List Int} (h : Tl w base v n xs) (hb : Below w.heap.size w w') : Tl w' base v n xs := h.keep (.of_below hb)
theorem Tl.alloc {w : World} {base n : Nat} {v : Value} {xs : List Int} (h : Tl w base v n xs) (o : Obj) : Tl (w.alloc o) base v n xs := h.below ((Below.refl _ _).alloc (Nat.le_refl _) _)
theorem tl_at {g off n : Nat} {cur : Array Value} {xs : List Int} (hl : xs.length = n) (ht : (cur.toList.drop off).take n = xs.map (Value.int .i64)) (j : Nat) (hj : j < n) : cur[off + j]? = some (.int .i64 (xs[j]?.getD 0)) := by
  have h1 := congrArg (fun l => l[j]?) ht
  simp only [List.getElem?_map] at h1
  rw [List.getElem?_take, if_pos hj, List.getElem?_drop, List.getElem?_eq_getElem (by omega : j < xs.length)] at h1
  rw [List.getElem?_eq_getElem (by omega : j < xs.length)]
  simpa using h1
theorem Tl.sl {w : World} {base n : Nat} {v : Value} {xs : List Int} (h : Tl w base v n xs) : ∃ a c, v = .slice a n c ∧ Sl w a n c xs := by
  obtain ⟨hl, h0 | ⟨g, off, cap, cur, e, hb, hg, hn, hc, hs, ht⟩⟩ := h
  · obtain ⟨rfl, rfl⟩ := h0
    obtain rfl := List.eq_nil_of_length_eq_zero hl
    exact ⟨none, 0, rfl, Sl.nil _⟩
  · refine ⟨_, cap, e, ⟨hl, hn, hc, fun _ => ⟨g, off, rfl, (blk hg).2.2, fun j hj => ?_⟩⟩⟩
    rw [(blk hg).1]
    exact tl_at (g := g) hl ht j hj
theorem Tl.block {w : World} {base n : Nat} {v : Value} {xs : List Int} (h : Tl w base v n xs) : ∀ k, v.ownBlock = some k → base ≤ k ∧ ∃ cur, w.heap[k]? = some (.cells cur 3 (0, 0)) := by
  intro k hk
  rcases h.2 with ⟨rfl, _⟩ | ⟨g, off, cap, cur, rfl, hb, hg, _⟩
  · simp [Value.ownBlock] at hk
  · simp only [Value.ownBlock, Option.some.injEq] at hk
    subst hk
    exact ⟨hb, cur, hg⟩
/-- Whatever lies in blocks of another type stays. -/
theorem Tl.grown_keep {w w' : World} {base n : Nat} {v : Value} {xs : List Int} (h : Tl w base v n xs) (hg : w.grownBy w' v.ownBlock) (T : TypeId) (hT : 3 ≠ T) : KeepT T w w' := by
  intro k c hk
  refine (hg.block k (Array.getElem?_eq_some_iff.1 hk).1 fun e => ?_).trans hk
  obtain ⟨_, cur, hc⟩ := h.block k e.symm
  rw [hk] at hc
  injection hc with hc
  injection hc with _ hc
  exact hT hc.symm
theorem Tl.grown_below {B base : Nat} {a w w' : World} {n : Nat} {v : Value} {xs : List Int} (hb : Below B a w) (h : Tl w base v n xs) (hg : w.grownBy w' v.ownBlock) (hB : B ≤ base) (hs : B ≤ w.heap.size) : Below B a w' := by
  refine ⟨hg.os.trans hb.os, hg.tape.trans hb.tape, hg.output.trans hb.output, Nat.le_trans hb.size hg.size, fun k hk => ?_⟩
  refine (hg.block k (by omega) fun e => ?_).trans (hb.block k hk)
  have := (h.block k e.symm).1
  omega
theorem Tl.rest {w : World} {base n c : Nat} {a : Option Addr} {x : Int} {xs : List Int} (h : Tl w base (.slice a n c) n (x :: xs)) : Tl w base (.slice (cutAt a c 1) (n - 1) (c - 1)) (n - 1) xs := by
  obtain ⟨hl, h0 | ⟨g, off, cap, cur, e, hb, hg, hn, hc, hs, ht⟩⟩ := h
  · obtain ⟨_, rfl⟩ := h0
    simp at hl
  · cases e
    simp only [List.length_cons] at hl
    refine ⟨by omega, .inr ?_⟩
    by_cases h1 : c = 1
    · subst h1
      have : n = 1 := by omega
      subst this
      obtain rfl := List.eq_nil_of_length_eq_zero (by omega : xs.length = 0)
      exact ⟨g, off, 0, cur, by simp [cutAt], hb, hg, by omega, by omega, by omega, by simp⟩
    · refine ⟨g, off + 1, c - 1, cur, by simp [cutAt, h1, Addr.add], hb, hg, by omega, by omega, by omega, ?_⟩
      have h2 := congrArg List.tail ht
      rw [List.map_cons, List.tail_cons] at h2
      rw [← h2, ← List.drop_one, List.drop_take, List.drop_drop]
section
variable {P : Program} (w : World)
theorem run_append_room_at (t ty e : TypeId) (i : TypeInfo) (ht : P.underlying t = some (.slice e)) (hi : P.info? e = some i)
    (g off sLen sCap : Nat) (cur : Array Value) (hg : w.heap[g]? = some (.cells cur e (0, 0)))
    (a : Addr) (m c : Nat) (news : List Value) (hl : news.length = m * i.size) (hnews : ∀ j u, news[j]? = some u → w.cell? (a.add j) = some u) (h1 : ∀ u ∈ news, u.oneCell' = true)
    (hroom : sLen + m ≤ sCap) (hfit : off + sLen * i.size + news.length ≤ cur.size) :
    (Builtin.append_ #[t, t] ty #[.slice (some ⟨g, off, none⟩) sLen sCap, .slice (some a) m c]).run P w =
      .ok (.slice (some ⟨g, off, none⟩) (sLen + m) sCap) (w.setRow g (cur.toList.take (off + sLen * i.size) ++ news ++ cur.toList.drop (off + sLen * i.size + news.length)).toArray) := by
  have hf := run_firstCells_some (P := P) w i.size m a m c news hl hnews
  have hst := run_storeCells_at P g (off + sLen * i.size) e news 0 cur w hg (by simpa using hfit) h1
  simp only [Nat.add_zero] at hst
  simp [Builtin.append_, run_underlying ht, sizeOf, typeInfo, hi, Builtin.lenOf, hroom, hf, Addr.add_lit, hst]
theorem run_append_tail (base : Nat) (t ty : TypeId) (i : TypeInfo) (ht : P.underlying t = some (.slice 3)) (hi : P.info? 3 = some i) (hz : i.zero = some (.int .i64 0))
    (hsize : i.size = 1) (hby : i.bytes = 8)
    (v : Value) (n : Nat) (xs : List Int) (hown : Tl w base v n xs)
    (a : Addr) (c : Nat) (x : Int) (hx : w.cell? a = some (.int .i64 x))
    (h63 : n + 1 ≤ maxLen) (hbytes : (n + 1) * 8 ≤ 140737488355328) (hbase : base ≤ w.heap.size) :
    ∃ v' w', (Builtin.append_ #[t, t] ty #[v, .slice (some a) 1 c]).run P w = .ok v' w' ∧ Tl w' base v' (n + 1) (xs ++ [x]) ∧ w.grownBy w' v.ownBlock := by
  have hcell : ∀ j u, [Value.int .i64 x][j]? = some u → w.cell? (a.add j) = some u := by
    intro j u hu
    cases j with
    | zero =>
      have e : a.add 0 = a := by unfold Addr.add; split <;> simp_all
      simp only [List.getElem?_cons_zero, Option.some.injEq] at hu
      rw [e, ← hu]
      exact hx
    | succ j => simp at hu
  have hone : ∀ u ∈ [Value.int .i64 x], u.oneCell' = true := by
    intro u hu
    rw [List.mem_singleton] at hu
    subst hu
    rfl
  obtain ⟨hl, h0 | ⟨g, off, cap, cur, rfl, hb, hg, hn, hc, hs, htk⟩⟩ := hown
  · obtain ⟨rfl, rfl⟩ := h0
    obtain rfl := List.eq_nil_of_length_eq_zero hl
    obtain ⟨v', w', h1, h2, h3, _⟩ := run_append_own (P := P) w base t ty 3 i (.int .i64 0) 1 8 ht hi hz hsize hby rfl (by decide) (.slice none 0 0) 0 [] (World.ownsRow_nil _ _ _ _) a 1 c [.int .i64 x] rfl hcell hone h63 hbytes hbase
    exact ⟨v', w', h1, .of_own h2, h3⟩
  · by_cases hroom : n + 1 ≤ cap
    · have hfit : off + n * i.size + [Value.int .i64 x].length ≤ cur.size := by rw [hsize]; simp only [List.length_cons, List.length_nil]; omega
      have hr := run_append_room_at (P := P) w t ty 3 i ht hi g off n cap cur hg a 1 c [.int .i64 x] (by rw [hsize]; rfl) hcell hone hroom hfit
      refine ⟨_, _, hr, ⟨by simp [hl], .inr ⟨g, off, cap, _, rfl, hb, setRow_heap w g cur _ 3 _ hg, hroom, hc, ?_, ?_⟩⟩, ⟨rfl, rfl, rfl, by simp, fun k _ hk => setRow_other w g k _ (fun e => hk (by simp [Value.ownBlock, e]))⟩⟩
      · simp only [List.size_toArray, List.length_append, List.length_take, List.length_drop, Array.length_toList, List.length_cons, List.length_nil, hsize]
        omega
      · rw [hsize]
        simp only [Nat.mul_one, List.length_cons, List.length_nil, Nat.zero_add]
        rw [List.append_assoc, List.drop_append_of_le_length (by simp only [List.length_take, Array.length_toList]; omega), List.drop_take, Nat.add_sub_cancel_left]
        rw [htk, List.map_append, ← List.append_assoc, List.take_left' (by simp [hl])]
        rfl
    · have holds : ∀ j u, (xs.map (Value.int .i64))[j]? = some u → w.cell? ((⟨g, off, none⟩ : Addr).add j) = some u := by
        intro j u hu
        have hj : j < n := by have := (List.getElem?_eq_some_iff.1 hu).1; simpa [hl] using this
        rw [Addr.add_lit, (blk hg).1, tl_at (g := g) hl htk j hj]
        rw [List.getElem?_map, List.getElem?_eq_getElem (by omega : j < xs.length)] at hu
        rw [List.getElem?_eq_getElem (by omega : j < xs.length)]
        exact hu
      have hr := run_append_grow (P := P) w t ty 3 i (.int .i64 0) ht hi hz ⟨g, off, none⟩ n cap (xs.map (Value.int .i64)) (by simp [hl, hsize]) holds a 1 c [.int .i64 x] (by rw [hsize]; rfl) hcell (by omega) (by simp only [maxLen] at h63; omega) (growslice_fits (by omega) (by rw [hby]; exact hbytes))
      have hge := grownCap_ge w (n + 1) cap 3
      have hcm : grownCap w (n + 1) cap 3 ≤ maxLen := grownCap_le_maxLen w (n + 1) cap 3 h63
      refine ⟨_, _, hr, ⟨by simp [hl], .inr ⟨w.heap.size, 0, _, _, rfl, hbase, heap_alloc_new w.drew _, hge, hcm, ?_, ?_⟩⟩, ⟨rfl, rfl, rfl, by simp, fun k hk _ => Below.heap_alloc w.drew _ k hk⟩⟩
      · simp only [Array.size_append, List.size_toArray, size_zeroCells, List.length_map, hl, List.length_cons, List.length_nil]
        have : (Value.int IntKind.i64 0).cells.size = 1 := rfl
        rw [this]
        omega
      · simp only [Array.toList_append, List.drop_zero]
        rw [List.map_append, List.take_left' (by simp [hl])]
        rfl
theorem wpList_append_tail {ops : Array Oper} {rest : List Oper} {o : Oper} {a : Act} {Q : Exit → Act → World → Prop} (hgd : o.guard = none) (s x : Operand) (t : TypeId)
    (ho : o.op = .call { callee := .builtin .append, args := #[s, x], argTypes := #[t, t] })
    (base : Nat) (i : TypeInfo) (ht : P.underlying t = some (.slice 3)) (hi : P.info? 3 = some i) (hz : i.zero = some (.int .i64 0))
    (hsize : i.size = 1) (hby : i.bytes = 8)
    (v : Value) (n : Nat) (xs : List Int) (hs : a.eval s = v) (hown : Tl w base v n xs)
    (ad : Addr) (c : Nat) (y : Int) (hx : a.eval x = .slice (some ad) 1 c) (hy : w.cell? ad = some (.int .i64 y))
    (h63 : n + 1 ≤ maxLen) (hbytes : (n + 1) * 8 ≤ 140737488355328) (hbase : base ≤ w.heap.size)
    (h : ∀ v' w', Tl w' base v' (n + 1) (xs ++ [y]) → w.grownBy w' v.ownBlock → wpList P ops Q rest (a.put o.dst v') w') : wpList P ops Q (o :: rest) a w :=
  wpList_plain hgd fun _ hK => by
    obtain ⟨v', w', hr, h2, h3⟩ := run_append_tail (P := P) w base t o.type i ht hi hz hsize hby v n xs hown ad c y hy h63 hbytes hbase
    unfold Oper.wp execOp
    simp only [ho, resolve, invoke, builtin, Sem.run_bind, Sem.run_pure, Result.andThen_ok, List.map_toArray, List.map_cons, List.map_nil, hs, hx, hr]
    exact hK _ _ (h v' w' h2 h3)
end
end Go.Proofs.Ythjghbifcnfcmaa
