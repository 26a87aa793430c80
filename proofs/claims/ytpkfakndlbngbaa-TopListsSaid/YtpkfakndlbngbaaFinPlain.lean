/-
  Finger trees whose things are of three each, as plain trees: a thing ahead, behind; the first one, the last one; cut at a place. Conditions: none.
-/
import Derived.Test.YtpkfakndlbngbaaBase
namespace Go.Proofs.Ytpkfakndlbngbaa
set_option linter.unusedVariables false
namespace FG
/-- A thing: a number, or three things of the level ahead. -/
inductive Th where
  | leaf (x : Int)
  | node (a b c : Th)
namespace Th
def toL : Th → List Int
  | leaf x => [x]
  | node a b c => a.toL ++ (b.toL ++ c.toL)
def size : Th → Nat
  | leaf _ => 1
  | node a b c => a.size + (b.size + c.size)
/-- A thing of so many levels. -/
def Dp : Th → Nat → Prop
  | leaf _, n => n = 0
  | node a b c, n => ∃ k, n = k + 1 ∧ a.Dp k ∧ b.Dp k ∧ c.Dp k
def kids : Th → List Th
  | leaf _ => []
  | node a b c => [a, b, c]
def val : Th → Int
  | leaf x => x
  | node _ _ _ => 0
theorem len (t : Th) : t.toL.length = t.size := by
  induction t with
  | leaf x => rfl
  | node a b c ha hb hc => simp only [toL, size, List.length_append, ha, hb, hc]
theorem pos (t : Th) : 0 < t.size := by
  induction t with
  | leaf x => exact Nat.one_pos
  | node a b c ha hb hc => simp only [size]; omega
theorem Dp.open {t : Th} {n : Nat} (h : t.Dp (n + 1)) : ∃ a b c, t = node a b c ∧ a.Dp n ∧ b.Dp n ∧ c.Dp n := by
  cases t with
  | leaf x => exact absurd h (by simp [Dp])
  | node a b c =>
    obtain ⟨k, e, h1, h2, h3⟩ := h
    obtain rfl : n = k := by omega
    exact ⟨a, b, c, rfl, h1, h2, h3⟩
theorem Dp.zero {t : Th} (h : t.Dp 0) : ∃ x, t = leaf x := by
  cases t with
  | leaf x => exact ⟨x, rfl⟩
  | node a b c => obtain ⟨k, e, _⟩ := h; omega
end Th
def tsL : List Th → List Int
  | [] => []
  | t :: r => t.toL ++ tsL r
def tsN : List Th → Nat
  | [] => 0
  | t :: r => t.size + tsN r
theorem tsL_append (a b : List Th) : tsL (a ++ b) = tsL a ++ tsL b := by
  induction a with
  | nil => rfl
  | cons t a ih => simp only [List.cons_append, tsL, ih, List.append_assoc]
theorem tsN_append (a b : List Th) : tsN (a ++ b) = tsN a + tsN b := by
  induction a with
  | nil => simp [tsN]
  | cons t a ih => simp only [List.cons_append, tsN, ih]; omega
theorem tsL_len (l : List Th) : (tsL l).length = tsN l := by
  induction l with
  | nil => rfl
  | cons t l ih => simp only [tsL, tsN, List.length_append, ih, t.len]
def All (n : Nat) (l : List Th) : Prop := ∀ t ∈ l, t.Dp n
theorem All.nil (n : Nat) : All n [] := fun _ h => absurd h (by simp)
theorem All.cons {n : Nat} {t : Th} {l : List Th} (h : t.Dp n) (k : All n l) : All n (t :: l) := fun x hx => by
  rcases List.mem_cons.1 hx with rfl | hx
  · exact h
  · exact k x hx
theorem All.append {n : Nat} {l m : List Th} (h : All n l) (k : All n m) : All n (l ++ m) := fun x hx => by
  rcases List.mem_append.1 hx with hx | hx
  · exact h x hx
  · exact k x hx
theorem All.tail {n : Nat} {t : Th} {l : List Th} (h : All n (t :: l)) : All n l := fun x hx => h x (List.mem_cons_of_mem _ hx)
theorem All.head {n : Nat} {t : Th} {l : List Th} (h : All n (t :: l)) : t.Dp n := h t (List.mem_cons_self ..)
theorem All.take {n : Nat} {l : List Th} (h : All n l) (k : Nat) : All n (l.take k) := fun x hx => h x (List.mem_of_mem_take hx)
theorem All.drop {n : Nat} {l : List Th} (h : All n l) (k : Nat) : All n (l.drop k) := fun x hx => h x (List.mem_of_mem_drop hx)
theorem all_kids {n : Nat} {t : Th} (h : t.Dp (n + 1)) : All n t.kids ∧ t.kids.length = 3 ∧ tsL t.kids = t.toL ∧ tsN t.kids = t.size := by
  obtain ⟨a, b, c, rfl, h1, h2, h3⟩ := h.open
  exact ⟨All.cons h1 (All.cons h2 (All.cons h3 (All.nil _))), rfl, by simp [Th.kids, tsL, Th.toL], by simp [Th.kids, tsN, Th.size]⟩

/-- A level: nothing, one thing alone, or both digits and what is between. -/
inductive Lv where
  | nil
  | one (t : Th)
  | deep (l : List Th) (m : Lv) (r : List Th)
namespace Lv
def toL : Lv → List Int
  | nil => []
  | one t => t.toL
  | deep l m r => tsL l ++ (m.toL ++ tsL r)
def size : Lv → Nat
  | nil => 0
  | one t => t.size
  | deep l m r => tsN l + (m.size + tsN r)
def Dig (n : Nat) (l : List Th) : Prop := 1 ≤ l.length ∧ l.length ≤ 4 ∧ All n l
def Ok : Lv → Nat → Prop
  | nil, _ => True
  | one t, n => t.Dp n
  | deep l m r, n => Dig n l ∧ m.Ok (n + 1) ∧ Dig n r
theorem len (v : Lv) : v.toL.length = v.size := by
  induction v with
  | nil => rfl
  | one t => exact t.len
  | deep l m r ih => simp only [toL, size, List.length_append, ih, tsL_len]
theorem size_nil {v : Lv} {n : Nat} (h : v.Ok n) (e : v.size = 0) : v = nil := by
  cases v with
  | nil => rfl
  | one t => have := t.pos; simp only [size] at e; omega
  | deep l m r =>
    obtain ⟨⟨h1, _, _⟩, _⟩ := h
    cases l with
    | nil => simp at h1
    | cons t l => have := t.pos; simp only [size, tsN] at e; omega
/-- A thing ahead. -/
def pushL (t : Th) : Lv → Lv
  | nil => one t
  | one s => deep [t] nil [s]
  | deep [a, b, c, d] m r => deep [t, a] (pushL (.node b c d) m) r
  | deep l m r => deep (t :: l) m r
/-- A thing behind. -/
def pushR (t : Th) : Lv → Lv
  | nil => one t
  | one s => deep [s] nil [t]
  | deep l m [a, b, c, d] => deep l (pushR (.node a b c) m) [d, t]
  | deep l m r => deep l m (r ++ [t])
theorem pushL_few (t : Th) (l : List Th) (m : Lv) (r : List Th) (h : l.length < 4) : pushL t (deep l m r) = deep (t :: l) m r := by
  match l, h with
  | [], _ => rw [pushL]; intro a b c d h; cases h
  | [a], _ => rw [pushL]; intro a b c d h; cases h
  | [a, b], _ => rw [pushL]; intro a b c d h; cases h
  | [a, b, c], _ => rw [pushL]; intro a b c d h; cases h
  | _ :: _ :: _ :: _ :: _, h => simp at h; omega
theorem pushR_few (t : Th) (l : List Th) (m : Lv) (r : List Th) (h : r.length < 4) : pushR t (deep l m r) = deep l m (r ++ [t]) := by
  match r, h with
  | [], _ => rw [pushR]; intro a b c d h; cases h
  | [a], _ => rw [pushR]; intro a b c d h; cases h
  | [a, b], _ => rw [pushR]; intro a b c d h; cases h
  | [a, b, c], _ => rw [pushR]; intro a b c d h; cases h
  | _ :: _ :: _ :: _ :: _, h => simp at h; omega
theorem four {l : List Th} (h : l.length = 4) : ∃ a b c d, l = [a, b, c, d] := by
  match l, h with
  | [a, b, c, d], _ => exact ⟨a, b, c, d, rfl⟩
theorem pushL_ok (v : Lv) : ∀ (t : Th) (n : Nat), v.Ok n → t.Dp n → (pushL t v).Ok n ∧ (pushL t v).toL = t.toL ++ v.toL := by
  induction v with
  | nil => intro t n _ ht; exact ⟨ht, by simp [pushL, toL]⟩
  | one s => intro t n hv ht; exact ⟨⟨⟨by simp, by simp, All.cons ht (All.nil _)⟩, trivial, ⟨by simp, by simp, All.cons hv (All.nil _)⟩⟩, by simp [pushL, toL, tsL]⟩
  | deep l m r ih =>
    intro t n hv ht
    obtain ⟨⟨h1, h2, h3⟩, h4, h5⟩ := hv
    by_cases h : l.length < 4
    · rw [pushL_few _ _ _ _ h]
      exact ⟨⟨⟨by simp, by simp; omega, All.cons ht h3⟩, h4, h5⟩, by simp [toL, tsL]⟩
    · obtain ⟨a, b, c, d, rfl⟩ := four (l := l) (by omega)
      obtain ⟨k1, k2⟩ := ih (.node b c d) (n + 1) h4 ⟨n, rfl, h3 _ (by simp), h3 _ (by simp), h3 _ (by simp)⟩
      rw [pushL]
      exact ⟨⟨⟨by simp, by simp, All.cons ht (All.cons h3.head (All.nil _))⟩, k1, h5⟩, by simp [toL, tsL, k2, Th.toL]⟩
theorem pushR_ok (v : Lv) : ∀ (t : Th) (n : Nat), v.Ok n → t.Dp n → (pushR t v).Ok n ∧ (pushR t v).toL = v.toL ++ t.toL := by
  induction v with
  | nil => intro t n _ ht; exact ⟨ht, by simp [pushR, toL]⟩
  | one s => intro t n hv ht; exact ⟨⟨⟨by simp, by simp, All.cons hv (All.nil _)⟩, trivial, ⟨by simp, by simp, All.cons ht (All.nil _)⟩⟩, by simp [pushR, toL, tsL]⟩
  | deep l m r ih =>
    intro t n hv ht
    obtain ⟨h5, h4, ⟨h1, h2, h3⟩⟩ := hv
    by_cases h : r.length < 4
    · rw [pushR_few _ _ _ _ h]
      exact ⟨⟨h5, h4, ⟨by simp, by simp; omega, All.append h3 (All.cons ht (All.nil _))⟩⟩, by simp [toL, tsL, tsL_append]⟩
    · obtain ⟨a, b, c, d, rfl⟩ := four (l := r) (by omega)
      obtain ⟨k1, k2⟩ := ih (.node a b c) (n + 1) h4 ⟨n, rfl, h3 _ (by simp), h3 _ (by simp), h3 _ (by simp)⟩
      rw [pushR]
      exact ⟨⟨h5, k1, ⟨by simp, by simp, All.cons (h3 _ (by simp)) (All.cons ht (All.nil _))⟩⟩, by simp [toL, tsL, k2, Th.toL]⟩
/-- Some things as a level. -/
def someL (l : List Th) : Lv := l.foldl (fun v t => pushR t v) nil
theorem some_from (l : List Th) : ∀ (v : Lv) (n : Nat), v.Ok n → All n l → (l.foldl (fun v t => pushR t v) v).Ok n ∧ (l.foldl (fun v t => pushR t v) v).toL = v.toL ++ tsL l := by
  induction l with
  | nil => intro v n h _; exact ⟨h, by simp [tsL]⟩
  | cons t l ih =>
    intro v n h hl
    obtain ⟨h1, h2⟩ := pushR_ok v t n h hl.head
    obtain ⟨k1, k2⟩ := ih (pushR t v) n h1 hl.tail
    exact ⟨k1, by rw [List.foldl_cons, k2, h2, tsL, List.append_assoc]⟩
theorem some_ok {l : List Th} {n : Nat} (h : All n l) : (someL l).Ok n ∧ (someL l).toL = tsL l := by
  obtain ⟨h1, h2⟩ := some_from l nil n trivial h
  exact ⟨h1, by rw [someL, h2]; rfl⟩
/-- The left digit may be of nothing: what then comes, the first thing of the middle told. -/
def deepL' (p : Th × Lv) : List Th → Lv → List Th → Lv
  | x :: l, m, r => deep (x :: l) m r
  | [], nil, r => someL r
  | [], _, r => deep p.1.kids p.2 r
def popL : Lv → Th × Lv
  | nil => (.leaf 0, nil)
  | one t => (t, nil)
  | deep l m r => (l.headD (.leaf 0), deepL' (popL m) l.tail m r)
def deepL (l : List Th) (m : Lv) (r : List Th) : Lv := deepL' (popL m) l m r
def deepR' (p : Th × Lv) (l : List Th) (m : Lv) : List Th → Lv
  | x :: r => deep l m (x :: r)
  | [] => match m with
    | nil => someL l
    | _ => deep l p.2 p.1.kids
def popR : Lv → Th × Lv
  | nil => (.leaf 0, nil)
  | one t => (t, nil)
  | deep l m r => (r.getLastD (.leaf 0), deepR' (popR m) l m r.dropLast)
def deepR (l : List Th) (m : Lv) (r : List Th) : Lv := deepR' (popR m) l m r
/-- What a pop from the left is to tell. -/
def PopsL (m : Lv) (p : Th × Lv) (n : Nat) : Prop := m ≠ nil → p.1.Dp n ∧ p.2.Ok n ∧ m.toL = p.1.toL ++ p.2.toL
def PopsR (m : Lv) (p : Th × Lv) (n : Nat) : Prop := m ≠ nil → p.1.Dp n ∧ p.2.Ok n ∧ m.toL = p.2.toL ++ p.1.toL
theorem deepL_of {m : Lv} {p : Th × Lv} {n : Nat} (hp : PopsL m p (n + 1)) {l r : List Th} (hl : l.length ≤ 4) (al : All n l) (hm : m.Ok (n + 1)) (hr : Dig n r) :
    (deepL' p l m r).Ok n ∧ (deepL' p l m r).toL = tsL l ++ (m.toL ++ tsL r) := by
  cases l with
  | cons x l => exact ⟨⟨⟨by simp, hl, al⟩, hm, hr⟩, rfl⟩
  | nil =>
    by_cases e : m = nil
    · subst e
      obtain ⟨h1, h2⟩ := some_ok hr.2.2
      exact ⟨h1, by rw [deepL', h2]; simp [tsL, toL]⟩
    · obtain ⟨h1, h2, h3⟩ := hp e
      obtain ⟨k1, k2, k3, k4⟩ := all_kids h1
      have e2 : deepL' p [] m r = deep p.1.kids p.2 r := by
        cases m with
        | nil => exact absurd rfl e
        | one t => rfl
        | deep _ _ _ => rfl
      rw [e2]
      exact ⟨⟨⟨by omega, by omega, k1⟩, h2, hr⟩, by simp [toL, tsL, h3, k3]⟩
theorem deepR_of {m : Lv} {p : Th × Lv} {n : Nat} (hp : PopsR m p (n + 1)) {l r : List Th} (hr : r.length ≤ 4) (ar : All n r) (hm : m.Ok (n + 1)) (hl : Dig n l) :
    (deepR' p l m r).Ok n ∧ (deepR' p l m r).toL = tsL l ++ (m.toL ++ tsL r) := by
  cases r with
  | cons x r => exact ⟨⟨hl, hm, ⟨by simp, hr, ar⟩⟩, rfl⟩
  | nil =>
    by_cases e : m = nil
    · subst e
      obtain ⟨h1, h2⟩ := some_ok hl.2.2
      exact ⟨h1, by rw [deepR', h2]; simp [tsL, toL]⟩
    · obtain ⟨h1, h2, h3⟩ := hp e
      obtain ⟨k1, k2, k3, k4⟩ := all_kids h1
      have e2 : deepR' p l m [] = deep l p.2 p.1.kids := by
        cases m with
        | nil => exact absurd rfl e
        | one t => rfl
        | deep _ _ _ => rfl
      rw [e2]
      exact ⟨⟨hl, h2, ⟨by omega, by omega, k1⟩⟩, by simp [toL, tsL, h3, k3]⟩
theorem popL_ok (v : Lv) : ∀ n, v.Ok n → PopsL v (popL v) n := by
  induction v with
  | nil => intro n _ h; exact absurd rfl h
  | one t => intro n h _; exact ⟨h, trivial, by simp [popL, toL]⟩
  | deep l m r ih =>
    intro n h _
    obtain ⟨⟨h1, h2, h3⟩, h4, h5⟩ := h
    cases l with
    | nil => simp at h1
    | cons t l =>
      obtain ⟨k1, k2⟩ := deepL_of (ih (n + 1) h4) (l := l) (by simp at h2; omega) h3.tail h4 h5
      exact ⟨h3.head, k1, by simp only [popL, List.headD_cons, List.tail_cons]; rw [k2]; simp [toL, tsL]⟩
theorem popR_ok (v : Lv) : ∀ n, v.Ok n → PopsR v (popR v) n := by
  induction v with
  | nil => intro n _ h; exact absurd rfl h
  | one t => intro n h _; exact ⟨h, trivial, by simp [popR, toL]⟩
  | deep l m r ih =>
    intro n h _
    obtain ⟨h5, h4, ⟨h1, h2, h3⟩⟩ := h
    have hne : r ≠ [] := by rintro rfl; simp at h1
    have e := List.dropLast_concat_getLast hne
    have hd : All n r.dropLast := fun x hx => h3 x ((List.dropLast_sublist r).subset hx)
    have hg : r.getLastD (.leaf 0) = r.getLast hne := by
      rw [List.getLastD_eq_getLast?, List.getLast?_eq_some_getLast hne]; rfl
    obtain ⟨k1, k2⟩ := deepR_of (ih (n + 1) h4) (r := r.dropLast) (by simp; omega) hd h4 h5
    refine ⟨by show (r.getLastD (.leaf 0)).Dp n; rw [hg]; exact h3 _ (List.getLast_mem hne), k1, ?_⟩
    show tsL l ++ (m.toL ++ tsL r) = (deepR' (popR m) l m r.dropLast).toL ++ (r.getLastD (.leaf 0)).toL
    rw [k2, hg]
    have e3 : tsL r = tsL r.dropLast ++ (r.getLast hne).toL := by
      conv => lhs; rw [← e]
      rw [tsL_append]
      simp [tsL]
    rw [e3]
    simp
theorem deepL_ok {m : Lv} {n : Nat} {l r : List Th} (hl : l.length ≤ 4) (al : All n l) (hm : m.Ok (n + 1)) (hr : Dig n r) :
    (deepL l m r).Ok n ∧ (deepL l m r).toL = tsL l ++ (m.toL ++ tsL r) := deepL_of (popL_ok m _ hm) hl al hm hr
theorem deepR_ok {m : Lv} {n : Nat} {l r : List Th} (hr : r.length ≤ 4) (ar : All n r) (hm : m.Ok (n + 1)) (hl : Dig n l) :
    (deepR l m r).Ok n ∧ (deepR l m r).toL = tsL l ++ (m.toL ++ tsL r) := deepR_of (popR_ok m _ hm) hr ar hm hl
theorem popL_push (t : Th) (v : Lv) : (popL (pushL t v)).1 = t := by
  cases v with
  | nil => rfl
  | one s => rfl
  | deep l m r =>
    by_cases h : l.length < 4
    · rw [pushL_few _ _ _ _ h]; rfl
    · unfold pushL
      split <;> simp_all [popL]
end Lv

/-- The place in some things at which there are more than i, so of them ahead; the last one, if none is earlier. -/
def place (i : Nat) : Nat → List Th → Nat
  | _, [] => 0
  | _, [_] => 0
  | so, t :: u :: r => if i < so + t.size then 0 else place i (so + t.size) (u :: r) + 1
theorem place_ok (i : Nat) (l : List Th) : ∀ so, l ≠ [] → so ≤ i → i < so + tsN l → place i so l < l.length ∧ so + tsN (l.take (place i so l)) ≤ i ∧ i < so + tsN (l.take (place i so l)) + (l[place i so l]?.getD (.leaf 0)).size := by
  induction l with
  | nil => intro so h; exact absurd rfl h
  | cons t r ih =>
    intro so _ h0 h1
    cases r with
    | nil => simp only [place, tsN] at *; simp [tsN]; omega
    | cons u r =>
      rw [place]
      split
      · simp [tsN]; omega
      · rename_i hn
        obtain ⟨k1, k2, k3⟩ := ih (so + t.size) (by simp) (by omega) (by simp only [tsN] at *; omega)
        refine ⟨by simp only [List.length_cons] at *; omega, ?_, ?_⟩
        · rw [List.take_succ_cons, tsN]; omega
        · rw [List.take_succ_cons, tsN, List.getElem?_cons_succ]; omega
theorem split_at (l : List Th) (k : Nat) (h : k < l.length) : tsL l = tsL (l.take k) ++ ((l[k]?.getD (.leaf 0)).toL ++ tsL (l.drop (k + 1))) := by
  have e : l = l.take k ++ ((l[k]?.getD (.leaf 0)) :: l.drop (k + 1)) := by
    rw [List.getElem?_eq_getElem h, Option.getD_some, List.getElem_cons_drop, List.take_append_drop]
  conv => lhs; rw [e]
  rw [tsL_append, tsL]
theorem at_dp {n : Nat} {l : List Th} (h : All n l) {k : Nat} (hk : k < l.length) : (l[k]?.getD (.leaf 0)).Dp n := by
  rw [List.getElem?_eq_getElem hk, Option.getD_some]
  exact h _ (List.getElem_mem hk)
namespace Lv
/-- A level cut at the thing at which there are more than i. -/
def cut (i : Nat) : Nat → Lv → Lv × Th × Lv
  | _, nil => (nil, .leaf 0, nil)
  | _, one t => (nil, t, nil)
  | so, deep l m r =>
    if i < so + tsN l then
      (someL (l.take (place i so l)), l[place i so l]?.getD (.leaf 0), deepL (l.drop (place i so l + 1)) m r)
    else if i < so + tsN l + m.size then
      let c := cut i (so + tsN l) m
      let k := place i (so + tsN l + c.1.size) c.2.1.kids
      (deepR l c.1 (c.2.1.kids.take k), c.2.1.kids[k]?.getD (.leaf 0), deepL (c.2.1.kids.drop (k + 1)) c.2.2 r)
    else
      (deepR l m (r.take (place i (so + tsN l + m.size) r)), r[place i (so + tsN l + m.size) r]?.getD (.leaf 0), someL (r.drop (place i (so + tsN l + m.size) r + 1)))
theorem cut_ok (i : Nat) (v : Lv) : ∀ so n, v.Ok n → so ≤ i → i < so + v.size →
    (cut i so v).1.Ok n ∧ (cut i so v).2.1.Dp n ∧ (cut i so v).2.2.Ok n ∧ v.toL = (cut i so v).1.toL ++ ((cut i so v).2.1.toL ++ (cut i so v).2.2.toL) ∧
      so + (cut i so v).1.size ≤ i ∧ i < so + (cut i so v).1.size + (cut i so v).2.1.size := by
  induction v with
  | nil => intro so n _ h0 h1; simp only [size] at h1; omega
  | one t => intro so n h h0 h1; simp only [cut, size, toL] at *; exact ⟨trivial, h, trivial, by simp, by omega, by omega⟩
  | deep l m r ih =>
    intro so n h h0 h1
    obtain ⟨⟨l1, l2, l3⟩, hm, ⟨r1, r2, r3⟩⟩ := h
    have hln : l ≠ [] := by rintro rfl; simp at l1
    have hrn : r ≠ [] := by rintro rfl; simp at r1
    simp only [size] at h1
    unfold cut
    by_cases c1 : i < so + tsN l
    · rw [if_pos c1]
      obtain ⟨p1, p2, p3⟩ := place_ok i l so hln h0 c1
      generalize place i so l = k at p1 p2 p3 ⊢
      obtain ⟨s1, s2⟩ := some_ok (l3.take k)
      obtain ⟨d1, d2⟩ := deepL_ok (l := l.drop (k + 1)) (by simp; omega) (l3.drop _) hm ⟨r1, r2, r3⟩
      have sz : (someL (l.take k)).size = tsN (l.take k) := by rw [← len, s2, tsL_len]
      refine ⟨s1, at_dp l3 p1, d1, ?_, by simp only [sz]; exact p2, by simp only [sz]; exact p3⟩
      simp only [s2, d2, toL]
      rw [split_at l k p1]
      simp
    · rw [if_neg c1]
      by_cases c2 : i < so + tsN l + m.size
      · rw [if_pos c2]
        obtain ⟨q1, q2, q3, q4, q5, q6⟩ := ih (so + tsN l) (n + 1) hm (by omega) c2
        generalize cut i (so + tsN l) m = c at q1 q2 q3 q4 q5 q6 ⊢
        obtain ⟨k1, k2, k3, k4⟩ := all_kids q2
        obtain ⟨p1, p2, p3⟩ := place_ok i c.2.1.kids (so + tsN l + c.1.size) (by intro e; rw [e] at k2; simp at k2) q5 (by rw [k4]; exact q6)
        simp only
        generalize place i (so + tsN l + c.1.size) c.2.1.kids = k at p1 p2 p3 ⊢
        obtain ⟨d1, d2⟩ := deepL_ok (l := c.2.1.kids.drop (k + 1)) (by simp; omega) (k1.drop _) q3 ⟨r1, r2, r3⟩
        obtain ⟨e1, e2⟩ := deepR_ok (r := c.2.1.kids.take k) (by simp; omega) (k1.take _) q1 ⟨l1, l2, l3⟩
        have sz : (deepR l c.1 (c.2.1.kids.take k)).size = tsN l + (c.1.size + tsN (c.2.1.kids.take k)) := by
          rw [← len, e2]; simp only [List.length_append, tsL_len, len]
        refine ⟨e1, at_dp k1 p1, d1, ?_, by rw [sz]; omega, by rw [sz]; omega⟩
        simp only [d2, e2, toL]
        rw [q4, ← k3, split_at c.2.1.kids k p1]
        simp
      · rw [if_neg c2]
        obtain ⟨p1, p2, p3⟩ := place_ok i r (so + tsN l + m.size) hrn (by omega) (by omega)
        generalize place i (so + tsN l + m.size) r = k at p1 p2 p3 ⊢
        obtain ⟨s1, s2⟩ := some_ok (r3.drop (k + 1))
        obtain ⟨e1, e2⟩ := deepR_ok (r := r.take k) (by simp; omega) (r3.take _) hm ⟨l1, l2, l3⟩
        have sz : (deepR l m (r.take k)).size = tsN l + (m.size + tsN (r.take k)) := by
          rw [← len, e2]; simp only [List.length_append, tsL_len, len]
        refine ⟨e1, at_dp r3 p1, s1, ?_, by rw [sz]; omega, by show i < so + (deepR l m (r.take k)).size + (r[k]?.getD (.leaf 0)).size; rw [sz]; omega⟩
        simp only [s2, e2, toL]
        rw [split_at r k p1]
        simp
end Lv
end FG
end Go.Proofs.Ytpkfakndlbngbaa
