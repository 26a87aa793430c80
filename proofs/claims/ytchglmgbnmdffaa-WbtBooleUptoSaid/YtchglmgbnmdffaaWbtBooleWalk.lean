/-
  The walk of the law WbtBoole. Conditions: the arguments hold together at most 1048576 values.
-/
import Derived.Test.YtchglmgbnmdffaaWbtFact
import Derived.Test.YtchglmgbnmdffaaWbtJoin
namespace Go.Proofs.Ytchglmgbnmdffaa
open Go.RowKit Go.Deep Go.BigFrame
open Go.Proofs.Ytchglmgbnmdffaa.ST
open Go.Proofs.Ytchglmgbnmdffaa.WBT

theorem cup_cap {a b u i : List Int} (ha : SRise a) (hb : SRise b) (hu : SRise u) (hi : SRise i) (mu : ∀ y, y ∈ u ↔ y ∈ a ∨ y ∈ b) (mi : ∀ y, y ∈ i ↔ y ∈ a ∧ y ∈ b) : u.length + i.length = a.length + b.length := by
  have hp : (u ++ i).Perm (a ++ b) := by
    rw [List.perm_iff_count]
    intro y
    rw [List.count_append, List.count_append, (srise_nodup hu).count, (srise_nodup hi).count, (srise_nodup ha).count, (srise_nodup hb).count]
    by_cases ya : y ∈ a <;> by_cases yb : y ∈ b <;> simp [mu, mi, ya, yb]
  have := hp.length_eq
  simpa using this

set_option linter.unusedVariables false
set_option maxHeartbeats 8000000 in
set_option maxRecDepth 100000 in
theorem WbtBoole_walk (a0 : Option Addr) (n0 c0 : Nat) (x0 : List Int) (a1 : Option Addr) (n1 c1 : Nat) (x1 : List Int) (a2 : Option Addr) (n2 c2 : Nat) (x2 : List Int) (w : World)
    (s0 : Sl w a0 n0 c0 x0) (i0 : ∀ n ∈ x0, I64 n) (s1 : Sl w a1 n1 c1 x1) (i1 : ∀ n ∈ x1, I64 n) (s2 : Sl w a2 n2 c2 x2) (i2 : ∀ n ∈ x2, I64 n) (hn : n0 + n1 + n2 ≤ 1048576) :
    Calls Try.prog 7 #[.slice a0 n0 c0, .slice a1 n1 c1, .slice a2 n2 c2] w fun e w' => e = .returned (.bool true) ∧ Below w.heap.size w w' := by
  have S0 := Lib.hid s0
  obtain ⟨ta, hta⟩ : ∃ t, ofL x0 = t := ⟨_, rfl⟩
  have gta : Fit ta := hta ▸ ofL_good x0
  have zta : ta.size ≤ n0 := by rw [← hta, ← s0.hlen]; exact ofL_size x0
  have mta : ∀ y, y ∈ ta.toL ↔ y ∈ x0 := hta ▸ ofL_mem x0
  have OF0 : ∀ W, Below w.heap.size w W → Calls Try.prog 15 #[.slice a0 n0 c0] W fun e w' => ∃ q, e = .returned (.agg #[.pointer q]) ∧ In w' q ta ∧ Below W.heap.size W w' := fun W hW => by
    have := of_any a0 n0 c0 x0 W (s0.below hW) (by omega)
    rwa [hta] at this
  have OH0 := Lib.hid OF0
  have Mta := Lib.hid mta
  clear OF0 s0 i0 hta mta
  have S1 := Lib.hid s1
  obtain ⟨tb, htb⟩ : ∃ t, ofL x1 = t := ⟨_, rfl⟩
  have gtb : Fit tb := htb ▸ ofL_good x1
  have ztb : tb.size ≤ n1 := by rw [← htb, ← s1.hlen]; exact ofL_size x1
  have mtb : ∀ y, y ∈ tb.toL ↔ y ∈ x1 := htb ▸ ofL_mem x1
  have OF1 : ∀ W, Below w.heap.size w W → Calls Try.prog 15 #[.slice a1 n1 c1] W fun e w' => ∃ q, e = .returned (.agg #[.pointer q]) ∧ In w' q tb ∧ Below W.heap.size W w' := fun W hW => by
    have := of_any a1 n1 c1 x1 W (s1.below hW) (by omega)
    rwa [htb] at this
  have OH1 := Lib.hid OF1
  have Mtb := Lib.hid mtb
  clear OF1 s1 i1 htb mtb
  have S2 := Lib.hid s2
  obtain ⟨tc, htc⟩ : ∃ t, ofL x2 = t := ⟨_, rfl⟩
  have gtc : Fit tc := htc ▸ ofL_good x2
  have ztc : tc.size ≤ n2 := by rw [← htc, ← s2.hlen]; exact ofL_size x2
  have mtc : ∀ y, y ∈ tc.toL ↔ y ∈ x2 := htc ▸ ofL_mem x2
  have OF2 : ∀ W, Below w.heap.size w W → Calls Try.prog 15 #[.slice a2 n2 c2] W fun e w' => ∃ q, e = .returned (.agg #[.pointer q]) ∧ In w' q tc ∧ Below W.heap.size W w' := fun W hW => by
    have := of_any a2 n2 c2 x2 W (s2.below hW) (by omega)
    rwa [htc] at this
  have OH2 := Lib.hid OF2
  have Mtc := Lib.hid mtc
  clear OF2 s2 i2 htc mtc
  obtain ⟨ubc, hubc⟩ : ∃ r, union tb tc = r := ⟨_, rfl⟩
  have zubc : ubc.size ≤ tb.size + tc.size := hubc ▸ union_size tb tc
  have gubc : Fit ubc := hubc ▸ ⟨(union_spec tb tc gtb.bst gtc.bst).1, union_wb tb tc gtb.2 gtc.2⟩
  have mubc : ∀ y, y ∈ ubc.toL ↔ y ∈ tb.toL ∨ y ∈ tc.toL := hubc ▸ (union_spec tb tc gtb.bst gtc.bst).2
  have CCubc : ∀ (p q : Option Addr) (W : World), In W p tb → In W q tc → Calls Try.prog 33 #[.agg #[.pointer p], .agg #[.pointer q]] W fun e w' => ∃ r, e = .returned (.agg #[.pointer r]) ∧ In w' r ubc ∧ Below W.heap.size W w' :=
    fun p q W h h' => hubc ▸ union_set tb tc p q W h h' (by omega)
  have Cubc := Lib.hid CCubc
  clear CCubc hubc
  obtain ⟨iaubc, hiaubc⟩ : ∃ r, sifted ta ubc true = r := ⟨_, rfl⟩
  have ziaubc : iaubc.size ≤ ta.size := hiaubc ▸ sifted_size ta true ubc
  have giaubc : Fit iaubc := hiaubc ▸ ⟨(sifted_spec ta true ubc gta.bst gubc.bst).1, sifted_wb ta true ubc gta.2 gubc.2⟩
  have miaubc : ∀ y, y ∈ iaubc.toL ↔ y ∈ ta.toL ∧ decide (y ∈ ubc.toL) = true := hiaubc ▸ (sifted_spec ta true ubc gta.bst gubc.bst).2
  have CCiaubc : ∀ (p q : Option Addr) (W : World), In W p ta → In W q ubc → Calls Try.prog 32 #[.agg #[.pointer p], .agg #[.pointer q]] W fun e w' => ∃ r, e = .returned (.agg #[.pointer r]) ∧ In w' r iaubc ∧ Below W.heap.size W w' :=
    fun p q W h h' => hiaubc ▸ inter_set ta ubc p q W h h' (by omega)
  have Ciaubc := Lib.hid CCiaubc
  clear CCiaubc hiaubc
  obtain ⟨iab, hiab⟩ : ∃ r, sifted ta tb true = r := ⟨_, rfl⟩
  have ziab : iab.size ≤ ta.size := hiab ▸ sifted_size ta true tb
  have giab : Fit iab := hiab ▸ ⟨(sifted_spec ta true tb gta.bst gtb.bst).1, sifted_wb ta true tb gta.2 gtb.2⟩
  have miab : ∀ y, y ∈ iab.toL ↔ y ∈ ta.toL ∧ decide (y ∈ tb.toL) = true := hiab ▸ (sifted_spec ta true tb gta.bst gtb.bst).2
  have CCiab : ∀ (p q : Option Addr) (W : World), In W p ta → In W q tb → Calls Try.prog 32 #[.agg #[.pointer p], .agg #[.pointer q]] W fun e w' => ∃ r, e = .returned (.agg #[.pointer r]) ∧ In w' r iab ∧ Below W.heap.size W w' :=
    fun p q W h h' => hiab ▸ inter_set ta tb p q W h h' (by omega)
  have Ciab := Lib.hid CCiab
  clear CCiab hiab
  obtain ⟨iac, hiac⟩ : ∃ r, sifted ta tc true = r := ⟨_, rfl⟩
  have ziac : iac.size ≤ ta.size := hiac ▸ sifted_size ta true tc
  have giac : Fit iac := hiac ▸ ⟨(sifted_spec ta true tc gta.bst gtc.bst).1, sifted_wb ta true tc gta.2 gtc.2⟩
  have miac : ∀ y, y ∈ iac.toL ↔ y ∈ ta.toL ∧ decide (y ∈ tc.toL) = true := hiac ▸ (sifted_spec ta true tc gta.bst gtc.bst).2
  have CCiac : ∀ (p q : Option Addr) (W : World), In W p ta → In W q tc → Calls Try.prog 32 #[.agg #[.pointer p], .agg #[.pointer q]] W fun e w' => ∃ r, e = .returned (.agg #[.pointer r]) ∧ In w' r iac ∧ Below W.heap.size W w' :=
    fun p q W h h' => hiac ▸ inter_set ta tc p q W h h' (by omega)
  have Ciac := Lib.hid CCiac
  clear CCiac hiac
  obtain ⟨uii, huii⟩ : ∃ r, union iab iac = r := ⟨_, rfl⟩
  have zuii : uii.size ≤ iab.size + iac.size := huii ▸ union_size iab iac
  have guii : Fit uii := huii ▸ ⟨(union_spec iab iac giab.bst giac.bst).1, union_wb iab iac giab.2 giac.2⟩
  have muii : ∀ y, y ∈ uii.toL ↔ y ∈ iab.toL ∨ y ∈ iac.toL := huii ▸ (union_spec iab iac giab.bst giac.bst).2
  have CCuii : ∀ (p q : Option Addr) (W : World), In W p iab → In W q iac → Calls Try.prog 33 #[.agg #[.pointer p], .agg #[.pointer q]] W fun e w' => ∃ r, e = .returned (.agg #[.pointer r]) ∧ In w' r uii ∧ Below W.heap.size W w' :=
    fun p q W h h' => huii ▸ union_set iab iac p q W h h' (by omega)
  have Cuii := Lib.hid CCuii
  clear CCuii huii
  obtain ⟨daubc, hdaubc⟩ : ∃ r, sifted ta ubc false = r := ⟨_, rfl⟩
  have zdaubc : daubc.size ≤ ta.size := hdaubc ▸ sifted_size ta false ubc
  have gdaubc : Fit daubc := hdaubc ▸ ⟨(sifted_spec ta false ubc gta.bst gubc.bst).1, sifted_wb ta false ubc gta.2 gubc.2⟩
  have mdaubc : ∀ y, y ∈ daubc.toL ↔ y ∈ ta.toL ∧ decide (y ∈ ubc.toL) = false := hdaubc ▸ (sifted_spec ta false ubc gta.bst gubc.bst).2
  have CCdaubc : ∀ (p q : Option Addr) (W : World), In W p ta → In W q ubc → Calls Try.prog 34 #[.agg #[.pointer p], .agg #[.pointer q]] W fun e w' => ∃ r, e = .returned (.agg #[.pointer r]) ∧ In w' r daubc ∧ Below W.heap.size W w' :=
    fun p q W h h' => hdaubc ▸ diff_set ta ubc p q W h h' (by omega)
  have Cdaubc := Lib.hid CCdaubc
  clear CCdaubc hdaubc
  obtain ⟨dab, hdab⟩ : ∃ r, sifted ta tb false = r := ⟨_, rfl⟩
  have zdab : dab.size ≤ ta.size := hdab ▸ sifted_size ta false tb
  have gdab : Fit dab := hdab ▸ ⟨(sifted_spec ta false tb gta.bst gtb.bst).1, sifted_wb ta false tb gta.2 gtb.2⟩
  have mdab : ∀ y, y ∈ dab.toL ↔ y ∈ ta.toL ∧ decide (y ∈ tb.toL) = false := hdab ▸ (sifted_spec ta false tb gta.bst gtb.bst).2
  have CCdab : ∀ (p q : Option Addr) (W : World), In W p ta → In W q tb → Calls Try.prog 34 #[.agg #[.pointer p], .agg #[.pointer q]] W fun e w' => ∃ r, e = .returned (.agg #[.pointer r]) ∧ In w' r dab ∧ Below W.heap.size W w' :=
    fun p q W h h' => hdab ▸ diff_set ta tb p q W h h' (by omega)
  have Cdab := Lib.hid CCdab
  clear CCdab hdab
  obtain ⟨dac, hdac⟩ : ∃ r, sifted ta tc false = r := ⟨_, rfl⟩
  have zdac : dac.size ≤ ta.size := hdac ▸ sifted_size ta false tc
  have gdac : Fit dac := hdac ▸ ⟨(sifted_spec ta false tc gta.bst gtc.bst).1, sifted_wb ta false tc gta.2 gtc.2⟩
  have mdac : ∀ y, y ∈ dac.toL ↔ y ∈ ta.toL ∧ decide (y ∈ tc.toL) = false := hdac ▸ (sifted_spec ta false tc gta.bst gtc.bst).2
  have CCdac : ∀ (p q : Option Addr) (W : World), In W p ta → In W q tc → Calls Try.prog 34 #[.agg #[.pointer p], .agg #[.pointer q]] W fun e w' => ∃ r, e = .returned (.agg #[.pointer r]) ∧ In w' r dac ∧ Below W.heap.size W w' :=
    fun p q W h h' => hdac ▸ diff_set ta tc p q W h h' (by omega)
  have Cdac := Lib.hid CCdac
  clear CCdac hdac
  obtain ⟨idd, hidd⟩ : ∃ r, sifted dab dac true = r := ⟨_, rfl⟩
  have zidd : idd.size ≤ dab.size := hidd ▸ sifted_size dab true dac
  have gidd : Fit idd := hidd ▸ ⟨(sifted_spec dab true dac gdab.bst gdac.bst).1, sifted_wb dab true dac gdab.2 gdac.2⟩
  have midd : ∀ y, y ∈ idd.toL ↔ y ∈ dab.toL ∧ decide (y ∈ dac.toL) = true := hidd ▸ (sifted_spec dab true dac gdab.bst gdac.bst).2
  have CCidd : ∀ (p q : Option Addr) (W : World), In W p dab → In W q dac → Calls Try.prog 32 #[.agg #[.pointer p], .agg #[.pointer q]] W fun e w' => ∃ r, e = .returned (.agg #[.pointer r]) ∧ In w' r idd ∧ Below W.heap.size W w' :=
    fun p q W h h' => hidd ▸ inter_set dab dac p q W h h' (by omega)
  have Cidd := Lib.hid CCidd
  clear CCidd hidd
  obtain ⟨ibc, hibc⟩ : ∃ r, sifted tb tc true = r := ⟨_, rfl⟩
  have zibc : ibc.size ≤ tb.size := hibc ▸ sifted_size tb true tc
  have gibc : Fit ibc := hibc ▸ ⟨(sifted_spec tb true tc gtb.bst gtc.bst).1, sifted_wb tb true tc gtb.2 gtc.2⟩
  have mibc : ∀ y, y ∈ ibc.toL ↔ y ∈ tb.toL ∧ decide (y ∈ tc.toL) = true := hibc ▸ (sifted_spec tb true tc gtb.bst gtc.bst).2
  have CCibc : ∀ (p q : Option Addr) (W : World), In W p tb → In W q tc → Calls Try.prog 32 #[.agg #[.pointer p], .agg #[.pointer q]] W fun e w' => ∃ r, e = .returned (.agg #[.pointer r]) ∧ In w' r ibc ∧ Below W.heap.size W w' :=
    fun p q W h h' => hibc ▸ inter_set tb tc p q W h h' (by omega)
  have Cibc := Lib.hid CCibc
  clear CCibc hibc
  obtain ⟨daibc, hdaibc⟩ : ∃ r, sifted ta ibc false = r := ⟨_, rfl⟩
  have zdaibc : daibc.size ≤ ta.size := hdaibc ▸ sifted_size ta false ibc
  have gdaibc : Fit daibc := hdaibc ▸ ⟨(sifted_spec ta false ibc gta.bst gibc.bst).1, sifted_wb ta false ibc gta.2 gibc.2⟩
  have mdaibc : ∀ y, y ∈ daibc.toL ↔ y ∈ ta.toL ∧ decide (y ∈ ibc.toL) = false := hdaibc ▸ (sifted_spec ta false ibc gta.bst gibc.bst).2
  have CCdaibc : ∀ (p q : Option Addr) (W : World), In W p ta → In W q ibc → Calls Try.prog 34 #[.agg #[.pointer p], .agg #[.pointer q]] W fun e w' => ∃ r, e = .returned (.agg #[.pointer r]) ∧ In w' r daibc ∧ Below W.heap.size W w' :=
    fun p q W h h' => hdaibc ▸ diff_set ta ibc p q W h h' (by omega)
  have Cdaibc := Lib.hid CCdaibc
  clear CCdaibc hdaibc
  obtain ⟨udd, hudd⟩ : ∃ r, union dab dac = r := ⟨_, rfl⟩
  have zudd : udd.size ≤ dab.size + dac.size := hudd ▸ union_size dab dac
  have gudd : Fit udd := hudd ▸ ⟨(union_spec dab dac gdab.bst gdac.bst).1, union_wb dab dac gdab.2 gdac.2⟩
  have mudd : ∀ y, y ∈ udd.toL ↔ y ∈ dab.toL ∨ y ∈ dac.toL := hudd ▸ (union_spec dab dac gdab.bst gdac.bst).2
  have CCudd : ∀ (p q : Option Addr) (W : World), In W p dab → In W q dac → Calls Try.prog 33 #[.agg #[.pointer p], .agg #[.pointer q]] W fun e w' => ∃ r, e = .returned (.agg #[.pointer r]) ∧ In w' r udd ∧ Below W.heap.size W w' :=
    fun p q W h h' => hudd ▸ union_set dab dac p q W h h' (by omega)
  have Cudd := Lib.hid CCudd
  clear CCudd hudd
  obtain ⟨uab, huab⟩ : ∃ r, union ta tb = r := ⟨_, rfl⟩
  have zuab : uab.size ≤ ta.size + tb.size := huab ▸ union_size ta tb
  have guab : Fit uab := huab ▸ ⟨(union_spec ta tb gta.bst gtb.bst).1, union_wb ta tb gta.2 gtb.2⟩
  have muab : ∀ y, y ∈ uab.toL ↔ y ∈ ta.toL ∨ y ∈ tb.toL := huab ▸ (union_spec ta tb gta.bst gtb.bst).2
  have CCuab : ∀ (p q : Option Addr) (W : World), In W p ta → In W q tb → Calls Try.prog 33 #[.agg #[.pointer p], .agg #[.pointer q]] W fun e w' => ∃ r, e = .returned (.agg #[.pointer r]) ∧ In w' r uab ∧ Below W.heap.size W w' :=
    fun p q W h h' => huab ▸ union_set ta tb p q W h h' (by omega)
  have Cuab := Lib.hid CCuab
  clear CCuab huab
  obtain ⟨uba, huba⟩ : ∃ r, union tb ta = r := ⟨_, rfl⟩
  have zuba : uba.size ≤ tb.size + ta.size := huba ▸ union_size tb ta
  have guba : Fit uba := huba ▸ ⟨(union_spec tb ta gtb.bst gta.bst).1, union_wb tb ta gtb.2 gta.2⟩
  have muba : ∀ y, y ∈ uba.toL ↔ y ∈ tb.toL ∨ y ∈ ta.toL := huba ▸ (union_spec tb ta gtb.bst gta.bst).2
  have CCuba : ∀ (p q : Option Addr) (W : World), In W p tb → In W q ta → Calls Try.prog 33 #[.agg #[.pointer p], .agg #[.pointer q]] W fun e w' => ∃ r, e = .returned (.agg #[.pointer r]) ∧ In w' r uba ∧ Below W.heap.size W w' :=
    fun p q W h h' => huba ▸ union_set tb ta p q W h h' (by omega)
  have Cuba := Lib.hid CCuba
  clear CCuba huba
  obtain ⟨uaia, huaia⟩ : ∃ r, union ta iab = r := ⟨_, rfl⟩
  have zuaia : uaia.size ≤ ta.size + iab.size := huaia ▸ union_size ta iab
  have guaia : Fit uaia := huaia ▸ ⟨(union_spec ta iab gta.bst giab.bst).1, union_wb ta iab gta.2 giab.2⟩
  have muaia : ∀ y, y ∈ uaia.toL ↔ y ∈ ta.toL ∨ y ∈ iab.toL := huaia ▸ (union_spec ta iab gta.bst giab.bst).2
  have CCuaia : ∀ (p q : Option Addr) (W : World), In W p ta → In W q iab → Calls Try.prog 33 #[.agg #[.pointer p], .agg #[.pointer q]] W fun e w' => ∃ r, e = .returned (.agg #[.pointer r]) ∧ In w' r uaia ∧ Below W.heap.size W w' :=
    fun p q W h h' => huaia ▸ union_set ta iab p q W h h' (by omega)
  have Cuaia := Lib.hid CCuaia
  clear CCuaia huaia
  have e1 : iaubc.toL = uii.toL := srise_unique giaubc.bst guii.bst fun y => by
    by_cases ya : y ∈ ta.toL <;> by_cases yb : y ∈ tb.toL <;> by_cases yc : y ∈ tc.toL <;> simp [miaubc, mubc, muii, miab, miac, ya, yb, yc]
  have e2 : daubc.toL = idd.toL := srise_unique gdaubc.bst gidd.bst fun y => by
    by_cases ya : y ∈ ta.toL <;> by_cases yb : y ∈ tb.toL <;> by_cases yc : y ∈ tc.toL <;> simp [mdaubc, mubc, midd, mdab, mdac, ya, yb, yc]
  have e3 : daibc.toL = udd.toL := srise_unique gdaibc.bst gudd.bst fun y => by
    by_cases ya : y ∈ ta.toL <;> by_cases yb : y ∈ tb.toL <;> by_cases yc : y ∈ tc.toL <;> simp [mdaibc, mibc, mudd, mdab, mdac, ya, yb, yc]
  have e4 : uab.toL = uba.toL := srise_unique guab.bst guba.bst fun y => by
    by_cases ya : y ∈ ta.toL <;> by_cases yb : y ∈ tb.toL <;> simp [muab, muba, ya, yb]
  have e5 : uaia.toL = ta.toL := srise_unique guaia.bst gta.bst fun y => by
    by_cases ya : y ∈ ta.toL <;> by_cases yb : y ∈ tb.toL <;> simp [muaia, miab, ya, yb]
  have e6 : uab.size + iab.size = ta.size + tb.size := by
    rw [← toL_length, ← toL_length, ← toL_length, ← toL_length]
    exact cup_cap gta.bst gtb.bst guab.bst giab.bst muab (fun y => by rw [miab]; simp)
  have d6 : ((uab.size : Int) + (iab.size : Int) == (ta.size : Int) + (tb.size : Int)) = true := by simp; omega
  have D6 := Lib.hid d6
  have E1 := Lib.hid e1
  have E2 := Lib.hid e2
  have E3 := Lib.hid e3
  have E4 := Lib.hid e4
  have E5 := Lib.hid e5
  clear e1 e2 e3 e4 e5 e6 d6 mubc gubc miaubc giaubc miab giab miac giac muii guii mdaubc gdaubc mdab gdab mdac gdac midd gidd mibc gibc mdaibc gdaibc mudd gudd muab guab muba guba muaia guaia
  go_enter Try.func7, Try.ntmps7
  go_wp2_with fail
  refine (fact_any _).mono ?_
  rintro e w1 ⟨rfl, b1⟩
  go_wp2_with fail
  refine (OH0.out _ b1).mono ?_
  rintro e w2 ⟨qa, rfl, ha, b2⟩
  have B := below_then b1 b2
  clear b1 b2
  go_wp2_with fail
  obtain ⟨Ba, hn_Ba⟩ : ∃ k, w2.heap.size = k := ⟨_, rfl⟩
  obtain ⟨V1, hW_⟩ : ∃ W, w2.alloc (.cells #[.pointer qa] 26) = W := ⟨_, rfl⟩
  have bW_ : Below w2.heap.size w2 V1 := by rw [← hW_]; exact ((Below.refl _ _).alloc (Nat.le_refl _) _)
  have XBa : V1.heap[Ba]? = some (.cells #[.pointer qa] 26) := by
    rw [← hW_, ← hn_Ba]
    exact heap_alloc_new _ _
  have LBa : w2.heap.size ≤ Ba := by omega
  replace ha := ha.below bW_
  replace B := below_then B bW_
  rw [hW_]
  first | rw [hn_Ba] | skip
  clear hW_ bW_ hn_Ba
  refine (OH1.out _ B).mono ?_
  rintro e w3 ⟨qb, rfl, hb, b3⟩
  replace ha := ha.below b3
  replace XBa := blk_below XBa b3
  replace B := below_then B b3
  clear b3
  go_wp2_with fail
  obtain ⟨Bb, hn_Bb⟩ : ∃ k, w3.heap.size = k := ⟨_, rfl⟩
  obtain ⟨V2, hW_⟩ : ∃ W, w3.alloc (.cells #[.pointer qb] 26) = W := ⟨_, rfl⟩
  have bW_ : Below w3.heap.size w3 V2 := by rw [← hW_]; exact ((Below.refl _ _).alloc (Nat.le_refl _) _)
  have XBb : V2.heap[Bb]? = some (.cells #[.pointer qb] 26) := by
    rw [← hW_, ← hn_Bb]
    exact heap_alloc_new _ _
  have LBb : w3.heap.size ≤ Bb := by omega
  replace ha := ha.below bW_
  replace hb := hb.below bW_
  replace XBa := blk_below XBa bW_
  replace B := below_then B bW_
  rw [hW_]
  first | rw [hn_Bb] | skip
  clear hW_ bW_ hn_Bb
  refine (OH2.out _ B).mono ?_
  rintro e w4 ⟨qc, rfl, hc, b4⟩
  replace ha := ha.below b4
  replace hb := hb.below b4
  replace XBa := blk_below XBa b4
  replace XBb := blk_below XBb b4
  replace B := below_then B b4
  clear b4
  go_wp2_with fail
  obtain ⟨Bc, hn_Bc⟩ : ∃ k, w4.heap.size = k := ⟨_, rfl⟩
  obtain ⟨V3, hW_⟩ : ∃ W, w4.alloc (.cells #[.pointer qc] 26) = W := ⟨_, rfl⟩
  have bW_ : Below w4.heap.size w4 V3 := by rw [← hW_]; exact ((Below.refl _ _).alloc (Nat.le_refl _) _)
  have XBc : V3.heap[Bc]? = some (.cells #[.pointer qc] 26) := by
    rw [← hW_, ← hn_Bc]
    exact heap_alloc_new _ _
  have LBc : w4.heap.size ≤ Bc := by omega
  replace ha := ha.below bW_
  replace hb := hb.below bW_
  replace hc := hc.below bW_
  replace XBa := blk_below XBa bW_
  replace XBb := blk_below XBb bW_
  replace B := below_then B bW_
  rw [hW_]
  first | rw [hn_Bc] | skip
  clear hW_ bW_ hn_Bc
  have ca := (blk XBa).1 0
  have la := (blk XBa).2.2
  have cb := (blk XBb).1 0
  have lb := (blk XBb).2.2
  have cc := (blk XBc).1 0
  have lc := (blk XBc).2.2
  go_region_held3 (fun w' => w'.cell? ⟨Ba, 0, none⟩ = some (.pointer qa) ∧ w'.cell? ⟨Bb, 0, none⟩ = some (.pointer qb) ∧ w'.cell? ⟨Bc, 0, none⟩ = some (.pointer qc)) (go_keep) (first
    | (have _t := bwa7; go_at_call 23; refine (same_yes _ _ _ _ _ _ _ _ _ (by first | exact ((((sl3.below hba4).below hba5).below hba6).below hba7) | exact ((((sl3.below hba4).below hba5).below hba6).below hba7).drew) (by first | exact sl7 | exact sl7.drew) E1.out).mono ?_; rintro e wa8 ⟨rfl, hba8⟩; have bwa8 := below_then bwa7 hba8; have sa8_0 := (bwa8.cell (p := ⟨Ba, 0, none⟩) la).trans ca; have sa8_1 := (bwa8.cell (p := ⟨Bb, 0, none⟩) lb).trans cb; have sa8_2 := (bwa8.cell (p := ⟨Bc, 0, none⟩) lc).trans cc)
    | (have _t := bwa6; go_at_call 20; refine (ints_sl uii ar6 _ (by first | exact har6 | exact har6.drew) (by omega)).mono ?_; rintro e wa7 ⟨ai7, mi7, ci7, rfl, sl7, hba7⟩; have bwa7 := below_then bwa6 hba7; have sa7_0 := (bwa7.cell (p := ⟨Ba, 0, none⟩) la).trans ca; have sa7_1 := (bwa7.cell (p := ⟨Bb, 0, none⟩) lb).trans cb; have sa7_2 := (bwa7.cell (p := ⟨Bc, 0, none⟩) lc).trans cc)
    | (have _t := bwa5; go_at_call 33; refine (Cuii.out ar4 ar5 _ (by first | exact (har4.below hba5) | exact (har4.below hba5).drew) (by first | exact har5 | exact har5.drew)).mono ?_; rintro e wa6 ⟨ar6, rfl, har6, hba6⟩; have bwa6 := below_then bwa5 hba6; have sa6_0 := (bwa6.cell (p := ⟨Ba, 0, none⟩) la).trans ca; have sa6_1 := (bwa6.cell (p := ⟨Bb, 0, none⟩) lb).trans cb; have sa6_2 := (bwa6.cell (p := ⟨Bc, 0, none⟩) lc).trans cc)
    | (have _t := bwa4; go_at_call 32; refine (Ciac.out qa qc _ (by first | exact ha.below bwa4 | exact (ha.below bwa4).drew) (by first | exact hc.below bwa4 | exact (hc.below bwa4).drew)).mono ?_; rintro e wa5 ⟨ar5, rfl, har5, hba5⟩; have bwa5 := below_then bwa4 hba5; have sa5_0 := (bwa5.cell (p := ⟨Ba, 0, none⟩) la).trans ca; have sa5_1 := (bwa5.cell (p := ⟨Bb, 0, none⟩) lb).trans cb; have sa5_2 := (bwa5.cell (p := ⟨Bc, 0, none⟩) lc).trans cc)
    | (have _t := bwa3; go_at_call 32; refine (Ciab.out qa qb _ (by first | exact ha.below bwa3 | exact (ha.below bwa3).drew) (by first | exact hb.below bwa3 | exact (hb.below bwa3).drew)).mono ?_; rintro e wa4 ⟨ar4, rfl, har4, hba4⟩; have bwa4 := below_then bwa3 hba4; have sa4_0 := (bwa4.cell (p := ⟨Ba, 0, none⟩) la).trans ca; have sa4_1 := (bwa4.cell (p := ⟨Bb, 0, none⟩) lb).trans cb; have sa4_2 := (bwa4.cell (p := ⟨Bc, 0, none⟩) lc).trans cc)
    | (have _t := bwa2; go_at_call 20; refine (ints_sl iaubc ar2 _ (by first | exact har2 | exact har2.drew) (by omega)).mono ?_; rintro e wa3 ⟨ai3, mi3, ci3, rfl, sl3, hba3⟩; have bwa3 := below_then bwa2 hba3; have sa3_0 := (bwa3.cell (p := ⟨Ba, 0, none⟩) la).trans ca; have sa3_1 := (bwa3.cell (p := ⟨Bb, 0, none⟩) lb).trans cb; have sa3_2 := (bwa3.cell (p := ⟨Bc, 0, none⟩) lc).trans cc)
    | (have _t := bwa1; go_at_call 32; refine (Ciaubc.out qa ar1 _ (by first | exact ha.below bwa1 | exact (ha.below bwa1).drew) (by first | exact har1 | exact har1.drew)).mono ?_; rintro e wa2 ⟨ar2, rfl, har2, hba2⟩; have bwa2 := below_then bwa1 hba2; have sa2_0 := (bwa2.cell (p := ⟨Ba, 0, none⟩) la).trans ca; have sa2_1 := (bwa2.cell (p := ⟨Bb, 0, none⟩) lb).trans cb; have sa2_2 := (bwa2.cell (p := ⟨Bc, 0, none⟩) lc).trans cc)
    | (go_at_call 33; refine (Cubc.out qb qc _ (by first | exact hb | exact hb.drew | exact hb.drewN _ | exact (hb.drewN _).drew | exact (hb.drewN _).drewN _ | exact ((hb.drewN _).drewN _).drew) (by first | exact hc | exact hc.drew | exact hc.drewN _ | exact (hc.drewN _).drew | exact (hc.drewN _).drewN _ | exact ((hc.drewN _).drewN _).drew)).mono ?_; rintro e wa1 ⟨ar1, rfl, har1, hba1⟩; have bwa1 : Below V3.heap.size V3 wa1 := (by first | exact hba1 | exact below_of_drewN hba1 | exact below_of_drew hba1 | exact below_of_drewN (below_of_drew hba1) | exact below_of_drewN (below_of_drewN hba1) | exact below_of_drewN (below_of_drewN (below_of_drew hba1))); have sa1_0 := (bwa1.cell (p := ⟨Ba, 0, none⟩) la).trans ca; have sa1_1 := (bwa1.cell (p := ⟨Bb, 0, none⟩) lb).trans cb; have sa1_2 := (bwa1.cell (p := ⟨Bc, 0, none⟩) lc).trans cc))
  replace ha := ha.below bwa8
  replace hb := hb.below bwa8
  replace hc := hc.below bwa8
  replace XBa := blk_below XBa bwa8
  replace XBb := blk_below XBb bwa8
  replace XBc := blk_below XBc bwa8
  replace B := below_then B bwa8
  clear ca la cb lb cc lc bwa1 hba1 bwa2 hba2 bwa3 hba3 bwa4 hba4 bwa5 hba5 bwa6 hba6 bwa7 hba7 bwa8 hba8
  go_wp2_with fail
  clear sl3 sl7 har1 har2 har4 har5 har6
  have ca := (blk XBa).1 0
  have la := (blk XBa).2.2
  have cb := (blk XBb).1 0
  have lb := (blk XBb).2.2
  have cc := (blk XBc).1 0
  have lc := (blk XBc).2.2
  go_region_held3 (fun w' => w'.cell? ⟨Ba, 0, none⟩ = some (.pointer qa) ∧ w'.cell? ⟨Bb, 0, none⟩ = some (.pointer qb) ∧ w'.cell? ⟨Bc, 0, none⟩ = some (.pointer qc)) (go_keep) (first
    | (have _t := bwb7; go_at_call 23; refine (same_yes _ _ _ _ _ _ _ _ _ (by first | exact ((((sl3.below hbb4).below hbb5).below hbb6).below hbb7) | exact ((((sl3.below hbb4).below hbb5).below hbb6).below hbb7).drew) (by first | exact sl7 | exact sl7.drew) E2.out).mono ?_; rintro e wb8 ⟨rfl, hbb8⟩; have bwb8 := below_then bwb7 hbb8; have sb8_0 := (bwb8.cell (p := ⟨Ba, 0, none⟩) la).trans ca; have sb8_1 := (bwb8.cell (p := ⟨Bb, 0, none⟩) lb).trans cb; have sb8_2 := (bwb8.cell (p := ⟨Bc, 0, none⟩) lc).trans cc)
    | (have _t := bwb6; go_at_call 20; refine (ints_sl idd br6 _ (by first | exact hbr6 | exact hbr6.drew) (by omega)).mono ?_; rintro e wb7 ⟨ai7, mi7, ci7, rfl, sl7, hbb7⟩; have bwb7 := below_then bwb6 hbb7; have sb7_0 := (bwb7.cell (p := ⟨Ba, 0, none⟩) la).trans ca; have sb7_1 := (bwb7.cell (p := ⟨Bb, 0, none⟩) lb).trans cb; have sb7_2 := (bwb7.cell (p := ⟨Bc, 0, none⟩) lc).trans cc)
    | (have _t := bwb5; go_at_call 32; refine (Cidd.out br4 br5 _ (by first | exact (hbr4.below hbb5) | exact (hbr4.below hbb5).drew) (by first | exact hbr5 | exact hbr5.drew)).mono ?_; rintro e wb6 ⟨br6, rfl, hbr6, hbb6⟩; have bwb6 := below_then bwb5 hbb6; have sb6_0 := (bwb6.cell (p := ⟨Ba, 0, none⟩) la).trans ca; have sb6_1 := (bwb6.cell (p := ⟨Bb, 0, none⟩) lb).trans cb; have sb6_2 := (bwb6.cell (p := ⟨Bc, 0, none⟩) lc).trans cc)
    | (have _t := bwb4; go_at_call 34; refine (Cdac.out qa qc _ (by first | exact ha.below bwb4 | exact (ha.below bwb4).drew) (by first | exact hc.below bwb4 | exact (hc.below bwb4).drew)).mono ?_; rintro e wb5 ⟨br5, rfl, hbr5, hbb5⟩; have bwb5 := below_then bwb4 hbb5; have sb5_0 := (bwb5.cell (p := ⟨Ba, 0, none⟩) la).trans ca; have sb5_1 := (bwb5.cell (p := ⟨Bb, 0, none⟩) lb).trans cb; have sb5_2 := (bwb5.cell (p := ⟨Bc, 0, none⟩) lc).trans cc)
    | (have _t := bwb3; go_at_call 34; refine (Cdab.out qa qb _ (by first | exact ha.below bwb3 | exact (ha.below bwb3).drew) (by first | exact hb.below bwb3 | exact (hb.below bwb3).drew)).mono ?_; rintro e wb4 ⟨br4, rfl, hbr4, hbb4⟩; have bwb4 := below_then bwb3 hbb4; have sb4_0 := (bwb4.cell (p := ⟨Ba, 0, none⟩) la).trans ca; have sb4_1 := (bwb4.cell (p := ⟨Bb, 0, none⟩) lb).trans cb; have sb4_2 := (bwb4.cell (p := ⟨Bc, 0, none⟩) lc).trans cc)
    | (have _t := bwb2; go_at_call 20; refine (ints_sl daubc br2 _ (by first | exact hbr2 | exact hbr2.drew) (by omega)).mono ?_; rintro e wb3 ⟨ai3, mi3, ci3, rfl, sl3, hbb3⟩; have bwb3 := below_then bwb2 hbb3; have sb3_0 := (bwb3.cell (p := ⟨Ba, 0, none⟩) la).trans ca; have sb3_1 := (bwb3.cell (p := ⟨Bb, 0, none⟩) lb).trans cb; have sb3_2 := (bwb3.cell (p := ⟨Bc, 0, none⟩) lc).trans cc)
    | (have _t := bwb1; go_at_call 34; refine (Cdaubc.out qa br1 _ (by first | exact ha.below bwb1 | exact (ha.below bwb1).drew) (by first | exact hbr1 | exact hbr1.drew)).mono ?_; rintro e wb2 ⟨br2, rfl, hbr2, hbb2⟩; have bwb2 := below_then bwb1 hbb2; have sb2_0 := (bwb2.cell (p := ⟨Ba, 0, none⟩) la).trans ca; have sb2_1 := (bwb2.cell (p := ⟨Bb, 0, none⟩) lb).trans cb; have sb2_2 := (bwb2.cell (p := ⟨Bc, 0, none⟩) lc).trans cc)
    | (go_at_call 33; refine (Cubc.out qb qc _ (by first | exact hb | exact hb.drew | exact hb.drewN _ | exact (hb.drewN _).drew | exact (hb.drewN _).drewN _ | exact ((hb.drewN _).drewN _).drew) (by first | exact hc | exact hc.drew | exact hc.drewN _ | exact (hc.drewN _).drew | exact (hc.drewN _).drewN _ | exact ((hc.drewN _).drewN _).drew)).mono ?_; rintro e wb1 ⟨br1, rfl, hbr1, hbb1⟩; have bwb1 : Below wa8.heap.size wa8 wb1 := (by first | exact hbb1 | exact below_of_drewN hbb1 | exact below_of_drew hbb1 | exact below_of_drewN (below_of_drew hbb1) | exact below_of_drewN (below_of_drewN hbb1) | exact below_of_drewN (below_of_drewN (below_of_drew hbb1))); have sb1_0 := (bwb1.cell (p := ⟨Ba, 0, none⟩) la).trans ca; have sb1_1 := (bwb1.cell (p := ⟨Bb, 0, none⟩) lb).trans cb; have sb1_2 := (bwb1.cell (p := ⟨Bc, 0, none⟩) lc).trans cc))
  replace ha := ha.below bwb8
  replace hb := hb.below bwb8
  replace hc := hc.below bwb8
  replace XBa := blk_below XBa bwb8
  replace XBb := blk_below XBb bwb8
  replace XBc := blk_below XBc bwb8
  replace B := below_then B bwb8
  clear ca la cb lb cc lc bwb1 hbb1 bwb2 hbb2 bwb3 hbb3 bwb4 hbb4 bwb5 hbb5 bwb6 hbb6 bwb7 hbb7 bwb8 hbb8
  go_wp2_with fail
  clear sl3 sl7 hbr1 hbr2 hbr4 hbr5 hbr6
  have ca := (blk XBa).1 0
  have la := (blk XBa).2.2
  have cb := (blk XBb).1 0
  have lb := (blk XBb).2.2
  have cc := (blk XBc).1 0
  have lc := (blk XBc).2.2
  go_region_held3 (fun w' => w'.cell? ⟨Ba, 0, none⟩ = some (.pointer qa) ∧ w'.cell? ⟨Bb, 0, none⟩ = some (.pointer qb) ∧ w'.cell? ⟨Bc, 0, none⟩ = some (.pointer qc)) (go_keep) (first
    | (have _t := bwc7; go_at_call 23; refine (same_yes _ _ _ _ _ _ _ _ _ (by first | exact ((((sl3.below hbc4).below hbc5).below hbc6).below hbc7) | exact ((((sl3.below hbc4).below hbc5).below hbc6).below hbc7).drew) (by first | exact sl7 | exact sl7.drew) E3.out).mono ?_; rintro e wc8 ⟨rfl, hbc8⟩; have bwc8 := below_then bwc7 hbc8; have sc8_0 := (bwc8.cell (p := ⟨Ba, 0, none⟩) la).trans ca; have sc8_1 := (bwc8.cell (p := ⟨Bb, 0, none⟩) lb).trans cb; have sc8_2 := (bwc8.cell (p := ⟨Bc, 0, none⟩) lc).trans cc)
    | (have _t := bwc6; go_at_call 20; refine (ints_sl udd cr6 _ (by first | exact hcr6 | exact hcr6.drew) (by omega)).mono ?_; rintro e wc7 ⟨ai7, mi7, ci7, rfl, sl7, hbc7⟩; have bwc7 := below_then bwc6 hbc7; have sc7_0 := (bwc7.cell (p := ⟨Ba, 0, none⟩) la).trans ca; have sc7_1 := (bwc7.cell (p := ⟨Bb, 0, none⟩) lb).trans cb; have sc7_2 := (bwc7.cell (p := ⟨Bc, 0, none⟩) lc).trans cc)
    | (have _t := bwc5; go_at_call 33; refine (Cudd.out cr4 cr5 _ (by first | exact (hcr4.below hbc5) | exact (hcr4.below hbc5).drew) (by first | exact hcr5 | exact hcr5.drew)).mono ?_; rintro e wc6 ⟨cr6, rfl, hcr6, hbc6⟩; have bwc6 := below_then bwc5 hbc6; have sc6_0 := (bwc6.cell (p := ⟨Ba, 0, none⟩) la).trans ca; have sc6_1 := (bwc6.cell (p := ⟨Bb, 0, none⟩) lb).trans cb; have sc6_2 := (bwc6.cell (p := ⟨Bc, 0, none⟩) lc).trans cc)
    | (have _t := bwc4; go_at_call 34; refine (Cdac.out qa qc _ (by first | exact ha.below bwc4 | exact (ha.below bwc4).drew) (by first | exact hc.below bwc4 | exact (hc.below bwc4).drew)).mono ?_; rintro e wc5 ⟨cr5, rfl, hcr5, hbc5⟩; have bwc5 := below_then bwc4 hbc5; have sc5_0 := (bwc5.cell (p := ⟨Ba, 0, none⟩) la).trans ca; have sc5_1 := (bwc5.cell (p := ⟨Bb, 0, none⟩) lb).trans cb; have sc5_2 := (bwc5.cell (p := ⟨Bc, 0, none⟩) lc).trans cc)
    | (have _t := bwc3; go_at_call 34; refine (Cdab.out qa qb _ (by first | exact ha.below bwc3 | exact (ha.below bwc3).drew) (by first | exact hb.below bwc3 | exact (hb.below bwc3).drew)).mono ?_; rintro e wc4 ⟨cr4, rfl, hcr4, hbc4⟩; have bwc4 := below_then bwc3 hbc4; have sc4_0 := (bwc4.cell (p := ⟨Ba, 0, none⟩) la).trans ca; have sc4_1 := (bwc4.cell (p := ⟨Bb, 0, none⟩) lb).trans cb; have sc4_2 := (bwc4.cell (p := ⟨Bc, 0, none⟩) lc).trans cc)
    | (have _t := bwc2; go_at_call 20; refine (ints_sl daibc cr2 _ (by first | exact hcr2 | exact hcr2.drew) (by omega)).mono ?_; rintro e wc3 ⟨ai3, mi3, ci3, rfl, sl3, hbc3⟩; have bwc3 := below_then bwc2 hbc3; have sc3_0 := (bwc3.cell (p := ⟨Ba, 0, none⟩) la).trans ca; have sc3_1 := (bwc3.cell (p := ⟨Bb, 0, none⟩) lb).trans cb; have sc3_2 := (bwc3.cell (p := ⟨Bc, 0, none⟩) lc).trans cc)
    | (have _t := bwc1; go_at_call 34; refine (Cdaibc.out qa cr1 _ (by first | exact ha.below bwc1 | exact (ha.below bwc1).drew) (by first | exact hcr1 | exact hcr1.drew)).mono ?_; rintro e wc2 ⟨cr2, rfl, hcr2, hbc2⟩; have bwc2 := below_then bwc1 hbc2; have sc2_0 := (bwc2.cell (p := ⟨Ba, 0, none⟩) la).trans ca; have sc2_1 := (bwc2.cell (p := ⟨Bb, 0, none⟩) lb).trans cb; have sc2_2 := (bwc2.cell (p := ⟨Bc, 0, none⟩) lc).trans cc)
    | (go_at_call 32; refine (Cibc.out qb qc _ (by first | exact hb | exact hb.drew | exact hb.drewN _ | exact (hb.drewN _).drew | exact (hb.drewN _).drewN _ | exact ((hb.drewN _).drewN _).drew) (by first | exact hc | exact hc.drew | exact hc.drewN _ | exact (hc.drewN _).drew | exact (hc.drewN _).drewN _ | exact ((hc.drewN _).drewN _).drew)).mono ?_; rintro e wc1 ⟨cr1, rfl, hcr1, hbc1⟩; have bwc1 : Below wb8.heap.size wb8 wc1 := (by first | exact hbc1 | exact below_of_drewN hbc1 | exact below_of_drew hbc1 | exact below_of_drewN (below_of_drew hbc1) | exact below_of_drewN (below_of_drewN hbc1) | exact below_of_drewN (below_of_drewN (below_of_drew hbc1))); have sc1_0 := (bwc1.cell (p := ⟨Ba, 0, none⟩) la).trans ca; have sc1_1 := (bwc1.cell (p := ⟨Bb, 0, none⟩) lb).trans cb; have sc1_2 := (bwc1.cell (p := ⟨Bc, 0, none⟩) lc).trans cc))
  replace ha := ha.below bwc8
  replace hb := hb.below bwc8
  replace hc := hc.below bwc8
  replace XBa := blk_below XBa bwc8
  replace XBb := blk_below XBb bwc8
  replace XBc := blk_below XBc bwc8
  replace B := below_then B bwc8
  clear ca la cb lb cc lc bwc1 hbc1 bwc2 hbc2 bwc3 hbc3 bwc4 hbc4 bwc5 hbc5 bwc6 hbc6 bwc7 hbc7 bwc8 hbc8
  go_wp2_with fail
  clear sl3 sl7 hcr1 hcr2 hcr4 hcr5 hcr6
  have ca := (blk XBa).1 0
  have la := (blk XBa).2.2
  have cb := (blk XBb).1 0
  have lb := (blk XBb).2.2
  have cc := (blk XBc).1 0
  have lc := (blk XBc).2.2
  go_region_held3 (fun w' => w'.cell? ⟨Ba, 0, none⟩ = some (.pointer qa) ∧ w'.cell? ⟨Bb, 0, none⟩ = some (.pointer qb)) (go_keep) (first
    | (have _t := bwd4; go_at_call 23; refine (same_yes _ _ _ _ _ _ _ _ _ (by first | exact ((sl2.below hbd3).below hbd4) | exact ((sl2.below hbd3).below hbd4).drew) (by first | exact sl4 | exact sl4.drew) E4.out).mono ?_; rintro e wd5 ⟨rfl, hbd5⟩; have bwd5 := below_then bwd4 hbd5; have sd5_0 := (bwd5.cell (p := ⟨Ba, 0, none⟩) la).trans ca; have sd5_1 := (bwd5.cell (p := ⟨Bb, 0, none⟩) lb).trans cb)
    | (have _t := bwd3; go_at_call 20; refine (ints_sl uba dr3 _ (by first | exact hdr3 | exact hdr3.drew) (by omega)).mono ?_; rintro e wd4 ⟨ai4, mi4, ci4, rfl, sl4, hbd4⟩; have bwd4 := below_then bwd3 hbd4; have sd4_0 := (bwd4.cell (p := ⟨Ba, 0, none⟩) la).trans ca; have sd4_1 := (bwd4.cell (p := ⟨Bb, 0, none⟩) lb).trans cb)
    | (have _t := bwd2; go_at_call 33; refine (Cuba.out qb qa _ (by first | exact hb.below bwd2 | exact (hb.below bwd2).drew) (by first | exact ha.below bwd2 | exact (ha.below bwd2).drew)).mono ?_; rintro e wd3 ⟨dr3, rfl, hdr3, hbd3⟩; have bwd3 := below_then bwd2 hbd3; have sd3_0 := (bwd3.cell (p := ⟨Ba, 0, none⟩) la).trans ca; have sd3_1 := (bwd3.cell (p := ⟨Bb, 0, none⟩) lb).trans cb)
    | (have _t := bwd1; go_at_call 20; refine (ints_sl uab dr1 _ (by first | exact hdr1 | exact hdr1.drew) (by omega)).mono ?_; rintro e wd2 ⟨ai2, mi2, ci2, rfl, sl2, hbd2⟩; have bwd2 := below_then bwd1 hbd2; have sd2_0 := (bwd2.cell (p := ⟨Ba, 0, none⟩) la).trans ca; have sd2_1 := (bwd2.cell (p := ⟨Bb, 0, none⟩) lb).trans cb)
    | (go_at_call 33; refine (Cuab.out qa qb _ (by first | exact ha | exact ha.drew | exact ha.drewN _ | exact (ha.drewN _).drew | exact (ha.drewN _).drewN _ | exact ((ha.drewN _).drewN _).drew) (by first | exact hb | exact hb.drew | exact hb.drewN _ | exact (hb.drewN _).drew | exact (hb.drewN _).drewN _ | exact ((hb.drewN _).drewN _).drew)).mono ?_; rintro e wd1 ⟨dr1, rfl, hdr1, hbd1⟩; have bwd1 : Below wc8.heap.size wc8 wd1 := (by first | exact hbd1 | exact below_of_drewN hbd1 | exact below_of_drew hbd1 | exact below_of_drewN (below_of_drew hbd1) | exact below_of_drewN (below_of_drewN hbd1) | exact below_of_drewN (below_of_drewN (below_of_drew hbd1))); have sd1_0 := (bwd1.cell (p := ⟨Ba, 0, none⟩) la).trans ca; have sd1_1 := (bwd1.cell (p := ⟨Bb, 0, none⟩) lb).trans cb))
  replace ha := ha.below bwd5
  replace hb := hb.below bwd5
  replace hc := hc.below bwd5
  replace XBa := blk_below XBa bwd5
  replace XBb := blk_below XBb bwd5
  replace XBc := blk_below XBc bwd5
  replace B := below_then B bwd5
  clear ca la cb lb cc lc bwd1 hbd1 bwd2 hbd2 bwd3 hbd3 bwd4 hbd4 bwd5 hbd5
  go_wp2_with fail
  clear sl2 sl4 hdr1 hdr3
  have ca := (blk XBa).1 0
  have la := (blk XBa).2.2
  have cb := (blk XBb).1 0
  have lb := (blk XBb).2.2
  have cc := (blk XBc).1 0
  have lc := (blk XBc).2.2
  go_region_held3 (fun w' => w'.cell? ⟨Ba, 0, none⟩ = some (.pointer qa) ∧ w'.cell? ⟨Bb, 0, none⟩ = some (.pointer qb)) (go_keep) (first
    | (have _t := bwe4; go_at_call 23; refine (same_yes _ _ _ _ _ _ _ _ _ (by first | exact (sl3.below hbe4) | exact (sl3.below hbe4).drew) (by first | exact sl4 | exact sl4.drew) E5.out).mono ?_; rintro e we5 ⟨rfl, hbe5⟩; have bwe5 := below_then bwe4 hbe5; have se5_0 := (bwe5.cell (p := ⟨Ba, 0, none⟩) la).trans ca; have se5_1 := (bwe5.cell (p := ⟨Bb, 0, none⟩) lb).trans cb)
    | (have _t := bwe3; go_at_call 20; refine (ints_sl ta qa _ (by first | exact ha.below bwe3 | exact (ha.below bwe3).drew) (by omega)).mono ?_; rintro e we4 ⟨ai4, mi4, ci4, rfl, sl4, hbe4⟩; have bwe4 := below_then bwe3 hbe4; have se4_0 := (bwe4.cell (p := ⟨Ba, 0, none⟩) la).trans ca; have se4_1 := (bwe4.cell (p := ⟨Bb, 0, none⟩) lb).trans cb)
    | (have _t := bwe2; go_at_call 20; refine (ints_sl uaia er2 _ (by first | exact her2 | exact her2.drew) (by omega)).mono ?_; rintro e we3 ⟨ai3, mi3, ci3, rfl, sl3, hbe3⟩; have bwe3 := below_then bwe2 hbe3; have se3_0 := (bwe3.cell (p := ⟨Ba, 0, none⟩) la).trans ca; have se3_1 := (bwe3.cell (p := ⟨Bb, 0, none⟩) lb).trans cb)
    | (have _t := bwe1; go_at_call 33; refine (Cuaia.out qa er1 _ (by first | exact ha.below bwe1 | exact (ha.below bwe1).drew) (by first | exact her1 | exact her1.drew)).mono ?_; rintro e we2 ⟨er2, rfl, her2, hbe2⟩; have bwe2 := below_then bwe1 hbe2; have se2_0 := (bwe2.cell (p := ⟨Ba, 0, none⟩) la).trans ca; have se2_1 := (bwe2.cell (p := ⟨Bb, 0, none⟩) lb).trans cb)
    | (go_at_call 32; refine (Ciab.out qa qb _ (by first | exact ha | exact ha.drew | exact ha.drewN _ | exact (ha.drewN _).drew | exact (ha.drewN _).drewN _ | exact ((ha.drewN _).drewN _).drew) (by first | exact hb | exact hb.drew | exact hb.drewN _ | exact (hb.drewN _).drew | exact (hb.drewN _).drewN _ | exact ((hb.drewN _).drewN _).drew)).mono ?_; rintro e we1 ⟨er1, rfl, her1, hbe1⟩; have bwe1 : Below wd5.heap.size wd5 we1 := (by first | exact hbe1 | exact below_of_drewN hbe1 | exact below_of_drew hbe1 | exact below_of_drewN (below_of_drew hbe1) | exact below_of_drewN (below_of_drewN hbe1) | exact below_of_drewN (below_of_drewN (below_of_drew hbe1))); have se1_0 := (bwe1.cell (p := ⟨Ba, 0, none⟩) la).trans ca; have se1_1 := (bwe1.cell (p := ⟨Bb, 0, none⟩) lb).trans cb))
  replace ha := ha.below bwe5
  replace hb := hb.below bwe5
  replace hc := hc.below bwe5
  replace XBa := blk_below XBa bwe5
  replace XBb := blk_below XBb bwe5
  replace XBc := blk_below XBc bwe5
  replace B := below_then B bwe5
  clear ca la cb lb cc lc bwe1 hbe1 bwe2 hbe2 bwe3 hbe3 bwe4 hbe4 bwe5 hbe5
  clear sl3 sl4 her1 her2
  have ew1 : IntKind.i64.wrap ((uab.size : Int) + (iab.size : Int)) = (uab.size : Int) + (iab.size : Int) := IntWalk.i64_in _ (by omega)
  have ew2 : IntKind.i64.wrap ((ta.size : Int) + (tb.size : Int)) = (ta.size : Int) + (tb.size : Int) := IntWalk.i64_in _ (by omega)
  have d6 := D6.out
  go_wp2_with fail
  have ca := (blk XBa).1 0
  have la := (blk XBa).2.2
  have cb := (blk XBb).1 0
  have lb := (blk XBb).2.2
  have cc := (blk XBc).1 0
  have lc := (blk XBc).2.2
  go_region_held3 (fun w' => w'.cell? ⟨Ba, 0, none⟩ = some (.pointer qa) ∧ w'.cell? ⟨Bb, 0, none⟩ = some (.pointer qb)) (go_keep) (first
    | (have _t := bwf5; go_at_call 19; refine (len_set tb qb _ (by first | exact hb.below bwf5 | exact (hb.below bwf5).drew)).mono ?_; rintro e wf6 ⟨rfl, hbf6⟩; have bwf6 := below_then bwf5 hbf6; have sf6_0 := (bwf6.cell (p := ⟨Ba, 0, none⟩) la).trans ca; have sf6_1 := (bwf6.cell (p := ⟨Bb, 0, none⟩) lb).trans cb)
    | (have _t := bwf4; go_at_call 19; refine (len_set ta qa _ (by first | exact ha.below bwf4 | exact (ha.below bwf4).drew)).mono ?_; rintro e wf5 ⟨rfl, hbf5⟩; have bwf5 := below_then bwf4 hbf5; have sf5_0 := (bwf5.cell (p := ⟨Ba, 0, none⟩) la).trans ca; have sf5_1 := (bwf5.cell (p := ⟨Bb, 0, none⟩) lb).trans cb)
    | (have _t := bwf3; go_at_call 19; refine (len_set iab fr3 _ (by first | exact hfr3 | exact hfr3.drew)).mono ?_; rintro e wf4 ⟨rfl, hbf4⟩; have bwf4 := below_then bwf3 hbf4; have sf4_0 := (bwf4.cell (p := ⟨Ba, 0, none⟩) la).trans ca; have sf4_1 := (bwf4.cell (p := ⟨Bb, 0, none⟩) lb).trans cb)
    | (have _t := bwf2; go_at_call 32; refine (Ciab.out qa qb _ (by first | exact ha.below bwf2 | exact (ha.below bwf2).drew) (by first | exact hb.below bwf2 | exact (hb.below bwf2).drew)).mono ?_; rintro e wf3 ⟨fr3, rfl, hfr3, hbf3⟩; have bwf3 := below_then bwf2 hbf3; have sf3_0 := (bwf3.cell (p := ⟨Ba, 0, none⟩) la).trans ca; have sf3_1 := (bwf3.cell (p := ⟨Bb, 0, none⟩) lb).trans cb)
    | (have _t := bwf1; go_at_call 19; refine (len_set uab fr1 _ (by first | exact hfr1 | exact hfr1.drew)).mono ?_; rintro e wf2 ⟨rfl, hbf2⟩; have bwf2 := below_then bwf1 hbf2; have sf2_0 := (bwf2.cell (p := ⟨Ba, 0, none⟩) la).trans ca; have sf2_1 := (bwf2.cell (p := ⟨Bb, 0, none⟩) lb).trans cb)
    | (go_at_call 33; refine (Cuab.out qa qb _ (by first | exact ha | exact ha.drew | exact ha.drewN _ | exact (ha.drewN _).drew | exact (ha.drewN _).drewN _ | exact ((ha.drewN _).drewN _).drew) (by first | exact hb | exact hb.drew | exact hb.drewN _ | exact (hb.drewN _).drew | exact (hb.drewN _).drewN _ | exact ((hb.drewN _).drewN _).drew)).mono ?_; rintro e wf1 ⟨fr1, rfl, hfr1, hbf1⟩; have bwf1 : Below we5.heap.size we5 wf1 := (by first | exact hbf1 | exact below_of_drewN hbf1 | exact below_of_drew hbf1 | exact below_of_drewN (below_of_drew hbf1) | exact below_of_drewN (below_of_drewN hbf1) | exact below_of_drewN (below_of_drewN (below_of_drew hbf1))); have sf1_0 := (bwf1.cell (p := ⟨Ba, 0, none⟩) la).trans ca; have sf1_1 := (bwf1.cell (p := ⟨Bb, 0, none⟩) lb).trans cb))
  replace ha := ha.below bwf6
  replace hb := hb.below bwf6
  replace hc := hc.below bwf6
  replace XBa := blk_below XBa bwf6
  replace XBb := blk_below XBb bwf6
  replace XBc := blk_below XBc bwf6
  replace B := below_then B bwf6
  clear ca la cb lb cc lc bwf1 hbf1 bwf2 hbf2 bwf3 hbf3 bwf4 hbf4 bwf5 hbf5 bwf6 hbf6
  go_wp2_with fail
  go_ret
  exact ⟨by simp, B⟩
end Go.Proofs.Ytchglmgbnmdffaa
