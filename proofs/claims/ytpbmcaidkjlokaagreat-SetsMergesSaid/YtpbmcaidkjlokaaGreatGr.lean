/- A map from places to ranges: each place's ranges in a row of the call's own. -/
import Derived.Test.YtpbmcaidkjlokaaGreatOn
import Derived.Test.YtpbmcaidkjlokaaGreatItPl
import Derived.WideKeyEntry
namespace Go.Proofs.YtpbmcaidkjlokaaGreat
open Go.RowKit Go.Maps Go.Sort

set_option maxRecDepth 100000 in
theorem lawPl : WideMaps.KeyLaw Tryz.prog 69 := deep_law_laid laidOut (m := 2) (by omega) rowPl (by kernel_rfl) widePl
theorem zeroRn (u : World) : (zeroValue 70).run Tryz.prog u = .ok (.slice none 0 0) u := Tryz.zeroValue70 u
instance : DecidableEq Pl := fun a b => decidable_of_iff (a.a = b.a ∧ a.b = b.b) ⟨fun h => by cases a; cases b; simp at h; simp [h], fun h => by subst h; exact ⟨rfl, rfl⟩⟩
/-- How a place reads. -/
noncomputable def lPl (q : Pl) : Lit := litOf Tryz.prog 69 vPl q
abbrev nilD : DataW Value := .held (.slice none 0 0)

section
variable {w : World} {base b n : Nat} {D : DataW Value} {g : Pl → List Rn}
/-- Block b is a map that has the rows g. -/
structure Groups (w : World) (base b n : Nat) (D : DataW Value) (g : Pl → List Rn) : Prop where
  own : w.ownsMap Tryz.prog 69 anyElem b n D
  row : ∀ q, wfPl q → ∃ v, D.atKey (lPl q) nilD = .held v ∧ Own eRn 3 44 base w v (g q)
  apart : ∀ q q', wfPl q → wfPl q' → q ≠ q' → ∀ v v', D.atKey (lPl q) nilD = .held v → D.atKey (lPl q') nilD = .held v' → v.ownBlock = none ∨ v.ownBlock ≠ v'.ownBlock
theorem Groups.start (w : World) (base : Nat) : Groups (w.alloc (.map #[] 0)) base w.heap.size 0 (.map []) (fun _ => []) where
  own := World.ownsMap_made w _ _ _
  row q _ := ⟨.slice none 0 0, rfl, Own.nil _ _ _⟩
  apart q q' _ _ _ v v' h _ := by
    left
    have : v = .slice none 0 0 := by cases h; rfl
    rw [this]; rfl
theorem Groups.heap (h : Groups w base b n D g) : ∃ es c, w.heap[b]? = some (.map es c) := by
  obtain ⟨es, c, hb, _⟩ := h.own
  exact ⟨es, c, hb⟩
/-- A block that is none of the map's. -/
def NotGr (w : World) (row : Option Nat) : Prop := ∀ r, row = some r → ∃ o, w.heap[r]? = some o ∧ (∀ cur, o ≠ .cells cur 44 (0, 0)) ∧ ∀ es c, o ≠ .map es c
theorem NotGr.none : NotGr w none := fun r e => by cases e
theorem Groups.kept (h : Groups w base b n D g) {w' : World} {row : Option Nat} (hg : w.grownBy w' row) (hr : NotGr w row) : Groups w' base b n D g where
  own := h.own.kept hg (fun e => by
    obtain ⟨o, ho, _, h2⟩ := hr b e.symm
    obtain ⟨es, c, hb⟩ := h.heap
    rw [hb] at ho; cases ho; exact h2 _ _ rfl)
  row q hq := by
    obtain ⟨v, hv, ho⟩ := h.row q hq
    refine ⟨v, hv, ho.kept hg ?_⟩
    cases row with
    | none => cases v.ownBlock <;> simp
    | some r =>
      obtain ⟨o, hro, h1, _⟩ := hr r rfl
      exact ownsRow_ne_a ho hro h1
  apart := h.apart
theorem Groups.alloc (h : Groups w base b n D g) (o : Obj) : Groups (w.alloc o) base b n D g := h.kept (World.grownBy_alloc w o none) NotGr.none
theorem Groups.drewN (h : Groups w base b n D g) (q : Nat) : Groups (w.drewN q) base b n D g := h.kept (row := none) ⟨rfl, rfl, rfl, Nat.le_refl _, fun _ _ _ => rfl⟩ NotGr.none
theorem Groups.below (h : Groups w base b n D g) {w' : World} (hb : Below w.heap.size w w') : Groups w' base b n D g := h.kept (row := none) ⟨hb.os, hb.tape, hb.output, hb.size, fun i hi _ => hb.block i hi⟩ NotGr.none
theorem Groups.isMap (h : Groups w base b n D g) : IsMap D := (owns_isMap h.own).1
theorem Groups.congr (h : Groups w base b n D g) {g' : Pl → List Rn} (e : ∀ q, wfPl q → g q = g' q) : Groups w base b n D g' := ⟨h.own, fun q hq => by rw [← e q hq]; exact h.row q hq, h.apart⟩
def updG (g : Pl → List Rn) (q : Pl) (l : List Rn) : Pl → List Rn := fun q' => if q' = q then l else g q'
/-- A row laid at a place. -/
theorem Groups.put (h : Groups w base b n D g) {q : Pl} (hq : wfPl q) {v' : Value} {l : List Rn} {w' : World} {n' : Nat}
    (hm : w'.ownsMap Tryz.prog 69 anyElem b n' (D.put (lPl q) (.held v'))) (hrows : ∀ q', wfPl q' → q' ≠ q → ∀ v, D.atKey (lPl q') nilD = .held v → Own eRn 3 44 base w v (g q') → Own eRn 3 44 base w' v (g q'))
    (ho : Own eRn 3 44 base w' v' l) (hap : ∀ q', wfPl q' → q' ≠ q → ∀ v, D.atKey (lPl q') nilD = .held v → (v'.ownBlock = none ∨ v'.ownBlock ≠ v.ownBlock) ∧ (v.ownBlock = none ∨ v.ownBlock ≠ v'.ownBlock)) :
    Groups w' base b n' (D.put (lPl q) (.held v')) (updG g q l) where
  own := hm
  row q' hq' := by
    by_cases e : q' = q
    · subst e
      exact ⟨v', kPl.find q' hq D _ _ h.isMap, by simpa [updG] using ho⟩
    · obtain ⟨v, hv, hov⟩ := h.row q' hq'
      refine ⟨v, (kPl.find_other hq hq' e D _ _).trans hv, ?_⟩
      have := hrows q' hq' e v hv hov
      simpa [updG, e] using this
  apart q1 q2 h1 h2 hne v1 v2 e1 e2 := by
    by_cases a : q1 = q
    · subst a
      have b2 : q2 ≠ q1 := fun e => hne e.symm
      have e1' : v1 = v' := by have := (kPl.find q1 h1 D (.held v') nilD h.isMap).symm.trans e1; cases this; rfl
      have e2' := (kPl.find_other h1 h2 b2 D (.held v') nilD).symm.trans e2
      subst e1'
      exact (hap q2 h2 b2 v2 e2').1
    · have e1' := (kPl.find_other hq h1 a D (.held v') nilD).symm.trans e1
      by_cases c : q2 = q
      · subst c
        have e2' : v2 = v' := by have := (kPl.find q2 h2 D (.held v') nilD h.isMap).symm.trans e2; cases this; rfl
        subst e2'
        exact (hap q1 h1 a v1 e1').2
      · exact h.apart q1 q2 h1 h2 hne v1 v2 e1' ((kPl.find_other hq h2 c D (.held v') nilD).symm.trans e2)
end

/-- m[k] op= ..: the entry is found (or laid), and what is stored later stands there. -/
theorem entry_store {w : World} {b n : Nat} {D : DataW Value} (h : w.ownsMap Tryz.prog 69 anyElem b n D) (hn : n < maxLen) {q : Pl} (hq : wfPl q) :
    ∃ (v0 : Value) (st : Nat) (w1 : World), (Instr.mapEntry 67 (.map (some b)) (vPl q)).run Tryz.prog w = .ok (.tuple #[v0, goInt st]) w1 ∧ D.atKey (lPl q) nilD = .held v0 ∧ w.grownBy w1 (some b) ∧ (∃ es c, w1.heap[b]? = some (.map es c)) ∧
      ∀ (w2 : World) (val : Value), w2.heap[b]? = w1.heap[b]? → ∃ w3, (Instr.entryStore 67 (.map (some b)) (goInt st) val).run Tryz.prog w2 = .ok () w3 ∧ w3.ownsMap Tryz.prog 69 anyElem b (n + 1) (D.put (lPl q) (.held val)) ∧ w2.grownBy w3 (some b) := by
  have h0 := h
  obtain ⟨es, clock, hb, F, hs, hD⟩ := h
  have hkey := kPl.lit hq
  obtain ⟨v0, st, es1, clock1, hrun, hv0, hst⟩ := WideElems.entry_then_store lawPl Tryz.underlying67 zeroRn hb F hkey
  have hb1 : (ChangeMaps.setBlock w b (.map es1 clock1)).heap[b]? = some (.map es1 clock1) := ChangeMaps.heap_setBlock_same hb _
  refine ⟨v0, st, _, hrun, ?_, ⟨rfl, rfl, rfl, by simp [ChangeMaps.setBlock], fun i _ hi => ChangeMaps.heap_setBlock_other hb _ (fun e => hi (by rw [e]))⟩, ⟨es1, clock1, hb1⟩, ?_⟩
  · rcases Maps.fit_look false kPl.keyed Tryz.underlying67 (zeroRn w) hb F hkey with ⟨_, hno, hat⟩ | ⟨e0, y, he0, hk0, _, hy, hat, _⟩
    · rcases hv0 with ⟨e1, he1, hk1, _⟩ | ⟨_, rfl⟩
      · exact absurd hk1 (hno e1 he1)
      · rw [hD]; exact hat nilD
    · rcases hv0 with ⟨e1, he1, hk1, rfl⟩ | ⟨hno, _⟩
      · have hst' := (MapKept.stamped_iff es clock).1 F.stamped
        have : e1 = e0 := entry_eq_of_key hst'.2.2 he1 he0 (hk1.trans hk0.symm)
        subst this
        rw [hD, show lPl q = litOf Tryz.prog 69 vPl q from rfl, hat nilD]
        have : y = (.held e1.val, []) := by simpa [anyElem] using hy.symm
        rw [this]
      · exact absurd hk0 (hno e0 he0)
  · intro w2 val hw2
    obtain ⟨es', clock', hr1, hr2⟩ := hst w2 val (hw2.trans hb1)
    obtain ⟨w', hu, ho, hg⟩ := h0.update kPl.keyed Tryz.underlying67 hn hkey (val := val) (d := .held val) (ps := []) rfl
    rw [hr2] at hu
    have e : w' = ChangeMaps.setBlock w b (.map es' clock') := by simpa using hu.symm
    subst e
    have hb2 : w2.heap[b]? = some (.map es1 clock1) := hw2.trans hb1
    refine ⟨_, hr1, ?_, ⟨rfl, rfl, rfl, by simp [ChangeMaps.setBlock], fun i _ hi => ChangeMaps.heap_setBlock_other hb2 _ (fun e => hi (by rw [e]))⟩⟩
    obtain ⟨es2, c2, hbo, F2, hs2, hD2⟩ := ho
    refine ⟨es2, c2, ?_, F2, hs2, hD2⟩
    rw [ChangeMaps.heap_setBlock_same hb] at hbo
    rw [ChangeMaps.heap_setBlock_same hb2]
    exact hbo
end Go.Proofs.YtpbmcaidkjlokaaGreat
