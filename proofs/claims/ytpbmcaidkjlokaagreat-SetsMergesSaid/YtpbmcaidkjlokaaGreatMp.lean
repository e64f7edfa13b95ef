/- Maps by their keys: which keys there are, what stands at each. -/
import Derived.Test.YtpbmcaidkjlokaaGreatMk
import Derived.Maps.Views
import Derived.Sort.MapsRangeIn
import Derived.RangeFuncGives
import Derived.RangeFuncBound
namespace Go.Proofs.YtpbmcaidkjlokaaGreat
open Go.RowKit Go.Maps

/-- A type of keys: how a key is spelled, which ones there are. -/
structure KeyT {α : Type} (P : Program) (k : TypeId) (V : α → Value) (wf : α → Prop) : Prop where
  keyed : Keyed P k
  key : ∀ x, wf x → ∃ l, keyOf P k (V x) = some l
  inv : ∀ {v : Value} {l : Lit}, keyOf P k v = some l → ∃ x, v = V x ∧ wf x
  inj : ∀ x y, V x = V y → x = y
section
variable {α : Type} {P : Program} {k : TypeId} {V : α → Value} {wf : α → Prop} {H : Type}
/-- How a key reads. -/
def litOf (P : Program) (k : TypeId) (V : α → Value) (x : α) : Lit := (keyOf P k (V x)).getD (.bool false)
theorem KeyT.lit (K : KeyT P k V wf) {x : α} (h : wf x) : keyOf P k (V x) = some (litOf P k V x) := by
  obtain ⟨l, hl⟩ := K.key x h
  unfold litOf; rw [hl]; rfl
theorem KeyT.lit_inj (K : KeyT P k V wf) {x y : α} (hx : wf x) (hy : wf y) (h : litOf P k V x = litOf P k V y) : x = y := by
  have h1 := K.lit hx
  rw [h] at h1
  exact K.inj _ _ (K.keyed.inj h1 (K.lit hy))
theorem KeyT.isKey (K : KeyT P k V wf) {x : α} (h : wf x) : WideAt.IsKeyLit (litOf P k V x) := K.keyed.key (K.lit h)
theorem KeyT.same (K : KeyT P k V wf) {x y : α} (hx : wf x) (hy : wf y) : (litOf P k V x).sameKey (litOf P k V y) = true ↔ x = y :=
  ⟨fun h => K.lit_inj hx hy (WideAt.sameKey_eq h), fun h => by subst h; exact WideAt.sameKey_self (K.isKey hx)⟩
/-- What of a map has come so far. -/
def CollectedV (P : Program) (k : TypeId) (V : α → Value) (wf : α → Prop) (D0 : DataW H) (left : Lit → Bool) (ss : List α) : Prop :=
  ss.Nodup ∧ (∀ x ∈ ss, wf x) ∧ ∀ x, wf x → (x ∈ ss ↔ (has D0 (litOf P k V x) = true ∧ left (litOf P k V x) = false))
theorem CollectedV.start (D0 : DataW H) : CollectedV P k V wf D0 (has D0) ([] : List α) :=
  ⟨List.nodup_nil, fun x hx => by simp at hx, fun x _ => by cases has D0 (litOf P k V x) <;> simp⟩
theorem CollectedV.step (K : KeyT P k V wf) {D0 : DataW H} {left : Lit → Bool} {ss : List α} (h : CollectedV P k V wf D0 left ss) {x : α} (hx : wf x) {y : DataW H} (hlk : left (litOf P k V x) = true) (hat : ∀ zd, D0.atKey (litOf P k V x) zd = y) :
    CollectedV P k V wf D0 (fun z => left z && !z.sameKey (litOf P k V x)) (ss ++ [x]) := by
  have hhas : has D0 (litOf P k V x) = true := has_true_of_atKey hat
  have hnew : x ∉ ss := fun hm => by have := ((h.2.2 x hx).1 hm).2; rw [hlk] at this; cases this
  refine ⟨List.nodup_append.2 ⟨h.1, by simp, fun a ha b hb => by simp at hb; subst hb; exact fun e => hnew (e ▸ ha)⟩, fun z hz => ?_, fun z hz => ?_⟩
  · rcases List.mem_append.1 hz with hz | hz
    · exact h.2.1 z hz
    · simp at hz; subst hz; exact hx
  · rw [List.mem_append, h.2.2 z hz]
    by_cases hzx : z = x
    · subst hzx
      have := (K.same hz hz).2 rfl
      simp [hhas, this]
    · have : (litOf P k V z).sameKey (litOf P k V x) = false := by
        cases hs : (litOf P k V z).sameKey (litOf P k V x)
        · rfl
        · exact absurd ((K.same hz hx).1 hs) hzx
      simp [this, hzx]
/-- All of it. -/
def AllKeys (P : Program) (k : TypeId) (V : α → Value) (wf : α → Prop) (D0 : DataW H) (ss : List α) : Prop :=
  ss.Nodup ∧ (∀ x ∈ ss, wf x) ∧ ∀ x, wf x → (x ∈ ss ↔ has D0 (litOf P k V x) = true)
theorem CollectedV.all {D0 : DataW H} {left : Lit → Bool} {ss : List α} (h : CollectedV P k V wf D0 left ss) (hl : ∀ kl, left kl = false) : AllKeys P k V wf D0 ss :=
  ⟨h.1, h.2.1, fun x hx => by rw [h.2.2 x hx, hl]; simp⟩
/-- Whatever value stands there. -/
def anyElem (v : Value) : Option (DataW Value × List MemPlace) := some (.held v, [])
theorem KeyT.find (K : KeyT P k V wf) (x : α) (hx : wf x) (D : DataW H) (d z : DataW H) (hD : IsMap D) : (D.put (litOf P k V x) d).atKey (litOf P k V x) z = d := atKey_put_same hD (K.isKey hx) d z
theorem KeyT.find_other (K : KeyT P k V wf) {x y : α} (hx : wf x) (hy : wf y) (hne : y ≠ x) (D d z : DataW H) : (D.put (litOf P k V x) d).atKey (litOf P k V y) z = D.atKey (litOf P k V y) z := atKey_put_other (fun e => hne (K.lit_inj hy hx e)) d z
theorem KeyT.has_put (K : KeyT P k V wf) {x : α} (hx : wf x) {D : DataW H} (hD : IsMap D) (d : DataW H) {y : α} (hy : wf y) : has (D.put (litOf P k V x) d) (litOf P k V y) = true ↔ y = x ∨ has D (litOf P k V y) = true := by
  by_cases h : y = x
  · subst h; simp [has_put_same hD (K.isKey hx) d]
  · rw [has_put_other (fun e => h (K.lit_inj hy hx e)) d]; simp [h]
theorem has_nil (l : Lit) : has (.map [] : DataW H) l = false := rfl
end
theorem kPt : KeyT Tryz.prog 37 vPt wfPt where
  keyed := keyedPt
  key := key_Pt
  inv := inv_Pt
  inj x y h := by cases x; cases y; simp [vPt] at h; simp [h]
theorem kPl : KeyT Tryz.prog 69 vPl wfPl where
  keyed := keyedPl
  key := key_Pl
  inv := inv_Pl
  inj x y h := by cases x; cases y; simp [vPl] at h; simp [h]
end Go.Proofs.YtpbmcaidkjlokaaGreat
