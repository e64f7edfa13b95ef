/- Plain words on lists for the library's slice functions. -/
import Derived.Test.YtpbmcaidkjlokaaGreatB
namespace Go.Proofs.YtpbmcaidkjlokaaGreat
open Go.RowKit
theorem Hid.mk' {p : Prop} (h : p) : Hid p := h
/-- What is asked of a predicate: wherever all below B is as it was it answers p, and turns nothing. -/
def PredB {α : Type} (P : Program) (g : Nat) (lb : Array Value) (enc : α → List Value) (p : α → Bool) (B : Nat) (w : World) : Prop :=
  ∀ (W : World) (x : α), Below B w W → Calls P g (#[.agg (enc x).toArray] ++ lb) W fun e w' => e = .returned (.bool (p x)) ∧ Below W.heap.size W w'
theorem findIdx_step {α : Type} {p : α → Bool} {xs : List α} {k : Nat} (hk : k < xs.length) (h : k ≤ xs.findIdx p) (hp : p xs[k] = false) : k + 1 ≤ xs.findIdx p := by
  rcases Nat.lt_or_ge k (xs.findIdx p) with h1 | h1
  · exact h1
  · have e : xs.findIdx p = k := by omega
    have := List.findIdx_getElem (p := p) (xs := xs) (w := by omega)
    simp only [e] at this
    rw [this] at hp; cases hp
theorem findIdx_hit {α : Type} {p : α → Bool} {xs : List α} {k : Nat} (hk : k < xs.length) (h : k ≤ xs.findIdx p) (hp : p xs[k] = true) : xs.findIdx p = k := by
  have : xs.findIdx p ≤ k := by
    rcases Nat.lt_or_ge k (xs.findIdx p) with h1 | h1
    · have := List.not_of_lt_findIdx h1
      simp [hp] at this
    · exact h1
  omega
/-- What IndexFunc answers. -/
def idxR {α : Type} (p : α → Bool) (xs : List α) : Int := if xs.findIdx p < xs.length then (xs.findIdx p : Int) else -1
theorem idxR_hit {α : Type} {p : α → Bool} {xs : List α} {k : Nat} (hk : k < xs.length) (e : xs.findIdx p = k) : (k : Int) = idxR p xs := by unfold idxR; rw [e, if_pos hk]
theorem idxR_miss {α : Type} {p : α → Bool} {xs : List α} {k : Nat} (hk : ¬ k < xs.length) (e : k ≤ xs.findIdx p) : (-1 : Int) = idxR p xs := by unfold idxR; rw [if_neg (by omega)]
theorem idxR_any {α : Type} (p : α → Bool) (xs : List α) : xs.any p = true ↔ 0 ≤ idxR p xs := by
  unfold idxR
  rw [List.any_eq_true, ← List.findIdx_lt_length]
  split
  · rename_i h; exact ⟨fun _ => by omega, fun _ => h⟩
  · rename_i h; exact ⟨fun h' => absurd h' h, fun h' => by omega⟩
theorem idxR_bd {α : Type} (p : α → Bool) (xs : List α) (h : xs.length ≤ 9223372036854775807) : -1 ≤ idxR p xs ∧ idxR p xs ≤ 9223372036854775807 := by
  unfold idxR
  split <;> omega
theorem ret_int {k : IntKind} {a b : Int} (h : a = b) : Ending.returned (.int k a) = .returned (.int k b) := by rw [h]
theorem ret_bool {a b : Bool} (h : a = b) : Ending.returned (.bool a) = .returned (.bool b) := by rw [h]
theorem filter_start {α : Type} {p : α → Bool} {xs : List α} {k : Nat} (h : xs.findIdx p = k) (hk : k < xs.length) : xs.take k = (xs.take (k + 1)).filter fun x => !p x := by
  have hp : p xs[k] = true := by
    have := List.findIdx_getElem (p := p) (xs := xs) (w := by omega)
    simp only [h] at this
    exact this
  rw [List.take_succ_eq_append_getElem hk, List.filter_append]
  have h1 : (xs.take k).filter (fun x => !p x) = xs.take k := by
    rw [List.filter_eq_self]
    intro x hx
    obtain ⟨i, hi, rfl⟩ := List.mem_iff_getElem.1 hx
    rw [List.getElem_take]
    have := List.not_of_lt_findIdx (p := p) (xs := xs) (i := i) (by rw [h]; simp at hi; omega)
    simpa using this
  rw [h1]
  simp [hp]
theorem filter_all {α : Type} {p : α → Bool} {xs : List α} (h : ¬ xs.findIdx p < xs.length) : (xs.filter fun x => !p x) = xs := by
  rw [List.filter_eq_self]
  intro x hx
  obtain ⟨i, hi, rfl⟩ := List.mem_iff_getElem.1 hx
  have := List.not_of_lt_findIdx (p := p) (xs := xs) (i := i) (by omega)
  simpa using this
theorem filter_drop {α : Type} {p : α → Bool} {xs ys : List α} {i j : Nat} {x : α} (hj : j < xs.length) (hx : xs[j]? = some x) (hp : p x = true) (h : ys.take i = (xs.take j).filter fun x => !p x) : ys.take i = (xs.take (j + 1)).filter fun x => !p x := by
  have e : xs[j] = x := by rw [List.getElem?_eq_getElem hj] at hx; simpa using hx
  rw [List.take_succ_eq_append_getElem hj, List.filter_append, h, e]
  simp [hp]
theorem filter_keep {α : Type} {p : α → Bool} {xs ys : List α} {i j : Nat} {x : α} (hj : j < xs.length) (hx : xs[j]? = some x) (hp : p x = false) (hi : i < ys.length) (h : ys.take i = (xs.take j).filter fun x => !p x) : (ys.set i x).take (i + 1) = (xs.take (j + 1)).filter fun x => !p x := by
  have e : xs[j] = x := by rw [List.getElem?_eq_getElem hj] at hx; simpa using hx
  rw [List.take_succ_eq_append_getElem hj, List.filter_append, ← h, e, List.take_succ_eq_append_getElem (by simpa using hi), List.take_set_of_le (Nat.le_refl _)]
  simp [hp]
/-- A run of stores. -/
def setL : List Value → Nat → List Value → List Value
  | [], _, cs => cs
  | v :: vs, p, cs => setL vs (p + 1) (cs.set p v)
theorem setL_eq : ∀ (vs : List Value) (p : Nat) (cs : List Value), p + vs.length ≤ cs.length → setL vs p cs = cs.take p ++ vs ++ cs.drop (p + vs.length) := by
  intro vs
  induction vs with
  | nil => intro p cs _; simp [setL]
  | cons v vs ih =>
    intro p cs h
    simp at h
    rw [setL, ih (p + 1) _ (by simp; omega)]
    rw [List.take_succ_eq_append_getElem (by simp; omega), List.take_set_of_le (Nat.le_refl _), List.drop_set_of_lt (by omega)]
    simp [show p + 1 + vs.length = p + (vs.length + 1) from by omega]
def setW (g : Nat) : List Value → Nat → World → World
  | [], _, w => w
  | v :: vs, p, w => setW g vs (p + 1) (w.setCell ⟨g, p, none⟩ v)
theorem own_stores {base : Nat} {e : TypeId} {k g n cap : Nat} : ∀ {cs : List Value} {w : World} {p : Nat} (_ : w.ownsRow base e k (.slice (some ⟨g, 0, none⟩) n cap) n cs) (vs : List Value),
    (setW g vs p w).ownsRow base e k (.slice (some ⟨g, 0, none⟩) n cap) n (setL vs p cs) ∧ w.grownBy (setW g vs p w) (some g) := by
  intro cs w p h vs
  induction vs generalizing cs w p with
  | nil => exact ⟨h, rfl, rfl, rfl, Nat.le_refl _, fun _ _ _ => rfl⟩
  | cons v vs ih =>
    obtain ⟨h1, h2⟩ := World.ownsRow.stored h p v
    obtain ⟨h3, h4⟩ := ih (p := p + 1) h1
    exact ⟨h3, h4.os.trans h2.os, h4.tape.trans h2.tape, h4.output.trans h2.output, Nat.le_trans h2.size h4.size, fun i hi hne => (h4.block i (Nat.lt_of_lt_of_le hi h2.size) hne).trans (h2.block i hi hne)⟩
theorem cells_flat {α : Type} {enc : α → List Value} {k : Nat} (hk : ∀ x, (enc x).length = k) {w : World} {ad : Addr} {xs : List α} (h : RowIn enc k w (some ad) xs) : ∀ j u, (xs.flatMap enc)[j]? = some u → w.cell? (ad.add j) = some u := by
  intro j u hj
  rcases h.2 with e | ⟨b, off, e, _, hc⟩
  · subst e; simp at hj
  · cases e
    have hlt := (List.getElem?_eq_some_iff.1 hj).1
    rw [flatMap_len hk] at hlt
    have hk0 : 0 < k := by
      rcases Nat.eq_zero_or_pos k with h0 | h0
      · rw [h0, Nat.mul_zero] at hlt; omega
      · exact h0
    have hq : j / k < xs.length := Nat.div_lt_of_lt_mul (by rw [Nat.mul_comm]; exact hlt)
    have hj2 : j = j / k * k + j % k := by rw [Nat.mul_comm]; exact (Nat.div_add_mod j k).symm
    have hg := flatMap_get hk xs (j / k) xs[j / k] (j % k) (List.getElem?_eq_getElem hq) (Nat.mod_lt _ hk0)
    rw [← hj2, hj] at hg
    have := hc (j / k) _ (List.getElem?_eq_getElem hq) (j % k) u hg.symm
    rw [Nat.add_assoc, ← hj2] at this
    rw [Addr.add_lit]
    exact this
end Go.Proofs.YtpbmcaidkjlokaaGreat
