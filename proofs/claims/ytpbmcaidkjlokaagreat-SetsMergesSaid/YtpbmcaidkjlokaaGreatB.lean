/- Words on memory for the walks: slices of structs that are read, slices of the call's own; what a sort leaves. -/
import Derived.Test.YtpbmcaidkjlokaaGreatProg
import Derived.WalkKit
import Derived.OwnWalk
import Derived.Below
import Derived.Carry
import Derived.WalkSpells
import Derived.WalkLawsBesides
import Derived.Deep.LoopGhost
import Derived.Deep.QuietTactic
import Derived.BigQuiet
import Derived.Outline
import Derived.Deep.DeepFit
import Derived.Maps.AppendAt
namespace Go.Proofs.YtpbmcaidkjlokaaGreat
open Go.RowKit

/-- A slice's address, under which xs is read (enc: an element's cells, k of them). -/
def RowIn {α : Type} (enc : α → List Value) (k : Nat) (w : World) (A : Option Addr) (xs : List α) : Prop :=
  xs.length ≤ 9223372036854775807 ∧ (xs = [] ∨ ∃ b off, A = some ⟨b, off, none⟩ ∧ b < w.heap.size ∧ ∀ j x, xs[j]? = some x → ∀ i v, (enc x)[i]? = some v → w.cell? ⟨b, off + j * k + i, none⟩ = some v)
section
variable {α : Type} {enc : α → List Value} {k : Nat} {w w' : World} {A : Option Addr} {xs : List α}
theorem RowIn.nil (A : Option Addr) : RowIn enc k w A ([] : List α) := ⟨by simp, .inl rfl⟩
theorem RowIn.len (h : RowIn enc k w A xs) : xs.length ≤ 9223372036854775807 := h.1
theorem RowIn.below (h : RowIn enc k w A xs) {B : Nat} (hb : Below B w w') (hB : w.heap.size ≤ B) : RowIn enc k w' A xs := by
  refine ⟨h.1, h.2.imp id ?_⟩
  rintro ⟨b, off, e, hlt, hc⟩
  exact ⟨b, off, e, Nat.lt_of_lt_of_le hlt hb.size, fun j x hx i v hv => (hb.cell (p := ⟨b, _, none⟩) (by show b < B; omega)).trans (hc j x hx i v hv)⟩
theorem RowIn.at_ (h : RowIn enc k w A xs) {j : Nat} (hj : j < xs.length) : ∃ b off, A = some ⟨b, off, none⟩ ∧ b < w.heap.size ∧ ∀ i v, (enc xs[j])[i]? = some v → w.cell? ⟨b, off + j * k + i, none⟩ = some v := by
  rcases h.2 with e | ⟨b, off, e, hlt, hc⟩
  · subst e; simp at hj
  · exact ⟨b, off, e, hlt, hc j _ (List.getElem?_eq_getElem hj)⟩
/-- A slice of the call's own. -/
def Own (enc : α → List Value) (k : Nat) (e : TypeId) (base : Nat) (w : World) (v : Value) (xs : List α) : Prop := w.ownsRow base e k v xs.length (xs.flatMap enc)
theorem flatMap_get {enc : α → List Value} {k : Nat} (hk : ∀ x, (enc x).length = k) : ∀ (xs : List α) (j : Nat) (x : α) (i : Nat), xs[j]? = some x → i < k → (xs.flatMap enc)[j * k + i]? = (enc x)[i]? := by
  intro xs
  induction xs with
  | nil => intro j x i h; simp at h
  | cons y ys ih =>
    intro j x i h hi
    rw [List.flatMap_cons]
    cases j with
    | zero =>
      simp at h; subst h
      rw [List.getElem?_append_left (by rw [hk]; omega)]; simp
    | succ j =>
      rw [List.getElem?_append_right (by rw [hk, Nat.add_mul]; omega), hk]
      rw [show (j + 1) * k + i - k = j * k + i from by rw [Nat.add_mul]; omega]
      exact ih j x i (by simpa using h) hi
theorem flatMap_len {enc : α → List Value} {k : Nat} (hk : ∀ x, (enc x).length = k) (xs : List α) : (xs.flatMap enc).length = xs.length * k := by
  induction xs with
  | nil => simp
  | cons y ys ih => rw [List.flatMap_cons, List.length_append, ih, hk]; simp [Nat.add_mul]; omega
theorem own_len {e : TypeId} {base : Nat} {v : Value} (h : Own enc k e base w v xs) : xs.length ≤ 9223372036854775807 := by
  rcases h.2 with ⟨_, h⟩ | ⟨g, cap, cur, _, _, _, h1, h2, _⟩
  · omega
  · simp only [maxLen] at h2; omega
theorem Own.shape {e : TypeId} {base : Nat} {v : Value} (h : Own enc k e base w v xs) : ∃ A c, v = .slice A xs.length c ∧ xs.length ≤ c := by
  rcases h.2 with ⟨e, h⟩ | ⟨g, cap, cur, e, _, _, h1, _⟩
  · exact ⟨none, 0, by rw [e, h], by omega⟩
  · exact ⟨_, cap, e, h1⟩
theorem Own.row {e : TypeId} {base : Nat} {A : Option Addr} {n c : Nat} (hk : ∀ x, (enc x).length = k) (h : Own enc k e base w (.slice A n c) xs) : n = xs.length ∧ RowIn enc k w A xs := by
  have hl := own_len h
  rcases h.2 with ⟨e, h0⟩ | ⟨g, cap, cur, e, _, hg, h1, h2, h3, h4⟩
  · simp at e
    exact ⟨by omega, hl, .inl (List.eq_nil_of_length_eq_zero h0)⟩
  · simp at e
    obtain ⟨rfl, rfl, rfl⟩ := e
    refine ⟨rfl, hl, .inr ⟨g, 0, rfl, (Array.getElem?_eq_some_iff.1 hg).1, fun j x hx i v hv => ?_⟩⟩
    have hi : i < k := by
      have := (List.getElem?_eq_some_iff.1 hv).1
      rwa [hk] at this
    have hc := World.ownsRow.cellAt h (j * k + i) (by
      have hj : j < xs.length := (List.getElem?_eq_some_iff.1 hx).1
      have := Nat.mul_le_mul_right k (show j + 1 ≤ xs.length from hj)
      rw [Nat.add_mul] at this; omega)
    rw [Nat.zero_add, hc, flatMap_get hk xs j x i hx hi]; exact hv
theorem Own.kept {e : TypeId} {base : Nat} {v : Value} (h : Own enc k e base w v xs) {row : Option Nat} (hg : w.grownBy w' row) (hne : v.ownBlock = none ∨ v.ownBlock ≠ row) : Own enc k e base w' v xs := World.ownsRow.kept h hg hne
theorem Own.below {e : TypeId} {base : Nat} {v : Value} (h : Own enc k e base w v xs) (hb : Below w.heap.size w w') : Own enc k e base w' v xs :=
  h.kept (row := none) ⟨hb.os, hb.tape, hb.output, hb.size, fun i hi _ => hb.block i hi⟩ (by cases v.ownBlock <;> simp)
theorem Own.lower {e : TypeId} {base base' : Nat} {v : Value} (h : Own enc k e base w v xs) (hb : base' ≤ base) : Own enc k e base' w v xs := by
  refine ⟨h.1, h.2.imp id ?_⟩
  rintro ⟨g, cap, cur, e1, e2, r⟩
  exact ⟨g, cap, cur, e1, Nat.le_trans hb e2, r⟩
theorem Own.nil (e : TypeId) (base : Nat) (w : World) : Own enc k e base w (.slice none 0 0) ([] : List α) := World.ownsRow_nil _ _ _ _
end

/-! ### A row of the call's own, at its block -/
theorem own_take {w : World} {base : Nat} {e : TypeId} {k g n cap : Nat} {cs : List Value} (h : w.ownsRow base e k (.slice (some ⟨g, 0, none⟩) n cap) n cs) {i : Nat} (hi : i ≤ n) : w.ownsRow base e k (.slice (some ⟨g, 0, none⟩) i cap) i (cs.take (i * k)) := by
  rcases h.2 with ⟨h', _⟩ | ⟨g', cap', cur, h', hb, hg, hnc, hcm, hcs, htake⟩
  · simp at h'
  · simp only [Value.slice.injEq, Option.some.injEq, Addr.mk.injEq, and_true, true_and] at h'
    obtain ⟨rfl, rfl⟩ := h'
    have hle : i * k ≤ n * k := Nat.mul_le_mul_right k hi
    refine ⟨by rw [List.length_take, h.1]; omega, .inr ⟨g, cap, cur, rfl, hb, hg, by omega, hcm, hcs, ?_⟩⟩
    rw [← htake, List.take_take, Nat.min_eq_left hle]
theorem own_clear {P : Program} {w : World} {base : Nat} {t e : TypeId} {k g n cap : Nat} {cs : List Value} (ht : P.underlying t = some (.slice e)) {z : Value} (hv : (zeroValue e).run P w = .ok z w) (hz : z.cells.size = k) (h1 : ∀ v ∈ z.cells.toList, v.oneCell' = true)
    (h : w.ownsRow base e k (.slice (some ⟨g, 0, none⟩) n cap) n cs) {i c : Nat} (hi : i < n) (ty : TypeId) :
    ∃ w' cs', (Builtin.clear_ #[t] ty #[.slice (some ⟨g, i * k, none⟩) (n - i) c]).run P w = .ok (.tuple #[]) w' ∧ w'.ownsRow base e k (.slice (some ⟨g, 0, none⟩) n cap) n cs' ∧ cs'.take (i * k) = cs.take (i * k) ∧ w.grownBy w' (some g) := by
  rcases h.2 with ⟨h', _⟩ | ⟨g', cap', cur, h', hb, hg, hnc, hcm, hcs, htake⟩
  · simp at h'
  · simp only [Value.slice.injEq, Option.some.injEq, Addr.mk.injEq, and_true, true_and] at h'
    obtain ⟨rfl, rfl⟩ := h'
    have hsz : (Builtin.zeroCells z.cells (n - i)).size = (n - i) * k := by rw [size_zeroCells, hz]
    have hik : i * k + (n - i) * k = n * k := by rw [← Nat.add_mul]; congr 1; omega
    have hnk : n * k ≤ cap * k := Nat.mul_le_mul_right k hnc
    have hone : ∀ v ∈ (Builtin.zeroCells z.cells (n - i)).toList, v.oneCell' = true := by
      intro v hv
      rw [Array.mem_toList_iff] at hv
      unfold Builtin.zeroCells at hv
      obtain ⟨q, hq, rfl⟩ := Array.mem_map.1 hv
      have hpos : 0 < z.cells.size := by
        rcases Nat.eq_zero_or_pos z.cells.size with h0 | h0
        · rw [Array.mem_range] at hq; rw [h0, Nat.mul_zero] at hq; omega
        · exact h0
      have hlt : q % z.cells.size < z.cells.size := Nat.mod_lt _ hpos
      rw [getElem!_pos z.cells _ hlt]
      exact h1 _ (by rw [Array.mem_toList_iff]; exact Array.getElem_mem hlt)
    have hst := run_storeCells_at P g (i * k) e (Builtin.zeroCells z.cells (n - i)).toList 0 cur w hg (by rw [Array.length_toList, hsz]; omega) hone
    simp only [Nat.add_zero] at hst
    obtain ⟨L, hL⟩ : ∃ L, L = cur.toList.take (i * k) ++ (Builtin.zeroCells z.cells (n - i)).toList ++ cur.toList.drop (i * k + (Builtin.zeroCells z.cells (n - i)).toList.length) := ⟨_, rfl⟩
    have hlen : L.length = cap * k := by
      rw [hL]
      simp only [List.length_append, List.length_take, List.length_drop, Array.length_toList, hsz, hcs]
      omega
    have htk : (L.take (n * k)).take (i * k) = cs.take (i * k) := by
      rw [hL, List.take_take, Nat.min_eq_left (by omega), List.append_assoc, List.take_append_of_le_length (by rw [List.length_take, Array.length_toList, hcs]; omega), List.take_take, Nat.min_self, ← htake, List.take_take, Nat.min_eq_left (by omega)]
    rw [← hL] at hst
    clear hL
    refine ⟨w.setRow g L.toArray, L.take (n * k), ?_, ⟨?_, .inr ⟨g, cap, L.toArray, rfl, hb, setRow_heap w g cur _ e _ hg, hnc, hcm, ?_, ?_⟩⟩, htk, ⟨rfl, rfl, rfl, by simp, fun q _ hq => setRow_other w g q _ (fun e => hq (by rw [e]))⟩⟩
    · obtain ⟨m, hm⟩ : ∃ m, n - i = m + 1 := ⟨n - i - 1, by omega⟩
      rw [hm] at hst ⊢
      simp [Builtin.clear_, run_underlying ht, hv, hst]
    · rw [List.length_take, hlen]; omega
    · rw [List.size_toArray, hlen]
    · rfl
theorem flatMap_take {α : Type} {enc : α → List Value} {k : Nat} (hk : ∀ x, (enc x).length = k) : ∀ (xs : List α) (i : Nat), (xs.flatMap enc).take (i * k) = (xs.take i).flatMap enc := by
  intro xs
  induction xs with
  | nil => intro i; simp
  | cons y ys ih =>
    intro i
    cases i with
    | zero => simp
    | succ i =>
      rw [List.flatMap_cons, List.take_succ_cons, List.flatMap_cons, Nat.add_mul, Nat.one_mul, Nat.add_comm (i * k) k, ← hk y, List.take_length_add_append, hk y, ih]
theorem flatMap_set {α : Type} {enc : α → List Value} {k : Nat} (hk : ∀ x, (enc x).length = k) : ∀ (xs : List α) (i : Nat) (x : α), i < xs.length → (xs.set i x).flatMap enc = (xs.flatMap enc).take (i * k) ++ enc x ++ (xs.flatMap enc).drop (i * k + k) := by
  intro xs
  induction xs with
  | nil => intro i x h; simp at h
  | cons y ys ih =>
    intro i x h
    cases i with
    | zero =>
      have e : (y :: ys).flatMap enc = enc y ++ ys.flatMap enc := List.flatMap_cons
      have d : (enc y ++ ys.flatMap enc).drop k = ys.flatMap enc := by rw [← hk y]; exact List.drop_left
      rw [Nat.zero_mul, Nat.zero_add, e, d]
      simp
    | succ i =>
      have e1 : (i + 1) * k = (enc y).length + i * k := by rw [hk, Nat.add_mul, Nat.one_mul, Nat.add_comm]
      have e2 : (i + 1) * k + k = (enc y).length + (i * k + k) := by rw [e1, Nat.add_assoc]
      rw [List.set_cons_succ, List.flatMap_cons, List.flatMap_cons, ih i x (by simpa using h), e2, e1, List.take_length_add_append, List.drop_length_add_append]
      simp only [List.append_assoc]
end Go.Proofs.YtpbmcaidkjlokaaGreat
