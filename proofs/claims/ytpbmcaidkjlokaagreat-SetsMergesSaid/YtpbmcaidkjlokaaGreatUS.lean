/- Lists that stand strictly in a total order: told by their members alone. The orders of numbers, of bytes, of pairs. -/
import Derived.Test.YtpbmcaidkjlokaaGreatUR
import Derived.Laws.Strings
namespace VP
section
variable {α : Type} (T : TO α)
def SS (l : List α) : Prop := l.Pairwise (fun a b => T.lt a b = true)
theorem ss_unique : ∀ {l m : List α}, SS T l → SS T m → (∀ x, x ∈ l ↔ x ∈ m) → l = m := by
  intro l
  induction l with
  | nil =>
    intro m _ _ h
    cases m with
    | nil => rfl
    | cons b m => exact absurd ((h b).2 (by simp)) (by simp)
  | cons a l ih =>
    intro m hl hm h
    cases m with
    | nil => exact absurd ((h a).1 (by simp)) (by simp)
    | cons b m =>
      have hl' := List.pairwise_cons.1 hl
      have hm' := List.pairwise_cons.1 hm
      have e : a = b := by
        rcases List.mem_cons.1 ((h a).1 (by simp)) with e | e
        · exact e
        · rcases List.mem_cons.1 ((h b).2 (by simp)) with e' | e'
          · exact e'.symm
          · have := T.tr (hl'.1 b e') (hm'.1 a e)
            rw [T.irr] at this; cases this
      subst e
      rw [ih hl'.2 hm'.2 (fun x => ?_)]
      constructor
      · intro hx
        rcases List.mem_cons.1 ((h x).1 (by simp [hx])) with e | e
        · subst e
          have := hl'.1 x hx
          rw [T.irr] at this; cases this
        · exact e
      · intro hx
        rcases List.mem_cons.1 ((h x).2 (by simp [hx])) with e | e
        · subst e
          have := hm'.1 x hx
          rw [T.irr] at this; cases this
        · exact e
/-- x at its place, once. -/
def ins (x : α) : List α → List α
  | [] => [x]
  | y :: l => if T.lt x y = true then x :: y :: l else if T.lt y x = true then y :: ins x l else y :: l
theorem mem_ins (x z : α) : ∀ l, z ∈ ins T x l ↔ z = x ∨ z ∈ l := by
  intro l
  induction l with
  | nil => simp [ins]
  | cons y l ih =>
    unfold ins
    split
    · simp
    · rename_i h1
      split
      · simp only [List.mem_cons, ih]
        constructor
        · rintro (h | h | h)
          · exact .inr (.inl h)
          · exact .inl h
          · exact .inr (.inr h)
        · rintro (h | h | h)
          · exact .inr (.inl h)
          · exact .inl h
          · exact .inr (.inr h)
      · rename_i h2
        have : x = y := T.tri (by simpa using h1) (by simpa using h2)
        subst this
        simp
theorem ss_ins (x : α) : ∀ l, SS T l → SS T (ins T x l) := by
  intro l
  induction l with
  | nil => intro _; simp [ins, SS]
  | cons y l ih =>
    intro h
    have h' := List.pairwise_cons.1 h
    unfold ins
    split
    · rename_i h1
      exact List.pairwise_cons.2 ⟨fun z hz => by
        rcases List.mem_cons.1 hz with e | e
        · rw [e]; exact h1
        · exact T.tr h1 (h'.1 z e), h⟩
    · split
      · rename_i h2
        exact List.pairwise_cons.2 ⟨fun z hz => by
          rcases (mem_ins T x z l).1 hz with e | e
          · rw [e]; exact h2
          · exact h'.1 z e, ih h'.2⟩
      · exact h
def ssort (l : List α) : List α := l.foldr (ins T) []
theorem mem_ssort (z : α) : ∀ l, z ∈ ssort T l ↔ z ∈ l := by
  intro l
  induction l with
  | nil => simp [ssort]
  | cons y l ih =>
    show z ∈ ins T y (ssort T l) ↔ _
    rw [mem_ins, ih]; simp
theorem ss_ssort : ∀ l, SS T (ssort T l) := by
  intro l
  induction l with
  | nil => simp [ssort, SS]
  | cons y l ih => exact ss_ins T y _ ih
theorem ssort_of_ss {l : List α} (h : SS T l) : ssort T l = l := ss_unique T (ss_ssort T l) h (fun x => mem_ssort T x l)
theorem ssort_congr {l m : List α} (h : ∀ x, x ∈ l ↔ x ∈ m) : ssort T l = ssort T m := ss_unique T (ss_ssort T l) (ss_ssort T m) (fun x => by rw [mem_ssort, mem_ssort]; exact h x)
theorem ss_eq_ssort {l m : List α} (h : SS T l) (hm : ∀ x, x ∈ l ↔ x ∈ m) : l = ssort T m := ss_unique T h (ss_ssort T m) (fun x => by rw [mem_ssort]; exact hm x)
theorem SS.filter {l : List α} (h : SS T l) (p : α → Bool) : SS T (l.filter p) := List.Pairwise.filter p h
theorem SS.nodup {l : List α} (h : SS T l) : l.Nodup := List.Pairwise.imp (fun {a b} h e => by subst e; rw [T.irr] at h; cases h) h
theorem length_ins_le (x : α) : ∀ l, (ins T x l).length ≤ l.length + 1 := by
  intro l
  induction l with
  | nil => simp [ins]
  | cons y l ih => unfold ins; split <;> (try split) <;> simp <;> omega
theorem length_ssort_le : ∀ l, (ssort T l).length ≤ l.length := by
  intro l
  induction l with
  | nil => simp [ssort]
  | cons y l ih => have := length_ins_le T y (ssort T l); show (ins T y (ssort T l)).length ≤ _; simp; omega
end
/-! ### Orders -/
def TO.int : TO Int where
  lt a b := decide (a < b)
  irr _ := by simp
  tr h k := by simp at *; omega
  tri h k := by simp at *; omega
def TO.map {α β : Type} (T : TO β) (f : α → β) (hf : ∀ a b, f a = f b → a = b) : TO α where
  lt a b := T.lt (f a) (f b)
  irr _ := T.irr _
  tr h k := T.tr h k
  tri h k := hf _ _ (T.tri h k)
def TO.lex {α β : Type} [DecidableEq α] (S : TO α) (T : TO β) : TO (α × β) where
  lt a b := S.lt a.1 b.1 || (decide (a.1 = b.1) && T.lt a.2 b.2)
  irr _ := by simp [S.irr, T.irr]
  tr h k := by
    simp only [Bool.or_eq_true, Bool.and_eq_true, decide_eq_true_eq] at *
    rcases h with h | ⟨h, h'⟩
    · rcases k with k | ⟨k, _⟩
      · exact .inl (S.tr h k)
      · exact .inl (by rw [← k]; exact h)
    · rcases k with k | ⟨k, k'⟩
      · exact .inl (by rw [h]; exact k)
      · exact .inr ⟨h.trans k, T.tr h' k'⟩
  tri {a b} h k := by
    simp only [Bool.or_eq_false_iff, Bool.and_eq_false_iff, decide_eq_false_iff_not] at *
    have e := S.tri h.1 k.1
    have e2 : a.2 = b.2 := T.tri (h.2.resolve_left (by simp [e])) (k.2.resolve_left (by simp [e]))
    exact Prod.ext e e2
open Go in
theorem bytes_irr : ∀ a : List UInt8, Op.bytesLess a a = false
  | [] => rfl
  | a :: x => by simp [Op.bytesLess, bytes_irr x]
open Go in
theorem bytes_tr : ∀ {a b c : List UInt8}, Op.bytesLess a b = true → Op.bytesLess b c = true → Op.bytesLess a c = true
  | _, _, [], h, k => by cases ‹List UInt8› <;> simp [Op.bytesLess] at k
  | _, [], _ :: _, h, _ => by cases ‹List UInt8› <;> simp [Op.bytesLess] at h
  | [], _ :: _, _ :: _, _, _ => rfl
  | a :: x, b :: y, c :: z, h, k => by
    simp only [Op.bytesLess, Bool.or_eq_true, Bool.and_eq_true, decide_eq_true_eq, beq_iff_eq] at *
    rcases h with h | ⟨h, h'⟩
    · rcases k with k | ⟨k, _⟩
      · exact .inl (UInt8.lt_trans h k)
      · exact .inl (k ▸ h)
    · rcases k with k | ⟨k, k'⟩
      · exact .inl (h ▸ k)
      · exact .inr ⟨h.trans k, bytes_tr h' k'⟩
open Go in
theorem bytes_tri : ∀ {a b : List UInt8}, Op.bytesLess a b = false → Op.bytesLess b a = false → a = b
  | [], [], _, _ => rfl
  | [], _ :: _, h, _ => by simp [Op.bytesLess] at h
  | _ :: _, [], _, k => by simp [Op.bytesLess] at k
  | a :: x, b :: y, h, k => by
    simp only [Op.bytesLess, Bool.or_eq_false_iff, Bool.and_eq_false_iff, decide_eq_false_iff_not, beq_eq_false_iff_ne] at *
    have e : a = b := UInt8.le_antisymm (UInt8.not_lt.1 k.1) (UInt8.not_lt.1 h.1)
    subst e
    rw [bytes_tri (h.2.resolve_left (by simp)) (k.2.resolve_left (by simp))]
open Go in
def TO.list : TO (List UInt8) := ⟨Op.bytesLess, bytes_irr, bytes_tr, bytes_tri⟩
theorem toList_inj (a b : ByteArray) (h : a.toList = b.toList) : a = b := by
  have e : ∀ s : ByteArray, s.toList = s.data.toList := fun s => Go.ByteArray.toList_eq s
  rw [e, e] at h
  exact ByteArray.ext (Array.toList_inj.1 h)
def TO.bytes : TO ByteArray := TO.list.map ByteArray.toList toList_inj
theorem TO.bytes_lt (a b : ByteArray) : TO.bytes.lt a b = Go.Op.bytesLess a.toList b.toList := rfl
end VP
