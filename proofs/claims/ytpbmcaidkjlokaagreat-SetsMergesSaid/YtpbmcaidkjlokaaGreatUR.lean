/- Ranges of keys over a total order, as sets; the least list of ranges that has the keys of some: it is unique. Plain Lean, no program. -/
namespace VP
/-- A strict total order, told by a Bool. -/
structure TO (K : Type) where
  lt : K → K → Bool
  irr : ∀ a, lt a a = false
  tr : ∀ {a b c}, lt a b = true → lt b c = true → lt a c = true
  tri : ∀ {a b}, lt a b = false → lt b a = false → a = b
namespace TO
variable {K : Type} (T : TO K)
theorem asym {a b : K} (h : T.lt a b = true) : T.lt b a = false := by
  cases e : T.lt b a
  · rfl
  · have := T.tr h e; rw [T.irr] at this; cases this
theorem lt_of_lt_of_le {a b c : K} (h : T.lt a b = true) (k : T.lt c b = false) : T.lt a c = true := by
  cases e : T.lt b c
  · have := T.tri e k; subst this; exact h
  · exact T.tr h e
theorem lt_of_le_of_lt {a b c : K} (h : T.lt b a = false) (k : T.lt b c = true) : T.lt a c = true := by
  cases e : T.lt a b
  · have := T.tri e h; subst this; exact k
  · exact T.tr e k
theorem le_trans {a b c : K} (h : T.lt b a = false) (k : T.lt c b = false) : T.lt c a = false := by
  cases e : T.lt c a
  · rfl
  · have := T.lt_of_lt_of_le e h
    rw [this] at k; cases k
end TO
/-- A range: from lo on, up to hi, or (op) without an end. -/
structure Rg (K : Type) where
  lo : K
  hi : K
  op : Bool
variable {K : Type} (T : TO K) (bot : K)
def has (r : Rg K) (k : K) : Bool := !T.lt k r.lo && (r.op || T.lt k r.hi)
def mem (l : List (Rg K)) (k : K) : Prop := ∃ r ∈ l, has T r k = true
def ne (r : Rg K) : Prop := (r.op = true ∧ r.hi = bot) ∨ (r.op = false ∧ T.lt r.lo r.hi = true)
/-- Ranges that stand in order, with a gap between; each has a key. -/
def Canon : List (Rg K) → Prop
  | [] => True
  | r :: l => ne T bot r ∧ (match l with | [] => True | s :: _ => r.op = false ∧ T.lt r.hi s.lo = true) ∧ Canon l
theorem Canon.tail {r : Rg K} {l : List (Rg K)} (h : Canon T bot (r :: l)) : Canon T bot l := h.2.2
theorem Canon.head {r : Rg K} {l : List (Rg K)} (h : Canon T bot (r :: l)) : ne T bot r := h.1
theorem ne_lo {r : Rg K} (h : ne T bot r) : has T r r.lo = true := by
  unfold has
  rcases h with ⟨h, _⟩ | ⟨_, h⟩
  · simp [T.irr, h]
  · simp [T.irr, h]
theorem Canon.after {r : Rg K} {l : List (Rg K)} (h : Canon T bot (r :: l)) : ∀ s ∈ l, r.op = false ∧ T.lt r.hi s.lo = true := by
  induction l generalizing r with
  | nil => simp
  | cons s t ih =>
    obtain ⟨_, ⟨h1, h2⟩, h3⟩ := h
    intro q hq
    rcases List.mem_cons.1 hq with rfl | hq
    · exact ⟨h1, h2⟩
    · have := ih h3 q hq
      refine ⟨h1, ?_⟩
      rcases Canon.head T bot h3 with ⟨h4, _⟩ | ⟨_, h4⟩
      · rw [this.1] at h4; cases h4
      · exact T.tr h2 (T.tr h4 this.2)
theorem Canon.lo_le {r : Rg K} {l : List (Rg K)} (h : Canon T bot (r :: l)) {k : K} (hk : mem T (r :: l) k) : T.lt k r.lo = false := by
  obtain ⟨s, hs, hk⟩ := hk
  have hk1 : T.lt k s.lo = false := by unfold has at hk; simp at hk; exact hk.1
  rcases List.mem_cons.1 hs with rfl | hs
  · exact hk1
  · have h1 := Canon.after T bot h s hs
    rcases Canon.head T bot h with ⟨h4, _⟩ | ⟨_, h4⟩
    · rw [h1.1] at h4; cases h4
    · exact T.le_trans (T.asym (T.tr h4 h1.2)) hk1
theorem Canon.hi_out {r : Rg K} {l : List (Rg K)} (h : Canon T bot (r :: l)) (ho : r.op = false) : ¬ mem T (r :: l) r.hi := by
  rintro ⟨s, hs, hk⟩
  unfold has at hk
  simp at hk
  rcases List.mem_cons.1 hs with rfl | hs
  · rw [T.irr, ho] at hk; simp at hk
  · rw [(Canon.after T bot h s hs).2] at hk; simp at hk
theorem canon_unique : ∀ (l m : List (Rg K)), Canon T bot l → Canon T bot m → (∀ k, mem T l k ↔ mem T m k) → l = m := by
  intro l
  induction l with
  | nil =>
    intro m _ hm he
    cases m with
    | nil => rfl
    | cons s m => exact absurd ((he s.lo).2 ⟨s, by simp, ne_lo T bot (Canon.head T bot hm)⟩) (by rintro ⟨_, h, _⟩; simp at h)
  | cons r l ih =>
    intro m hl hm he
    cases m with
    | nil => exact absurd ((he r.lo).1 ⟨r, by simp, ne_lo T bot (Canon.head T bot hl)⟩) (by rintro ⟨_, h, _⟩; simp at h)
    | cons s m =>
      have e1 : r.lo = s.lo := T.tri (Canon.lo_le T bot hm ((he _).1 ⟨r, by simp, ne_lo T bot (Canon.head T bot hl)⟩)) (Canon.lo_le T bot hl ((he _).2 ⟨s, by simp, ne_lo T bot (Canon.head T bot hm)⟩))
      -- an end that one has and the other has not
      have key : ∀ (r s : Rg K) (l m : List (Rg K)), Canon T bot (r :: l) → Canon T bot (s :: m) → (∀ k, mem T (r :: l) k ↔ mem T (s :: m) k) → r.lo = s.lo → s.op = false → r.op = false ∧ T.lt s.hi r.hi = false := by
        intro r s l m hl hm he e1 ho
        have h1 : T.lt s.lo s.hi = true := by
          rcases Canon.head T bot hm with ⟨h4, _⟩ | ⟨_, h4⟩
          · rw [ho] at h4; cases h4
          · exact h4
        have h2 := Canon.hi_out T bot hm ho
        constructor
        · cases hr : r.op
          · rfl
          · exact absurd ((he _).1 ⟨r, by simp, by unfold has; rw [e1, T.asym h1, hr]; rfl⟩) h2
        · cases hr : T.lt s.hi r.hi
          · rfl
          · exact absurd ((he _).1 ⟨r, by simp, by unfold has; rw [e1, T.asym h1, hr]; simp⟩) h2
      have e2 : r = s ∧ (∀ k, mem T l k ↔ mem T m k) := by
        have fin : r = s → ∀ k, mem T l k ↔ mem T m k := by
          rintro rfl k
          have one : ∀ (l m : List (Rg K)), Canon T bot (r :: l) → (∀ k, mem T (r :: l) k ↔ mem T (r :: m) k) → mem T l k → mem T m k := by
            rintro l m hl he ⟨q, hq, hk⟩
            have h3 := Canon.after T bot hl q hq
            obtain ⟨q', hq', hk'⟩ := (he k).1 ⟨q, by simp [hq], hk⟩
            rcases List.mem_cons.1 hq' with rfl | hq'
            · unfold has at hk hk'
              simp [h3.1] at hk hk'
              have := T.tr hk'.2 (T.lt_of_lt_of_le h3.2 hk.1)
              rw [T.irr] at this; cases this
            · exact ⟨q', hq', hk'⟩
          exact ⟨one l m hl he, one m l hm (fun k => (he k).symm)⟩
        have er : r = s := by
          cases hs : s.op
          · obtain ⟨hr, hh⟩ := key r s l m hl hm he e1 hs
            obtain ⟨_, hh'⟩ := key s r m l hm hl (fun k => (he k).symm) e1.symm hr
            have := T.tri hh hh'
            cases r; cases s; simp_all
          · cases hr : r.op
            · have := (key s r m l hm hl (fun k => (he k).symm) e1.symm hr).1
              rw [this] at hs; cases hs
            · have h1 : r.hi = bot := by
                rcases Canon.head T bot hl with ⟨_, h⟩ | ⟨h, _⟩
                · exact h
                · rw [hr] at h; cases h
              have h2 : s.hi = bot := by
                rcases Canon.head T bot hm with ⟨_, h⟩ | ⟨h, _⟩
                · exact h
                · rw [hs] at h; cases h
              cases r; cases s; simp_all
        exact ⟨er, fin er⟩
      rw [e2.1, ih m (Canon.tail T bot hl) (Canon.tail T bot hm) e2.2]

theorem canon_snoc : ∀ (l : List (Rg K)) (r : Rg K), Canon T bot l → ne T bot r → (∀ s ∈ l.getLast?, s.op = false ∧ T.lt s.hi r.lo = true) → Canon T bot (l ++ [r]) := by
  intro l
  induction l with
  | nil => intro r _ hr _; exact ⟨hr, trivial, trivial⟩
  | cons s t ih =>
    intro r hl hr hs
    cases t with
    | nil => exact ⟨Canon.head T bot hl, hs s (by simp), ⟨hr, trivial, trivial⟩⟩
    | cons q t =>
      exact ⟨hl.1, hl.2.1, ih r hl.2.2 hr (by simpa using hs)⟩
theorem canon_init : ∀ (l : List (Rg K)) (r : Rg K), Canon T bot (l ++ [r]) → Canon T bot l ∧ ne T bot r ∧ (∀ s ∈ l.getLast?, s.op = false ∧ T.lt s.hi r.lo = true) := by
  intro l
  induction l with
  | nil => intro r h; exact ⟨trivial, h.1, by simp⟩
  | cons s t ih =>
    intro r h
    cases t with
    | nil => exact ⟨⟨h.1, trivial, trivial⟩, h.2.2.1, by simpa using h.2.1⟩
    | cons q t =>
      obtain ⟨h1, h2, h3⟩ := ih r h.2.2
      exact ⟨⟨h.1, h.2.1, h1⟩, h2, by simpa using h3⟩
def nz (r : Rg K) : Rg K := if r.op = true then { r with hi := bot } else r
/-- One range more, behind ranges (the last one first) that stand in order. -/
def uStep (acc : List (Rg K)) (r : Rg K) : List (Rg K) :=
  match acc with
  | [] => [nz bot r]
  | last :: t => if last.op = true then last :: t else if T.lt last.hi r.lo = true then nz bot r :: last :: t else if r.op = true then ⟨last.lo, bot, true⟩ :: t else ⟨last.lo, if T.lt last.hi r.hi = true then r.hi else last.hi, last.op⟩ :: t
def uMerge (l : List (Rg K)) : List (Rg K) := (l.foldl (uStep T bot) []).reverse
/-- No key can be in it. -/
def emp (r : Rg K) : Bool := !r.op && !T.lt r.lo r.hi
theorem has_nz (r : Rg K) (k : K) : has T (nz bot r) k = has T r k := by
  unfold nz has
  cases h : r.op <;> simp [h]
theorem ne_nz {r : Rg K} (h : emp T r = false) : ne T bot (nz bot r) := by
  unfold emp at h
  unfold ne nz
  cases ho : r.op
  · simp [ho] at h ⊢; exact h
  · simp
theorem nz_lo (r : Rg K) : (nz bot r).lo = r.lo := by unfold nz; split <;> rfl
theorem mem_cons (r : Rg K) (l : List (Rg K)) (k : K) : mem T (r :: l) k ↔ has T r k = true ∨ mem T l k := by unfold mem; simp
theorem mem_append (l m : List (Rg K)) (k : K) : mem T (l ++ m) k ↔ mem T l k ∨ mem T m k := by
  unfold mem
  constructor
  · rintro ⟨r, h, e⟩
    rcases List.mem_append.1 h with h | h
    · exact .inl ⟨r, h, e⟩
    · exact .inr ⟨r, h, e⟩
  · rintro (⟨r, h, e⟩ | ⟨r, h, e⟩)
    · exact ⟨r, List.mem_append.2 (.inl h), e⟩
    · exact ⟨r, List.mem_append.2 (.inr h), e⟩
theorem mem_reverse (l : List (Rg K)) (k : K) : mem T l.reverse k ↔ mem T l k := by unfold mem; simp
theorem uStep_good (acc : List (Rg K)) (r : Rg K) (hc : Canon T bot acc.reverse) (hr : emp T r = false) (hs : ∀ s ∈ acc.head?, T.lt r.lo s.lo = false) :
    Canon T bot (uStep T bot acc r).reverse ∧ (∀ k, mem T (uStep T bot acc r) k ↔ mem T acc k ∨ has T r k = true) ∧ (∀ s ∈ (uStep T bot acc r).head?, T.lt r.lo s.lo = false) := by
  cases acc with
  | nil =>
    refine ⟨⟨ne_nz T bot hr, trivial, trivial⟩, fun k => ?_, ?_⟩
    · simp only [uStep, mem_cons, has_nz]
      unfold mem; simp
    · simp [uStep, nz_lo, T.irr]
  | cons last t =>
    have hlo : T.lt r.lo last.lo = false := hs last (by simp)
    rw [List.reverse_cons] at hc
    obtain ⟨h1, h2, h3⟩ := canon_init T bot _ _ hc
    unfold uStep
    simp only
    split
    · rename_i ho
      refine ⟨by rw [List.reverse_cons]; exact hc, fun k => ?_, by simpa using hlo⟩
      rw [mem_cons]
      constructor
      · exact fun h => .inl h
      · rintro (h | h)
        · exact h
        · left
          unfold has at h ⊢
          simp at h
          simp [ho, T.le_trans hlo h.1]
    · rename_i ho
      have ho : last.op = false := by simpa using ho
      have hlh : T.lt last.lo last.hi = true := by
        rcases h2 with ⟨h, _⟩ | ⟨_, h⟩
        · rw [ho] at h; cases h
        · exact h
      split
      · rename_i hgap
        refine ⟨?_, fun k => ?_, by simp [nz_lo, T.irr]⟩
        · rw [List.reverse_cons]
          refine canon_snoc T bot _ _ (by rw [List.reverse_cons]; exact hc) (ne_nz T bot hr) ?_
          simp [ho, nz_lo, hgap]
        · rw [mem_cons, has_nz]
          exact or_comm
      · rename_i hgap
        have hgap : T.lt last.hi r.lo = false := by simpa using hgap
        split
        · rename_i hro
          refine ⟨?_, fun k => ?_, by simpa using hlo⟩
          · rw [List.reverse_cons]
            exact canon_snoc T bot _ _ h1 (.inl ⟨rfl, rfl⟩) h3
          · rw [mem_cons, mem_cons]
            constructor
            · rintro (h | h)
              · unfold has at h ⊢
                simp at h
                cases hk : T.lt k last.hi
                · right; simp [hro, T.le_trans hgap hk]
                · left; left; simp [h]
              · exact .inl (.inr h)
            · rintro ((h | h) | h)
              · left; unfold has at h ⊢; simp at h; simp [h.1]
              · exact .inr h
              · left; unfold has at h ⊢; simp at h; simp [T.le_trans hlo h.1]
        · rename_i hro
          have hro : r.op = false := by simpa using hro
          have hrh : T.lt r.lo r.hi = true := by unfold emp at hr; simpa [hro] using hr
          refine ⟨?_, fun k => ?_, by simpa using hlo⟩
          · rw [List.reverse_cons]
            refine canon_snoc T bot _ _ h1 (.inr ⟨ho, ?_⟩) h3
            simp only
            split
            · rename_i h; exact T.tr hlh h
            · exact hlh
          · rw [mem_cons, mem_cons]
            constructor
            · rintro (h | h)
              · unfold has at h ⊢
                simp [ho] at h
                cases hk : T.lt k last.hi
                · right
                  have : T.lt k r.lo = false := T.le_trans hgap hk
                  simp [this]
                  right
                  by_cases hm : T.lt last.hi r.hi = true
                  · simpa [hm] using h.2
                  · simp [hm, hk] at h
                · left; left; simp [h]
              · exact .inl (.inr h)
            · rintro ((h | h) | h)
              · left; unfold has at h ⊢; simp [ho] at h; simp [h.1]
                right
                split
                · rename_i hm; exact T.tr h.2 hm
                · exact h.2
              · exact .inr h
              · left; unfold has at h ⊢; simp [hro] at h; simp [T.le_trans hlo h.1]
                right
                split
                · exact h.2
                · rename_i hm; exact T.lt_of_lt_of_le h.2 (by simpa using hm)
def SortedLo (l : List (Rg K)) : Prop := l.Pairwise (fun a b => T.lt b.lo a.lo = false)
theorem foldl_good : ∀ (l acc : List (Rg K)), Canon T bot acc.reverse → (∀ r ∈ l, emp T r = false) → SortedLo T l → (∀ s ∈ acc.head?, ∀ r ∈ l, T.lt r.lo s.lo = false) →
    Canon T bot (l.foldl (uStep T bot) acc).reverse ∧ (∀ k, mem T (l.foldl (uStep T bot) acc) k ↔ mem T acc k ∨ mem T l k) := by
  intro l
  induction l with
  | nil => intro acc hc _ _ _; exact ⟨hc, fun k => by unfold mem; simp⟩
  | cons r l ih =>
    intro acc hc he hs hh
    obtain ⟨h1, h2, h3⟩ := uStep_good T bot acc r hc (he r (by simp)) (fun s hs => hh s hs r (by simp))
    have hs' := List.pairwise_cons.1 hs
    obtain ⟨h4, h5⟩ := ih (uStep T bot acc r) h1 (fun q hq => he q (by simp [hq])) hs'.2 (fun s hs2 q hq => T.le_trans (h3 s hs2) (hs'.1 q hq))
    refine ⟨h4, fun k => ?_⟩
    rw [List.foldl_cons, h5, h2, mem_cons, or_assoc]
theorem uMerge_good {l : List (Rg K)} (he : ∀ r ∈ l, emp T r = false) (hs : SortedLo T l) : Canon T bot (uMerge T bot l) ∧ ∀ k, mem T (uMerge T bot l) k ↔ mem T l k := by
  obtain ⟨h1, h2⟩ := foldl_good T bot l [] trivial he hs (by simp)
  refine ⟨h1, fun k => ?_⟩
  unfold uMerge
  rw [mem_reverse, h2]
  unfold mem; simp
theorem mem_perm {l m : List (Rg K)} (h : l.Perm m) (k : K) : mem T l k ↔ mem T m k := by
  unfold mem
  exact ⟨fun ⟨r, hr, e⟩ => ⟨r, h.mem_iff.1 hr, e⟩, fun ⟨r, hr, e⟩ => ⟨r, h.mem_iff.2 hr, e⟩⟩
theorem uMerge_perm {l m : List (Rg K)} (hp : l.Perm m) (he : ∀ r ∈ l, emp T r = false) (hl : SortedLo T l) (hm : SortedLo T m) : uMerge T bot l = uMerge T bot m := by
  obtain ⟨h1, h2⟩ := uMerge_good T bot he hl
  obtain ⟨h3, h4⟩ := uMerge_good T bot (fun r hr => he r (hp.mem_iff.2 hr)) hm
  exact canon_unique T bot _ _ h1 h3 (fun k => by rw [h2, h4, mem_perm T hp])
/-- What the reference does with a range. -/
def rStep (acc : List (Rg K)) (r : Rg K) : List (Rg K) :=
  match acc with
  | [] => [r]
  | last :: t => if (last.op || !T.lt last.hi r.lo) = true then (if (r.op || (!last.op && T.lt last.hi r.hi)) = true then ⟨last.lo, r.hi, r.op⟩ :: t else last :: t) else r :: last :: t
theorem rStep_nz (acc : List (Rg K)) (r : Rg K) : (rStep T acc r).map (nz bot) = uStep T bot (acc.map (nz bot)) r := by
  cases acc with
  | nil => rfl
  | cons last t =>
    obtain ⟨a, b, c⟩ := last
    obtain ⟨d, e, f⟩ := r
    cases c <;> cases f <;> simp only [rStep, uStep, nz, List.map_cons, Bool.false_or, Bool.true_or, Bool.not_false, Bool.not_true, Bool.true_and, Bool.false_and, if_true, Bool.false_eq_true, if_false, Bool.or_false]
    · cases h : T.lt b d
      · simp only [Bool.not_false, if_true, Bool.false_eq_true, if_false]
        cases h2 : T.lt b e <;> simp [nz]
      · simp [nz]
    · cases h : T.lt b d
      · simp [nz]
      · simp [nz]
    all_goals simp [nz]
theorem rMerge_eq : ∀ (l acc : List (Rg K)), (l.foldl (rStep T) acc).map (nz bot) = l.foldl (uStep T bot) (acc.map (nz bot)) := by
  intro l
  induction l with
  | nil => intro acc; rfl
  | cons r l ih => intro acc; rw [List.foldl_cons, ih, rStep_nz]; rfl
end VP
