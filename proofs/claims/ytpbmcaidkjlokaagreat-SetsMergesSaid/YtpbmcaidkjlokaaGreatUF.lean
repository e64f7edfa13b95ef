/- Feet: points, spans and writes as sets; the normal foot is told by what it reads and writes. Plain Lean, no program. -/
import Derived.Test.YtpbmcaidkjlokaaGreatUS
namespace VP
section
variable {K Pl α β : Type} (T : TO K) (bot : K) (TP : TO Pl) (TA : TO α) [DecidableEq Pl] (pl : α → Pl) (key : α → K) (spl : β → Pl) (rg : β → Rg K) (mk : Pl → Rg K → β)
  (U : List (Rg K) → List (Rg K))
/-- Is a key of a place in one of the spans? -/
def SpanAt (X : List β) (q : Pl) (k : K) : Prop := ∃ s ∈ X, spl s = q ∧ has T (rg s) k = true
def rangesAt (X : List β) (q : Pl) : List (Rg K) := (X.filter (fun s => decide (spl s = q))).map rg
theorem mem_rangesAt (X : List β) (q : Pl) (k : K) : mem T (rangesAt spl rg X q) k ↔ SpanAt T spl rg X q k := by
  unfold mem rangesAt SpanAt
  constructor
  · rintro ⟨r, h, hk⟩
    obtain ⟨s, hs, rfl⟩ := List.mem_map.1 h
    have := List.mem_filter.1 hs
    exact ⟨s, this.1, by simpa using this.2, hk⟩
  · rintro ⟨s, hs, hq, hk⟩
    exact ⟨rg s, List.mem_map.2 ⟨s, List.mem_filter.2 ⟨hs, by simpa using hq⟩, rfl⟩, hk⟩
def spansN (X : List β) : List β := (ssort TP (X.map spl)).flatMap fun q => (U (rangesAt spl rg X q)).map (mk q)
def spannedB (X : List β) (p : α) : Bool := X.any fun s => decide (spl s = pl p) && has T (rg s) (key p)
theorem spannedB_iff (X : List β) (p : α) : spannedB T pl key spl rg X p = true ↔ SpanAt T spl rg X (pl p) (key p) := by
  unfold spannedB SpanAt
  simp
def ptsN (X : List β) (P : List α) : List α := (ssort TA P).filter fun p => !spannedB T pl key spl rg X p
/-- What is asked of unions. -/
def IsUnion : Prop := ∀ l, Canon T bot (U l) ∧ ∀ k, mem T (U l) k ↔ mem T l k
/-- What is asked of spans' makes. -/
structure IsMk : Prop where
  spl : ∀ q r, spl (mk q r) = q
  rg : ∀ q r, rg (mk q r) = r
variable {T bot TP TA pl key spl rg mk U}
theorem union_congr (hU : IsUnion T bot U) {l m : List (Rg K)} (h : ∀ k, mem T l k ↔ mem T m k) : U l = U m :=
  canon_unique T bot _ _ (hU l).1 (hU m).1 (fun k => by rw [(hU l).2, (hU m).2]; exact h k)
theorem union_nil (hU : IsUnion T bot U) : U [] = [] :=
  canon_unique T bot _ _ (hU []).1 trivial (fun k => (hU []).2 k)
theorem spansN_spanAt (hU : IsUnion T bot U) (hM : IsMk spl rg mk) (X : List β) (q : Pl) (k : K) : SpanAt T spl rg (spansN TP spl rg mk U X) q k ↔ SpanAt T spl rg X q k := by
  constructor
  · rintro ⟨s, hs, hq, hk⟩
    obtain ⟨q', hq', hs⟩ := List.mem_flatMap.1 hs
    obtain ⟨r, hr, rfl⟩ := List.mem_map.1 hs
    rw [hM.spl] at hq
    subst hq
    rw [hM.rg] at hk
    exact (mem_rangesAt T spl rg X q' k).1 (((hU _).2 k).1 ⟨r, hr, hk⟩)
  · intro h
    obtain ⟨r, hr, hk⟩ := ((hU _).2 k).2 ((mem_rangesAt T spl rg X q k).2 h)
    obtain ⟨s, hs, hq, _⟩ := h
    exact ⟨mk q r, List.mem_flatMap.2 ⟨q, by rw [mem_ssort]; exact List.mem_map.2 ⟨s, hs, hq⟩, List.mem_map.2 ⟨r, hr, rfl⟩⟩, hM.spl _ _, by rw [hM.rg]; exact hk⟩
theorem flatMap_part {γ δ : Type} {TG : TO γ} {S S' : List γ} (g : γ → List δ) (hS : SS TG S) (hS' : SS TG S') (hsub : ∀ x ∈ S, x ∈ S') (hg : ∀ x ∈ S', x ∉ S → g x = []) : S.flatMap g = S'.flatMap g := by
  have one : ∀ (l : List γ), (∀ x ∈ l, x ∉ S → g x = []) → ∀ (p : γ → Bool), (∀ x, p x = true ↔ x ∈ S) → (l.filter p).flatMap g = l.flatMap g := by
    intro l
    induction l with
    | nil => intros; rfl
    | cons x l ih =>
      intro h p hp
      have h1 := ih (fun y hy => h y (by simp [hy])) p hp
      rw [List.filter_cons]
      split
      · rw [List.flatMap_cons, List.flatMap_cons, h1]
      · rename_i hx
        rw [List.flatMap_cons, h x (by simp) (fun e => hx ((hp x).2 e)), h1]; rfl
  classical
  rw [← one S' hg (fun x => decide (x ∈ S)) (by simp)]
  congr 1
  exact ss_unique TG hS (SS.filter TG hS' _) (fun x => by
    rw [List.mem_filter]
    exact ⟨fun h => ⟨hsub x h, by simpa using h⟩, fun h => by simpa using h.2⟩)
theorem spansN_congr (hU : IsUnion T bot U) {X Y : List β} (h : ∀ q k, SpanAt T spl rg X q k ↔ SpanAt T spl rg Y q k) : spansN TP spl rg mk U X = spansN TP spl rg mk U Y := by
  have hg : ∀ q, U (rangesAt spl rg X q) = U (rangesAt spl rg Y q) := fun q => union_congr hU (fun k => by rw [mem_rangesAt, mem_rangesAt]; exact h q k)
  have none_ : ∀ (Z : List β) q, q ∉ ssort TP (Z.map spl) → U (rangesAt spl rg Z q) = [] := fun Z q hq => by
    have : rangesAt spl rg Z q = [] := by
      unfold rangesAt
      rw [List.map_eq_nil_iff, List.filter_eq_nil_iff]
      intro s hs he
      exact hq (by rw [mem_ssort]; exact List.mem_map.2 ⟨s, hs, by simpa using he⟩)
    rw [this, union_nil hU]
  unfold spansN
  have e1 : ∀ Z : List β, (∀ q, U (rangesAt spl rg X q) = U (rangesAt spl rg Z q)) → (∀ q ∈ ssort TP (Z.map spl), q ∈ ssort TP (X.map spl ++ Y.map spl)) →
      (ssort TP (Z.map spl)).flatMap (fun q => (U (rangesAt spl rg Z q)).map (mk q)) = (ssort TP (X.map spl ++ Y.map spl)).flatMap (fun q => (U (rangesAt spl rg X q)).map (mk q)) := by
    intro Z hZ hsub
    have : (fun q => (U (rangesAt spl rg Z q)).map (mk q)) = (fun q => (U (rangesAt spl rg X q)).map (mk q)) := by funext q; rw [hZ]
    rw [this]
    exact flatMap_part _ (ss_ssort TP _) (ss_ssort TP _) hsub (fun q _ hq => by rw [hZ, none_ Z q hq]; rfl)
  rw [e1 X (fun _ => rfl) (fun q hq => by rw [mem_ssort] at *; exact List.mem_append_left _ hq), e1 Y hg (fun q hq => by rw [mem_ssort] at *; exact List.mem_append_right _ hq)]
theorem spannedB_congr {X Y : List β} (h : ∀ q k, SpanAt T spl rg X q k ↔ SpanAt T spl rg Y q k) (p : α) : spannedB T pl key spl rg X p = spannedB T pl key spl rg Y p := by
  rw [Bool.eq_iff_iff, spannedB_iff, spannedB_iff]; exact h _ _
theorem mem_ptsN (X : List β) (P : List α) (p : α) : p ∈ ptsN T TA pl key spl rg X P ↔ p ∈ P ∧ spannedB T pl key spl rg X p = false := by
  unfold ptsN
  rw [List.mem_filter, mem_ssort]; simp
theorem ss_ptsN (X : List β) (P : List α) : SS TA (ptsN T TA pl key spl rg X P) := SS.filter TA (ss_ssort TA P) _
theorem ptsN_congr {X Y : List β} {P Q : List α} (h : ∀ q k, SpanAt T spl rg X q k ↔ SpanAt T spl rg Y q k) (hP : ∀ p, spannedB T pl key spl rg X p = false → (p ∈ P ↔ p ∈ Q)) : ptsN T TA pl key spl rg X P = ptsN T TA pl key spl rg Y Q :=
  ss_unique TA (ss_ptsN X P) (ss_ptsN Y Q) (fun p => by
    rw [mem_ptsN, mem_ptsN, ← spannedB_congr h]
    exact ⟨fun ⟨a, b⟩ => ⟨(hP p b).1 a, b⟩, fun ⟨a, b⟩ => ⟨(hP p b).2 a, b⟩⟩)
omit [DecidableEq Pl] in
theorem spanAt_append (X Y : List β) (q : Pl) (k : K) : SpanAt T spl rg (X ++ Y) q k ↔ SpanAt T spl rg X q k ∨ SpanAt T spl rg Y q k := by
  unfold SpanAt
  constructor
  · rintro ⟨s, hs, h⟩
    rcases List.mem_append.1 hs with hs | hs
    · exact .inl ⟨s, hs, h⟩
    · exact .inr ⟨s, hs, h⟩
  · rintro (⟨s, hs, h⟩ | ⟨s, hs, h⟩)
    · exact ⟨s, List.mem_append_left _ hs, h⟩
    · exact ⟨s, List.mem_append_right _ hs, h⟩
/-- A foot's parts: points, spans, writes. -/
def normal (T : TO K) (TP : TO Pl) (TA : TO α) (pl : α → Pl) (key : α → K) (spl : β → Pl) (rg : β → Rg K) (mk : Pl → Rg K → β) (U : List (Rg K) → List (Rg K)) (f : List α × List β × List α) : List α × List β × List α :=
  (ptsN T TA pl key spl rg f.2.1 f.1, spansN TP spl rg mk U f.2.1, ssort TA f.2.2)
def both (f g : List α × List β × List α) : List α × List β × List α := (f.1 ++ g.1, f.2.1 ++ g.2.1, f.2.2 ++ g.2.2)
/-- Does it read a point? -/
def readsB [DecidableEq α] (T : TO K) (pl : α → Pl) (key : α → K) (spl : β → Pl) (rg : β → Rg K) (f : List α × List β × List α) (p : α) : Bool := decide (p ∈ f.1) || spannedB T pl key spl rg f.2.1 p
theorem normal_reads [DecidableEq α] (hU : IsUnion T bot U) (hM : IsMk spl rg mk) (f : List α × List β × List α) (p : α) : readsB T pl key spl rg (normal T TP TA pl key spl rg mk U f) p = readsB T pl key spl rg f p := by
  unfold readsB normal
  simp only [mem_ptsN]
  rw [spannedB_congr (spansN_spanAt hU hM f.2.1)]
  cases spannedB T pl key spl rg f.2.1 p <;> simp
theorem normal_congr (hU : IsUnion T bot U) {f g : List α × List β × List α} (hs : ∀ q k, SpanAt T spl rg f.2.1 q k ↔ SpanAt T spl rg g.2.1 q k) (hp : ∀ p, spannedB T pl key spl rg f.2.1 p = false → (p ∈ f.1 ↔ p ∈ g.1)) (hw : ∀ p, p ∈ f.2.2 ↔ p ∈ g.2.2) :
    normal T TP TA pl key spl rg mk U f = normal T TP TA pl key spl rg mk U g := by
  unfold normal
  rw [ptsN_congr hs hp, spansN_congr hU hs, ssort_congr TA hw]
theorem normal_normal (hU : IsUnion T bot U) (hM : IsMk spl rg mk) (f : List α × List β × List α) : normal T TP TA pl key spl rg mk U (normal T TP TA pl key spl rg mk U f) = normal T TP TA pl key spl rg mk U f := by
  refine normal_congr hU (spansN_spanAt hU hM f.2.1) (fun p hp => ?_) (fun p => mem_ssort TA p _)
  have e := spannedB_congr (T := T) (pl := pl) (key := key) (spansN_spanAt (TP := TP) hU hM f.2.1) p
  have hp : spannedB T pl key spl rg (spansN TP spl rg mk U f.2.1) p = false := hp
  rw [e] at hp
  show p ∈ ptsN T TA pl key spl rg f.2.1 f.1 ↔ _
  rw [mem_ptsN, hp]; simp
theorem normal_left (hU : IsUnion T bot U) (hM : IsMk spl rg mk) (f g : List α × List β × List α) : normal T TP TA pl key spl rg mk U (both (normal T TP TA pl key spl rg mk U f) g) = normal T TP TA pl key spl rg mk U (both f g) := by
  have hs : ∀ q k, SpanAt T spl rg (both (normal T TP TA pl key spl rg mk U f) g).2.1 q k ↔ SpanAt T spl rg (both f g).2.1 q k := fun q k => by
    show SpanAt T spl rg (spansN TP spl rg mk U f.2.1 ++ g.2.1) q k ↔ SpanAt T spl rg (f.2.1 ++ g.2.1) q k
    rw [spanAt_append, spanAt_append, spansN_spanAt hU hM]
  refine normal_congr hU hs (fun p hp => ?_) (fun p => ?_)
  · rw [spannedB_congr hs] at hp
    have hp : spannedB T pl key spl rg (f.2.1 ++ g.2.1) p = false := hp
    have hf : spannedB T pl key spl rg f.2.1 p = false := by
      cases e : spannedB T pl key spl rg f.2.1 p
      · rfl
      · have : spannedB T pl key spl rg (f.2.1 ++ g.2.1) p = true := (spannedB_iff T pl key spl rg _ p).2 ((spanAt_append _ _ _ _).2 (.inl ((spannedB_iff T pl key spl rg _ p).1 e)))
        rw [this] at hp; cases hp
    show p ∈ ptsN T TA pl key spl rg f.2.1 f.1 ++ g.1 ↔ p ∈ f.1 ++ g.1
    rw [List.mem_append, List.mem_append, mem_ptsN, hf]; simp
  · show p ∈ ssort TA f.2.2 ++ g.2.2 ↔ p ∈ f.2.2 ++ g.2.2
    rw [List.mem_append, List.mem_append, mem_ssort]
theorem both_comm_normal (hU : IsUnion T bot U) (f g : List α × List β × List α) : normal T TP TA pl key spl rg mk U (both f g) = normal T TP TA pl key spl rg mk U (both g f) := by
  have sw : ∀ {γ : Type} (a b : List γ) (x : γ), x ∈ a ++ b ↔ x ∈ b ++ a := fun a b x => by rw [List.mem_append, List.mem_append, or_comm]
  exact normal_congr hU (fun q k => by show SpanAt T spl rg (f.2.1 ++ g.2.1) q k ↔ SpanAt T spl rg (g.2.1 ++ f.2.1) q k; rw [spanAt_append, spanAt_append, or_comm]) (fun p _ => sw _ _ p) (fun p => sw _ _ p)
theorem both_assoc (f g h : List α × List β × List α) : both (both f g) h = both f (both g h) := by unfold both; simp
theorem normal_right (hU : IsUnion T bot U) (hM : IsMk spl rg mk) (f g : List α × List β × List α) : normal T TP TA pl key spl rg mk U (both f (normal T TP TA pl key spl rg mk U g)) = normal T TP TA pl key spl rg mk U (both f g) := by
  rw [both_comm_normal hU, normal_left hU hM, both_comm_normal hU]
end
end VP
