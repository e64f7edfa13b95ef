/- The library's sort over a slice of the call's own. -/
import Derived.Test.YtpbmcaidkjlokaaGreatLay
import Derived.Test.YtpbmcaidkjlokaaGreatB
import Derived.Shelf.Abstract
namespace Go.Proofs.YtpbmcaidkjlokaaGreat
open Go.RowKit Go.Sort Go.Shelf

section
variable {α : Type} [Inhabited α] {enc : α → List Value} {k : Nat} {w : World} {xs : List α} {g n cap base : Nat} {e : TypeId}

theorem flatK_toList (hk : ∀ x, (enc x).length = k) (d : Array α) : (flatK enc k d).toList = d.toList.flatMap enc := by
  apply List.ext_getElem?
  intro t
  by_cases ht : t < d.size * k
  · have hk0 : 0 < k := by
      rcases Nat.eq_zero_or_pos k with h | h
      · rw [h] at ht; omega
      · exact h
    have hq : t / k < d.size := (Nat.div_lt_iff_lt_mul hk0).2 ht
    have hm : t % k < k := Nat.mod_lt _ hk0
    have e1 : (flatK enc k d).toList[t]? = some ((flatK enc k d)[t]!) := by
      rw [getElem!_pos _ _ (by simpa using ht)]; simp [ht]
    have e2 := flatMap_get hk d.toList (t / k) d[t / k] (t % k) (by simp [hq]) hm
    rw [show t / k * k + t % k = t from by rw [Nat.mul_comm]; exact Nat.div_add_mod t k] at e2
    rw [e1, get_flatK _ _ _ _ ht, e2, getElem!_pos d _ hq, getElem!_pos (enc d[t / k]) _ (by rw [hk]; exact hm), List.getElem?_eq_getElem (by rw [hk]; exact hm)]
  · rw [List.getElem?_eq_none (by simp; omega), List.getElem?_eq_none (by rw [flatMap_len hk]; simp; omega)]

theorem own_holdsK (hk : ∀ x, (enc x).length = k) (h : Own enc k e base w (.slice (some ⟨g, 0, none⟩) n cap) xs) : HoldsK enc k w g 0 xs.toArray ∧ g < w.heap.size ∧ n = xs.length := by
  rcases h.2 with ⟨h', _⟩ | ⟨g', cap', cur, h', hb, hg, hnc, hcm, hcs, htake⟩
  · simp at h'
  · simp only [Value.slice.injEq, Option.some.injEq, Addr.mk.injEq, and_true] at h'
    obtain ⟨rfl, rfl, rfl⟩ := h'
    refine ⟨?_, (Array.getElem?_eq_some_iff.1 hg).1, rfl⟩
    intro j hj
    have hj' : j < xs.length * k := by simpa using hj
    have hc := World.ownsRow.cellAt h j hj'
    refine ⟨?_, World.ownsRow.frozenAt h _⟩
    rw [Nat.zero_add, hc, show xs.flatMap enc = xs.toArray.toList.flatMap enc from rfl, ← flatK_toList hk, Array.getElem?_toList, getElem!_pos (flatK enc k xs.toArray) j hj, Array.getElem?_eq_getElem hj]
    rfl

theorem own_sortWorldK (hk : ∀ x, (enc x).length = k) (h : Own enc k e base w (.slice (some ⟨g, 0, none⟩) n cap) xs) (m : Nat) (ys : Array α) (os : Array Obj) (hy : ys.size = xs.length) :
    Own enc k e base (sortWorldK enc k w g 0 m ys os) (.slice (some ⟨g, 0, none⟩) n cap) ys.toList ∧ w.grownBy (sortWorldK enc k w g 0 m ys os) (some g) := by
  rcases h.2 with ⟨h', _⟩ | ⟨g', cap', cur, h', hb, hg, hnc, hcm, hcs, htake⟩
  · simp at h'
  · simp only [Value.slice.injEq, Option.some.injEq, Addr.mk.injEq, and_true] at h'
    obtain ⟨rfl, rfl, rfl⟩ := h'
    have hlt := (Array.getElem?_eq_some_iff.1 hg).1
    have hnk : xs.length * k ≤ cap * k := Nat.mul_le_mul_right k hnc
    have hheap : (sortWorldK enc k w g 0 m ys os).heap = (w.heap.modify g (onCells (putCells id 0 (flatK enc k ys)))) ++ os := rfl
    have hnew : (sortWorldK enc k w g 0 m ys os).heap[g]? = some (.cells (putCells id 0 (flatK enc k ys) cur) e (0, 0)) := by
      rw [hheap, Array.getElem?_append_left (by simpa using hlt), Array.getElem?_modify, if_pos rfl, hg]; rfl
    refine ⟨⟨by rw [flatMap_len hk], .inr ⟨g, cap, _, by simp [hy], hb, hnew, by simpa [hy] using hnc, hcm, by simp [putCells, hcs], ?_⟩⟩, rfl, rfl, rfl, by rw [hheap]; simp [Array.size_append], ?_⟩
    · rw [← flatK_toList hk]
      apply List.ext_getElem?
      intro t
      by_cases ht : t < ys.size * k
      · have htc : t < cur.size := by rw [hcs]; rw [hy] at ht; omega
        rw [List.getElem?_take_of_lt (by simpa using ht)]
        simp [putCells, ht, htc, getElem!_pos]
      · rw [List.getElem?_eq_none (by simp; omega), List.getElem?_eq_none (by simp; omega)]
    · intro q hq hne
      have hgq : g ≠ q := fun e => hne (by rw [e])
      rw [hheap, Array.getElem?_append_left (by simpa using hq), Array.getElem?_modify, if_neg hgq]

theorem sorted_pairwise {lt : α → α → Bool} {d : Array α} (h : SortedIn lt 0 d.size d) : d.toList.Pairwise fun x y => lt y x = false := by
  rw [List.pairwise_iff_getElem]
  intro i j hi hj hij
  have hi' : i < d.size := by simpa using hi
  have hj' : j < d.size := by simpa using hj
  have := h i j (Nat.zero_le _) hij hj'
  rw [getElem!_pos d i hi', getElem!_pos d j hj'] at this
  simpa using this

/-- **slices.SortFunc over a slice of the call's own.** -/
theorem sort_own {P : Program} {ρ : Ren} (L : SlLaysF0.n6 P ρ) (aE : ∀ w, (isAgg (ρ.t 24)).run P w = .ok true w) (zE : ∀ w, (Go.sizeOf (ρ.t 24)).run P w = .ok k w) (hk : ∀ x, (enc x).length = k) (h1 : ∀ x, ∀ v ∈ enc x, v.oneCell' = true) (cf : α → α → Int) (hO : SWO (ltOf cf)) (g : Nat) (cb : Array Value) (v : Value)
    (eg : ∀ args w, (callFunc g args).run P w = .ok (.enter g args) w)
    (hcmp : ∀ x y W, Calls P g (#[.agg (enc x).toArray, .agg (enc y).toArray] ++ cb) W fun e w' => e = .returned (.int .i64 (cf x y)) ∧ ∃ q os, w' = grow (W.drewN q) os)
    (h : Own enc k e base w v xs) (hsz : xs.length < 4611686018427387904) :
    Calls P (ρ.f 6) #[v, .func (.func g) #[] cb] w fun ex w' =>
      ex = .returned (.tuple #[]) ∧ ∃ ys, ys.Perm xs ∧ ys.Pairwise (fun x y => ltOf cf y x = false) ∧ Own enc k e base w' v ys ∧ w.grownBy w' v.ownBlock := by
  by_cases hx : xs = []
  · subst hx
    obtain ⟨A, c, rfl, _⟩ := h.shape
    refine (AnyF.slices_SortFunc_none L A c _ w).mono ?_
    rintro ex w' ⟨rfl, rfl⟩
    refine ⟨rfl, [], List.Perm.refl _, List.Pairwise.nil, h, rfl, rfl, rfl, Nat.le_refl _, fun _ _ _ => rfl⟩
  · obtain ⟨b, cap, rfl⟩ : ∃ b cap, v = .slice (some ⟨b, 0, none⟩) xs.length cap := by
      rcases h.2 with ⟨_, h'⟩ | ⟨b, cap, cur, h', _⟩
      · exact absurd (List.eq_nil_of_length_eq_zero h') hx
      · exact ⟨b, cap, h'⟩
    obtain ⟨hH, hlt, -⟩ := own_holdsK hk h
    have := AnyQ.slices_SortFunc L k aE zE enc hk h1 cf hO g cb b 0 cap xs.toArray w eg (fun m os dk _ x y => hcmp x y _) hH hlt (by simpa using hsz)
    refine (by simpa using this : Calls P (ρ.f 6) _ w _).mono ?_
    rintro ex w' ⟨rfl, d', ⟨hs1, hs2, hs3⟩, hs, m, os, rfl⟩
    have hs1' : d'.size = xs.length := by simpa using hs1
    have hown := own_sortWorldK hk h m d' os hs1'
    refine ⟨rfl, d'.toList, ?_, sorted_pairwise (by rw [hs1']; simpa using hs), hown.1, hown.2⟩
    have e1 : d'.extract 0 xs.length = d' := by rw [← hs1']; simp
    have e2 : xs.toArray.extract 0 xs.length = xs.toArray := by simp
    have hs3' : (d'.extract 0 xs.length).toList.Perm (xs.toArray.extract 0 xs.length).toList := by simpa using hs3
    rw [e1, e2] at hs3'
    simpa using hs3'
end
end Go.Proofs.YtpbmcaidkjlokaaGreat
