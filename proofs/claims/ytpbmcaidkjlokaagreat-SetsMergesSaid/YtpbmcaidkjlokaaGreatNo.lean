/- sets.norm: the normal foot. -/
import Derived.Test.YtpbmcaidkjlokaaGreatGr
import Derived.Test.YtpbmcaidkjlokaaGreatFt
namespace Go.Proofs.YtpbmcaidkjlokaaGreat
open Go.RowKit Go.Maps Go.Sort

def normF (f : Foot) : Foot := VP.normal VP.TO.bytes toPl toPt plP Pt.key splS rgS mkS unionP f
def wfSp (s : Sp) : Prop := wfPl (splS s)
theorem unionP_is : VP.IsUnion VP.TO.bytes ByteArray.empty unionP := fun l => by
  have h := VP.uMerge_good VP.TO.bytes ByteArray.empty (l := sortLo (l.filter fun x => !empB x)) (fun r hr => by
    have := (List.mem_filter.1 ((sortLo_perm _).mem_iff.1 hr)).2
    show empB r = false
    simpa using this) (sortLo_sorted _)
  refine ⟨h.1, fun k => (h.2 k).trans ?_⟩
  rw [VP.mem_perm VP.TO.bytes (sortLo_perm _)]
  constructor
  · rintro ⟨r, hr, hk⟩
    exact ⟨r, (List.mem_filter.1 hr).1, hk⟩
  · rintro ⟨r, hr, hk⟩
    refine ⟨r, List.mem_filter.2 ⟨hr, ?_⟩, hk⟩
    cases he : empB r
    · rfl
    · exfalso
      simp only [empB, Bool.and_eq_true, Bool.not_eq_true'] at he
      simp only [VP.has, Bool.and_eq_true, Bool.not_eq_true', Bool.or_eq_true] at hk
      obtain ⟨hk1, hk2⟩ := hk
      rcases hk2 with hk2 | hk2
      · rw [he.1] at hk2; cases hk2
      · have := VP.TO.bytes.lt_of_le_of_lt hk1 hk2
        rw [VP.TO.bytes_lt, he.2] at this; cases this
theorem mkS_is : VP.IsMk splS rgS mkS := ⟨fun q r => rfl, fun q r => rfl⟩
theorem uMerge_len (l : List Rn) : (VP.uMerge VP.TO.bytes ByteArray.empty l).length ≤ l.length := by
  have := accL_len l l.length (Nat.le_refl _)
  unfold accL at this
  rw [List.take_length] at this
  simpa [VP.uMerge] using this
theorem unionP_len (l : List Rn) : (unionP l).length ≤ l.length := by
  refine Nat.le_trans (uMerge_len _) ?_
  rw [(sortLo_perm _).length_eq]
  exact List.length_filter_le _ _

/-! ### The round that gathers the ranges of a place -/
section
variable {w : World} {base b n : Nat} {D : DataW Value} {g : Pl → List Rn}
theorem Groups.laid (h : Groups w base b n D g) {q : Pl} (hq : wfPl q) {v0 v' : Value} (hv0 : D.atKey (lPl q) nilD = .held v0) {W w1 w2 w3 : World} {l : List Rn}
    (g0 : w.grownBy W none) (g1 : W.grownBy w1 (some b)) (hb1 : ∃ es c, w1.heap[b]? = some (.map es c)) (g2 : w1.grownBy w2 v0.ownBlock) (g3 : w2.grownBy w3 (some b)) (ho : Own eRn 3 44 base w2 v' l)
    (hat : v'.ownBlock = v0.ownBlock ∨ v'.ownBlock = none ∨ ∃ k, v'.ownBlock = some k ∧ w.heap.size ≤ k) {n' : Nat} (hm : w3.ownsMap Tryz.prog 69 anyElem b n' (D.put (lPl q) (.held v'))) :
    Groups w3 base b n' (D.put (lPl q) (.held v')) (updG g q l) := by
  obtain ⟨es0, c0, hb0⟩ := h.heap
  obtain ⟨es1, c1, hb1⟩ := hb1
  have hv0b : v0.ownBlock ≠ some b := by
    obtain ⟨v, hv, hov⟩ := h.row q hq
    have : v = v0 := by rw [hv0] at hv; cases hv; rfl
    subst this
    rcases ownsRow_ne_a hov hb0 (fun cur e => by cases e) with e | e
    · rw [e]; simp
    · exact e
  have hb2 : w2.heap[b]? = some (.map es1 c1) := (g2.block b (Array.getElem?_eq_some_iff.1 hb1).1 (fun e => hv0b e.symm)).trans hb1
  have hbW : W.heap[b]? = some (.map es0 c0) := (g0.block b (Array.getElem?_eq_some_iff.1 hb0).1 (by simp)).trans hb0
  refine h.put hq hm ?_ (ho.kept g3 (ownsRow_ne_a ho hb2 (fun cur e => by cases e))) ?_
  · intro q' hq' hne v hv hov
    have o1 := hov.kept g0 (by cases v.ownBlock <;> simp)
    have o2 := o1.kept g1 (ownsRow_ne_a o1 hbW (fun cur e => by cases e))
    have o3 := o2.kept g2 (h.apart q' q hq' hq hne v v0 hv hv0)
    exact o3.kept g3 (ownsRow_ne_a o3 hb2 (fun cur e => by cases e))
  · intro q' hq' hne v hv
    rcases hat with e | e | ⟨k, e, hk⟩
    · rw [e]
      exact ⟨h.apart q q' hq hq' (fun x => hne x.symm) v0 v hv0 hv, h.apart q' q hq' hq hne v v0 hv hv0⟩
    · rw [e]; exact ⟨.inl rfl, by cases v.ownBlock <;> simp⟩
    · obtain ⟨v2, hv2, hov⟩ := h.row q' hq'
      have : v2 = v := by rw [hv] at hv2; cases hv2; rfl
      subst this
      have hlt : ∀ j, v2.ownBlock = some j → j < w.heap.size := fun j hj => (World.ownsRow.lt hov j hj).2
      refine ⟨.inr fun e2 => ?_, .inr fun e2 => ?_⟩
      · rw [e] at e2
        have := hlt k e2.symm
        omega
      · rw [e] at e2
        have := hlt k e2
        omega
end

theorem own_blk {α : Type} {enc : α → List Value} {k : Nat} {e : TypeId} {base : Nat} {w : World} {v : Value} {xs : List α} (h : Own enc k e base w v xs) : ∀ r, v.ownBlock = some r → base ≤ r ∧ ∃ cur, w.heap[r]? = some (.cells cur e (0, 0)) := by
  intro r hr
  refine ⟨(World.ownsRow.lt h r hr).1, ?_⟩
  rcases h.2 with ⟨rfl, _⟩ | ⟨g, cap, cur, rfl, _, hg, _⟩
  · simp [Value.ownBlock] at hr
  · have : g = r := by simpa [Value.ownBlock] using hr
    subst this; exact ⟨cur, hg⟩
theorem heap_setCell_at {W : World} {B : Nat} {cs : Array Value} {t : TypeId} {i : Nat} (v' : Value) (h : W.heap[B]? = some (.cells cs t (0, 0))) : (W.setCell ⟨B, i, none⟩ v').heap[B]? = some (.cells (cs.setIfInBounds i v') t (0, 0)) := by
  obtain ⟨hlt, hk⟩ := Array.getElem?_eq_some_iff.1 h
  show (W.heap.modify B _)[B]? = _
  rw [Array.getElem?_eq_getElem (by rw [Array.size_modify]; exact hlt), Array.getElem_modify_self, hk]
  rfl
theorem grownBy_setCell_at (W : World) (b i : Nat) (v : Value) : W.grownBy (W.setCell ⟨b, i, none⟩ v) (some b) :=
  ⟨rfl, rfl, rfl, (KeepsWalks.setCell W _ v).size, fun k _ hk => Below.heap_setCell _ _ _ k (fun e => hk (by rw [e]))⟩
theorem cell_at {W : World} {B : Nat} {cs : Array Value} {t : TypeId} {i : Nat} {v : Value} (h : W.heap[B]? = some (.cells cs t (0, 0))) (hi : cs[i]? = some v) : W.cell? ⟨B, i, none⟩ = some v := by
  simp [World.cell?, h, hi]
theorem free_at {W : World} {B : Nat} {cs : Array Value} {t : TypeId} (i : Nat) (h : W.heap[B]? = some (.cells cs t (0, 0))) : W.frozen? ⟨B, i, none⟩ = false := by
  simp [World.frozen?, h]

theorem pred_has (key : ByteArray) (B0 B : Nat) (w : World) (h0 : B0 < B) (hc : w.cell? ⟨B0, 2, none⟩ = some (.string key)) :
    PredB Tryz.prog 54 #[.pointer (some ⟨B0, 0, none⟩)] eRn (fun r => hasB r key) B w := fun W x hW => by
  have c2 : W.cell? ⟨B0, 2, none⟩ = some (.string key) := (hW.cell (p := ⟨B0, 2, none⟩) h0).trans hc
  have c3 : ∀ o, B0 < W.heap.size → (W.alloc o).cell? ⟨B0, 2, none⟩ = some (.string key) := fun o hlt => (((Below.refl _ W).alloc (Nat.le_refl _) o).cell (p := ⟨B0, 2, none⟩) hlt).trans c2
  have hlt : B0 < W.heap.size := World.block_lt_of_cell? W _ c2
  have c4 : (W.alloc (.cells #[.string x.lo, .string x.hi, .bool x.op] 44)).cell? ⟨B0, 2, none⟩ = some (.string key) := c3 _ hlt
  have HH := fun W => has_calls x key W
  clear c3 c2 hc
  show Calls _ _ #[.agg #[.string x.lo, .string x.hi, .bool x.op], .pointer (some ⟨B0, 0, none⟩)] _ _
  go_enter Tryz.func54, Tryz.ntmps54
  go_wp2_with (go_at_call 36; refine (HH _).mono ?_; rintro e w' ⟨rfl, o, rfl⟩)
  go_ret
  exact ⟨rfl, ((Below.refl _ W).alloc (Nat.le_refl _) _).alloc (by simp) _⟩
end Go.Proofs.YtpbmcaidkjlokaaGreat
