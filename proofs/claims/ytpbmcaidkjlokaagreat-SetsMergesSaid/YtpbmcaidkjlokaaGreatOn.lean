/- sets.once: points in order, each once. -/
import Derived.Test.YtpbmcaidkjlokaaGreatItPt
import Derived.Maps.OwnOps
namespace Go.Proofs.YtpbmcaidkjlokaaGreat
open Go.RowKit Go.Maps Go.Sort

theorem owns_isMap {H : Type} {P : Program} {k : TypeId} {R : Value → Option (DataW H × List MemPlace)} {w : World} {b n : Nat} {D : DataW H} (h : w.ownsMap P k R b n D) : IsMap D ∧ Maps.size D ≤ n := by
  obtain ⟨es, clock, _, _, hs, rfl⟩ := h
  exact ⟨⟨_, rfl⟩, by simp [Maps.size, length_sorted]; exact hs⟩

theorem pairwise_ss {α : Type} {cf : α → α → Int} {T : VP.TO α} (h : ∀ x y, ltOf cf x y = T.lt x y) {l : List α} (hs : l.Pairwise (fun x y => ltOf cf y x = false)) (hn : l.Nodup) : VP.SS T l := by
  unfold VP.SS
  refine (hs.and hn).imp ?_
  rintro a b ⟨h1, h2⟩
  rw [h] at h1
  cases h3 : T.lt a b
  · exact absurd (T.tri h3 h1) h2
  · rfl

set_option maxHeartbeats 2000000 in
set_option maxRecDepth 100000 in
theorem once_calls (A : Option Addr) (c : Nat) (xs : List Pt) (w : World) (h : RowIn ePt 3 w A xs) (hwf : ∀ x ∈ xs, wfPt x) (hby : xs.length * 32 ≤ 140737488355328) :
    Calls Tryz.prog 52 #[.slice A xs.length c] w fun e w' => ∃ v, e = .returned v ∧ Own ePt 3 37 w.heap.size w' v (VP.ssort toPt xs) ∧ Below w.heap.size w w' := by
  have hmm := @run_makeMap Tryz.prog
  have H := Hid.mk' h
  have hl := h.len
  clear h
  have HK := fun W => (callsIn_wide (n := 6)).1 (keys_Pt Fence.wide 6 trivial rfl (some w.heap.size) W)
  go_enter Tryz.func52, Tryz.ntmps52
  go_wp2_with fail
  go_loopw [9] (fun s9 wr => ∃ (k : Nat) (D : DataW Value), k ≤ xs.length ∧ s9 = .int .i64 k ∧ Hid (wr.ownsMap Tryz.prog 37 anyElem w.heap.size k D) ∧ Hid (∀ x, wfPt x → (has D (litOf Tryz.prog 37 vPt x) = true ↔ x ∈ xs.take k)) ∧ Hid (Below w.heap.size w wr) ∧ Hid (w.heap.size < wr.heap.size)) (fun s9 _ => xs.length - (intOf s9).toNat)
  case atStart =>
    refine ⟨0, .map [], Nat.zero_le _, rfl, Hid.mk' (World.ownsMap_made w _ _ _), Hid.mk' (fun x _ => by simp [has_nil]), Hid.mk' ((Below.refl _ w).alloc (Nat.le_refl _) _), Hid.mk' (by simp)⟩
  case round =>
    obtain ⟨k, D, hk, rfl, HM, HD, HB, HG⟩ := hrel
    by_cases hlt : k < xs.length
    · have hltz : (k : Int) < (xs.length : Int) := by omega
      obtain ⟨x, hx⟩ : ∃ x, xs[k]? = some x := ⟨_, List.getElem?_eq_getElem hlt⟩
      obtain ⟨b, off, rfl, hbl, hcell⟩ := H.out.at_ hlt
      have ex : xs[k] = x := (List.getElem?_eq_some_iff.1 hx).2
      rw [ex] at hcell
      have hcw : ∀ q v, (ePt x)[q]? = some v → wr.cell? ⟨b, off + k * 3 + q, none⟩ = some v := fun q v hv => (HB.out.cell (p := ⟨b, _, none⟩) hbl).trans (hcell q v hv)
      have c0 : wr.cell? ⟨b, off + k * 3, none⟩ = some (.int .i64 x.t) := hcw 0 _ rfl
      have c1 : wr.cell? ⟨b, off + k * 3 + 1, none⟩ = some (.int .i64 x.i) := hcw 1 _ rfl
      have c2 : wr.cell? ⟨b, off + k * 3 + 2, none⟩ = some (.string x.key) := hcw 2 _ rfl
      have HWX : Hid (wfPt x) := hwf x (by rw [← ex]; exact List.getElem_mem hlt)
      have HTK : Hid (xs.take (k + 1) = xs.take k ++ [x]) := by show _ = _; rw [List.take_succ_eq_append_getElem hlt, ex]
      clear hcell hcw ex hx
      have hown := HM.out
      go_wp2_with (at_mapUpdate; go_loud (refine wpList_mapUpdate_own _ rfl _ _ _ 59 rfl 37 _ keyedPt Tryz.underlying59 anyElem w.heap.size k _ rfl (hown.alloc _) (by unfold maxLen; omega) _ _ _ rfl rfl (kPt.lit HWX.out) _ [] rfl ?_); intro w1 hown1 hgrow1)
      have HO1 := Hid.mk' hown1
      have HG1 := Hid.mk' hgrow1
      clear hown hown1 hgrow1
      go_wp2_with fail
      go_roundw
      case rel =>
        refine ⟨k + 1, _, by omega, by go_num, HO1, ?_, ?_, ?_⟩
        · refine Hid.mk' (fun y hy => ?_)
          rw [kPt.has_put HWX.out (owns_isMap HM.out).1 _ hy, HD.out y hy, HTK.out]
          simp [or_comm]
        · exact Hid.mk' ((HB.out.alloc (Nat.le_of_lt HG.out) _).grown HG1.out (by have := HG.out; simp; omega) (fun q hq => by cases hq; exact Nat.le_refl _))
        · have h1 := HG1.out.size; have h2 := HG.out; simp at h1; exact Hid.mk' (by omega)
      case measure => simp [intOf]; omega
    · have hltz : ¬ (k : Int) < (xs.length : Int) := by omega
      have hke : k = xs.length := by omega
      have HD' : Hid (∀ x, wfPt x → (has D (litOf Tryz.prog 37 vPt x) = true ↔ x ∈ xs)) := by
        have := HD.out
        rw [hke, List.take_length] at this
        exact this
      have hsz := (owns_isMap HM.out).2
      clear hke HD
      go_wp2_with fail
      refine (HK wr).mono ?_
      rintro e w1 ⟨rfl, rfl⟩
      have hS := sortedFunc_Pt w.heap.size k D anyElem cmpPt (swo_of cmpPt_lt) 64 (enters_of Tryz.func64 (by kernel_rfl) rfl) (fun x y W => before_calls x y W) wr.heap.size (wr.alloc (.cells #[.map (some w.heap.size)] 59)) (by simp) (by simp) (HM.out.alloc _) (by omega)
      clear HK
      go_wp2_with fail
      refine hS.mono ?_
      rintro e w2 ⟨v, ss, rfl, hA, hso, ho, hb⟩
      have HF : Hid (ss = VP.ssort toPt xs) := VP.ss_eq_ssort toPt (pairwise_ss cmpPt_lt hso hA.1) (fun x => by
        constructor
        · intro hx; exact (HD'.out x (hA.2.1 x hx)).1 ((hA.2.2 x (hA.2.1 x hx)).1 hx)
        · intro hx; exact (hA.2.2 x (hwf x hx)).2 ((HD'.out x (hwf x hx)).2 hx))
      have HO := Hid.mk' ho
      have HBB := Hid.mk' hb
      clear hA hso ho hb hS
      go_wp2
      go_ret
      refine ⟨v, rfl, ?_, ?_⟩
      · rw [← HF.out]; exact HO.out.lower (by have := HG.out; simp; omega)
      · exact (HB.out.alloc (Nat.le_of_lt HG.out) _).trans (HBB.out.mono (by have := HG.out; simp; omega))
end Go.Proofs.YtpbmcaidkjlokaaGreat
