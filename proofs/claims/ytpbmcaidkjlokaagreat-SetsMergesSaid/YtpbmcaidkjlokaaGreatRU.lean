/- The reference's union of ranges. -/
import Derived.Test.YtpbmcaidkjlokaaGreatRs
import Derived.StillTailTactics
namespace Go.Proofs.YtpbmcaidkjlokaaGreat
open Go.RowKit Go.Sort

section
variable {α : Type} {enc : α → List Value} {k : Nat} {e : TypeId} {base g n cap : Nat} {w : World} {xs : List α}
theorem Own.num (h : Own enc k e base w (.slice (some ⟨g, 0, none⟩) n cap) xs) : n = xs.length := by
  rcases h.2 with ⟨h', _⟩ | ⟨g', cap', cur, h', _⟩
  · simp at h'
  · simp only [Value.slice.injEq] at h'; exact h'.2.1
theorem Own.cell (hk : ∀ x, (enc x).length = k) (h : Own enc k e base w (.slice (some ⟨g, 0, none⟩) n cap) xs) {j i : Nat} {x : α} {v : Value} (hx : xs[j]? = some x) (hv : (enc x)[i]? = some v) : w.cell? ⟨g, j * k + i, none⟩ = some v := by
  have hn := h.num
  subst hn
  have hi : i < k := by
    have := (List.getElem?_eq_some_iff.1 hv).1
    rwa [hk] at this
  have hj : j < xs.length := (List.getElem?_eq_some_iff.1 hx).1
  have hc := World.ownsRow.cellAt h (j * k + i) (by
    have := Nat.mul_le_mul_right k (show j + 1 ≤ xs.length from hj)
    rw [Nat.add_mul] at this; omega)
  rw [hc, flatMap_get hk xs j x i hx hi]
  exact hv
theorem Own.row' (h : Own enc k e base w (.slice (some ⟨g, 0, none⟩) n cap) xs) : w.ownsRow base e k (.slice (some ⟨g, 0, none⟩) n cap) n (xs.flatMap enc) := by
  have hn := h.num
  subst hn
  exact h
theorem Own.free (h : Own enc k e base w (.slice (some ⟨g, 0, none⟩) n cap) xs) (p : Nat) : w.frozen? ⟨g, p, none⟩ = false := by
  have hn := h.num
  subst hn
  exact World.ownsRow.frozenAt h p
theorem Own.setAt (hk : ∀ x, (enc x).length = k) (h : Own enc k e base w (.slice (some ⟨g, 0, none⟩) n cap) xs) {j : Nat} (hj : j < xs.length) (x : α) : Own enc k e base (setW g (enc x) (j * k) w) (.slice (some ⟨g, 0, none⟩) n cap) (xs.set j x) ∧ w.grownBy (setW g (enc x) (j * k) w) (some g) := by
  have hn := h.num
  subst hn
  have hs := own_stores (p := j * k) h (enc x)
  have hfs := flatMap_set hk xs j x hj
  have hsl := setL_eq (enc x) (j * k) (xs.flatMap enc) (by
    rw [flatMap_len hk, hk]
    have := Nat.mul_le_mul_right k (show j + 1 ≤ xs.length from hj)
    rw [Nat.add_mul] at this; omega)
  rw [hk, ← hfs] at hsl
  rw [hsl] at hs
  refine ⟨?_, hs.2⟩
  show World.ownsRow _ _ _ _ _ _ _
  rw [List.length_set]
  exact hs.1
theorem Own.blk (h : Own enc k e base w (.slice (some ⟨g, 0, none⟩) n cap) xs) : base ≤ g ∧ g < w.heap.size := by
  have hn := h.num
  subst hn
  exact World.ownsRow.lt h g rfl
theorem set_swap (A B : List α) (r y : α) : (((A ++ [y]) ++ r :: B).set (A.length + 1) y).set A.length r = A ++ r :: y :: B := by
  simp [List.set_append]
end

theorem sorted_ins {C D : List Rn} {y r : Rn} (h : VP.SortedLo VP.TO.bytes ((C ++ [y]) ++ D)) (h1 : VP.TO.bytes.lt r.lo y.lo = false) (h2 : ∀ d ∈ D, VP.TO.bytes.lt r.lo d.lo = true) : VP.SortedLo VP.TO.bytes ((C ++ [y]) ++ r :: D) := by
  obtain ⟨hC, hD, hCD⟩ := List.pairwise_append.1 h
  refine List.pairwise_append.2 ⟨hC, List.Pairwise.cons (fun d hd => VP.TO.bytes.asym (h2 d hd)) hD, ?_⟩
  intro a ha b hb
  rcases List.mem_cons.1 hb with rfl | hb
  · rcases List.mem_append.1 ha with ha | ha
    · have := (List.pairwise_append.1 hC).2.2 a ha y (by simp)
      exact VP.TO.bytes.le_trans this h1
    · simp at ha; subst ha; exact h1
  · exact hCD a ha b hb
theorem own_swapped {g n cap base : Nat} {e : TypeId} {w : World} {C D : List Rn} {y r : Rn} {m : Nat} (h : Own eRn 3 e base w (.slice (some ⟨g, 0, none⟩) n cap) ((C ++ [y]) ++ r :: D)) (hm : C.length = m) (q : Nat) :
    Own eRn 3 e base (((((((w.drewN q).setCell ⟨g, (m + 1) * 3, none⟩ (.string y.lo)).setCell ⟨g, (m + 1) * 3 + 1, none⟩ (.string y.hi)).setCell ⟨g, (m + 1) * 3 + 2, none⟩ (.bool y.op)).setCell ⟨g, m * 3, none⟩ (.string r.lo)).setCell ⟨g, m * 3 + 1, none⟩ (.string r.hi)).setCell ⟨g, m * 3 + 2, none⟩ (.bool r.op)) (.slice (some ⟨g, 0, none⟩) n cap) (C ++ r :: y :: D) ∧
    w.grownBy (((((((w.drewN q).setCell ⟨g, (m + 1) * 3, none⟩ (.string y.lo)).setCell ⟨g, (m + 1) * 3 + 1, none⟩ (.string y.hi)).setCell ⟨g, (m + 1) * 3 + 2, none⟩ (.bool y.op)).setCell ⟨g, m * 3, none⟩ (.string r.lo)).setCell ⟨g, m * 3 + 1, none⟩ (.string r.hi)).setCell ⟨g, m * 3 + 2, none⟩ (.bool r.op)) (some g) := by
  subst hm
  have h0 : w.grownBy (w.drewN q) none := ⟨rfl, rfl, rfl, Nat.le_refl _, fun j hj _ => rfl⟩
  have h1 := (h.kept h0 (by simp [Value.ownBlock])).setAt eRn_len (j := C.length + 1) (by simp) y
  have h2 := h1.1.setAt eRn_len (j := C.length) (by simp) r
  rw [set_swap] at h2
  refine ⟨h2.1, h2.2.os.trans h1.2.os, h2.2.tape.trans h1.2.tape, h2.2.output.trans h1.2.output, Nat.le_trans h1.2.size h2.2.size, fun j hj hne => (h2.2.block j (Nat.lt_of_lt_of_le hj h1.2.size) hne).trans (h1.2.block j hj hne)⟩
theorem below_of_grown {B g : Nat} {w w' : World} (h : w.grownBy w' (some g)) (hB : B ≤ w.heap.size) (hg : B ≤ g) : Below B w w' :=
  ⟨h.os, h.tape, h.output, h.size, fun q hq => h.block q (by omega) (fun e => by cases e; omega)⟩
def accR (ys : List Rn) (k : Nat) : List Rn := (ys.take k).foldl (VP.rStep VP.TO.bytes) []
theorem accR_succ (ys : List Rn) (k : Nat) (r : Rn) (h : ys[k]? = some r) : accR ys (k + 1) = VP.rStep VP.TO.bytes (accR ys k) r := by
  have hk : k < ys.length := (List.getElem?_eq_some_iff.1 h).1
  have e : ys[k] = r := (List.getElem?_eq_some_iff.1 h).2
  unfold accR
  rw [List.take_succ_eq_append_getElem hk, List.foldl_append, e]; rfl
theorem rStep_len (acc : List Rn) (r : Rn) : (VP.rStep VP.TO.bytes acc r).length ≤ acc.length + 1 := by
  cases acc with
  | nil => simp [VP.rStep]
  | cons a t => simp only [VP.rStep]; split <;> (try split) <;> simp
theorem accR_len (ys : List Rn) : ∀ k, k ≤ ys.length → (accR ys k).length ≤ k
  | 0, _ => by simp [accR]
  | k + 1, h => by
    rw [accR_succ ys k ys[k] (List.getElem?_eq_getElem (by omega))]
    have := rStep_len (accR ys k) ys[k]
    have := accR_len ys k (by omega)
    omega

set_option maxHeartbeats 4000000 in
set_option maxRecDepth 100000 in
theorem runion_calls (A : Option Addr) (c : Nat) (xs : List Rn) (w : World) (h : RowIn eRn 3 w A xs) (hby : xs.length * 40 ≤ 140737488355328) :
    Calls Tryz.prog 57 #[.slice A xs.length c] w fun e w' => ∃ v, e = .returned v ∧ Own eRn 3 44 w.heap.size w' v (unionP xs) ∧ Below w.heap.size w w' := by
  have H := Hid.mk' h
  clear h
  obtain ⟨i0, hi, hz0, hz1, hz2⟩ := info_parts info_Rn
  go_enter Tryz.func57, Tryz.ntmps57
  go_wp2_with fail
  go_loopw [3, 4] (fun s3 s4 wr => ∃ (i : Nat) (zs : List Rn), i ≤ xs.length ∧ zs.length ≤ i ∧ s4 = .int .i64 i ∧ Hid (zs.Perm ((xs.take i).filter fun x => !empB x)) ∧ Hid (VP.SortedLo VP.TO.bytes zs) ∧ Hid (Own eRn 3 44 w.heap.size wr s3 zs) ∧ Hid (Below w.heap.size w wr) ∧ Hid (w.heap.size ≤ wr.heap.size)) (fun _ s4 _ => xs.length - (intOf s4).toNat)
  case atStart => exact ⟨0, [], Nat.zero_le _, Nat.zero_le _, rfl, List.Perm.refl _, List.Pairwise.nil, Own.nil _ _ _, Below.refl _ _, Nat.le_refl _⟩
  case round =>
    obtain ⟨i, zs, hix, hzi, rfl, HP, HS, HW, HB, HG⟩ := hrel
    by_cases hlt : i < xs.length
    · have hltz : (i : Int) < (xs.length : Int) := by omega
      obtain ⟨r, hr⟩ : ∃ r, xs[i]? = some r := ⟨_, List.getElem?_eq_getElem hlt⟩
      obtain ⟨b, off, rfl, hbl, hcell⟩ := H.out.at_ hlt
      have er : xs[i] = r := (List.getElem?_eq_some_iff.1 hr).2
      rw [er] at hcell
      have hcw : ∀ q v, (eRn r)[q]? = some v → wr.cell? ⟨b, off + i * 3 + q, none⟩ = some v := fun q v hv => (HB.out.cell (p := ⟨b, _, none⟩) hbl).trans (hcell q v hv)
      have c0 : wr.cell? ⟨b, off + i * 3, none⟩ = some (.string r.lo) := hcw 0 _ rfl
      have c1 : wr.cell? ⟨b, off + i * 3 + 1, none⟩ = some (.string r.hi) := hcw 1 _ rfl
      have c2 : wr.cell? ⟨b, off + i * 3 + 2, none⟩ = some (.bool r.op) := hcw 2 _ rfl
      have HT : Hid ((xs.take (i + 1)).filter (fun x => !empB x) = (xs.take i).filter (fun x => !empB x) ++ (if empB r = true then [] else [r])) := by
        show _ = _
        rw [List.take_succ_eq_append_getElem hlt, List.filter_append, er]
        cases hq' : empB r <;> simp [hq']
      clear hcell hcw er hr
      have HE : Calls Tryz.prog 79 #[.agg #[.string r.lo, .string r.hi, .bool r.op]] wr fun e w' => e = .returned (.bool (empB r)) ∧ Below wr.heap.size wr w' := (rempty_calls r wr).mono fun e w' ⟨h1, o, h2⟩ => ⟨h1, by rw [h2]; exact (Below.refl _ _).alloc (Nat.le_refl _) _⟩
      have hbw : b < wr.heap.size := Nat.lt_of_lt_of_le hbl HG.out
      cases hq : empB r
      · rw [hq] at HE
        have HT1 : Hid ((xs.take (i + 1)).filter (fun x => !empB x) = (xs.take i).filter (fun x => !empB x) ++ [r]) := by show _ = _; rw [HT.out, hq]; rfl
        clear hq HT
        obtain ⟨A4, c4, rfl, hc4⟩ := HW.out.shape
        have hown := HW.out
        clear HW
        go_wp2_with fail
        refine HE.mono ?_
        rintro e w1 ⟨rfl, hb1⟩
        have e0 : w1.cell? ⟨b, off + i * 3, none⟩ = some (.string r.lo) := (hb1.cell (p := ⟨b, _, none⟩) hbw).trans c0
        have e1 : w1.cell? ⟨b, off + i * 3 + 1, none⟩ = some (.string r.hi) := (hb1.cell (p := ⟨b, _, none⟩) hbw).trans c1
        have e2 : w1.cell? ⟨b, off + i * 3 + 2, none⟩ = some (.bool r.op) := (hb1.cell (p := ⟨b, _, none⟩) hbw).trans c2
        have hown := Own.below hown hb1
        have HB1 := HB.out.trans (hb1.mono HG.out)
        have HG1 := Nat.le_trans HG.out hb1.size
        clear HE HB HG hb1 c0 c1 c2 hbw
        go_wp2_with (at_builtin; go_loud (refine wpList_append_own _ rfl _ _ 70 rfl w.heap.size 44 i0 _ 3 40 Tryz.underlying70 hi hz0 hz1 hz2 rfl (by decide) _ _ _ rfl (World.ownsRow.alloc hown _) ⟨w1.heap.size, 0, none⟩ 1 1 (eRn r) rfl rfl (new_cells rfl rfl) (eRn_one _) (by unfold maxLen; omega) (by omega) (by simp; omega) ?_))
        intro v' w4 hown4 hgr4 _
        have HOW : Own eRn 3 44 w.heap.size w4 v' (zs ++ [r]) := own_snoc hown4
        have HB4 : Hid (Below w.heap.size w w4) := (HB1.alloc HG1 _).grown hgr4 (by simp; omega) (fun q hq => (World.ownsRow.lt hown q hq).1)
        have HG4 : Hid (w.heap.size ≤ w4.heap.size) := by have h1 := hgr4.size; simp at h1; show _ ≤ _; omega
        obtain ⟨g, cap, rfl, hg1, hg2⟩ := own_some HOW (by simp)
        rw [show (zs ++ [r]).length = zs.length + 1 from by simp] at HOW ⊢
        have HOW' := Hid.mk' HOW
        clear hown4 hgr4 hown HOW hg2 HB1 HG1 e0 e1 e2
        go_wp2_with fail
        go_loopw [5] (fun s5 wi => ∃ (k : Nat) (C D : List Rn), s5 = .int .i64 k ∧ k = C.length ∧ C.length + D.length = zs.length ∧ Hid (zs = C ++ D) ∧ Hid (∀ d ∈ D, VP.TO.bytes.lt r.lo d.lo = true) ∧ Hid (Own eRn 3 44 w.heap.size wi (.slice (some ⟨g, 0, none⟩) (zs.length + 1) cap) (C ++ r :: D)) ∧ Hid (Below w.heap.size w wi) ∧ Hid (w.heap.size ≤ wi.heap.size)) (fun s5 _ => (intOf s5).toNat)
        case atStart => exact ⟨zs.length, zs, [], rfl, rfl, rfl, Hid.mk' (List.append_nil _).symm, Hid.mk' (fun d hd => absurd hd (by simp)), HOW'.out, HB4.out, HG4.out⟩
        case round =>
          obtain ⟨k, C, D, rfl, rfl, hcd, HZ, HD, HWI, HBI, HGI⟩ := hrel
          have HBK := Hid.mk' HWI.out.blk
          rcases List.eq_nil_or_concat C with hC | ⟨C', y, hC⟩
          · subst hC
            go_wp2_with fail
            go_quiet (fail)
            go_wp2_with fail
            go_roundw
            case rel =>
              refine ⟨i + 1, r :: zs, by omega, by simp; omega, by go_num, ?_, ?_, ?_, ?_, ?_⟩
              · refine Hid.mk' ?_
                rw [HT1.out]
                exact (List.perm_append_comm (l₁ := [r]) (l₂ := zs)).trans (HP.out.append_right _)
              · refine Hid.mk' (List.Pairwise.cons ?_ HS.out)
                intro d hd
                have e := HZ.out
                rw [List.nil_append] at e
                exact VP.TO.bytes.asym (HD.out d (by rw [← e]; exact hd))
              · refine Hid.mk' ?_
                have e := HZ.out
                rw [List.nil_append] at e
                have := HWI.out
                rw [List.nil_append, ← e] at this
                exact own_drewN this _
              · exact Hid.mk' (below_drewN' HBI.out _)
              · exact HGI
            case measure => simp [intOf]; omega
          · rw [List.concat_eq_append] at hC
            subst hC
            obtain ⟨m, hm⟩ : ∃ m, C'.length = m := ⟨_, rfl⟩
            have HY : ∀ q v, (eRn y)[q]? = some v → wr.cell? ⟨g, m * 3 + q, none⟩ = some v := fun q v hv => HWI.out.cell eRn_len (j := m) (x := y) (by rw [← hm]; simp) hv
            have HR : ∀ q v, (eRn r)[q]? = some v → wr.cell? ⟨g, (m + 1) * 3 + q, none⟩ = some v := fun q v hv => HWI.out.cell eRn_len (j := m + 1) (x := r) (by rw [← hm]; simp) hv
            have y0 : wr.cell? ⟨g, m * 3, none⟩ = some (.string y.lo) := HY 0 _ rfl
            have y1 : wr.cell? ⟨g, m * 3 + 1, none⟩ = some (.string y.hi) := HY 1 _ rfl
            have y2 : wr.cell? ⟨g, m * 3 + 2, none⟩ = some (.bool y.op) := HY 2 _ rfl
            have r0 : wr.cell? ⟨g, (m + 1) * 3, none⟩ = some (.string r.lo) := HR 0 _ rfl
            have r1 : wr.cell? ⟨g, (m + 1) * 3 + 1, none⟩ = some (.string r.hi) := HR 1 _ rfl
            have r2 : wr.cell? ⟨g, (m + 1) * 3 + 2, none⟩ = some (.bool r.op) := HR 2 _ rfl
            have fy0 : wr.frozen? ⟨g, m * 3, none⟩ = false := HWI.out.free _
            have fy1 : wr.frozen? ⟨g, m * 3 + 1, none⟩ = false := HWI.out.free _
            have fy2 : wr.frozen? ⟨g, m * 3 + 2, none⟩ = false := HWI.out.free _
            have fr0 : wr.frozen? ⟨g, (m + 1) * 3, none⟩ = false := HWI.out.free _
            have fr1 : wr.frozen? ⟨g, (m + 1) * 3 + 1, none⟩ = false := HWI.out.free _
            have fr2 : wr.frozen? ⟨g, (m + 1) * 3 + 2, none⟩ = false := HWI.out.free _
            have hlen : (C' ++ [y]).length = m + 1 := by rw [← hm]; simp
            rw [hlen] at hcd ⊢
            have HCD := Hid.mk' hcd
            clear HY HR
            have HM := Hid.mk' hm
            clear hlen hm
            cases hlo : VP.TO.bytes.lt r.lo y.lo
            · have HLO := Hid.mk' hlo
              rw [VP.TO.bytes_lt] at hlo
              go_wp2_with fail
              go_quiet (fail)
              go_wp2_with fail
              go_roundw
              case rel =>
                refine ⟨i + 1, (C' ++ [y]) ++ r :: D, by omega, by have := HCD.out; have := HM.out; simp; omega, by go_num, ?_, ?_, ?_, ?_, ?_⟩
                · refine Hid.mk' ?_
                  rw [HT1.out]
                  have hp := HP.out
                  rw [HZ.out] at hp
                  refine List.Perm.trans ?_ (hp.append_right [r])
                  rw [List.append_assoc _ D [r]]
                  exact List.Perm.append_left _ (List.perm_append_comm (l₁ := [r]) (l₂ := D))
                · have hs := HS.out
                  rw [HZ.out] at hs
                  exact Hid.mk' (sorted_ins hs HLO.out HD.out)
                · exact Hid.mk' (own_drewN HWI.out _)
                · exact Hid.mk' (below_drewN' HBI.out _)
                · exact HGI
              case measure => simp [intOf]; omega
            · have HLO := Hid.mk' hlo
              rw [VP.TO.bytes_lt] at hlo
              go_wp2_with fail
              go_quiet (fail)
              go_wp2_with fail
              go_region
              go_wp2_with fail
              go_roundw
              case rel =>
                have hsw := own_swapped HWI.out HM.out (nq + 1)
                refine ⟨m, C', y :: D, rfl, HM.out.symm, by have := HM.out; have := HCD.out; rw [List.length_cons]; omega, ?_, ?_, Hid.mk' hsw.1, Hid.mk' (HBI.out.trans (below_of_grown hsw.2 HGI.out HBK.out.1)), Nat.le_trans HGI.out hsw.2.size⟩
                · refine Hid.mk' ?_
                  rw [HZ.out]; simp
                · refine Hid.mk' ?_
                  intro d hd
                  rcases List.mem_cons.1 hd with rfl | hd
                  · exact HLO.out
                  · exact HD.out d hd
              case measure => simp [intOf]
      · rw [hq] at HE
        have HT1 : Hid ((xs.take (i + 1)).filter (fun x => !empB x) = (xs.take i).filter (fun x => !empB x)) := by show _ = _; rw [HT.out, hq]; simp
        clear hq HT
        go_wp2_with fail
        refine HE.mono ?_
        rintro e w1 ⟨rfl, hb1⟩
        have HB1 := Hid.mk' hb1
        clear HE hb1
        go_wp2_with fail
        go_roundw
        case rel =>
          refine ⟨i + 1, zs, by omega, by omega, by go_num, ?_, HS, HW.out.below HB1.out, HB.out.trans (HB1.out.mono HG.out), Nat.le_trans HG.out HB1.out.size⟩
          show List.Perm _ _; rw [HT1.out]; exact HP.out
        case measure => simp [intOf]; omega
    · have hltz : ¬ (i : Int) < (xs.length : Int) := by omega
      have hie : i = xs.length := by omega
      have HPS : Hid (zs.Perm (xs.filter fun x => !empB x)) := by
        have := HP.out
        rw [hie, List.take_length] at this
        exact this
      clear hie HP H
      have HBW := HB
      obtain ⟨A3, c3, rfl, hc3⟩ := HW.out.shape
      have HR := Hid.mk' (HW.out.row eRn_len).2
      have hzb : zs.length * 40 ≤ 140737488355328 := by omega
      clear HW HB hzi hby hc3
      obtain ⟨W2, hW2⟩ : ∃ W, W = wr := ⟨_, rfl⟩
      subst hW2
      go_wp2_with fail
      go_loopw [6, 7] (fun s6 s7 wi => ∃ k : Nat, k ≤ zs.length ∧ s7 = .int .i64 k ∧ Hid (Own eRn 3 44 W2.heap.size wi s6 (accR zs k).reverse) ∧ Hid (Below W2.heap.size W2 wi) ∧ Hid (W2.heap.size ≤ wi.heap.size)) (fun _ s7 _ => zs.length - (intOf s7).toNat)
      case atStart => exact ⟨0, Nat.zero_le _, rfl, Own.nil _ _ _, Below.refl _ _, Nat.le_refl _⟩
      case round =>
        obtain ⟨k, hk, rfl, HW, HB, HG2⟩ := hrel
        by_cases hlt2 : k < zs.length
        · have hltz2 : (k : Int) < (zs.length : Int) := by omega
          obtain ⟨r, hr⟩ : ∃ r, zs[k]? = some r := ⟨_, List.getElem?_eq_getElem hlt2⟩
          obtain ⟨b, off, rfl, hbl, hcell⟩ := HR.out.at_ hlt2
          have er : zs[k] = r := (List.getElem?_eq_some_iff.1 hr).2
          rw [er] at hcell
          have HCW : Hid (∀ (W : World), Below W2.heap.size W2 W → ∀ q v, (eRn r)[q]? = some v → W.cell? ⟨b, off + k * 3 + q, none⟩ = some v) := fun W hW q v hv => (hW.cell (p := ⟨b, _, none⟩) hbl).trans (hcell q v hv)
          have HA := Hid.mk' (accR_succ zs k r hr)
          have hal := accR_len zs k hk
          have c0 : wr.cell? ⟨b, off + k * 3, none⟩ = some (.string r.lo) := HCW.out wr HB.out 0 _ rfl
          have c1 : wr.cell? ⟨b, off + k * 3 + 1, none⟩ = some (.string r.hi) := HCW.out wr HB.out 1 _ rfl
          have c2 : wr.cell? ⟨b, off + k * 3 + 2, none⟩ = some (.bool r.op) := HCW.out wr HB.out 2 _ rfl
          clear hcell er hr
          obtain ⟨L, hL⟩ : ∃ L, accR zs k = L := ⟨_, rfl⟩
          rw [hL] at HW HA hal
          clear hL
          obtain ⟨rlo, rhi, rop⟩ := r
          simp only at c0 c1 c2
          cases L with
          | nil =>
            obtain ⟨A4, c4, rfl, hc4⟩ := HW.out.shape
            have hown := HW.out
            clear HW
            go_wp2_with fail
            go_quiet (fail)
            go_wp2_with (at_builtin; go_loud (refine wpList_append_own _ rfl _ _ 70 rfl W2.heap.size 44 i0 _ 3 40 Tryz.underlying70 hi hz0 hz1 hz2 rfl (by decide) _ _ _ rfl (World.ownsRow.alloc (own_drewN hown _) _) ⟨wr.heap.size, 0, none⟩ 1 1 (eRn ⟨rlo, rhi, rop⟩) rfl rfl (new_cells rfl rfl) (eRn_one _) (by unfold maxLen; simp) (by simp) (by have := HG2.out; simp; omega) ?_))
            intro v' w4 hown4 hgr4 _
            have HOW := Hid.mk' hown4
            have HGW := Hid.mk' hgr4
            have HN := Hid.mk' hown
            clear hown4 hgr4 hown
            go_wp2_with fail
            go_roundw
            case rel =>
              have ha : (accR zs (k + 1)).reverse = ([] : List Rn).reverse ++ [⟨rlo, rhi, rop⟩] := by rw [HA.out]; rfl
              have ho4 : Own eRn 3 44 W2.heap.size w4 v' (accR zs (k + 1)).reverse := by rw [ha]; exact own_snoc HOW.out
              refine ⟨k + 1, by omega, by go_num, ho4, ?_, ?_⟩
              · exact ((below_drewN' HB.out _).alloc HG2.out _).grown HGW.out (by have := HG2.out; simp; omega) (fun q hq => (World.ownsRow.lt HN.out q hq).1)
              · have h1 := HGW.out.size; have h2 := HG2.out; simp at h1; show _ ≤ _; omega
            case measure => simp [intOf]; omega
          | cons last t =>
            obtain ⟨g, cap, rfl, hg1, hg2⟩ := own_some HW.out (by simp)
            obtain ⟨llo, lhi, lop⟩ := last
            have hwn := HW.out
            rw [List.reverse_cons] at hwn
            have HLC : Hid (∀ W : World, Own eRn 3 44 W2.heap.size W (.slice (some ⟨g, 0, none⟩) (t.length + 1) cap) (t.reverse ++ [(⟨llo, lhi, lop⟩ : Rn)]) → ∀ q v, (eRn ⟨llo, lhi, lop⟩)[q]? = some v → W.cell? ⟨g, t.length * 3 + q, none⟩ = some v) := fun W hW q v hv => by have := hW.last eRn_len hv; rwa [List.length_reverse] at this
            rw [show (t.reverse ++ [(⟨llo, lhi, lop⟩ : Rn)]).length = t.length + 1 from by simp] at hwn
            have d0 : wr.cell? ⟨g, t.length * 3, none⟩ = some (.string llo) := HLC.out wr hwn 0 _ rfl
            have d1 : wr.cell? ⟨g, t.length * 3 + 1, none⟩ = some (.string lhi) := HLC.out wr hwn 1 _ rfl
            have d2 : wr.cell? ⟨g, t.length * 3 + 2, none⟩ = some (.bool lop) := HLC.out wr hwn 2 _ rfl
            have HO := Hid.mk' hwn
            clear HW hwn hg2
            simp only [List.length_cons] at hal
            rw [show (⟨llo, lhi, lop⟩ :: t : List Rn).reverse.length = t.length + 1 from by simp]
            have HJ : ∀ W, Calls Tryz.prog 80 #[.agg #[.string llo, .string lhi, .bool lop], .agg #[.string rlo, .string rhi, .bool rop]] W fun e w' => e = .returned (.bool (joinsB ⟨llo, lhi, lop⟩ ⟨rlo, rhi, rop⟩)) ∧ Below W.heap.size W w' := fun W => (joins_calls ⟨llo, lhi, lop⟩ ⟨rlo, rhi, rop⟩ W).mono fun e w' ⟨h1, o1, o2, h2⟩ => ⟨h1, by rw [h2]; exact ((Below.refl _ _).alloc (Nat.le_refl _) _).alloc (by simp) _⟩
            have hix : (t.length : Int) < (t.length : Int) + 1 := by omega
            cases hjb : joinsB ⟨llo, lhi, lop⟩ ⟨rlo, rhi, rop⟩
            all_goals rw [hjb] at HJ
            all_goals have HJB := Hid.mk' hjb
            all_goals clear hjb
            · go_wp2_with fail
              go_still_tail 11, (by kernel_rfl)
              change wpList _ _ _ _ _ wr.drew
              go_wp2_with (first | (go_at_call 80; refine (HJ _).mono ?_; rintro e w1 ⟨rfl, hb1⟩; have hb1' : Below wr.heap.size wr w1 := ⟨hb1.os, hb1.tape, hb1.output, hb1.size, hb1.block⟩; have HB1 := Hid.mk' (HB.out.trans (hb1'.mono HG2.out)); have HG1 := Hid.mk' (Nat.le_trans HG2.out hb1'.size); have HO1 := Hid.mk' (HO.out.below hb1'); have e0 : w1.cell? ⟨b, off + k * 3, none⟩ = some (.string rlo) := HCW.out w1 HB1.out 0 _ rfl; have e1 : w1.cell? ⟨b, off + k * 3 + 1, none⟩ = some (.string rhi) := HCW.out w1 HB1.out 1 _ rfl; have e2 : w1.cell? ⟨b, off + k * 3 + 2, none⟩ = some (.bool rop) := HCW.out w1 HB1.out 2 _ rfl; have x0 : w1.cell? ⟨g, t.length * 3, none⟩ = some (.string llo) := HLC.out w1 HO1.out 0 _ rfl; have x1 : w1.cell? ⟨g, t.length * 3 + 1, none⟩ = some (.string lhi) := HLC.out w1 HO1.out 1 _ rfl; have x2 : w1.cell? ⟨g, t.length * 3 + 2, none⟩ = some (.bool lop) := HLC.out w1 HO1.out 2 _ rfl; have f1 : w1.frozen? ⟨g, t.length * 3 + 1, none⟩ = false := HO1.out.free _; have f2 : w1.frozen? ⟨g, t.length * 3 + 2, none⟩ = false := HO1.out.free _; clear hb1 hb1' HJ c0 c1 c2 d0 d1 d2) | (at_builtin; go_loud (refine wpList_append_own _ rfl _ _ 70 rfl W2.heap.size 44 i0 _ 3 40 Tryz.underlying70 hi hz0 hz1 hz2 rfl (by decide) _ (t.length + 1) _ rfl (World.ownsRow.alloc (HO1.out.row') _) ⟨w1.heap.size, 0, none⟩ 1 1 (eRn ⟨rlo, rhi, rop⟩) rfl rfl (new_cells rfl rfl) (eRn_one _) (by unfold maxLen; omega) (by omega) (by have := HG1.out; simp; omega) ?_)))
              intro v' w4 hown4 hgr4 _
              have HOW := Hid.mk' hown4
              have HGW := Hid.mk' hgr4
              clear hown4 hgr4
              go_wp2_with fail
              go_roundw
              case rel =>
                have ha : (accR zs (k + 1)).reverse = (t.reverse ++ [⟨llo, lhi, lop⟩]) ++ [⟨rlo, rhi, rop⟩] := by rw [HA.out]; have e := HJB.out; simp only [joinsB] at e; simp [VP.rStep, e]
                have ho4 : Own eRn 3 44 W2.heap.size w4 v' (accR zs (k + 1)).reverse := by
                  rw [ha]; refine own_snoc ?_
                  rw [show (t.reverse ++ [(⟨llo, lhi, lop⟩ : Rn)]).length = t.length + 1 from by simp]
                  simpa [List.flatMap_append, List.append_assoc] using HOW.out
                refine ⟨k + 1, by omega, by go_num, ho4, ?_, ?_⟩
                · exact (HB1.out.alloc HG1.out _).grown HGW.out (by have := HG1.out; simp; omega) (fun q hq => (World.ownsRow.lt (HO1.out.row') q hq).1)
                · have h1 := HGW.out.size; have h2 := HG1.out; simp at h1; show _ ≤ _; omega
              case measure => simp [intOf]; omega
            · cases rop
              · cases lop
                · cases hlt3 : VP.TO.bytes.lt lhi rhi
                  · have HU : Hid ((VP.TO.bytes.lt lhi rhi) = false) := hlt3
                    have h7 := leq_str rhi lhi
                    rw [VP.TO.bytes_lt] at hlt3
                    rw [hlt3] at h7
                    have h8 : (Op.bytesLess rhi.toList lhi.toList = true) ∨ (Op.bytesLess rhi.toList lhi.toList = false ∧ (rhi.toList == lhi.toList) = true) := by
                      cases h9 : Op.bytesLess rhi.toList lhi.toList
                      · rw [h9] at h7; right; exact ⟨rfl, by simpa using h7⟩
                      · exact Or.inl rfl
                    clear h7
                    rcases h8 with h8 | ⟨h8, h9⟩
                    · go_wp2_with fail
                      go_still_tail 11, (by kernel_rfl)
                      change wpList _ _ _ _ _ wr.drew
                      go_wp2_with (go_at_call 80; refine (HJ _).mono ?_; rintro e w1 ⟨rfl, hb1⟩; have hb1' : Below wr.heap.size wr w1 := ⟨hb1.os, hb1.tape, hb1.output, hb1.size, hb1.block⟩; have HB1 := Hid.mk' (HB.out.trans (hb1'.mono HG2.out)); have HG1 := Hid.mk' (Nat.le_trans HG2.out hb1'.size); have HO1 := Hid.mk' (HO.out.below hb1'); have e0 : w1.cell? ⟨b, off + k * 3, none⟩ = some (.string rlo) := HCW.out w1 HB1.out 0 _ rfl; have e1 : w1.cell? ⟨b, off + k * 3 + 1, none⟩ = some (.string rhi) := HCW.out w1 HB1.out 1 _ rfl; have e2 : w1.cell? ⟨b, off + k * 3 + 2, none⟩ = some (.bool false) := HCW.out w1 HB1.out 2 _ rfl; have x0 : w1.cell? ⟨g, t.length * 3, none⟩ = some (.string llo) := HLC.out w1 HO1.out 0 _ rfl; have x1 : w1.cell? ⟨g, t.length * 3 + 1, none⟩ = some (.string lhi) := HLC.out w1 HO1.out 1 _ rfl; have x2 : w1.cell? ⟨g, t.length * 3 + 2, none⟩ = some (.bool false) := HLC.out w1 HO1.out 2 _ rfl; have f1 : w1.frozen? ⟨g, t.length * 3 + 1, none⟩ = false := HO1.out.free _; have f2 : w1.frozen? ⟨g, t.length * 3 + 2, none⟩ = false := HO1.out.free _; clear hb1 hb1' HJ c0 c1 c2 d0 d1 d2)
                      go_quiet (fail)
                      go_wp2_with fail
                      go_roundw
                      case rel =>
                        have ha : (accR zs (k + 1)).reverse = t.reverse ++ [⟨llo, lhi, false⟩] := by rw [HA.out]; have e := HJB.out; simp only [joinsB] at e; have u := HU.out; (try simp only at u); simp [VP.rStep, e, u]
                        refine ⟨k + 1, by omega, by go_num, ?_, ?_, ?_⟩
                        · refine Hid.mk' ?_
                          rw [ha]
                          exact HO1.out
                        · exact Hid.mk' (below_drewN' HB1.out _)
                        · exact HG1
                      case measure => simp [intOf]; omega
                    · go_wp2_with fail
                      go_still_tail 11, (by kernel_rfl)
                      change wpList _ _ _ _ _ wr.drew
                      go_wp2_with (go_at_call 80; refine (HJ _).mono ?_; rintro e w1 ⟨rfl, hb1⟩; have hb1' : Below wr.heap.size wr w1 := ⟨hb1.os, hb1.tape, hb1.output, hb1.size, hb1.block⟩; have HB1 := Hid.mk' (HB.out.trans (hb1'.mono HG2.out)); have HG1 := Hid.mk' (Nat.le_trans HG2.out hb1'.size); have HO1 := Hid.mk' (HO.out.below hb1'); have e0 : w1.cell? ⟨b, off + k * 3, none⟩ = some (.string rlo) := HCW.out w1 HB1.out 0 _ rfl; have e1 : w1.cell? ⟨b, off + k * 3 + 1, none⟩ = some (.string rhi) := HCW.out w1 HB1.out 1 _ rfl; have e2 : w1.cell? ⟨b, off + k * 3 + 2, none⟩ = some (.bool false) := HCW.out w1 HB1.out 2 _ rfl; have x0 : w1.cell? ⟨g, t.length * 3, none⟩ = some (.string llo) := HLC.out w1 HO1.out 0 _ rfl; have x1 : w1.cell? ⟨g, t.length * 3 + 1, none⟩ = some (.string lhi) := HLC.out w1 HO1.out 1 _ rfl; have x2 : w1.cell? ⟨g, t.length * 3 + 2, none⟩ = some (.bool false) := HLC.out w1 HO1.out 2 _ rfl; have f1 : w1.frozen? ⟨g, t.length * 3 + 1, none⟩ = false := HO1.out.free _; have f2 : w1.frozen? ⟨g, t.length * 3 + 2, none⟩ = false := HO1.out.free _; clear hb1 hb1' HJ c0 c1 c2 d0 d1 d2)
                      go_quiet (fail)
                      go_wp2_with fail
                      go_roundw
                      case rel =>
                        have ha : (accR zs (k + 1)).reverse = t.reverse ++ [⟨llo, lhi, false⟩] := by rw [HA.out]; have e := HJB.out; simp only [joinsB] at e; have u := HU.out; (try simp only at u); simp [VP.rStep, e, u]
                        refine ⟨k + 1, by omega, by go_num, ?_, ?_, ?_⟩
                        · refine Hid.mk' ?_
                          rw [ha]
                          exact HO1.out
                        · exact Hid.mk' (below_drewN' HB1.out _)
                        · exact HG1
                      case measure => simp [intOf]; omega
                  · have HU : Hid ((VP.TO.bytes.lt lhi rhi) = true) := hlt3
                    have h7 := leq_str rhi lhi
                    rw [VP.TO.bytes_lt] at hlt3
                    rw [hlt3] at h7
                    have h8 : Op.bytesLess rhi.toList lhi.toList = false := by
                      cases h9 : Op.bytesLess rhi.toList lhi.toList
                      · rfl
                      · rw [h9] at h7; simp at h7
                    have h9 : (rhi.toList == lhi.toList) = false := by rw [h8] at h7; simpa using h7
                    clear h7
                    go_wp2_with fail
                    go_still_tail 11, (by kernel_rfl)
                    change wpList _ _ _ _ _ wr.drew
                    go_wp2_with (go_at_call 80; refine (HJ _).mono ?_; rintro e w1 ⟨rfl, hb1⟩; have hb1' : Below wr.heap.size wr w1 := ⟨hb1.os, hb1.tape, hb1.output, hb1.size, hb1.block⟩; have HB1 := Hid.mk' (HB.out.trans (hb1'.mono HG2.out)); have HG1 := Hid.mk' (Nat.le_trans HG2.out hb1'.size); have HO1 := Hid.mk' (HO.out.below hb1'); have e0 : w1.cell? ⟨b, off + k * 3, none⟩ = some (.string rlo) := HCW.out w1 HB1.out 0 _ rfl; have e1 : w1.cell? ⟨b, off + k * 3 + 1, none⟩ = some (.string rhi) := HCW.out w1 HB1.out 1 _ rfl; have e2 : w1.cell? ⟨b, off + k * 3 + 2, none⟩ = some (.bool false) := HCW.out w1 HB1.out 2 _ rfl; have x0 : w1.cell? ⟨g, t.length * 3, none⟩ = some (.string llo) := HLC.out w1 HO1.out 0 _ rfl; have x1 : w1.cell? ⟨g, t.length * 3 + 1, none⟩ = some (.string lhi) := HLC.out w1 HO1.out 1 _ rfl; have x2 : w1.cell? ⟨g, t.length * 3 + 2, none⟩ = some (.bool false) := HLC.out w1 HO1.out 2 _ rfl; have f1 : w1.frozen? ⟨g, t.length * 3 + 1, none⟩ = false := HO1.out.free _; have f2 : w1.frozen? ⟨g, t.length * 3 + 2, none⟩ = false := HO1.out.free _; clear hb1 hb1' HJ c0 c1 c2 d0 d1 d2)
                    go_quiet (fail)
                    go_wp2_with fail
                    go_roundw
                    case rel =>
                      have ho1 : Own eRn 3 44 W2.heap.size (w1.drewN nq) (.slice (some ⟨g, 0, none⟩) (t.length + 1) cap) (t.reverse ++ [(⟨llo, lhi, false⟩ : Rn)]) := own_drewN HO1.out nq
                      have hst0 := ho1.setLast eRn_len (i := 1) (v := .string rhi) (y := ⟨llo, rhi, false⟩) rfl
                      have hst1 := hst0.1.setLast eRn_len (i := 2) (v := .bool false) (y := ⟨llo, rhi, false⟩) rfl
                      rw [List.length_reverse] at hst0 hst1
                      have hst : _ ∧ w1.grownBy _ (some g) := ⟨hst1.1, hst1.2.os.trans hst0.2.os, hst1.2.tape.trans hst0.2.tape, hst1.2.output.trans hst0.2.output, Nat.le_trans hst0.2.size hst1.2.size, fun j hj hne => (hst1.2.block j (Nat.lt_of_lt_of_le hj hst0.2.size) hne).trans (hst0.2.block j hj hne)⟩
                      have ha : (accR zs (k + 1)).reverse = t.reverse ++ [⟨llo, rhi, false⟩] := by rw [HA.out]; have e := HJB.out; simp only [joinsB] at e; have u := HU.out; (try simp only at u); simp [VP.rStep, e, u]
                      refine ⟨k + 1, by omega, by go_num, ?_, ?_, ?_⟩
                      · refine Hid.mk' ?_
                        rw [ha]
                        exact hst.1
                      · exact Hid.mk' (HB1.out.trans (below_of_grown hst.2 HG1.out hg1))
                      · exact Hid.mk' (Nat.le_trans HG1.out hst.2.size)
                    case measure => simp [intOf]; omega
                · have HU := Hid.mk' True.intro
                  go_wp2_with fail
                  go_still_tail 11, (by kernel_rfl)
                  change wpList _ _ _ _ _ wr.drew
                  go_wp2_with (go_at_call 80; refine (HJ _).mono ?_; rintro e w1 ⟨rfl, hb1⟩; have hb1' : Below wr.heap.size wr w1 := ⟨hb1.os, hb1.tape, hb1.output, hb1.size, hb1.block⟩; have HB1 := Hid.mk' (HB.out.trans (hb1'.mono HG2.out)); have HG1 := Hid.mk' (Nat.le_trans HG2.out hb1'.size); have HO1 := Hid.mk' (HO.out.below hb1'); have e0 : w1.cell? ⟨b, off + k * 3, none⟩ = some (.string rlo) := HCW.out w1 HB1.out 0 _ rfl; have e1 : w1.cell? ⟨b, off + k * 3 + 1, none⟩ = some (.string rhi) := HCW.out w1 HB1.out 1 _ rfl; have e2 : w1.cell? ⟨b, off + k * 3 + 2, none⟩ = some (.bool false) := HCW.out w1 HB1.out 2 _ rfl; have x0 : w1.cell? ⟨g, t.length * 3, none⟩ = some (.string llo) := HLC.out w1 HO1.out 0 _ rfl; have x1 : w1.cell? ⟨g, t.length * 3 + 1, none⟩ = some (.string lhi) := HLC.out w1 HO1.out 1 _ rfl; have x2 : w1.cell? ⟨g, t.length * 3 + 2, none⟩ = some (.bool true) := HLC.out w1 HO1.out 2 _ rfl; have f1 : w1.frozen? ⟨g, t.length * 3 + 1, none⟩ = false := HO1.out.free _; have f2 : w1.frozen? ⟨g, t.length * 3 + 2, none⟩ = false := HO1.out.free _; clear hb1 hb1' HJ c0 c1 c2 d0 d1 d2)
                  go_quiet (fail)
                  go_wp2_with fail
                  go_roundw
                  case rel =>
                    have ha : (accR zs (k + 1)).reverse = t.reverse ++ [⟨llo, lhi, true⟩] := by rw [HA.out]; have e := HJB.out; simp only [joinsB] at e; have u := HU.out; (try simp only at u); simp [VP.rStep, e, u]
                    refine ⟨k + 1, by omega, by go_num, ?_, ?_, ?_⟩
                    · refine Hid.mk' ?_
                      rw [ha]
                      exact HO1.out
                    · exact Hid.mk' (below_drewN' HB1.out _)
                    · exact HG1
                  case measure => simp [intOf]; omega
              · have HU := Hid.mk' True.intro
                go_wp2_with fail
                go_still_tail 11, (by kernel_rfl)
                change wpList _ _ _ _ _ wr.drew
                go_wp2_with (go_at_call 80; refine (HJ _).mono ?_; rintro e w1 ⟨rfl, hb1⟩; have hb1' : Below wr.heap.size wr w1 := ⟨hb1.os, hb1.tape, hb1.output, hb1.size, hb1.block⟩; have HB1 := Hid.mk' (HB.out.trans (hb1'.mono HG2.out)); have HG1 := Hid.mk' (Nat.le_trans HG2.out hb1'.size); have HO1 := Hid.mk' (HO.out.below hb1'); have e0 : w1.cell? ⟨b, off + k * 3, none⟩ = some (.string rlo) := HCW.out w1 HB1.out 0 _ rfl; have e1 : w1.cell? ⟨b, off + k * 3 + 1, none⟩ = some (.string rhi) := HCW.out w1 HB1.out 1 _ rfl; have e2 : w1.cell? ⟨b, off + k * 3 + 2, none⟩ = some (.bool true) := HCW.out w1 HB1.out 2 _ rfl; have x0 : w1.cell? ⟨g, t.length * 3, none⟩ = some (.string llo) := HLC.out w1 HO1.out 0 _ rfl; have x1 : w1.cell? ⟨g, t.length * 3 + 1, none⟩ = some (.string lhi) := HLC.out w1 HO1.out 1 _ rfl; have x2 : w1.cell? ⟨g, t.length * 3 + 2, none⟩ = some (.bool lop) := HLC.out w1 HO1.out 2 _ rfl; have f1 : w1.frozen? ⟨g, t.length * 3 + 1, none⟩ = false := HO1.out.free _; have f2 : w1.frozen? ⟨g, t.length * 3 + 2, none⟩ = false := HO1.out.free _; clear hb1 hb1' HJ c0 c1 c2 d0 d1 d2)
                go_quiet (fail)
                go_wp2_with fail
                go_roundw
                case rel =>
                  have ho1 : Own eRn 3 44 W2.heap.size (w1.drewN nq) (.slice (some ⟨g, 0, none⟩) (t.length + 1) cap) (t.reverse ++ [(⟨llo, lhi, lop⟩ : Rn)]) := own_drewN HO1.out nq
                  have hst0 := ho1.setLast eRn_len (i := 1) (v := .string rhi) (y := ⟨llo, rhi, lop⟩) rfl
                  have hst1 := hst0.1.setLast eRn_len (i := 2) (v := .bool true) (y := ⟨llo, rhi, true⟩) rfl
                  rw [List.length_reverse] at hst0 hst1
                  have hst : _ ∧ w1.grownBy _ (some g) := ⟨hst1.1, hst1.2.os.trans hst0.2.os, hst1.2.tape.trans hst0.2.tape, hst1.2.output.trans hst0.2.output, Nat.le_trans hst0.2.size hst1.2.size, fun j hj hne => (hst1.2.block j (Nat.lt_of_lt_of_le hj hst0.2.size) hne).trans (hst0.2.block j hj hne)⟩
                  have ha : (accR zs (k + 1)).reverse = t.reverse ++ [⟨llo, rhi, true⟩] := by rw [HA.out]; have e := HJB.out; simp only [joinsB] at e; have u := HU.out; (try simp only at u); simp [VP.rStep, e, u]
                  refine ⟨k + 1, by omega, by go_num, ?_, ?_, ?_⟩
                  · refine Hid.mk' ?_
                    rw [ha]
                    exact hst.1
                  · exact Hid.mk' (HB1.out.trans (below_of_grown hst.2 HG1.out hg1))
                  · exact Hid.mk' (Nat.le_trans HG1.out hst.2.size)
                case measure => simp [intOf]; omega
        · have hltz2 : ¬ (k : Int) < (zs.length : Int) := by omega
          have hke : k = zs.length := by omega
          have HKE := Hid.mk' hke
          clear hke
          obtain ⟨W3, hW3⟩ : ∃ W, W = wr := ⟨_, rfl⟩
          subst hW3
          obtain ⟨os, hos⟩ : ∃ os, os = (accR zs k).reverse := ⟨_, rfl⟩
          rw [← hos] at HW
          have HOS := Hid.mk' hos
          clear hos
          have HF : Hid (os.map (VP.nz ByteArray.empty) = unionP xs) := by
            show _ = _
            rw [HOS.out, HKE.out, List.map_reverse]
            unfold accR
            rw [List.take_length]
            have e := VP.rMerge_eq VP.TO.bytes ByteArray.empty zs []
            rw [e]
            exact VP.uMerge_perm _ _ (HPS.out.trans (sortLo_perm _).symm) (fun r hr => by
              have := (List.mem_filter.1 (HPS.out.mem_iff.1 hr)).2
              show empB r = false
              simpa using this) HS.out (sortLo_sorted _)
          obtain ⟨A6, c6, rfl, hc6⟩ := HW.out.shape
          have hol := own_len HW.out
          go_wp2_with fail
          go_loopw [9] (fun s9 wi => ∃ q : Nat, q ≤ os.length ∧ s9 = .int .i64 q ∧ Hid (Own eRn 3 44 W2.heap.size wi (.slice A6 os.length c6) ((os.take q).map (VP.nz ByteArray.empty) ++ os.drop q)) ∧ Hid (Below W2.heap.size W2 wi) ∧ Hid (W2.heap.size ≤ wi.heap.size)) (fun s9 _ => os.length - (intOf s9).toNat)
          case atStart => exact ⟨0, Nat.zero_le _, rfl, Hid.mk' (by simpa using HW.out), HB, HG2⟩
          case round =>
            obtain ⟨q, hq, rfl, HQ, HBQ, HGQ⟩ := hrel
            by_cases hlt4 : q < os.length
            · have hltz4 : (q : Int) < (os.length : Int) := by omega
              obtain ⟨r, hr⟩ : ∃ r, os[q]? = some r := ⟨_, List.getElem?_eq_getElem hlt4⟩
              have er : os[q] = r := (List.getElem?_eq_some_iff.1 hr).2
              obtain ⟨g, cap, hA, hg1, hg2⟩ := own_some HQ.out (by intro e; have := congrArg List.length e; simp at this; omega)
              simp only [Value.slice.injEq] at hA
              obtain ⟨rfl, -, rfl⟩ := hA
              have hdr : os.drop q = r :: os.drop (q + 1) := by rw [List.drop_eq_getElem_cons hlt4, er]
              have hx : ((os.take q).map (VP.nz ByteArray.empty) ++ os.drop q)[q]? = some r := by
                rw [List.getElem?_append_right (by simp [Nat.min_le_left]), hdr]
                simp [Nat.min_eq_left (Nat.le_of_lt hlt4)]
              have c1 : wr.cell? ⟨g, q * 3 + 1, none⟩ = some (.string r.hi) := HQ.out.cell eRn_len hx rfl
              have c2 : wr.cell? ⟨g, q * 3 + 2, none⟩ = some (.bool r.op) := HQ.out.cell eRn_len hx rfl
              have f1 : wr.frozen? ⟨g, q * 3 + 1, none⟩ = false := HQ.out.free _
              have htk : (os.take (q + 1)).map (VP.nz ByteArray.empty) ++ os.drop (q + 1) = (os.take q).map (VP.nz ByteArray.empty) ++ VP.nz ByteArray.empty r :: os.drop (q + 1) := by
                rw [List.take_succ_eq_append_getElem hlt4, er]; simp
              have HTK := Hid.mk' htk
              have HDR := Hid.mk' hdr
              have HGG := Hid.mk' hg1
              clear htk hdr hx er hr hg2 hg1
              obtain ⟨rlo, rhi, rop⟩ := r
              simp only at c1 c2
              cases rop
              · go_wp2_with fail
                go_roundw
                case rel =>
                  refine ⟨q + 1, by omega, by go_num, ?_, HBQ, HGQ⟩
                  refine Hid.mk' ?_
                  have := HQ.out
                  rw [HDR.out] at this
                  rw [HTK.out]
                  exact this
                case measure => simp [intOf]; omega
              · go_wp2_with fail
                go_roundw
                case rel =>
                  have hst := own_stores (p := q * 3 + 1) HQ.out.row' [.string ⟨#[]⟩]
                  refine ⟨q + 1, by omega, by go_num, ?_, Hid.mk' (HBQ.out.trans (below_of_grown hst.2 HGQ.out HGG.out)), Nat.le_trans HGQ.out hst.2.size⟩
                  refine Hid.mk' ?_
                  have hl : ((os.take (q + 1)).map (VP.nz ByteArray.empty) ++ os.drop (q + 1)).length = os.length := by simp; omega
                  unfold Own
                  rw [hl, HTK.out]
                  have e1 : setL [.string ⟨#[]⟩] (q * 3 + 1) (((os.take q).map (VP.nz ByteArray.empty) ++ os.drop q).flatMap eRn) = ((os.take q).map (VP.nz ByteArray.empty) ++ VP.nz ByteArray.empty ⟨rlo, rhi, true⟩ :: os.drop (q + 1)).flatMap eRn := by
                    rw [HDR.out]
                    simp only [setL, List.flatMap_append, List.flatMap_cons]
                    have hl2 : (((os.take q).map (VP.nz ByteArray.empty)).flatMap eRn).length = q * 3 := by rw [flatMap_len eRn_len]; simp; omega
                    rw [List.set_append_right _ _ (by rw [hl2]; omega), hl2, Nat.add_sub_cancel_left]
                    rfl
                  rw [← e1]
                  exact hst.1
                case measure => simp [intOf]; omega
            · have hltz4 : ¬ (q : Int) < (os.length : Int) := by omega
              have HQE : Hid (q = os.length) := by show _ = _; omega
              go_wp2_with fail
              go_ret
              refine ⟨_, rfl, ?_, HBW.out.trans (HBQ.out.mono HG.out)⟩
              rw [← HF.out]
              have := HQ.out
              rw [HQE.out, List.take_length, List.drop_length, List.append_nil] at this
              exact this.lower HG.out
end Go.Proofs.YtpbmcaidkjlokaaGreat
