/- Clash: the first point that one wrote and another one read. -/
import Derived.Test.YtpbmcaidkjlokaaGreatLs
import Derived.Test.YtpbmcaidkjlokaaGreatOn
namespace Go.Proofs.YtpbmcaidkjlokaaGreat
open Go.RowKit Go.Maps Go.Sort

theorem readsF_parts (f : Foot) (p : Pt) : readsF f p = (decide (p ∈ f.1) || readsF ([], f.2.1, []) p) := by simp [readsF, VP.readsB]
theorem ptsMap_below {w w' : World} {b n : Nat} {D : DataW Value} (h : w.ownsMap Tryz.prog 37 unitElem b n D) (hb : Below w.heap.size w w') : w'.ownsMap Tryz.prog 37 unitElem b n D :=
  h.kept (row := none) ⟨hb.os, hb.tape, hb.output, hb.size, fun i hi _ => hb.block i hi⟩ (by simp)
set_option maxHeartbeats 2000000 in
set_option maxRecDepth 100000 in
theorem clash1_calls (f : Foot) (A2 : Option Addr) (c2 : Nat) (x : Pt) (M B9 mb n : Nat) (D : DataW Value) (w : World) (hx : wfPt x) (hm : w.heap[M]? = some (.cells #[.map (some mb)] 59 (0, 0))) (hown : w.ownsMap Tryz.prog 37 unitElem mb n D)
    (hD : has D (litOf Tryz.prog 37 vPt x) = true ↔ x ∈ f.1) (h9 : w.heap[B9]? = some (.cells #[.slice none 0 0, .slice A2 f.2.1.length c2, .slice none 0 0] 25 (0, 0))) (h2 : RowIn eSp 5 w A2 f.2.1) :
    Calls Tryz.prog 38 #[.agg #[.int .i64 x.t, .int .i64 x.i, .string x.key], .pointer (some ⟨M, 0, none⟩), .pointer (some ⟨B9, 0, none⟩)] w fun e w' => e = .returned (.bool (readsF f x)) ∧ Below w.heap.size w w' := by
  have HR := fun W (hb : Below w.heap.size w W) => reads_calls none A2 none 0 c2 0 ([], f.2.1, []) x W (RowIn.nil _) (h2.below hb (Nat.le_refl _))
  have hlt9 : B9 < w.heap.size := (Array.getElem?_eq_some_iff.1 h9).1
  have hltM : M < w.heap.size := (Array.getElem?_eq_some_iff.1 hm).1
  have km : w.cell? ⟨M, 0, none⟩ = some (.map (some mb)) := cell_at hm rfl
  have k0 : w.cell? ⟨B9, 0, none⟩ = some (.slice none 0 0) := cell_at h9 rfl
  have k1 : w.cell? ⟨B9, 1, none⟩ = some (.slice A2 f.2.1.length c2) := cell_at h9 rfl
  have k2 : w.cell? ⟨B9, 2, none⟩ = some (.slice none 0 0) := cell_at h9 rfl
  have z60 : ∀ u, (zeroValue 60).run Tryz.prog u = .ok (.agg #[]) u := fun u => Tryz.zeroValue60 u
  have hkey : keyOf Tryz.prog 37 (.agg #[.int .i64 x.t, .int .i64 x.i, .string x.key]) = some (litOf Tryz.prog 37 vPt x) := kPt.lit hx
  have HOB := fun o => ptsMap_below (w' := w.alloc o) hown ((Below.refl _ w).alloc (Nat.le_refl _) _)
  rw [readsF_parts]
  have hdd : decide (x ∈ f.1) = has D (litOf Tryz.prog 37 vPt x) := by
    rw [Bool.eq_iff_iff, hD]; simp
  rw [hdd]
  clear hD h2 hm h9 hx hown hdd
  generalize litOf Tryz.prog 37 vPt x = kl at hkey ⊢
  generalize hh : has D kl = hb
  have HB0 : Hid (∀ o1 o2, Below w.heap.size w ((w.alloc o1).alloc o2)) := fun o1 o2 => ((Below.refl _ w).alloc (Nat.le_refl _) _).alloc (by simp) _
  cases hb
  · unfold FootV at HR
    go_enter Tryz.func38, Tryz.ntmps38
    go_wp2_with (at_lookup; refine wpList_lookup_own_unit _ rfl _ _ 59 rfl 37 60 keyedPt Tryz.underlying59 (z60 _) mb n D rfl (HOB _) _ kl rfl hkey ?_)
    refine (HR _ (HB0.out _ _)).mono ?_
    rintro e w1 ⟨rfl, hb1⟩
    go_wp2_with fail
    go_ret
    exact ⟨ret_bool (by simp), (HB0.out _ _).trans (hb1.mono (by simp; omega))⟩
  · go_enter Tryz.func38, Tryz.ntmps38
    go_wp2_with (at_lookup; refine wpList_lookup_own_unit _ rfl _ _ 59 rfl 37 60 keyedPt Tryz.underlying59 (z60 _) mb n D rfl (HOB _) _ kl rfl hkey ?_)
    go_ret
    exact ⟨by simp, HB0.out _ _⟩

/-- What stands while the points are put into a map. -/
structure ClS (w wr : World) (fa fb : Array Value) (n : Nat) (D : DataW Value) : Prop where
  below : Below w.heap.size w wr
  size : w.heap.size + 4 < wr.heap.size
  a : wr.heap[w.heap.size]? = some (.cells fa 25 (0, 0))
  b : wr.heap[w.heap.size + 1]? = some (.cells fb 25 (0, 0))
  z : wr.heap[w.heap.size + 2]? = some (.cells #[.int .i64 0, .int .i64 0, .string ⟨#[]⟩] 37 (0, 0))
  m : wr.heap[w.heap.size + 4]? = some (.cells #[.map (some (w.heap.size + 3))] 59 (0, 0))
  own : wr.ownsMap Tryz.prog 37 unitElem (w.heap.size + 3) n D
theorem ClS.start (w : World) (fa fb : Array Value) : ClS w (((((w.alloc (.cells fa 25)).alloc (.cells fb 25)).alloc (.cells #[.int .i64 0, .int .i64 0, .string ⟨#[]⟩] 37)).alloc (.map #[] 0)).alloc (.cells #[.map (some (w.heap.size + 3))] 59)) fa fb 0 (.map []) where
  below := (((((Below.refl _ w).alloc (Nat.le_refl _) _).alloc (by simp) _).alloc (by simp <;> omega) _).alloc (by simp <;> omega) _).alloc (by simp <;> omega) _
  size := by simp
  a := by rw [Below.heap_alloc _ _ _ (by simp <;> omega), Below.heap_alloc _ _ _ (by simp <;> omega), Below.heap_alloc _ _ _ (by simp <;> omega), Below.heap_alloc _ _ _ (by simp)]; exact World.alloc_heap_new _ _
  b := by
    rw [Below.heap_alloc _ _ _ (by simp <;> omega), Below.heap_alloc _ _ _ (by simp <;> omega), Below.heap_alloc _ _ _ (by simp)]
    have := World.alloc_heap_new (w.alloc (.cells fa 25)) (.cells fb 25)
    rwa [World.size_alloc] at this
  z := by
    rw [Below.heap_alloc _ _ _ (by simp <;> omega), Below.heap_alloc _ _ _ (by simp)]
    have := World.alloc_heap_new ((w.alloc (.cells fa 25)).alloc (.cells fb 25)) (.cells #[.int .i64 0, .int .i64 0, .string ⟨#[]⟩] 37)
    rwa [World.size_alloc, World.size_alloc] at this
  m := by
    have := World.alloc_heap_new ((((w.alloc (.cells fa 25)).alloc (.cells fb 25)).alloc (.cells #[.int .i64 0, .int .i64 0, .string ⟨#[]⟩] 37)).alloc (.map #[] 0)) (.cells #[.map (some (w.heap.size + 3))] 59)
    rwa [World.size_alloc, World.size_alloc, World.size_alloc, World.size_alloc] at this
  own := by
    have := World.ownsMap_made (P := Tryz.prog) (k := 37) (R := (unitElem : Value → Option (DataW Value × List MemPlace))) (((w.alloc (.cells fa 25)).alloc (.cells fb 25)).alloc (.cells #[.int .i64 0, .int .i64 0, .string ⟨#[]⟩] 37))
    have := this.alloc (.cells #[.map (some (w.heap.size + 3))] 59)
    rwa [World.size_alloc, World.size_alloc, World.size_alloc] at this
theorem ClS.later {w wr w' : World} {fa fb : Array Value} {n : Nat} {D : DataW Value} (h : ClS w wr fa fb n D) (hb : Below wr.heap.size wr w') : ClS w w' fa fb n D :=
  ⟨h.below.trans (hb.mono h.below.size), Nat.lt_of_lt_of_le h.size hb.size, (hb.block _ (by have := h.size; omega)).trans h.a, (hb.block _ (by have := h.size; omega)).trans h.b, (hb.block _ (by have := h.size; omega)).trans h.z, (hb.block _ (by have := h.size; omega)).trans h.m, ptsMap_below h.own hb⟩
theorem ClS.put {w wr w' : World} {fa fb : Array Value} {n n' : Nat} {D D' : DataW Value} (h : ClS w wr fa fb n D) (hg : wr.grownBy w' (some (w.heap.size + 3))) (ho : w'.ownsMap Tryz.prog 37 unitElem (w.heap.size + 3) n' D') : ClS w w' fa fb n' D' :=
  ⟨h.below.grown hg (by have := h.size; omega) (fun k e => by cases e; omega), Nat.lt_of_lt_of_le h.size hg.size, (hg.block _ (by have := h.size; omega) (by simp)).trans h.a, (hg.block _ (by have := h.size; omega) (by simp)).trans h.b, (hg.block _ (by have := h.size; omega) (by simp)).trans h.z, (hg.block _ (by have := h.size; omega) (by simp)).trans h.m, ho⟩
set_option maxHeartbeats 4000000 in
set_option maxRecDepth 100000 in
theorem clash_calls (A1 A2 A3 B1 B2 B3 : Option Addr) (c1 c2 c3 d1 d2 d3 : Nat) (f g : Foot) (w : World) (h1 : RowIn ePt 3 w A1 f.1) (h2 : RowIn eSp 5 w A2 f.2.1) (h3 : RowIn ePt 3 w B3 g.2.2) (hwf : ∀ p ∈ f.1, wfPt p) (hwg : ∀ p ∈ g.2.2, wfPt p) (hlen : f.1.length < maxLen) :
    Calls Tryz.prog 17 #[FootV A1 A2 A3 c1 c2 c3 f, FootV B1 B2 B3 d1 d2 d3 g] w fun e w' => e = .returned (.tuple #[.agg #[.int .i64 (leastF (readsF f) g.2.2).1.t, .int .i64 (leastF (readsF f) g.2.2).1.i, .string (leastF (readsF f) g.2.2).1.key], .bool (leastF (readsF f) g.2.2).2]) ∧ Below w.heap.size w w' := by
  have hmm := @run_makeMap Tryz.prog
  have H1 := Hid.mk' h1
  have H2 := Hid.mk' h2
  have H3 := Hid.mk' h3
  have hl := h1.len
  have HWF := Hid.mk' hwf
  have HWG := Hid.mk' hwg
  have HLN := Hid.mk' hlen
  clear h1 h2 h3 hwf hwg hlen
  unfold FootV
  have HST := Hid.mk' (ClS.start w #[.slice A1 f.1.length c1, .slice A2 f.2.1.length c2, .slice A3 f.2.2.length c3] #[.slice B1 g.1.length d1, .slice B2 g.2.1.length d2, .slice B3 g.2.2.length d3])
  go_enter Tryz.func17, Tryz.ntmps17
  go_wp2_with fail
  go_loopw [14] (fun s14 wr => ∃ (k : Nat) (D : DataW Value), k ≤ f.1.length ∧ s14 = .int .i64 k ∧ Hid (ClS w wr #[.slice A1 f.1.length c1, .slice A2 f.2.1.length c2, .slice A3 f.2.2.length c3] #[.slice B1 g.1.length d1, .slice B2 g.2.1.length d2, .slice B3 g.2.2.length d3] k D) ∧ Hid (∀ x, wfPt x → (has D (litOf Tryz.prog 37 vPt x) = true ↔ x ∈ f.1.take k))) (fun s14 _ => f.1.length - (intOf s14).toNat)
  case atStart => exact ⟨0, .map [], Nat.zero_le _, rfl, HST, Hid.mk' (fun x _ => by simp [has_nil])⟩
  case round =>
    obtain ⟨k, D, hk, rfl, HB, HD⟩ := hrel
    have hz := HB.out.size
    by_cases hlt : k < f.1.length
    · have hltz : (k : Int) < (f.1.length : Int) := by omega
      obtain ⟨x, hx⟩ : ∃ x, f.1[k]? = some x := ⟨_, List.getElem?_eq_getElem hlt⟩
      obtain ⟨b, off, rfl, hbl, hcell⟩ := H1.out.at_ hlt
      have es : f.1[k] = x := (List.getElem?_eq_some_iff.1 hx).2
      rw [es] at hcell
      have hcw : ∀ q v, (ePt x)[q]? = some v → wr.cell? ⟨b, off + k * 3 + q, none⟩ = some v := fun q v hv => (HB.out.below.cell (p := ⟨b, _, none⟩) hbl).trans (hcell q v hv)
      have e0 : wr.cell? ⟨b, off + k * 3, none⟩ = some (.int .i64 x.t) := hcw 0 _ rfl
      have e1 : wr.cell? ⟨b, off + k * 3 + 1, none⟩ = some (.int .i64 x.i) := hcw 1 _ rfl
      have e2 : wr.cell? ⟨b, off + k * 3 + 2, none⟩ = some (.string x.key) := hcw 2 _ rfl
      have km : wr.cell? ⟨w.heap.size + 4, 0, none⟩ = some (.map (some (w.heap.size + 3))) := cell_at HB.out.m rfl
      have HWX : Hid (wfPt x) := HWF.out x (by rw [← es]; exact List.getElem_mem hlt)
      have HTK : Hid (f.1.take (k + 1) = f.1.take k ++ [x]) := by show _ = _; rw [List.take_succ_eq_append_getElem hlt, es]
      have hown := HB.out.own
      clear hcell hcw hx es
      go_wp2_with (at_mapUpdate; go_loud (refine wpList_mapUpdate_own _ rfl _ _ _ 59 rfl 37 _ keyedPt Tryz.underlying59 unitElem (w.heap.size + 3) k _ rfl (hown.alloc _) (by have := HLN.out; omega) _ _ _ rfl rfl (kPt.lit HWX.out) _ [] unitElem_mk ?_); intro w1 hown1 hgrow1)
      have HO1 := Hid.mk' hown1
      have HG1 := Hid.mk' hgrow1
      clear hown hown1 hgrow1
      go_wp2_with fail
      go_roundw
      case rel =>
        refine ⟨k + 1, _, by omega, by go_num, Hid.mk' ((HB.out.later ((Below.refl _ _).alloc (Nat.le_refl _) _)).put HG1.out HO1.out), ?_⟩
        refine Hid.mk' (fun y hy => ?_)
        rw [kPt.has_put HWX.out (owns_isMap HB.out.own).1 _ hy, HD.out y hy, HTK.out]
        simp [or_comm]
      case measure => simp [intOf]; omega
    · have hltz : ¬ (k : Int) < (f.1.length : Int) := by omega
      have HDF : Hid (∀ x, wfPt x → (has D (litOf Tryz.prog 37 vPt x) = true ↔ x ∈ f.1)) := by
        have := HD.out
        rw [List.take_of_length_le (by omega)] at this
        exact this
      have a1 : wr.cell? ⟨w.heap.size, 1, none⟩ = some (.slice A2 f.2.1.length c2) := cell_at HB.out.a rfl
      have b2 : wr.cell? ⟨w.heap.size + 1, 2, none⟩ = some (.slice B3 g.2.2.length d3) := cell_at HB.out.b rfl
      clear HD
      have hw9 : (wr.alloc (.cells #[.slice none 0 0, .slice A2 f.2.1.length c2, .slice none 0 0] 25)).heap[wr.heap.size]? = some (.cells #[.slice none 0 0, .slice A2 f.2.1.length c2, .slice none 0 0] 25 (0, 0)) := World.alloc_heap_new _ _
      have HBN := Hid.mk' (HB.out.later (w' := wr.alloc (.cells #[.slice none 0 0, .slice A2 f.2.1.length c2, .slice none 0 0] 25)) ((Below.refl _ _).alloc (Nat.le_refl _) _))
      have eg := enters_of Tryz.func38 (by kernel_rfl) rfl
      have HL := least_calls (readsF f) 38 #[.pointer (some ⟨w.heap.size + 4, 0, none⟩), .pointer (some ⟨wr.heap.size, 0, none⟩)] eg B3 d3 g.2.2 (wr.alloc (.cells #[.slice none 0 0, .slice A2 f.2.1.length c2, .slice none 0 0] 25)) (H3.out.below HBN.out.below (Nat.le_refl _))
        (fun W x hx hW => clash1_calls f A2 c2 x (w.heap.size + 4) wr.heap.size (w.heap.size + 3) k D W (HWG.out x hx) (HBN.out.later hW).m (HBN.out.later hW).own (HDF.out x (HWG.out x hx)) ((hW.block _ (by simp)).trans hw9) (H2.out.below (HBN.out.later hW).below (Nat.le_refl _)))
      clear eg hw9 b2
      obtain ⟨qt, qi, qk, qb, HLF⟩ : ∃ qt qi qk qb, Hid (leastF (readsF f) g.2.2 = (⟨qt, qi, qk⟩, qb)) := ⟨_, _, _, _, Hid.mk' rfl⟩
      rw [HLF.out] at HL
      have b2 : (wr.alloc (.cells #[.slice none 0 0, .slice A2 f.2.1.length c2, .slice none 0 0] 25)).cell? ⟨w.heap.size + 1, 2, none⟩ = some (.slice B3 g.2.2.length d3) := cell_at HBN.out.b rfl
      go_wp2_with fail
      refine HL.mono ?_
      rintro e w1 ⟨rfl, hb1⟩
      clear HL
      have HB1 := HBN.out.later hb1
      have u0 : w1.cell? ⟨w.heap.size + 2, 0, none⟩ = some (.int .i64 0) := cell_at HB1.z rfl
      have u1 : w1.cell? ⟨w.heap.size + 2, 1, none⟩ = some (.int .i64 0) := cell_at HB1.z rfl
      have u2 : w1.cell? ⟨w.heap.size + 2, 2, none⟩ = some (.string ⟨#[]⟩) := cell_at HB1.z rfl
      have y0 : w1.frozen? ⟨w.heap.size + 2, 0, none⟩ = false := free_at _ HB1.z
      have y1 : w1.frozen? ⟨w.heap.size + 2, 1, none⟩ = false := free_at _ HB1.z
      have y2 : w1.frozen? ⟨w.heap.size + 2, 2, none⟩ = false := free_at _ HB1.z
      have hst := set3 w1 (w.heap.size + 2) (.int .i64 qt) (.int .i64 qi) (.string qk) _ _ _ _ HB1.z
      have HS3 := Hid.mk' hst
      have HBX := Hid.mk' HB1
      clear hst HB1 hb1
      go_wp2_with fail
      (try simp only [Exit.inBlock, Exit.then])
      refine bodyPost_ret (results_cell_row_tmp rfl _ _ (w.heap.size + 2) 37 _ (0, 0) _ rfl HS3.out.1 Tryz.underlying37 rfl (by kernel_rfl) (v := .bool qb) rfl) rfl ?_
      exact ⟨by rw [HLF.out], HBX.out.below.grown HS3.out.2 (by have := HBX.out.size; omega) (fun k e => by cases e; omega)⟩
end Go.Proofs.YtpbmcaidkjlokaaGreat
