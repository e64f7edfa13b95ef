/- Copy and Norm, code and reference. -/
import Derived.Test.YtpbmcaidkjlokaaGreatRm
import Derived.Test.YtpbmcaidkjlokaaGreatBo
namespace Go.Proofs.YtpbmcaidkjlokaaGreat
open Go.RowKit

/-- A call's box of a foot and its result's. -/
structure Bx2 (w wr : World) (fa : Array Value) : Prop where
  below : Below w.heap.size w wr
  size : w.heap.size + 1 < wr.heap.size
  a : wr.heap[w.heap.size]? = some (.cells fa 25 (0, 0))
  t : wr.heap[w.heap.size + 1]? = some (.cells #[.slice none 0 0, .slice none 0 0, .slice none 0 0] 25 (0, 0))
theorem Bx2.start (w : World) (fa : Array Value) : Bx2 w ((w.alloc (.cells fa 25)).alloc (.cells #[.slice none 0 0, .slice none 0 0, .slice none 0 0] 25)) fa where
  below := ((Below.refl _ w).alloc (Nat.le_refl _) _).alloc (by simp) _
  size := by simp
  a := by rw [Below.heap_alloc _ _ _ (by simp)]; exact World.alloc_heap_new _ _
  t := by
    have := World.alloc_heap_new (w.alloc (.cells fa 25)) (.cells #[.slice none 0 0, .slice none 0 0, .slice none 0 0] 25)
    rwa [World.size_alloc] at this
theorem Bx2.later {w wr w' : World} {fa : Array Value} (h : Bx2 w wr fa) (hb : Below wr.heap.size wr w') : Bx2 w w' fa :=
  ⟨h.below.trans (hb.mono h.below.size), Nat.lt_of_lt_of_le h.size hb.size, (hb.block _ (by have := h.size; omega)).trans h.a, (hb.block _ (by have := h.size; omega)).trans h.t⟩
theorem both_nil (f : Foot) : VP.both f ([], [], []) = f := by
  obtain ⟨a, b, c⟩ := f
  simp [VP.both]
theorem FootOwn.kept {base : Nat} {w w' : World} {v : Value} {f : Foot} (h : FootOwn base w v f) {r : Nat} (hg : w.grownBy w' (some r)) (hr : r < base) : FootOwn base w' v f := by
  obtain ⟨p, s, q, rfl, h1, h2, h3⟩ := h.shape
  exact ⟨p, s, q, rfl, h1.kept hg (own_ne_lit h1 hr), h2.kept hg (own_ne_lit h2 hr), h3.kept hg (own_ne_lit h3 hr)⟩
theorem FootOwn.lower {base base' : Nat} {w : World} {v : Value} {f : Foot} (h : FootOwn base w v f) (hb : base' ≤ base) : FootOwn base' w v f := by
  obtain ⟨p, s, q, rfl, h1, h2, h3⟩ := h.shape
  exact ⟨p, s, q, rfl, h1.lower hb, h2.lower hb, h3.lower hb⟩
theorem FootOwn.below {base : Nat} {w w' : World} {v : Value} {f : Foot} (h : FootOwn base w v f) (hb : Below w.heap.size w w') : FootOwn base w' v f := by
  obtain ⟨p, s, q, rfl, h1, h2, h3⟩ := h.shape
  exact ⟨p, s, q, rfl, h1.below hb, h2.below hb, h3.below hb⟩
theorem FootOwn.parts {base : Nat} {w : World} {v : Value} {g : Foot} (h : FootOwn base w v g) : ∃ B1 B2 B3 n1 n2 n3 d1 d2 d3, v = .agg #[.slice B1 n1 d1, .slice B2 n2 d2, .slice B3 n3 d3] := by
  obtain ⟨p, s, q, rfl, h1, h2, h3⟩ := h.shape
  obtain ⟨A1, c1, rfl, l1⟩ := h1.shape
  obtain ⟨A2, c2, rfl, l2⟩ := h2.shape
  obtain ⟨A3, c3, rfl, l3⟩ := h3.shape
  exact ⟨_, _, _, _, _, _, _, _, _, rfl⟩
theorem FootAt.parts {w : World} {v : Value} {g : Foot} (h : FootAt w v g) : ∃ B1 B2 B3 n1 n2 n3 d1 d2 d3, v = .agg #[.slice B1 n1 d1, .slice B2 n2 d2, .slice B3 n3 d3] := by
  obtain ⟨B1, B2, B3, d1, d2, d3, rfl, _⟩ := h
  exact ⟨_, _, _, _, _, _, _, _, _, rfl⟩
theorem FootOwn.nil (base : Nat) (w : World) : FootOwn base w (.agg #[.slice none 0 0, .slice none 0 0, .slice none 0 0]) ([], [], []) := ⟨_, _, _, rfl, Own.nil _ _ _, Own.nil _ _ _, Own.nil _ _ _⟩
theorem RowIn.keep {α : Type} {enc : α → List Value} {k : Nat} {w w' : World} {A : Option Addr} {xs : List α} {r : Nat} (h : RowIn enc k w A xs) (hg : w.grownBy w' (some r)) (hb : xs = [] ∨ ∀ a, A = some a → a.block ≠ r) : RowIn enc k w' A xs := by
  rcases hb with e | hb
  · subst e; exact RowIn.nil _
  · exact h.via hg.size (fun a ea ha => hg.block a.block ha (by have := hb a ea; simpa using this))

/-- As long as the machine bears: copies. -/
structure Fit (f : Foot) : Prop where
  a : f.1.length * 32 ≤ 140737488355328
  b : f.2.1.length * 56 ≤ 140737488355328
  c : f.2.2.length * 32 ≤ 140737488355328
theorem Fit.size {f : Foot} (h : Fit f) : sizeF f ≤ 9223372036854775807 := by
  have := h.a; have := h.b; have := h.c
  unfold sizeF; omega
set_option maxHeartbeats 2000000 in
set_option maxRecDepth 100000 in
theorem copy_calls (A1 A2 A3 : Option Addr) (c1 c2 c3 : Nat) (f : Foot) (w : World) (h : FootIn w A1 A2 A3 f) (hf : Fit f) :
    Calls Tryz.prog 8 #[FootV A1 A2 A3 c1 c2 c3 f] w fun e w' => ∃ v, e = .returned v ∧ FootOwn w.heap.size w' v f ∧ Below w.heap.size w w' := by
  have HB0 := Hid.mk' (Bx2.start w #[.slice A1 f.1.length c1, .slice A2 f.2.1.length c2, .slice A3 f.2.2.length c3])
  have HC := both_calls A1 A2 A3 none none none c1 c2 c3 0 0 0 f ([], [], []) ((w.alloc (.cells #[.slice A1 f.1.length c1, .slice A2 f.2.1.length c2, .slice A3 f.2.2.length c3] 25)).alloc (.cells #[.slice none 0 0, .slice none 0 0, .slice none 0 0] 25)) (h.below HB0.out.below (Nat.le_refl _)) ⟨RowIn.nil _, RowIn.nil _, RowIn.nil _⟩ (by have := hf.a; simpa using this) (by have := hf.b; simpa using this) (by have := hf.c; simpa using this)
  rw [both_nil] at HC
  clear h hf
  unfold FootV at HC ⊢
  go_enter Tryz.func8, Tryz.ntmps8
  go_wp2_with fail
  refine HC.mono ?_
  rintro e w1 ⟨v, rfl, hv, hb1⟩
  have HB1 := HB0.out.later hb1
  have HV := Hid.mk' hv
  obtain ⟨B1, B2, B3, n1, n2, n3, d1, d2, d3, rfl⟩ := hv.parts
  have t0 : w1.cell? ⟨w.heap.size + 1, 0, none⟩ = some (.slice none 0 0) := cell_at HB1.t rfl
  have t1 : w1.cell? ⟨w.heap.size + 1, 1, none⟩ = some (.slice none 0 0) := cell_at HB1.t rfl
  have t2 : w1.cell? ⟨w.heap.size + 1, 2, none⟩ = some (.slice none 0 0) := cell_at HB1.t rfl
  have u0 : w1.frozen? ⟨w.heap.size + 1, 0, none⟩ = false := free_at _ HB1.t
  have u1 : w1.frozen? ⟨w.heap.size + 1, 1, none⟩ = false := free_at _ HB1.t
  have u2 : w1.frozen? ⟨w.heap.size + 1, 2, none⟩ = false := free_at _ HB1.t
  have hst := set3 w1 (w.heap.size + 1) (.slice B1 n1 d1) (.slice B2 n2 d2) (.slice B3 n3 d3) _ _ _ _ HB1.t
  have HS := Hid.mk' hst
  have HBX := Hid.mk' HB1
  clear hst HB1 hv hb1 HC
  go_wp2_with fail
  (try simp only [Exit.inBlock, Exit.then])
  refine bodyPost_ret (results_cell_row rfl _ _ (w.heap.size + 1) 25 _ (0, 0) _ rfl HS.out.1 Tryz.underlying25 rfl (by kernel_rfl)) rfl ?_
  exact ⟨_, rfl, (HV.out.kept HS.out.2 (by simp)).lower (by simp; omega), HBX.out.below.grown HS.out.2 (by have := HBX.out.size; omega) (fun k e => by cases e; omega)⟩

def normR (f : Foot) : Foot := if checkF f = 0 then normF f else ([], [], [])
structure Wfs (f : Foot) : Prop where
  pts : ∀ p ∈ f.1, wfPt p
  sps : ∀ s ∈ f.2.1, wfSp s
  wrs : ∀ p ∈ f.2.2, wfPt p
theorem checkF_len {f : Foot} (h : checkF f = 0) : sizeF f ≤ 65536 := by
  unfold checkF at h
  split at h
  · cases h
  · omega
theorem checkF_cases (f : Foot) : checkF f = 0 ∨ checkF f = 1 ∨ checkF f = 2 := by
  unfold checkF badF
  split
  · simp
  · split <;> simp
set_option maxHeartbeats 2000000 in
set_option maxRecDepth 100000 in
theorem Norm_calls (A1 A2 A3 : Option Addr) (c1 c2 c3 : Nat) (f : Foot) (w : World) (h : FootIn w A1 A2 A3 f) (hf : sizeF f ≤ 9223372036854775807) (hw : Wfs f) :
    Calls Tryz.prog 7 #[FootV A1 A2 A3 c1 c2 c3 f] w fun e w' => ∃ v, e = .returned (.tuple #[v, .int .i64 (checkF f)]) ∧ FootOwn w.heap.size w' v (normR f) ∧ Below w.heap.size w w' := by
  have HB0 := Hid.mk' (Bx2.start w #[.slice A1 f.1.length c1, .slice A2 f.2.1.length c2, .slice A3 f.2.2.length c3])
  have HF := Hid.mk' h
  have HC := check_calls A1 A2 A3 c1 c2 c3 f ((w.alloc (.cells #[.slice A1 f.1.length c1, .slice A2 f.2.1.length c2, .slice A3 f.2.2.length c3] 25)).alloc (.cells #[.slice none 0 0, .slice none 0 0, .slice none 0 0] 25)) (h.below HB0.out.below (Nat.le_refl _)) hf
  have HN := fun (W : World) (hb : Below w.heap.size w W) (h0 : checkF f = 0) => norm_calls A1 A2 A3 c1 c2 c3 f W (h.below hb (Nat.le_refl _)) ⟨hw.pts, hw.sps, hw.wrs, checkF_len h0⟩
  have HR0 : Hid (checkF f = 0 → normR f = normF f) := fun h => by unfold normR; rw [if_pos h]
  have HR1 : Hid (checkF f ≠ 0 → normR f = ([], [], [])) := fun h => by unfold normR; rw [if_neg h]
  clear h hf
  generalize checkF f = cf at HC HN HR0 HR1 ⊢
  unfold FootV at HC HN ⊢
  by_cases h0 : cf = 0
  · have HN' := fun W hb => HN W hb h0
    have HRR : Hid (normR f = normF f) := HR0.out h0
    clear HN HR0 HR1
    subst h0
    go_enter Tryz.func7, Tryz.ntmps7
    go_wp2_with fail
    refine HC.mono ?_
    rintro e w1 ⟨rfl, hb1⟩
    have HB1 := HB0.out.later hb1
    have k0 : w1.cell? ⟨w.heap.size, 0, none⟩ = some (.slice A1 f.1.length c1) := cell_at HB1.a rfl
    have k1 : w1.cell? ⟨w.heap.size, 1, none⟩ = some (.slice A2 f.2.1.length c2) := cell_at HB1.a rfl
    have k2 : w1.cell? ⟨w.heap.size, 2, none⟩ = some (.slice A3 f.2.2.length c3) := cell_at HB1.a rfl
    have HNW := HN' w1 HB1.below
    have HBX := Hid.mk' HB1
    clear hb1 HC HB1 HN'
    go_wp2_with fail
    refine HNW.mono ?_
    rintro e w2 ⟨v, rfl, hv, hb2⟩
    have HB2 := HBX.out.later hb2
    obtain ⟨B1, B2, B3, n1, n2, n3, d1, d2, d3, rfl⟩ := hv.parts
    have HV := Hid.mk' hv
    have t0 : w2.cell? ⟨w.heap.size + 1, 0, none⟩ = some (.slice none 0 0) := cell_at HB2.t rfl
    have t1 : w2.cell? ⟨w.heap.size + 1, 1, none⟩ = some (.slice none 0 0) := cell_at HB2.t rfl
    have t2 : w2.cell? ⟨w.heap.size + 1, 2, none⟩ = some (.slice none 0 0) := cell_at HB2.t rfl
    have u0 : w2.frozen? ⟨w.heap.size + 1, 0, none⟩ = false := free_at _ HB2.t
    have u1 : w2.frozen? ⟨w.heap.size + 1, 1, none⟩ = false := free_at _ HB2.t
    have u2 : w2.frozen? ⟨w.heap.size + 1, 2, none⟩ = false := free_at _ HB2.t
    have HS := Hid.mk' (set3 w2 (w.heap.size + 1) (.slice B1 n1 d1) (.slice B2 n2 d2) (.slice B3 n3 d3) _ _ _ _ HB2.t)
    have HBY := Hid.mk' HB2
    clear HB2 hv hb2 HNW k0 k1 k2
    go_wp2_with fail
    (try simp only [Exit.inBlock, Exit.then])
    refine bodyPost_ret (results_cell_row_tmp rfl _ _ (w.heap.size + 1) 25 _ (0, 0) _ rfl HS.out.1 Tryz.underlying25 rfl (by kernel_rfl) (v := .int .i64 0) rfl) rfl ?_
    refine ⟨_, rfl, ?_, HBY.out.below.grown HS.out.2 (by have := HBY.out.size; omega) (fun k e => by cases e; omega)⟩
    rw [HRR.out]
    exact (HV.out.kept HS.out.2 (by have := HBX.out.size; omega)).lower (by have := HBX.out.size; omega)
  · have HRR : Hid (normR f = ([], [], [])) := HR1.out h0
    have hb : (cf == 0) = false := beq_eq_false_iff_ne.2 h0
    have hb' : (cf != 0) = true := bne_iff_ne.2 h0
    clear HN HR0 HR1
    go_enter Tryz.func7, Tryz.ntmps7
    go_wp2_with fail
    refine HC.mono ?_
    rintro e w1 ⟨rfl, hb1⟩
    have HB1 := HB0.out.later hb1
    have t0 : w1.cell? ⟨w.heap.size + 1, 0, none⟩ = some (.slice none 0 0) := cell_at HB1.t rfl
    have t1 : w1.cell? ⟨w.heap.size + 1, 1, none⟩ = some (.slice none 0 0) := cell_at HB1.t rfl
    have t2 : w1.cell? ⟨w.heap.size + 1, 2, none⟩ = some (.slice none 0 0) := cell_at HB1.t rfl
    have u0 : w1.frozen? ⟨w.heap.size + 1, 0, none⟩ = false := free_at _ HB1.t
    have u1 : w1.frozen? ⟨w.heap.size + 1, 1, none⟩ = false := free_at _ HB1.t
    have u2 : w1.frozen? ⟨w.heap.size + 1, 2, none⟩ = false := free_at _ HB1.t
    have HS := Hid.mk' (set3 w1 (w.heap.size + 1) (.slice none 0 0) (.slice none 0 0) (.slice none 0 0) _ _ _ _ HB1.t)
    have HBX := Hid.mk' HB1
    clear hb1 HC HB1
    go_wp2_with fail
    (try simp only [Exit.inBlock, Exit.then])
    refine bodyPost_ret (results_cell_row_tmp rfl _ _ (w.heap.size + 1) 25 _ (0, 0) _ rfl HS.out.1 Tryz.underlying25 rfl (by kernel_rfl) (v := .int .i64 cf) rfl) rfl ?_
    refine ⟨_, rfl, ?_, HBX.out.below.grown HS.out.2 (by have := HBX.out.size; omega) (fun k e => by cases e; omega)⟩
    rw [HRR.out]
    exact FootOwn.nil _ _
set_option maxHeartbeats 2000000 in
set_option maxRecDepth 100000 in
theorem rNorm_calls (A1 A2 A3 : Option Addr) (c1 c2 c3 : Nat) (f : Foot) (w : World) (h : FootIn w A1 A2 A3 f) (hf : sizeF f ≤ 9223372036854775807) (hc1 : f.1.length ≤ c1) (hc3 : f.2.2.length ≤ c3) :
    Calls Tryz.prog 9 #[FootV A1 A2 A3 c1 c2 c3 f] w fun e w' => ∃ v, e = .returned (.tuple #[v, .int .i64 (checkF f)]) ∧ FootAt w' v (normR f) ∧ Below w.heap.size w w' := by
  have HB0 := Hid.mk' (Bx2.start w #[.slice A1 f.1.length c1, .slice A2 f.2.1.length c2, .slice A3 f.2.2.length c3])
  have HF := Hid.mk' h
  have HC := rcheck_calls A1 A2 A3 c1 c2 c3 f ((w.alloc (.cells #[.slice A1 f.1.length c1, .slice A2 f.2.1.length c2, .slice A3 f.2.2.length c3] 25)).alloc (.cells #[.slice none 0 0, .slice none 0 0, .slice none 0 0] 25)) (h.below HB0.out.below (Nat.le_refl _)) hf
  have HN := fun (W : World) (hb : Below w.heap.size w W) (h0 : checkF f = 0) => rnormal_calls A1 A2 A3 c1 c2 c3 f W (h.below hb (Nat.le_refl _)) (checkF_len h0) hc1 hc3
  have HR0 : Hid (checkF f = 0 → normR f = normF f) := fun h => by unfold normR; rw [if_pos h]
  have HR1 : Hid (checkF f ≠ 0 → normR f = ([], [], [])) := fun h => by unfold normR; rw [if_neg h]
  clear h hf
  generalize checkF f = cf at HC HN HR0 HR1 ⊢
  unfold FootV at HC HN ⊢
  by_cases h0 : cf = 0
  · have HN' := fun W hb => HN W hb h0
    have HRR : Hid (normR f = normF f) := HR0.out h0
    clear HN HR0 HR1
    subst h0
    go_enter Tryz.func9, Tryz.ntmps9
    go_wp2_with fail
    refine HC.mono ?_
    rintro e w1 ⟨rfl, hb1⟩
    have HB1 := HB0.out.later hb1
    have k0 : w1.cell? ⟨w.heap.size, 0, none⟩ = some (.slice A1 f.1.length c1) := cell_at HB1.a rfl
    have k1 : w1.cell? ⟨w.heap.size, 1, none⟩ = some (.slice A2 f.2.1.length c2) := cell_at HB1.a rfl
    have k2 : w1.cell? ⟨w.heap.size, 2, none⟩ = some (.slice A3 f.2.2.length c3) := cell_at HB1.a rfl
    have HNW := HN' w1 HB1.below
    have HBX := Hid.mk' HB1
    clear hb1 HC HB1 HN'
    go_wp2_with fail
    refine HNW.mono ?_
    rintro e w2 ⟨v, rfl, hv, hb2, hsp⟩
    have HSP := Hid.mk' (hsp (w.heap.size + 1) (by have := HBX.out.size; omega) (by
      rcases HF.out.wrs.2 with e | ⟨b, off, e, hlt, _⟩
      · exact .inl e
      · right; intro a ea; rw [e] at ea; cases ea; simp; omega))
    clear hsp
    have HB2 := HBX.out.later hb2
    obtain ⟨B1, B2, B3, n1, n2, n3, d1, d2, d3, rfl⟩ := hv.parts
    have t0 : w2.cell? ⟨w.heap.size + 1, 0, none⟩ = some (.slice none 0 0) := cell_at HB2.t rfl
    have t1 : w2.cell? ⟨w.heap.size + 1, 1, none⟩ = some (.slice none 0 0) := cell_at HB2.t rfl
    have t2 : w2.cell? ⟨w.heap.size + 1, 2, none⟩ = some (.slice none 0 0) := cell_at HB2.t rfl
    have u0 : w2.frozen? ⟨w.heap.size + 1, 0, none⟩ = false := free_at _ HB2.t
    have u1 : w2.frozen? ⟨w.heap.size + 1, 1, none⟩ = false := free_at _ HB2.t
    have u2 : w2.frozen? ⟨w.heap.size + 1, 2, none⟩ = false := free_at _ HB2.t
    have HS := Hid.mk' (set3 w2 (w.heap.size + 1) (.slice B1 n1 d1) (.slice B2 n2 d2) (.slice B3 n3 d3) _ _ _ _ HB2.t)
    have HBY := Hid.mk' HB2
    clear HB2 hv hb2 HNW k0 k1 k2
    go_wp2_with fail
    (try simp only [Exit.inBlock, Exit.then])
    refine bodyPost_ret (results_cell_row_tmp rfl _ _ (w.heap.size + 1) 25 _ (0, 0) _ rfl HS.out.1 Tryz.underlying25 rfl (by kernel_rfl) (v := .int .i64 0) rfl) rfl ?_
    refine ⟨_, rfl, ?_, HBY.out.below.grown HS.out.2 (by have := HBY.out.size; omega) (fun k e => by cases e; omega)⟩
    rw [HRR.out]
    exact HSP.out _ HS.out.2
  · have HRR : Hid (normR f = ([], [], [])) := HR1.out h0
    have hb : (cf == 0) = false := beq_eq_false_iff_ne.2 h0
    have hb' : (cf != 0) = true := bne_iff_ne.2 h0
    clear HN HR0 HR1
    go_enter Tryz.func9, Tryz.ntmps9
    go_wp2_with fail
    refine HC.mono ?_
    rintro e w1 ⟨rfl, hb1⟩
    have HB1 := HB0.out.later hb1
    have t0 : w1.cell? ⟨w.heap.size + 1, 0, none⟩ = some (.slice none 0 0) := cell_at HB1.t rfl
    have t1 : w1.cell? ⟨w.heap.size + 1, 1, none⟩ = some (.slice none 0 0) := cell_at HB1.t rfl
    have t2 : w1.cell? ⟨w.heap.size + 1, 2, none⟩ = some (.slice none 0 0) := cell_at HB1.t rfl
    have u0 : w1.frozen? ⟨w.heap.size + 1, 0, none⟩ = false := free_at _ HB1.t
    have u1 : w1.frozen? ⟨w.heap.size + 1, 1, none⟩ = false := free_at _ HB1.t
    have u2 : w1.frozen? ⟨w.heap.size + 1, 2, none⟩ = false := free_at _ HB1.t
    have HS := Hid.mk' (set3 w1 (w.heap.size + 1) (.slice none 0 0) (.slice none 0 0) (.slice none 0 0) _ _ _ _ HB1.t)
    have HBX := Hid.mk' HB1
    clear hb1 HC HB1
    go_wp2_with fail
    (try simp only [Exit.inBlock, Exit.then])
    refine bodyPost_ret (results_cell_row_tmp rfl _ _ (w.heap.size + 1) 25 _ (0, 0) _ rfl HS.out.1 Tryz.underlying25 rfl (by kernel_rfl) (v := .int .i64 cf) rfl) rfl ?_
    refine ⟨_, rfl, ?_, HBX.out.below.grown HS.out.2 (by have := HBX.out.size; omega) (fun k e => by cases e; omega)⟩
    rw [HRR.out]
    exact FootAt.nil _
end Go.Proofs.YtpbmcaidkjlokaaGreat
