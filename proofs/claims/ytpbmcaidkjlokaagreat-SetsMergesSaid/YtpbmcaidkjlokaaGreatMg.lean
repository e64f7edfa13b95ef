/- Merge, code and reference. -/
import Derived.Test.YtpbmcaidkjlokaaGreatCo
import Derived.Test.YtpbmcaidkjlokaaGreatNc
import Derived.Sort.AtCall
namespace Go.Proofs.YtpbmcaidkjlokaaGreat
open Go.RowKit

/-- A call's boxes of two feet and its result's. -/
structure Bx3 (w wr : World) (fa fb : Array Value) : Prop where
  below : Below w.heap.size w wr
  size : w.heap.size + 2 < wr.heap.size
  a : wr.heap[w.heap.size]? = some (.cells fa 25 (0, 0))
  b : wr.heap[w.heap.size + 1]? = some (.cells fb 25 (0, 0))
  t : wr.heap[w.heap.size + 2]? = some (.cells #[.slice none 0 0, .slice none 0 0, .slice none 0 0] 25 (0, 0))
theorem Bx3.start (w : World) (fa fb : Array Value) : Bx3 w (((w.alloc (.cells fa 25)).alloc (.cells fb 25)).alloc (.cells #[.slice none 0 0, .slice none 0 0, .slice none 0 0] 25)) fa fb where
  below := (((Below.refl _ w).alloc (Nat.le_refl _) _).alloc (by simp) _).alloc (by simp <;> omega) _
  size := by simp
  a := by rw [Below.heap_alloc _ _ _ (by simp <;> omega), Below.heap_alloc _ _ _ (by simp)]; exact World.alloc_heap_new _ _
  b := by
    rw [Below.heap_alloc _ _ _ (by simp)]
    have := World.alloc_heap_new (w.alloc (.cells fa 25)) (.cells fb 25)
    rwa [World.size_alloc] at this
  t := by
    have := World.alloc_heap_new ((w.alloc (.cells fa 25)).alloc (.cells fb 25)) (.cells #[.slice none 0 0, .slice none 0 0, .slice none 0 0] 25)
    rwa [World.size_alloc, World.size_alloc] at this
theorem Bx3.later {w wr w' : World} {fa fb : Array Value} (h : Bx3 w wr fa fb) (hb : Below wr.heap.size wr w') : Bx3 w w' fa fb :=
  ⟨h.below.trans (hb.mono h.below.size), Nat.lt_of_lt_of_le h.size hb.size, (hb.block _ (by have := h.size; omega)).trans h.a, (hb.block _ (by have := h.size; omega)).trans h.b, (hb.block _ (by have := h.size; omega)).trans h.t⟩
theorem Bx3.drew {w wr : World} {fa fb : Array Value} (h : Bx3 w wr fa fb) : Bx3 w wr.drew fa fb := h.later ⟨rfl, rfl, rfl, Nat.le_refl _, fun _ _ => rfl⟩
def mergeE (f g : Foot) : Int := if checkF f ≠ 0 then checkF f else if checkF g ≠ 0 then checkF g else if sizeF f + sizeF g > 65536 then 2 else 0
def mergeF (f g : Foot) : Foot := if mergeE f g = 0 then normF (VP.both f g) else ([], [], [])
theorem mergeE_zero {f g : Foot} (h : mergeE f g = 0) : checkF f = 0 ∧ checkF g = 0 ∧ sizeF f + sizeF g ≤ 65536 := by
  unfold mergeE at h
  split at h
  · rename_i h1; exact absurd h h1
  · rename_i h1
    split at h
    · rename_i h2; exact absurd h h2
    · rename_i h2
      split at h
      · cases h
      · exact ⟨by omega, by omega, by omega⟩
theorem Wfs.both {f g : Foot} (h : Wfs f) (h' : Wfs g) : Wfs (VP.both f g) := by
  refine ⟨fun p hp => ?_, fun p hp => ?_, fun p hp => ?_⟩ <;> rcases List.mem_append.1 hp with hp | hp
  · exact h.pts p hp
  · exact h'.pts p hp
  · exact h.sps p hp
  · exact h'.sps p hp
  · exact h.wrs p hp
  · exact h'.wrs p hp
theorem both_len (f g : Foot) : sizeF (VP.both f g) = sizeF f + sizeF g := by
  unfold sizeF VP.both; simp; omega
set_option maxHeartbeats 4000000 in
set_option maxRecDepth 100000 in
theorem rMerge_calls (A1 A2 A3 B1 B2 B3 : Option Addr) (c1 c2 c3 d1 d2 d3 : Nat) (f g : Foot) (w : World) (h : FootIn w A1 A2 A3 f) (h' : FootIn w B1 B2 B3 g) (hf : sizeF f ≤ 9223372036854775807) (hg : sizeF g ≤ 9223372036854775807) :
    Calls Tryz.prog 15 #[FootV A1 A2 A3 c1 c2 c3 f, FootV B1 B2 B3 d1 d2 d3 g] w fun e w' => ∃ v, e = .returned (.tuple #[v, .int .i64 (mergeE f g)]) ∧ FootAt w' v (mergeF f g) ∧ Below w.heap.size w w' := by
  have HB0 := Hid.mk' (Bx3.start w #[.slice A1 f.1.length c1, .slice A2 f.2.1.length c2, .slice A3 f.2.2.length c3] #[.slice B1 g.1.length d1, .slice B2 g.2.1.length d2, .slice B3 g.2.2.length d3])
  have HF := Hid.mk' h
  have HG := Hid.mk' h'
  have HCA := fun (W : World) (hb : Below w.heap.size w W) => rcheck_calls A1 A2 A3 c1 c2 c3 f W (HF.out.below hb (Nat.le_refl _)) hf
  have HCB := fun (W : World) (hb : Below w.heap.size w W) => rcheck_calls B1 B2 B3 d1 d2 d3 g W (HG.out.below hb (Nat.le_refl _)) hg
  have HSA := fun (W : World) => (rsize_calls A1 A2 A3 c1 c2 c3 f W hf).mono (fun e w' (h : e = .returned (.int .i64 (sizeF f)) ∧ ∃ o, w' = W.alloc o) => (⟨h.1, by obtain ⟨o, e⟩ := h.2; rw [e]; exact (Below.refl _ _).alloc (Nat.le_refl _) _⟩ : e = .returned (.int .i64 (sizeF f)) ∧ Below W.heap.size W w'))
  have HSB := fun (W : World) => (rsize_calls B1 B2 B3 d1 d2 d3 g W hg).mono (fun e w' (h : e = .returned (.int .i64 (sizeF g)) ∧ ∃ o, w' = W.alloc o) => (⟨h.1, by obtain ⟨o, e⟩ := h.2; rw [e]; exact (Below.refl _ _).alloc (Nat.le_refl _) _⟩ : e = .returned (.int .i64 (sizeF g)) ∧ Below W.heap.size W w'))
  clear h h'
  unfold FootV at HCA HCB HSA HSB ⊢
  by_cases h1 : checkF f = 0
  · have hlf := checkF_len h1
    by_cases h2 : checkF g = 0
    · have hlg := checkF_len h2
      rw [h1] at HCA
      rw [h2] at HCB
      have hsum : (sizeF f : Int) + (sizeF g : Int) = ((sizeF f + sizeF g : Nat) : Int) := by omega
      have HALL : Hid (∀ w' : World, Bx3 w w' #[.slice A1 f.1.length c1, .slice A2 f.2.1.length c2, .slice A3 f.2.2.length c3] #[.slice B1 g.1.length d1, .slice B2 g.2.1.length d2, .slice B3 g.2.2.length d3] → (Bx3 w w' #[.slice A1 f.1.length c1, .slice A2 f.2.1.length c2, .slice A3 f.2.2.length c3] #[.slice B1 g.1.length d1, .slice B2 g.2.1.length d2, .slice B3 g.2.2.length d3] ∧ w'.cell? ⟨w.heap.size, 0, none⟩ = some (.slice A1 f.1.length c1) ∧ w'.cell? ⟨w.heap.size, 1, none⟩ = some (.slice A2 f.2.1.length c2) ∧ w'.cell? ⟨w.heap.size, 2, none⟩ = some (.slice A3 f.2.2.length c3) ∧ w'.cell? ⟨w.heap.size + 1, 0, none⟩ = some (.slice B1 g.1.length d1) ∧ w'.cell? ⟨w.heap.size + 1, 1, none⟩ = some (.slice B2 g.2.1.length d2) ∧ w'.cell? ⟨w.heap.size + 1, 2, none⟩ = some (.slice B3 g.2.2.length d3))) := fun w' hb => ⟨hb, cell_at hb.a rfl, cell_at hb.a rfl, cell_at hb.a rfl, cell_at hb.b rfl, cell_at hb.b rfl, cell_at hb.b rfl⟩
      by_cases h3 : sizeF f + sizeF g > 65536
      · have HME : Hid (mergeE f g = 2) := by show _ = _; unfold mergeE; rw [if_neg (by simpa using h1), if_neg (by simpa using h2), if_pos h3]
        have HMF : Hid (mergeF f g = ([], [], [])) := by show _ = _; unfold mergeF; rw [if_neg (by rw [HME.out]; decide)]
        rw [HME.out]
        have h3z : (65536 : Int) < (sizeF f : Int) + (sizeF g : Int) := by omega
        have hwr : IntKind.i64.wrap ((sizeF f : Int) + (sizeF g : Int)) = (sizeF f : Int) + (sizeF g : Int) := by rw [IntKind.wrap_i64]; omega
        clear h1 h2 h3 hsum HME
        generalize sizeF f = sf at HSA hlf h3z hf hwr
        generalize sizeF g = sg at HSB hlg h3z hg hwr
        go_enter Tryz.func15, Tryz.ntmps15
        go_wp2_with fail
        refine (HCA _ HB0.out.below).mono ?_
        rintro e w1 ⟨rfl, hb1⟩
        have HB1 := Hid.mk' (HB0.out.later hb1)
        have k0 : w1.cell? ⟨w.heap.size, 0, none⟩ = some (.slice A1 f.1.length c1) := cell_at HB1.out.a rfl
        have k1 : w1.cell? ⟨w.heap.size, 1, none⟩ = some (.slice A2 f.2.1.length c2) := cell_at HB1.out.a rfl
        have k2 : w1.cell? ⟨w.heap.size, 2, none⟩ = some (.slice A3 f.2.2.length c3) := cell_at HB1.out.a rfl
        have k3 : w1.cell? ⟨w.heap.size + 1, 0, none⟩ = some (.slice B1 g.1.length d1) := cell_at HB1.out.b rfl
        have k4 : w1.cell? ⟨w.heap.size + 1, 1, none⟩ = some (.slice B2 g.2.1.length d2) := cell_at HB1.out.b rfl
        have k5 : w1.cell? ⟨w.heap.size + 1, 2, none⟩ = some (.slice B3 g.2.2.length d3) := cell_at HB1.out.b rfl
        have HCB1 := HCB w1 HB1.out.below
        clear hb1 HCA HCB
        go_wp2_with fail
        refine HCB1.mono ?_
        rintro e w2 ⟨rfl, hb2⟩
        have hB2 : Bx3 w w2 #[.slice A1 f.1.length c1, .slice A2 f.2.1.length c2, .slice A3 f.2.2.length c3] #[.slice B1 g.1.length d1, .slice B2 g.2.1.length d2, .slice B3 g.2.2.length d3] := HB1.out.later hb2
        clear hb2 HCB1 k0 k1 k2 k3 k4 k5
        go_wp2_with fail
        go_region_held3 (fun w' => Bx3 w w' #[.slice A1 f.1.length c1, .slice A2 f.2.1.length c2, .slice A3 f.2.2.length c3] #[.slice B1 g.1.length d1, .slice B2 g.2.1.length d2, .slice B3 g.2.2.length d3] ∧ w'.cell? ⟨w.heap.size, 0, none⟩ = some (.slice A1 f.1.length c1) ∧ w'.cell? ⟨w.heap.size, 1, none⟩ = some (.slice A2 f.2.1.length c2) ∧ w'.cell? ⟨w.heap.size, 2, none⟩ = some (.slice A3 f.2.2.length c3) ∧ w'.cell? ⟨w.heap.size + 1, 0, none⟩ = some (.slice B1 g.1.length d1) ∧ w'.cell? ⟨w.heap.size + 1, 1, none⟩ = some (.slice B2 g.2.1.length d2) ∧ w'.cell? ⟨w.heap.size + 1, 2, none⟩ = some (.slice B3 g.2.2.length d3)) (first | exact HALL.out _ (by assumption) | exact HALL.out _ (Bx3.drew (by assumption)))
          (first
            | (go_at_call_has 29 (Value.slice A1 f.1.length c1)
               refine (HSA _).mono ?_
               rintro e w3 ⟨rfl, hb3⟩
               have hB3 : Bx3 w w3 #[.slice A1 f.1.length c1, .slice A2 f.2.1.length c2, .slice A3 f.2.2.length c3] #[.slice B1 g.1.length d1, .slice B2 g.2.1.length d2, .slice B3 g.2.2.length d3] := (by assumption : Bx3 w _ #[.slice A1 f.1.length c1, .slice A2 f.2.1.length c2, .slice A3 f.2.2.length c3] #[.slice B1 g.1.length d1, .slice B2 g.2.1.length d2, .slice B3 g.2.2.length d3] ∧ _).1.later hb3)
            | (go_at_call 29
               refine (HSB _).mono ?_
               rintro e w4 ⟨rfl, hb4⟩
               have hB4 : Bx3 w w4 #[.slice A1 f.1.length c1, .slice A2 f.2.1.length c2, .slice A3 f.2.2.length c3] #[.slice B1 g.1.length d1, .slice B2 g.2.1.length d2, .slice B3 g.2.2.length d3] := (by assumption : Bx3 w _ #[.slice A1 f.1.length c1, .slice A2 f.2.1.length c2, .slice A3 f.2.2.length c3] #[.slice B1 g.1.length d1, .slice B2 g.2.1.length d2, .slice B3 g.2.2.length d3] ∧ _).1.later hb4))
        have HB4 := Hid.mk' hB4
        clear hB2 hB3 hB4
        have t0 : w4.cell? ⟨w.heap.size + 2, 0, none⟩ = some (.slice none 0 0) := cell_at HB4.out.t rfl
        have t1 : w4.cell? ⟨w.heap.size + 2, 1, none⟩ = some (.slice none 0 0) := cell_at HB4.out.t rfl
        have t2 : w4.cell? ⟨w.heap.size + 2, 2, none⟩ = some (.slice none 0 0) := cell_at HB4.out.t rfl
        have u0 : w4.frozen? ⟨w.heap.size + 2, 0, none⟩ = false := free_at _ HB4.out.t
        have u1 : w4.frozen? ⟨w.heap.size + 2, 1, none⟩ = false := free_at _ HB4.out.t
        have u2 : w4.frozen? ⟨w.heap.size + 2, 2, none⟩ = false := free_at _ HB4.out.t
        have HS := Hid.mk' (set3 w4 (w.heap.size + 2) (.slice none 0 0) (.slice none 0 0) (.slice none 0 0) _ _ _ _ HB4.out.t)
        go_wp2_with fail
        (try simp only [Exit.inBlock, Exit.then])
        refine bodyPost_ret (results_cell_row_tmp rfl _ _ (w.heap.size + 2) 25 _ (0, 0) _ rfl HS.out.1 Tryz.underlying25 rfl (by kernel_rfl) (v := .int .i64 2) rfl) rfl ?_
        refine ⟨_, rfl, ?_, HB4.out.below.grown HS.out.2 (by have := HB4.out.size; omega) (fun k e => by cases e; omega)⟩
        rw [HMF.out]
        exact FootAt.nil _
      · have HME : Hid (mergeE f g = 0) := by show _ = _; unfold mergeE; rw [if_neg (by simpa using h1), if_neg (by simpa using h2), if_neg h3]
        have HMF : Hid (mergeF f g = normF (VP.both f g)) := by show _ = _; unfold mergeF; rw [if_pos HME.out]
        rw [HME.out]
        have HSZ : Hid (sizeF (VP.both f g) ≤ 65536) := by show _ ≤ _; rw [both_len]; omega
        have h3z : ¬ (65536 : Int) < (sizeF f : Int) + (sizeF g : Int) := by omega
        have hwr : IntKind.i64.wrap ((sizeF f : Int) + (sizeF g : Int)) = (sizeF f : Int) + (sizeF g : Int) := by rw [IntKind.wrap_i64]; omega
        have h3n : sizeF f + sizeF g ≤ 65536 := by omega
        have HBO := Hid.mk' (fun (W : World) (hb : Below w.heap.size w W) => both_calls A1 A2 A3 B1 B2 B3 c1 c2 c3 d1 d2 d3 f g W (HF.out.below hb (Nat.le_refl _)) (HG.out.below hb (Nat.le_refl _)) (by unfold sizeF at h3n; omega) (by unfold sizeF at h3n; omega) (by unfold sizeF at h3n; omega))
        generalize VP.both f g = bf at HBO HMF HSZ
        clear h1 h2 h3 hsum HME h3n
        generalize sizeF f = sf at HSA hlf h3z hf hwr
        generalize sizeF g = sg at HSB hlg h3z hg hwr
        go_enter Tryz.func15, Tryz.ntmps15
        go_wp2_with fail
        refine (HCA _ HB0.out.below).mono ?_
        rintro e w1 ⟨rfl, hb1⟩
        have HB1 := Hid.mk' (HB0.out.later hb1)
        have k0 : w1.cell? ⟨w.heap.size, 0, none⟩ = some (.slice A1 f.1.length c1) := cell_at HB1.out.a rfl
        have k1 : w1.cell? ⟨w.heap.size, 1, none⟩ = some (.slice A2 f.2.1.length c2) := cell_at HB1.out.a rfl
        have k2 : w1.cell? ⟨w.heap.size, 2, none⟩ = some (.slice A3 f.2.2.length c3) := cell_at HB1.out.a rfl
        have k3 : w1.cell? ⟨w.heap.size + 1, 0, none⟩ = some (.slice B1 g.1.length d1) := cell_at HB1.out.b rfl
        have k4 : w1.cell? ⟨w.heap.size + 1, 1, none⟩ = some (.slice B2 g.2.1.length d2) := cell_at HB1.out.b rfl
        have k5 : w1.cell? ⟨w.heap.size + 1, 2, none⟩ = some (.slice B3 g.2.2.length d3) := cell_at HB1.out.b rfl
        have HCB1 := HCB w1 HB1.out.below
        clear hb1 HCA HCB
        go_wp2_with fail
        refine HCB1.mono ?_
        rintro e w2 ⟨rfl, hb2⟩
        have hB2 : Bx3 w w2 #[.slice A1 f.1.length c1, .slice A2 f.2.1.length c2, .slice A3 f.2.2.length c3] #[.slice B1 g.1.length d1, .slice B2 g.2.1.length d2, .slice B3 g.2.2.length d3] := HB1.out.later hb2
        clear hb2 HCB1 k0 k1 k2 k3 k4 k5
        go_wp2_with fail
        go_region_held3 (fun w' => Bx3 w w' #[.slice A1 f.1.length c1, .slice A2 f.2.1.length c2, .slice A3 f.2.2.length c3] #[.slice B1 g.1.length d1, .slice B2 g.2.1.length d2, .slice B3 g.2.2.length d3] ∧ w'.cell? ⟨w.heap.size, 0, none⟩ = some (.slice A1 f.1.length c1) ∧ w'.cell? ⟨w.heap.size, 1, none⟩ = some (.slice A2 f.2.1.length c2) ∧ w'.cell? ⟨w.heap.size, 2, none⟩ = some (.slice A3 f.2.2.length c3) ∧ w'.cell? ⟨w.heap.size + 1, 0, none⟩ = some (.slice B1 g.1.length d1) ∧ w'.cell? ⟨w.heap.size + 1, 1, none⟩ = some (.slice B2 g.2.1.length d2) ∧ w'.cell? ⟨w.heap.size + 1, 2, none⟩ = some (.slice B3 g.2.2.length d3)) (first | exact HALL.out _ (by assumption) | exact HALL.out _ (Bx3.drew (by assumption)))
          (first
            | (go_at_call_has 29 (Value.slice A1 f.1.length c1)
               refine (HSA _).mono ?_
               rintro e w3 ⟨rfl, hb3⟩
               have hB3 : Bx3 w w3 #[.slice A1 f.1.length c1, .slice A2 f.2.1.length c2, .slice A3 f.2.2.length c3] #[.slice B1 g.1.length d1, .slice B2 g.2.1.length d2, .slice B3 g.2.2.length d3] := (by assumption : Bx3 w _ #[.slice A1 f.1.length c1, .slice A2 f.2.1.length c2, .slice A3 f.2.2.length c3] #[.slice B1 g.1.length d1, .slice B2 g.2.1.length d2, .slice B3 g.2.2.length d3] ∧ _).1.later hb3)
            | (go_at_call 29
               refine (HSB _).mono ?_
               rintro e w4 ⟨rfl, hb4⟩
               have hB4 : Bx3 w w4 #[.slice A1 f.1.length c1, .slice A2 f.2.1.length c2, .slice A3 f.2.2.length c3] #[.slice B1 g.1.length d1, .slice B2 g.2.1.length d2, .slice B3 g.2.2.length d3] := (by assumption : Bx3 w _ #[.slice A1 f.1.length c1, .slice A2 f.2.1.length c2, .slice A3 f.2.2.length c3] #[.slice B1 g.1.length d1, .slice B2 g.2.1.length d2, .slice B3 g.2.2.length d3] ∧ _).1.later hb4))
        have HB4 := Hid.mk' hB4
        clear hB2 hB3 hB4
        have HBO4 := HBO.out w4 HB4.out.below
        unfold FootV at HBO4
        have q0 : w4.cell? ⟨w.heap.size, 0, none⟩ = some (.slice A1 f.1.length c1) := cell_at HB4.out.a rfl
        have q1 : w4.cell? ⟨w.heap.size, 1, none⟩ = some (.slice A2 f.2.1.length c2) := cell_at HB4.out.a rfl
        have q2 : w4.cell? ⟨w.heap.size, 2, none⟩ = some (.slice A3 f.2.2.length c3) := cell_at HB4.out.a rfl
        have q3 : w4.cell? ⟨w.heap.size + 1, 0, none⟩ = some (.slice B1 g.1.length d1) := cell_at HB4.out.b rfl
        have q4 : w4.cell? ⟨w.heap.size + 1, 1, none⟩ = some (.slice B2 g.2.1.length d2) := cell_at HB4.out.b rfl
        have q5 : w4.cell? ⟨w.heap.size + 1, 2, none⟩ = some (.slice B3 g.2.2.length d3) := cell_at HB4.out.b rfl
        clear HBO HSA HSB
        go_wp2_with fail
        refine HBO4.mono ?_
        rintro e w5 ⟨vb, rfl, hob, hb5⟩
        have HB5 := Hid.mk' (HB4.out.later hb5)
        obtain ⟨p, s, q, rfl, o1, o2, o3⟩ := hob.shape
        obtain ⟨X1, x1, rfl, l1⟩ := o1.shape
        obtain ⟨X2, x2, rfl, l2⟩ := o2.shape
        obtain ⟨X3, x3, rfl, l3⟩ := o3.shape
        have HNW := rnormal_calls X1 X2 X3 x1 x2 x3 bf w5 ⟨(o1.row ePt_len).2, (o2.row eSp_len).2, (o3.row ePt_len).2⟩ HSZ.out l1 l3
        unfold FootV at HNW
        have HLO : Hid (∀ a, X3 = some a → w4.heap.size ≤ a.block) := fun a e => by subst e; exact own_low o3
        clear hob o1 o2 o3 hb5 HBO4 q0 q1 q2 q3 q4 q5 l1 l2 l3
        go_wp2_with fail
        refine HNW.mono ?_
        rintro e w6 ⟨v, rfl, hv, hb6, hsp⟩
        have HSP := Hid.mk' (hsp (w.heap.size + 2) (by have := HB5.out.size; omega) (.inr fun a ea => by have := HLO.out a ea; have := HB4.out.size; omega))
        have HB6 := Hid.mk' (HB5.out.later hb6)
        obtain ⟨Y1, Y2, Y3, n1, n2, n3, y1, y2, y3, rfl⟩ := hv.parts
        clear hsp hv hb6 HNW
        have t0 : w6.cell? ⟨w.heap.size + 2, 0, none⟩ = some (.slice none 0 0) := cell_at HB6.out.t rfl
        have t1 : w6.cell? ⟨w.heap.size + 2, 1, none⟩ = some (.slice none 0 0) := cell_at HB6.out.t rfl
        have t2 : w6.cell? ⟨w.heap.size + 2, 2, none⟩ = some (.slice none 0 0) := cell_at HB6.out.t rfl
        have u0 : w6.frozen? ⟨w.heap.size + 2, 0, none⟩ = false := free_at _ HB6.out.t
        have u1 : w6.frozen? ⟨w.heap.size + 2, 1, none⟩ = false := free_at _ HB6.out.t
        have u2 : w6.frozen? ⟨w.heap.size + 2, 2, none⟩ = false := free_at _ HB6.out.t
        have HS := Hid.mk' (set3 w6 (w.heap.size + 2) (.slice Y1 n1 y1) (.slice Y2 n2 y2) (.slice Y3 n3 y3) _ _ _ _ HB6.out.t)
        go_wp2_with fail
        (try simp only [Exit.inBlock, Exit.then])
        refine bodyPost_ret (results_cell_row_tmp rfl _ _ (w.heap.size + 2) 25 _ (0, 0) _ rfl HS.out.1 Tryz.underlying25 rfl (by kernel_rfl) (v := .int .i64 0) rfl) rfl ?_
        refine ⟨_, rfl, ?_, HB6.out.below.grown HS.out.2 (by have := HB6.out.size; omega) (fun k e => by cases e; omega)⟩
        rw [HMF.out]
        exact HSP.out _ HS.out.2
    · have HME : Hid (mergeE f g = checkF g) := by show _ = _; unfold mergeE; rw [if_neg (by simpa using h1), if_pos h2]
      have HMF : Hid (mergeF f g = ([], [], [])) := by show _ = _; unfold mergeF; rw [if_neg (by rw [HME.out]; exact h2)]
      rw [h1] at HCA
      rw [HME.out]
      have hb' : (checkF g != 0) = true := bne_iff_ne.2 h2
      generalize checkF g = cg at HCB hb' ⊢
      clear h1 h2 HME hlf
      go_enter Tryz.func15, Tryz.ntmps15
      go_wp2_with fail
      refine (HCA _ HB0.out.below).mono ?_
      rintro e w1 ⟨rfl, hb1⟩
      have HB1 := Hid.mk' (HB0.out.later hb1)
      have k0 : w1.cell? ⟨w.heap.size, 0, none⟩ = some (.slice A1 f.1.length c1) := cell_at HB1.out.a rfl
      have k1 : w1.cell? ⟨w.heap.size, 1, none⟩ = some (.slice A2 f.2.1.length c2) := cell_at HB1.out.a rfl
      have k2 : w1.cell? ⟨w.heap.size, 2, none⟩ = some (.slice A3 f.2.2.length c3) := cell_at HB1.out.a rfl
      have k3 : w1.cell? ⟨w.heap.size + 1, 0, none⟩ = some (.slice B1 g.1.length d1) := cell_at HB1.out.b rfl
      have k4 : w1.cell? ⟨w.heap.size + 1, 1, none⟩ = some (.slice B2 g.2.1.length d2) := cell_at HB1.out.b rfl
      have k5 : w1.cell? ⟨w.heap.size + 1, 2, none⟩ = some (.slice B3 g.2.2.length d3) := cell_at HB1.out.b rfl
      have HCB1 := HCB w1 HB1.out.below
      clear hb1 HCA HCB
      go_wp2_with fail
      refine HCB1.mono ?_
      rintro e w2 ⟨rfl, hb2⟩
      have HB2 := Hid.mk' (HB1.out.later hb2)
      clear hb2 HCB1 k0 k1 k2 k3 k4 k5
      have t0 : w2.cell? ⟨w.heap.size + 2, 0, none⟩ = some (.slice none 0 0) := cell_at HB2.out.t rfl
      have t1 : w2.cell? ⟨w.heap.size + 2, 1, none⟩ = some (.slice none 0 0) := cell_at HB2.out.t rfl
      have t2 : w2.cell? ⟨w.heap.size + 2, 2, none⟩ = some (.slice none 0 0) := cell_at HB2.out.t rfl
      have u0 : w2.frozen? ⟨w.heap.size + 2, 0, none⟩ = false := free_at _ HB2.out.t
      have u1 : w2.frozen? ⟨w.heap.size + 2, 1, none⟩ = false := free_at _ HB2.out.t
      have u2 : w2.frozen? ⟨w.heap.size + 2, 2, none⟩ = false := free_at _ HB2.out.t
      have HS := Hid.mk' (set3 w2 (w.heap.size + 2) (.slice none 0 0) (.slice none 0 0) (.slice none 0 0) _ _ _ _ HB2.out.t)
      go_wp2_with fail
      (try simp only [Exit.inBlock, Exit.then])
      refine bodyPost_ret (results_cell_row_tmp rfl _ _ (w.heap.size + 2) 25 _ (0, 0) _ rfl HS.out.1 Tryz.underlying25 rfl (by kernel_rfl) (v := .int .i64 cg) rfl) rfl ?_
      refine ⟨_, rfl, ?_, HB2.out.below.grown HS.out.2 (by have := HB2.out.size; omega) (fun k e => by cases e; omega)⟩
      rw [HMF.out]
      exact FootAt.nil _
  · have HME : Hid (mergeE f g = checkF f) := by show _ = _; unfold mergeE; rw [if_pos h1]
    have HMF : Hid (mergeF f g = ([], [], [])) := by show _ = _; unfold mergeF; rw [if_neg (by rw [HME.out]; exact h1)]
    rw [HME.out]
    have hb' : (checkF f != 0) = true := bne_iff_ne.2 h1
    generalize checkF f = cf at HCA hb' ⊢
    clear h1 HME
    go_enter Tryz.func15, Tryz.ntmps15
    go_wp2_with fail
    refine (HCA _ HB0.out.below).mono ?_
    rintro e w1 ⟨rfl, hb1⟩
    have HB1 := Hid.mk' (HB0.out.later hb1)
    clear hb1 HCA HCB
    have t0 : w1.cell? ⟨w.heap.size + 2, 0, none⟩ = some (.slice none 0 0) := cell_at HB1.out.t rfl
    have t1 : w1.cell? ⟨w.heap.size + 2, 1, none⟩ = some (.slice none 0 0) := cell_at HB1.out.t rfl
    have t2 : w1.cell? ⟨w.heap.size + 2, 2, none⟩ = some (.slice none 0 0) := cell_at HB1.out.t rfl
    have u0 : w1.frozen? ⟨w.heap.size + 2, 0, none⟩ = false := free_at _ HB1.out.t
    have u1 : w1.frozen? ⟨w.heap.size + 2, 1, none⟩ = false := free_at _ HB1.out.t
    have u2 : w1.frozen? ⟨w.heap.size + 2, 2, none⟩ = false := free_at _ HB1.out.t
    have HS := Hid.mk' (set3 w1 (w.heap.size + 2) (.slice none 0 0) (.slice none 0 0) (.slice none 0 0) _ _ _ _ HB1.out.t)
    go_wp2_with fail
    (try simp only [Exit.inBlock, Exit.then])
    refine bodyPost_ret (results_cell_row_tmp rfl _ _ (w.heap.size + 2) 25 _ (0, 0) _ rfl HS.out.1 Tryz.underlying25 rfl (by kernel_rfl) (v := .int .i64 cf) rfl) rfl ?_
    refine ⟨_, rfl, ?_, HB1.out.below.grown HS.out.2 (by have := HB1.out.size; omega) (fun k e => by cases e; omega)⟩
    rw [HMF.out]
    exact FootAt.nil _
end Go.Proofs.YtpbmcaidkjlokaaGreat
