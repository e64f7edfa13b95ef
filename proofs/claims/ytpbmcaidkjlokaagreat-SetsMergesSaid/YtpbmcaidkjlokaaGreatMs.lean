/- The code's Merge. -/
import Derived.Test.YtpbmcaidkjlokaaGreatMg
import Derived.Deep.RegionHeld3
namespace Go.Proofs.YtpbmcaidkjlokaaGreat
open Go.RowKit
set_option linter.unusedSimpArgs false
set_option linter.unusedVariables false

theorem Bx3.alloc {w wr : World} {fa fb : Array Value} (h : Bx3 w wr fa fb) (o : Obj) : Bx3 w (wr.alloc o) fa fb := h.later ((Below.refl _ _).alloc (Nat.le_refl _) _)
/-- The same, the result's block holding anything. -/
structure Bx3g (w wr : World) (fa fb : Array Value) : Prop where
  below : Below w.heap.size w wr
  size : w.heap.size + 2 < wr.heap.size
  a : wr.heap[w.heap.size]? = some (.cells fa 25 (0, 0))
  b : wr.heap[w.heap.size + 1]? = some (.cells fb 25 (0, 0))
  t : ∃ x y z, wr.heap[w.heap.size + 2]? = some (.cells #[x, y, z] 25 (0, 0))
theorem Bx3.g {w wr : World} {fa fb : Array Value} (h : Bx3 w wr fa fb) : Bx3g w wr fa fb := ⟨h.below, h.size, h.a, h.b, _, _, _, h.t⟩
theorem Bx3g.later {w wr w' : World} {fa fb : Array Value} (h : Bx3g w wr fa fb) (hb : Below wr.heap.size wr w') : Bx3g w w' fa fb := by
  obtain ⟨x, y, z, ht⟩ := h.t
  exact ⟨h.below.trans (hb.mono h.below.size), Nat.lt_of_lt_of_le h.size hb.size, (hb.block _ (by have := h.size; omega)).trans h.a, (hb.block _ (by have := h.size; omega)).trans h.b, x, y, z, (hb.block _ (by have := h.size; omega)).trans ht⟩
theorem Bx3g.drew {w wr : World} {fa fb : Array Value} (h : Bx3g w wr fa fb) : Bx3g w wr.drew fa fb := h.later ⟨rfl, rfl, rfl, Nat.le_refl _, fun _ _ => rfl⟩
theorem Bx3g.alloc {w wr : World} {fa fb : Array Value} (h : Bx3g w wr fa fb) (o : Obj) : Bx3g w (wr.alloc o) fa fb := h.later ((Below.refl _ _).alloc (Nat.le_refl _) _)
theorem Bx3g.grown {w wr w' : World} {fa fb : Array Value} {x y z : Value} (h : Bx3g w wr fa fb) (hs : w'.heap[w.heap.size + 2]? = some (.cells #[x, y, z] 25 (0, 0)) ∧ wr.grownBy w' (some (w.heap.size + 2))) : Bx3g w w' fa fb :=
  ⟨h.below.grown hs.2 (by have := h.size; omega) (fun k e => by cases e; omega), Nat.lt_of_lt_of_le h.size hs.2.size, (hs.2.block _ (by have := h.size; omega) (by simp)).trans h.a, (hs.2.block _ (by have := h.size; omega) (by simp)).trans h.b, _, _, _, hs.1⟩
theorem cell_new (w : World) (cs : Array Value) (t : TypeId) {i : Nat} {v : Value} (h : cs[i]? = some v) : (w.alloc (.cells cs t)).cell? ⟨w.heap.size, i, none⟩ = some v := cell_at (World.alloc_heap_new w (.cells cs t)) h
theorem cell_newb (w : World) (cs : Array Value) (t : TypeId) {b i : Nat} {v : Value} (hb : w.heap.size = b) (h : cs[i]? = some v) : (w.alloc (.cells cs t)).cell? ⟨b, i, none⟩ = some v := by subst hb; exact cell_new w cs t h
theorem cell_up {w : World} {b i : Nat} {v : Value} (o : Obj) (h : w.cell? ⟨b, i, none⟩ = some v) : (w.alloc o).cell? ⟨b, i, none⟩ = some v :=
  (World.cell?_of_block (a := ⟨b, i, none⟩) (Below.heap_alloc _ _ _ (World.block_lt_of_cell? w _ h))).trans h
theorem cell_drew {w : World} {b i : Nat} {v : Value} (h : w.cell? ⟨b, i, none⟩ = some v) : w.drew.cell? ⟨b, i, none⟩ = some v := h
theorem cell_drewN {w : World} {b i n : Nat} {v : Value} (h : w.cell? ⟨b, i, none⟩ = some v) : (w.drewN n).cell? ⟨b, i, none⟩ = some v := h
theorem row_drew {α : Type} {enc : α → List Value} {k : Nat} {w : World} {A : Option Addr} {xs : List α} (h : RowIn enc k w A xs) : RowIn enc k w.drew A xs := h
theorem row_drewN {α : Type} {enc : α → List Value} {k n : Nat} {w : World} {A : Option Addr} {xs : List α} (h : RowIn enc k w A xs) : RowIn enc k (w.drewN n) A xs := h
theorem cell_later {x w : World} {b i : Nat} {v : Value} (hb : Below x.heap.size x w) (h : x.cell? ⟨b, i, none⟩ = some v) : w.cell? ⟨b, i, none⟩ = some v :=
  (hb.cell (p := ⟨b, i, none⟩) (World.block_lt_of_cell? x _ h)).trans h
theorem row_up {α : Type} {enc : α → List Value} {k : Nat} {w : World} {A : Option Addr} {xs : List α} (o : Obj) (h : RowIn enc k w A xs) : RowIn enc k (w.alloc o) A xs := h.below ((Below.refl _ w).alloc (Nat.le_refl _) _) (Nat.le_refl _)
theorem row_later {α : Type} {enc : α → List Value} {k : Nat} {x w : World} {A : Option Addr} {xs : List α} (hb : Below x.heap.size x w) (h : RowIn enc k x A xs) : RowIn enc k w A xs := h.below hb (Nat.le_refl _)
theorem rowI2 (w : World) (a b : Int) (t : TypeId) : RowIn eI 1 (w.alloc (.cells #[.int .i64 a, .int .i64 b] t)) (some ⟨w.heap.size, 0, none⟩) [a, b] :=
  ⟨by simp, .inr ⟨_, _, rfl, by simp, fun j x hj i v hv => by
    match j, hj with
    | 0, hj =>
      match i, hv with
      | 0, hv => simp [eI] at hv hj; subst hj; subst hv; exact cell_new _ _ _ rfl
      | i + 1, hv => simp [eI] at hv
    | 1, hj =>
      match i, hv with
      | 0, hv => simp [eI] at hv hj; subst hj; subst hv; exact cell_new _ _ _ rfl
      | i + 1, hv => simp [eI] at hv
    | k + 2, hj => simp at hj⟩⟩
theorem or_ne {f g : Foot} (h : ¬ orI [checkF f, checkF g] = 0) : mergeE f g = orI [checkF f, checkF g] := by
  unfold mergeE
  by_cases h1 : checkF f = 0
  · by_cases h2 : checkF g = 0
    · exact absurd (by simp [orI, h1, h2]) h
    · simp [orI, h1, h2]
  · simp [orI, h1]
theorem or_eq {f g : Foot} (h : orI [checkF f, checkF g] = 0) : checkF f = 0 ∧ checkF g = 0 := by
  by_cases h1 : checkF f = 0
  · refine ⟨h1, ?_⟩
    by_cases h2 : checkF g = 0
    · exact h2
    · simp [orI, h1, h2] at h
  · simp [orI, h1] at h
set_option maxHeartbeats 16000000 in
set_option maxRecDepth 100000 in
theorem Merge_calls (A1 A2 A3 B1 B2 B3 : Option Addr) (c1 c2 c3 d1 d2 d3 : Nat) (f g : Foot) (w : World) (h : FootIn w A1 A2 A3 f) (h' : FootIn w B1 B2 B3 g) (hf : sizeF f ≤ 9223372036854775807) (hg : sizeF g ≤ 9223372036854775807) (hw1 : Wfs f) (hw2 : Wfs g) :
    Calls Tryz.prog 14 #[FootV A1 A2 A3 c1 c2 c3 f, FootV B1 B2 B3 d1 d2 d3 g] w fun e w' => ∃ v, e = .returned (.tuple #[v, .int .i64 (mergeE f g)]) ∧ FootOwn w.heap.size w' v (mergeF f g) ∧ Below w.heap.size w w' := by
  have HB0 := Hid.mk' (Bx3.start w #[.slice A1 f.1.length c1, .slice A2 f.2.1.length c2, .slice A3 f.2.2.length c3] #[.slice B1 g.1.length d1, .slice B2 g.2.1.length d2, .slice B3 g.2.2.length d3])
  have HF := Hid.mk' h
  have HG := Hid.mk' h'
  have HCA := fun (W : World) (hb : Below w.heap.size w W) => check_calls A1 A2 A3 c1 c2 c3 f W (HF.out.below hb (Nat.le_refl _)) hf
  have HCB := fun (W : World) (hb : Below w.heap.size w W) => check_calls B1 B2 B3 d1 d2 d3 g W (HG.out.below hb (Nat.le_refl _)) hg
  have HSA := fun (W : World) => (size_calls A1 A2 A3 c1 c2 c3 f W hf).mono (fun e w' (h : e = .returned (.int .i64 (sizeF f)) ∧ ∃ o, w' = W.alloc o) => (⟨h.1, by obtain ⟨o, e⟩ := h.2; rw [e]; exact (Below.refl _ _).alloc (Nat.le_refl _) _⟩ : e = .returned (.int .i64 (sizeF f)) ∧ Below W.heap.size W w'))
  have HSB := fun (W : World) => (size_calls B1 B2 B3 d1 d2 d3 g W hg).mono (fun e w' (h : e = .returned (.int .i64 (sizeF g)) ∧ ∃ o, w' = W.alloc o) => (⟨h.1, by obtain ⟨o, e⟩ := h.2; rw [e]; exact (Below.refl _ _).alloc (Nat.le_refl _) _⟩ : e = .returned (.int .i64 (sizeF g)) ∧ Below W.heap.size W w'))
  have HWF := Hid.mk' (hw1.both hw2)
  clear h h' hw1 hw2
  unfold FootV at HCA HCB HSA HSB ⊢
  have HALL : Hid (∀ w' : World, Bx3 w w' #[.slice A1 f.1.length c1, .slice A2 f.2.1.length c2, .slice A3 f.2.2.length c3] #[.slice B1 g.1.length d1, .slice B2 g.2.1.length d2, .slice B3 g.2.2.length d3] → (Bx3 w w' #[.slice A1 f.1.length c1, .slice A2 f.2.1.length c2, .slice A3 f.2.2.length c3] #[.slice B1 g.1.length d1, .slice B2 g.2.1.length d2, .slice B3 g.2.2.length d3] ∧ w'.cell? ⟨w.heap.size, 0, none⟩ = some (.slice A1 f.1.length c1) ∧ w'.cell? ⟨w.heap.size, 1, none⟩ = some (.slice A2 f.2.1.length c2) ∧ w'.cell? ⟨w.heap.size, 2, none⟩ = some (.slice A3 f.2.2.length c3) ∧ w'.cell? ⟨w.heap.size + 1, 0, none⟩ = some (.slice B1 g.1.length d1) ∧ w'.cell? ⟨w.heap.size + 1, 1, none⟩ = some (.slice B2 g.2.1.length d2) ∧ w'.cell? ⟨w.heap.size + 1, 2, none⟩ = some (.slice B3 g.2.2.length d3))) := fun w' hb => ⟨hb, cell_at hb.a rfl, cell_at hb.a rfl, cell_at hb.a rfl, cell_at hb.b rfl, cell_at hb.b rfl, cell_at hb.b rfl⟩
  have HALG : Hid (∀ w' : World, Bx3g w w' #[.slice A1 f.1.length c1, .slice A2 f.2.1.length c2, .slice A3 f.2.2.length c3] #[.slice B1 g.1.length d1, .slice B2 g.2.1.length d2, .slice B3 g.2.2.length d3] → (Bx3g w w' #[.slice A1 f.1.length c1, .slice A2 f.2.1.length c2, .slice A3 f.2.2.length c3] #[.slice B1 g.1.length d1, .slice B2 g.2.1.length d2, .slice B3 g.2.2.length d3] ∧ w'.cell? ⟨w.heap.size, 0, none⟩ = some (.slice A1 f.1.length c1) ∧ w'.cell? ⟨w.heap.size, 1, none⟩ = some (.slice A2 f.2.1.length c2) ∧ w'.cell? ⟨w.heap.size, 2, none⟩ = some (.slice A3 f.2.2.length c3) ∧ w'.cell? ⟨w.heap.size + 1, 0, none⟩ = some (.slice B1 g.1.length d1) ∧ w'.cell? ⟨w.heap.size + 1, 1, none⟩ = some (.slice B2 g.2.1.length d2) ∧ w'.cell? ⟨w.heap.size + 1, 2, none⟩ = some (.slice B3 g.2.2.length d3))) := fun w' hb => ⟨hb, cell_at hb.a rfl, cell_at hb.a rfl, cell_at hb.a rfl, cell_at hb.b rfl, cell_at hb.b rfl, cell_at hb.b rfl⟩
  have HORX := fun (A : Option Addr) (W : World) (hr : RowIn eI 1 W A [checkF f, checkF g]) => cmpOrE A 2 [checkF f, checkF g] W hr
  rw [show [checkF f, checkF g].length = 2 from rfl] at HORX
  have HOR := Hid.mk' HORX
  clear HORX
  by_cases hE : orI [checkF f, checkF g] = 0
  · obtain ⟨h1, h2⟩ := or_eq hE
    have hlf := checkF_len h1
    have hlg := checkF_len h2
    rw [hE] at HOR
    by_cases h3 : sizeF f + sizeF g > 65536
    · have HME : Hid (mergeE f g = 2) := by show _ = _; unfold mergeE; rw [if_neg (by simpa using h1), if_neg (by simpa using h2), if_pos h3]
      have HMF : Hid (mergeF f g = ([], [], [])) := by show _ = _; unfold mergeF; rw [if_neg (by rw [HME.out]; decide)]
      rw [HME.out]
      have h3z : (65536 : Int) < (sizeF f : Int) + (sizeF g : Int) := by omega
      have hwr : IntKind.i64.wrap ((sizeF f : Int) + (sizeF g : Int)) = (sizeF f : Int) + (sizeF g : Int) := by rw [IntKind.wrap_i64]; omega
      clear h1 h2 h3 HME hE HWF HALG
      generalize sizeF f = sf at HSA hlf h3z hf hwr
      generalize sizeF g = sg at HSB hlg h3z hg hwr
      generalize checkF f = cf at HCA HOR
      generalize checkF g = cg at HCB HOR
      go_enter Tryz.func14, Tryz.ntmps14
      go_wp2_with fail
      have hB0 := HB0.out
      go_region_held3 (fun w' => Bx3 w w' #[.slice A1 f.1.length c1, .slice A2 f.2.1.length c2, .slice A3 f.2.2.length c3] #[.slice B1 g.1.length d1, .slice B2 g.2.1.length d2, .slice B3 g.2.2.length d3] ∧ w'.cell? ⟨w.heap.size, 0, none⟩ = some (.slice A1 f.1.length c1) ∧ w'.cell? ⟨w.heap.size, 1, none⟩ = some (.slice A2 f.2.1.length c2) ∧ w'.cell? ⟨w.heap.size, 2, none⟩ = some (.slice A3 f.2.2.length c3) ∧ w'.cell? ⟨w.heap.size + 1, 0, none⟩ = some (.slice B1 g.1.length d1) ∧ w'.cell? ⟨w.heap.size + 1, 1, none⟩ = some (.slice B2 g.2.1.length d2) ∧ w'.cell? ⟨w.heap.size + 1, 2, none⟩ = some (.slice B3 g.2.2.length d3)) (first | assumption | exact HALL.out _ (by assumption) | exact HALL.out _ (Bx3.drew (by assumption)) | exact HALL.out _ (Bx3.alloc (by assumption : Bx3 w _ #[.slice A1 f.1.length c1, .slice A2 f.2.1.length c2, .slice A3 f.2.2.length c3] #[.slice B1 g.1.length d1, .slice B2 g.2.1.length d2, .slice B3 g.2.2.length d3] ∧ _).1 _))
        (first
          | (go_at_call_has 11 (Value.slice A1 f.1.length c1)
             refine (HCA _ (by assumption : Bx3 w _ #[.slice A1 f.1.length c1, .slice A2 f.2.1.length c2, .slice A3 f.2.2.length c3] #[.slice B1 g.1.length d1, .slice B2 g.2.1.length d2, .slice B3 g.2.2.length d3] ∧ _).1.below).mono ?_
             rintro e w1 ⟨rfl, hb1⟩
             have hB1 : Bx3 w w1 #[.slice A1 f.1.length c1, .slice A2 f.2.1.length c2, .slice A3 f.2.2.length c3] #[.slice B1 g.1.length d1, .slice B2 g.2.1.length d2, .slice B3 g.2.2.length d3] := (by assumption : Bx3 w _ #[.slice A1 f.1.length c1, .slice A2 f.2.1.length c2, .slice A3 f.2.2.length c3] #[.slice B1 g.1.length d1, .slice B2 g.2.1.length d2, .slice B3 g.2.2.length d3] ∧ _).1.later hb1)
          | (go_at_call 11
             refine (HCB _ (by assumption : Bx3 w _ #[.slice A1 f.1.length c1, .slice A2 f.2.1.length c2, .slice A3 f.2.2.length c3] #[.slice B1 g.1.length d1, .slice B2 g.2.1.length d2, .slice B3 g.2.2.length d3] ∧ _).1.below).mono ?_
             rintro e w2 ⟨rfl, hb2⟩
             have hB2 : Bx3 w w2 #[.slice A1 f.1.length c1, .slice A2 f.2.1.length c2, .slice A3 f.2.2.length c3] #[.slice B1 g.1.length d1, .slice B2 g.2.1.length d2, .slice B3 g.2.2.length d3] := (by assumption : Bx3 w _ #[.slice A1 f.1.length c1, .slice A2 f.2.1.length c2, .slice A3 f.2.2.length c3] #[.slice B1 g.1.length d1, .slice B2 g.2.1.length d2, .slice B3 g.2.2.length d3] ∧ _).1.later hb2)
          | (go_at_call 31
             refine (HOR.out _ _ (rowI2 _ _ _ _)).mono ?_
             rintro e w3 ⟨rfl, hb3⟩
             have hB3 : Bx3 w w3 #[.slice A1 f.1.length c1, .slice A2 f.2.1.length c2, .slice A3 f.2.2.length c3] #[.slice B1 g.1.length d1, .slice B2 g.2.1.length d2, .slice B3 g.2.2.length d3] := by rw [hb3]; exact (by assumption : Bx3 w _ #[.slice A1 f.1.length c1, .slice A2 f.2.1.length c2, .slice A3 f.2.2.length c3] #[.slice B1 g.1.length d1, .slice B2 g.2.1.length d2, .slice B3 g.2.2.length d3] ∧ _).1
             clear hb3))
      clear hB0 hB1 hB2
      go_wp2_with fail
      go_region_held3 (fun w' => Bx3 w w' #[.slice A1 f.1.length c1, .slice A2 f.2.1.length c2, .slice A3 f.2.2.length c3] #[.slice B1 g.1.length d1, .slice B2 g.2.1.length d2, .slice B3 g.2.2.length d3] ∧ w'.cell? ⟨w.heap.size, 0, none⟩ = some (.slice A1 f.1.length c1) ∧ w'.cell? ⟨w.heap.size, 1, none⟩ = some (.slice A2 f.2.1.length c2) ∧ w'.cell? ⟨w.heap.size, 2, none⟩ = some (.slice A3 f.2.2.length c3) ∧ w'.cell? ⟨w.heap.size + 1, 0, none⟩ = some (.slice B1 g.1.length d1) ∧ w'.cell? ⟨w.heap.size + 1, 1, none⟩ = some (.slice B2 g.2.1.length d2) ∧ w'.cell? ⟨w.heap.size + 1, 2, none⟩ = some (.slice B3 g.2.2.length d3)) (first | exact HALL.out _ (by assumption) | exact HALL.out _ (Bx3.drew (by assumption)))
        (first
          | (go_at_call_has 25 (Value.slice A1 f.1.length c1)
             refine (HSA _).mono ?_
             rintro e w4 ⟨rfl, hb4⟩
             have hB4 : Bx3 w w4 #[.slice A1 f.1.length c1, .slice A2 f.2.1.length c2, .slice A3 f.2.2.length c3] #[.slice B1 g.1.length d1, .slice B2 g.2.1.length d2, .slice B3 g.2.2.length d3] := (by assumption : Bx3 w _ #[.slice A1 f.1.length c1, .slice A2 f.2.1.length c2, .slice A3 f.2.2.length c3] #[.slice B1 g.1.length d1, .slice B2 g.2.1.length d2, .slice B3 g.2.2.length d3] ∧ _).1.later hb4)
          | (go_at_call 25
             refine (HSB _).mono ?_
             rintro e w5 ⟨rfl, hb5⟩
             have hB5 : Bx3 w w5 #[.slice A1 f.1.length c1, .slice A2 f.2.1.length c2, .slice A3 f.2.2.length c3] #[.slice B1 g.1.length d1, .slice B2 g.2.1.length d2, .slice B3 g.2.2.length d3] := (by assumption : Bx3 w _ #[.slice A1 f.1.length c1, .slice A2 f.2.1.length c2, .slice A3 f.2.2.length c3] #[.slice B1 g.1.length d1, .slice B2 g.2.1.length d2, .slice B3 g.2.2.length d3] ∧ _).1.later hb5))
      have HB5 := Hid.mk' hB5
      clear hB3 hB4 hB5
      have t0 : w5.cell? ⟨w.heap.size + 2, 0, none⟩ = some (.slice none 0 0) := cell_at HB5.out.t rfl
      have t1 : w5.cell? ⟨w.heap.size + 2, 1, none⟩ = some (.slice none 0 0) := cell_at HB5.out.t rfl
      have t2 : w5.cell? ⟨w.heap.size + 2, 2, none⟩ = some (.slice none 0 0) := cell_at HB5.out.t rfl
      have u0 : w5.frozen? ⟨w.heap.size + 2, 0, none⟩ = false := free_at _ HB5.out.t
      have u1 : w5.frozen? ⟨w.heap.size + 2, 1, none⟩ = false := free_at _ HB5.out.t
      have u2 : w5.frozen? ⟨w.heap.size + 2, 2, none⟩ = false := free_at _ HB5.out.t
      have HS := Hid.mk' (set3 w5 (w.heap.size + 2) (.slice none 0 0) (.slice none 0 0) (.slice none 0 0) _ _ _ _ HB5.out.t)
      go_wp2_with fail
      (try simp only [Exit.inBlock, Exit.then])
      refine bodyPost_ret (results_cell_row_tmp rfl _ _ (w.heap.size + 2) 25 _ (0, 0) _ rfl HS.out.1 Tryz.underlying25 rfl (by kernel_rfl) (v := .int .i64 2) rfl) rfl ?_
      refine ⟨_, rfl, ?_, HB5.out.below.grown HS.out.2 (by have := HB5.out.size; omega) (fun k e => by cases e; omega)⟩
      rw [HMF.out]
      exact FootOwn.nil _ _
    · have HME : Hid (mergeE f g = 0) := by show _ = _; unfold mergeE; rw [if_neg (by simpa using h1), if_neg (by simpa using h2), if_neg h3]
      have HMF : Hid (mergeF f g = normF (VP.both f g)) := by show _ = _; unfold mergeF; rw [if_pos HME.out]
      rw [HME.out]
      have h3n : sizeF f + sizeF g ≤ 65536 := by omega
      have HSZ : Hid (sizeF (VP.both f g) ≤ 65536) := by show _ ≤ _; rw [both_len]; omega
      have h3z : ¬ (65536 : Int) < (sizeF f : Int) + (sizeF g : Int) := by omega
      have hwr : IntKind.i64.wrap ((sizeF f : Int) + (sizeF g : Int)) = (sizeF f : Int) + (sizeF g : Int) := by rw [IntKind.wrap_i64]; omega
      have HQ : Hid ((f.1.length + g.1.length) * 32 ≤ 140737488355328 ∧ (f.2.1.length + g.2.1.length) * 56 ≤ 140737488355328 ∧ (f.2.2.length + g.2.2.length) * 32 ≤ 140737488355328) := by
        unfold sizeF at h3n
        exact ⟨by omega, by omega, by omega⟩
      have HBF : Hid (f.1 ++ g.1 = (VP.both f g).1 ∧ f.2.1 ++ g.2.1 = (VP.both f g).2.1 ∧ f.2.2 ++ g.2.2 = (VP.both f g).2.2) := ⟨rfl, rfl, rfl⟩
      generalize VP.both f g = bf at HBF HMF HSZ HWF
      have HFW : Hid (FootWf bf) := ⟨HWF.out.pts, HWF.out.sps, HWF.out.wrs, HSZ.out⟩
      have HNX := fun (X1 X2 X3 : Option Addr) (x1 x2 x3 : Nat) (W : World) (hi : FootIn W X1 X2 X3 bf) => norm_calls X1 X2 X3 x1 x2 x3 bf W hi HFW.out
      unfold FootV at HNX
      have HNM := Hid.mk' HNX
      clear h1 h2 h3 HME h3n hE HWF HSZ HNX
      generalize sizeF f = sf at HSA hlf h3z hf hwr
      generalize sizeF g = sg at HSB hlg h3z hg hwr
      generalize checkF f = cf at HCA HOR
      generalize checkF g = cg at HCB HOR
      go_enter Tryz.func14, Tryz.ntmps14
      go_wp2_with fail
      have hB0 := HB0.out
      go_region_held3 (fun w' => Bx3 w w' #[.slice A1 f.1.length c1, .slice A2 f.2.1.length c2, .slice A3 f.2.2.length c3] #[.slice B1 g.1.length d1, .slice B2 g.2.1.length d2, .slice B3 g.2.2.length d3] ∧ w'.cell? ⟨w.heap.size, 0, none⟩ = some (.slice A1 f.1.length c1) ∧ w'.cell? ⟨w.heap.size, 1, none⟩ = some (.slice A2 f.2.1.length c2) ∧ w'.cell? ⟨w.heap.size, 2, none⟩ = some (.slice A3 f.2.2.length c3) ∧ w'.cell? ⟨w.heap.size + 1, 0, none⟩ = some (.slice B1 g.1.length d1) ∧ w'.cell? ⟨w.heap.size + 1, 1, none⟩ = some (.slice B2 g.2.1.length d2) ∧ w'.cell? ⟨w.heap.size + 1, 2, none⟩ = some (.slice B3 g.2.2.length d3)) (first | assumption | exact HALL.out _ (by assumption) | exact HALL.out _ (Bx3.drew (by assumption)) | exact HALL.out _ (Bx3.alloc (by assumption : Bx3 w _ #[.slice A1 f.1.length c1, .slice A2 f.2.1.length c2, .slice A3 f.2.2.length c3] #[.slice B1 g.1.length d1, .slice B2 g.2.1.length d2, .slice B3 g.2.2.length d3] ∧ _).1 _))
        (first
          | (go_at_call_has 11 (Value.slice A1 f.1.length c1)
             refine (HCA _ (by assumption : Bx3 w _ #[.slice A1 f.1.length c1, .slice A2 f.2.1.length c2, .slice A3 f.2.2.length c3] #[.slice B1 g.1.length d1, .slice B2 g.2.1.length d2, .slice B3 g.2.2.length d3] ∧ _).1.below).mono ?_
             rintro e w1 ⟨rfl, hb1⟩
             have hB1 : Bx3 w w1 #[.slice A1 f.1.length c1, .slice A2 f.2.1.length c2, .slice A3 f.2.2.length c3] #[.slice B1 g.1.length d1, .slice B2 g.2.1.length d2, .slice B3 g.2.2.length d3] := (by assumption : Bx3 w _ #[.slice A1 f.1.length c1, .slice A2 f.2.1.length c2, .slice A3 f.2.2.length c3] #[.slice B1 g.1.length d1, .slice B2 g.2.1.length d2, .slice B3 g.2.2.length d3] ∧ _).1.later hb1)
          | (go_at_call 11
             refine (HCB _ (by assumption : Bx3 w _ #[.slice A1 f.1.length c1, .slice A2 f.2.1.length c2, .slice A3 f.2.2.length c3] #[.slice B1 g.1.length d1, .slice B2 g.2.1.length d2, .slice B3 g.2.2.length d3] ∧ _).1.below).mono ?_
             rintro e w2 ⟨rfl, hb2⟩
             have hB2 : Bx3 w w2 #[.slice A1 f.1.length c1, .slice A2 f.2.1.length c2, .slice A3 f.2.2.length c3] #[.slice B1 g.1.length d1, .slice B2 g.2.1.length d2, .slice B3 g.2.2.length d3] := (by assumption : Bx3 w _ #[.slice A1 f.1.length c1, .slice A2 f.2.1.length c2, .slice A3 f.2.2.length c3] #[.slice B1 g.1.length d1, .slice B2 g.2.1.length d2, .slice B3 g.2.2.length d3] ∧ _).1.later hb2)
          | (go_at_call 31
             refine (HOR.out _ _ (rowI2 _ _ _ _)).mono ?_
             rintro e w3 ⟨rfl, hb3⟩
             have hB3 : Bx3 w w3 #[.slice A1 f.1.length c1, .slice A2 f.2.1.length c2, .slice A3 f.2.2.length c3] #[.slice B1 g.1.length d1, .slice B2 g.2.1.length d2, .slice B3 g.2.2.length d3] := by rw [hb3]; exact (by assumption : Bx3 w _ #[.slice A1 f.1.length c1, .slice A2 f.2.1.length c2, .slice A3 f.2.2.length c3] #[.slice B1 g.1.length d1, .slice B2 g.2.1.length d2, .slice B3 g.2.2.length d3] ∧ _).1
             clear hb3))
      clear hB0 hB1 hB2
      go_wp2_with fail
      go_region_held3 (fun w' => Bx3 w w' #[.slice A1 f.1.length c1, .slice A2 f.2.1.length c2, .slice A3 f.2.2.length c3] #[.slice B1 g.1.length d1, .slice B2 g.2.1.length d2, .slice B3 g.2.2.length d3] ∧ w'.cell? ⟨w.heap.size, 0, none⟩ = some (.slice A1 f.1.length c1) ∧ w'.cell? ⟨w.heap.size, 1, none⟩ = some (.slice A2 f.2.1.length c2) ∧ w'.cell? ⟨w.heap.size, 2, none⟩ = some (.slice A3 f.2.2.length c3) ∧ w'.cell? ⟨w.heap.size + 1, 0, none⟩ = some (.slice B1 g.1.length d1) ∧ w'.cell? ⟨w.heap.size + 1, 1, none⟩ = some (.slice B2 g.2.1.length d2) ∧ w'.cell? ⟨w.heap.size + 1, 2, none⟩ = some (.slice B3 g.2.2.length d3)) (first | exact HALL.out _ (by assumption) | exact HALL.out _ (Bx3.drew (by assumption)))
        (first
          | (go_at_call_has 25 (Value.slice A1 f.1.length c1)
             refine (HSA _).mono ?_
             rintro e w4 ⟨rfl, hb4⟩
             have hB4 : Bx3 w w4 #[.slice A1 f.1.length c1, .slice A2 f.2.1.length c2, .slice A3 f.2.2.length c3] #[.slice B1 g.1.length d1, .slice B2 g.2.1.length d2, .slice B3 g.2.2.length d3] := (by assumption : Bx3 w _ #[.slice A1 f.1.length c1, .slice A2 f.2.1.length c2, .slice A3 f.2.2.length c3] #[.slice B1 g.1.length d1, .slice B2 g.2.1.length d2, .slice B3 g.2.2.length d3] ∧ _).1.later hb4)
          | (go_at_call 25
             refine (HSB _).mono ?_
             rintro e w5 ⟨rfl, hb5⟩
             have hB5 : Bx3 w w5 #[.slice A1 f.1.length c1, .slice A2 f.2.1.length c2, .slice A3 f.2.2.length c3] #[.slice B1 g.1.length d1, .slice B2 g.2.1.length d2, .slice B3 g.2.2.length d3] := (by assumption : Bx3 w _ #[.slice A1 f.1.length c1, .slice A2 f.2.1.length c2, .slice A3 f.2.2.length c3] #[.slice B1 g.1.length d1, .slice B2 g.2.1.length d2, .slice B3 g.2.2.length d3] ∧ _).1.later hb5))
      have HB5 := Hid.mk' hB5
      clear hB3 hB4 hB5
      have hG5 := HB5.out.g
      clear HALL HB0 HOR HCA HCB HSA HSB
      go_wp2_with fail
      go_region_held3 (fun w' => Bx3g w w' #[.slice A1 f.1.length c1, .slice A2 f.2.1.length c2, .slice A3 f.2.2.length c3] #[.slice B1 g.1.length d1, .slice B2 g.2.1.length d2, .slice B3 g.2.2.length d3] ∧ w'.cell? ⟨w.heap.size, 0, none⟩ = some (.slice A1 f.1.length c1) ∧ w'.cell? ⟨w.heap.size, 1, none⟩ = some (.slice A2 f.2.1.length c2) ∧ w'.cell? ⟨w.heap.size, 2, none⟩ = some (.slice A3 f.2.2.length c3) ∧ w'.cell? ⟨w.heap.size + 1, 0, none⟩ = some (.slice B1 g.1.length d1) ∧ w'.cell? ⟨w.heap.size + 1, 1, none⟩ = some (.slice B2 g.2.1.length d2) ∧ w'.cell? ⟨w.heap.size + 1, 2, none⟩ = some (.slice B3 g.2.2.length d3)) (first | assumption | exact HALG.out _ (by assumption) | exact HALG.out _ (Bx3g.drew (by assumption)) | exact HALG.out _ HK.out | (refine HALG.out _ (Bx3g.later (by assumption : Bx3g w _ #[.slice A1 f.1.length c1, .slice A2 f.2.1.length c2, .slice A3 f.2.2.length c3] #[.slice B1 g.1.length d1, .slice B2 g.2.1.length d2, .slice B3 g.2.2.length d3] ∧ _).1 ?_); exact ⟨rfl, rfl, rfl, by simp, fun j hj => Below.heap_alloc _ _ _ hj⟩))
        (first
          | (go_at_call 20
             have _o := HO3
             refine (HNM.out X1 X2 X3 x1 x2 x3 _ ⟨by (repeat (first | with_reducible exact HO1.out | with_reducible refine row_drew ?_ | with_reducible refine row_drewN ?_ | with_reducible refine row_up _ ?_ | with_reducible refine row_later (by assumption) ?_)), by (repeat (first | with_reducible exact HO2.out | with_reducible refine row_drew ?_ | with_reducible refine row_drewN ?_ | with_reducible refine row_up _ ?_ | with_reducible refine row_later (by assumption) ?_)), by (repeat (first | with_reducible exact HO3.out | with_reducible refine row_drew ?_ | with_reducible refine row_drewN ?_ | with_reducible refine row_up _ ?_ | with_reducible refine row_later (by assumption) ?_))⟩).mono ?_
             rintro e wn ⟨vn, rfl, hon, hbn⟩
             have hG6 := (by assumption : Bx3g w _ #[.slice A1 f.1.length c1, .slice A2 f.2.1.length c2, .slice A3 f.2.2.length c3] #[.slice B1 g.1.length d1, .slice B2 g.2.1.length d2, .slice B3 g.2.2.length d3] ∧ _).1
             have hGn : Bx3g w wn #[.slice A1 f.1.length c1, .slice A2 f.2.1.length c2, .slice A3 f.2.2.length c3] #[.slice B1 g.1.length d1, .slice B2 g.2.1.length d2, .slice B3 g.2.2.length d3] := hG6.later hbn
             obtain ⟨z0, z1, z2, ht⟩ := hGn.t
             obtain ⟨Y1, Y2, Y3, n1, n2, n3, y1, y2, y3, rfl⟩ := hon.parts
             have t0 : wn.cell? ⟨w.heap.size + 2, 0, none⟩ = some z0 := cell_at ht rfl
             have t1 : wn.cell? ⟨w.heap.size + 2, 1, none⟩ = some z1 := cell_at ht rfl
             have t2 : wn.cell? ⟨w.heap.size + 2, 2, none⟩ = some z2 := cell_at ht rfl
             have u0 : wn.frozen? ⟨w.heap.size + 2, 0, none⟩ = false := free_at _ ht
             have u1 : wn.frozen? ⟨w.heap.size + 2, 1, none⟩ = false := free_at _ ht
             have u2 : wn.frozen? ⟨w.heap.size + 2, 2, none⟩ = false := free_at _ ht
             have HS := Hid.mk' (set3 wn (w.heap.size + 2) (.slice Y1 n1 y1) (.slice Y2 n2 y2) (.slice Y3 n3 y3) _ _ _ _ ht)
             have HK := Hid.mk' (hGn.grown HS.out)
             have HON := Hid.mk' ((hon.kept HS.out.2 hG6.size).lower hG6.below.size)
             clear hon hbn ht)
          | (go_at_call 32
             have _o := HO2
             refine (concat_Pt A3 B3 c3 d3 _ f.2.2 g.2.2 _ (HF.out.below (by assumption : Bx3g w _ #[.slice A1 f.1.length c1, .slice A2 f.2.1.length c2, .slice A3 f.2.2.length c3] #[.slice B1 g.1.length d1, .slice B2 g.2.1.length d2, .slice B3 g.2.2.length d3] ∧ _).1.below (Nat.le_refl _)).wrs (HG.out.below (by assumption : Bx3g w _ #[.slice A1 f.1.length c1, .slice A2 f.2.1.length c2, .slice A3 f.2.2.length c3] #[.slice B1 g.1.length d1, .slice B2 g.2.1.length d2, .slice B3 g.2.2.length d3] ∧ _).1.below (Nat.le_refl _)).wrs ?_ ?_ HQ.out.2.2).mono ?_
             · (repeat (first | ((with_reducible refine cell_newb _ _ _ ?_ ?_); (first | with_reducible rfl | (focus (simp; done))); rfl) | with_reducible refine cell_drew ?_ | with_reducible refine cell_drewN ?_ | with_reducible refine cell_up _ ?_ | with_reducible refine cell_later (by assumption) ?_))
             · (repeat (first | ((with_reducible refine cell_newb _ _ _ ?_ ?_); (first | with_reducible rfl | (focus (simp; done))); rfl) | with_reducible refine cell_drew ?_ | with_reducible refine cell_drewN ?_ | with_reducible refine cell_up _ ?_ | with_reducible refine cell_later (by assumption) ?_))
             rintro e q3 ⟨vq, rfl, hop, hbp3⟩
             rw [HBF.out.2.2] at hop
             obtain ⟨X3, x3, rfl, -⟩ := hop.shape
             have HO3 := Hid.mk' (hop.row ePt_len).2
             have hBq3 : Bx3g w q3 #[.slice A1 f.1.length c1, .slice A2 f.2.1.length c2, .slice A3 f.2.2.length c3] #[.slice B1 g.1.length d1, .slice B2 g.2.1.length d2, .slice B3 g.2.2.length d3] := (by assumption : Bx3g w _ #[.slice A1 f.1.length c1, .slice A2 f.2.1.length c2, .slice A3 f.2.2.length c3] #[.slice B1 g.1.length d1, .slice B2 g.2.1.length d2, .slice B3 g.2.2.length d3] ∧ _).1.later hbp3
             clear hop)
          | (go_at_call 33
             have _o := HO1
             refine (concat_Sp A2 B2 c2 d2 _ f.2.1 g.2.1 _ (HF.out.below (by assumption : Bx3g w _ #[.slice A1 f.1.length c1, .slice A2 f.2.1.length c2, .slice A3 f.2.2.length c3] #[.slice B1 g.1.length d1, .slice B2 g.2.1.length d2, .slice B3 g.2.2.length d3] ∧ _).1.below (Nat.le_refl _)).sps (HG.out.below (by assumption : Bx3g w _ #[.slice A1 f.1.length c1, .slice A2 f.2.1.length c2, .slice A3 f.2.2.length c3] #[.slice B1 g.1.length d1, .slice B2 g.2.1.length d2, .slice B3 g.2.2.length d3] ∧ _).1.below (Nat.le_refl _)).sps ?_ ?_ HQ.out.2.1).mono ?_
             · (repeat (first | ((with_reducible refine cell_newb _ _ _ ?_ ?_); (first | with_reducible rfl | (focus (simp; done))); rfl) | with_reducible refine cell_drew ?_ | with_reducible refine cell_drewN ?_ | with_reducible refine cell_up _ ?_ | with_reducible refine cell_later (by assumption) ?_))
             · (repeat (first | ((with_reducible refine cell_newb _ _ _ ?_ ?_); (first | with_reducible rfl | (focus (simp; done))); rfl) | with_reducible refine cell_drew ?_ | with_reducible refine cell_drewN ?_ | with_reducible refine cell_up _ ?_ | with_reducible refine cell_later (by assumption) ?_))
             rintro e q2 ⟨vq, rfl, hop, hbp2⟩
             rw [HBF.out.2.1] at hop
             obtain ⟨X2, x2, rfl, -⟩ := hop.shape
             have HO2 := Hid.mk' (hop.row eSp_len).2
             have hBq2 : Bx3g w q2 #[.slice A1 f.1.length c1, .slice A2 f.2.1.length c2, .slice A3 f.2.2.length c3] #[.slice B1 g.1.length d1, .slice B2 g.2.1.length d2, .slice B3 g.2.2.length d3] := (by assumption : Bx3g w _ #[.slice A1 f.1.length c1, .slice A2 f.2.1.length c2, .slice A3 f.2.2.length c3] #[.slice B1 g.1.length d1, .slice B2 g.2.1.length d2, .slice B3 g.2.2.length d3] ∧ _).1.later hbp2
             clear hop)
          | (go_at_call 32
             refine (concat_Pt A1 B1 c1 d1 _ f.1 g.1 _ (HF.out.below (by assumption : Bx3g w _ #[.slice A1 f.1.length c1, .slice A2 f.2.1.length c2, .slice A3 f.2.2.length c3] #[.slice B1 g.1.length d1, .slice B2 g.2.1.length d2, .slice B3 g.2.2.length d3] ∧ _).1.below (Nat.le_refl _)).pts (HG.out.below (by assumption : Bx3g w _ #[.slice A1 f.1.length c1, .slice A2 f.2.1.length c2, .slice A3 f.2.2.length c3] #[.slice B1 g.1.length d1, .slice B2 g.2.1.length d2, .slice B3 g.2.2.length d3] ∧ _).1.below (Nat.le_refl _)).pts ?_ ?_ HQ.out.1).mono ?_
             · (repeat (first | ((with_reducible refine cell_newb _ _ _ ?_ ?_); (first | with_reducible rfl | (focus (simp; done))); rfl) | with_reducible refine cell_drew ?_ | with_reducible refine cell_drewN ?_ | with_reducible refine cell_up _ ?_ | with_reducible refine cell_later (by assumption) ?_))
             · (repeat (first | ((with_reducible refine cell_newb _ _ _ ?_ ?_); (first | with_reducible rfl | (focus (simp; done))); rfl) | with_reducible refine cell_drew ?_ | with_reducible refine cell_drewN ?_ | with_reducible refine cell_up _ ?_ | with_reducible refine cell_later (by assumption) ?_))
             rintro e q1 ⟨vq, rfl, hop, hbp1⟩
             rw [HBF.out.1] at hop
             obtain ⟨X1, x1, rfl, -⟩ := hop.shape
             have HO1 := Hid.mk' (hop.row ePt_len).2
             have hBq1 : Bx3g w q1 #[.slice A1 f.1.length c1, .slice A2 f.2.1.length c2, .slice A3 f.2.2.length c3] #[.slice B1 g.1.length d1, .slice B2 g.2.1.length d2, .slice B3 g.2.2.length d3] := (by assumption : Bx3g w _ #[.slice A1 f.1.length c1, .slice A2 f.2.1.length c2, .slice A3 f.2.2.length c3] #[.slice B1 g.1.length d1, .slice B2 g.2.1.length d2, .slice B3 g.2.2.length d3] ∧ _).1.later hbp1
             clear hop)
          )
      all_goals (
        go_wp2_with fail
        (try simp only [Exit.inBlock, Exit.then])
        refine bodyPost_ret (results_cell_row_tmp rfl _ _ (w.heap.size + 2) 25 _ (0, 0) _ rfl HS.out.1 Tryz.underlying25 rfl (by kernel_rfl) (v := .int .i64 0) rfl) rfl ?_
        refine ⟨_, rfl, ?_, HK.out.below⟩
        rw [HMF.out]
        exact HON.out)
  · have HME : Hid (mergeE f g = orI [checkF f, checkF g]) := or_ne hE
    have HMF : Hid (mergeF f g = ([], [], [])) := by show _ = _; unfold mergeF; rw [if_neg (by rw [HME.out]; exact hE)]
    rw [HME.out]
    have hb' : (orI [checkF f, checkF g] != 0) = true := bne_iff_ne.2 hE
    clear hE HME HSA HSB HALG HWF
    generalize orI [checkF f, checkF g] = eo at HOR hb' ⊢
    generalize checkF f = cf at HCA HOR
    generalize checkF g = cg at HCB HOR
    go_enter Tryz.func14, Tryz.ntmps14
    go_wp2_with fail
    have hB0 := HB0.out
    go_region_held3 (fun w' => Bx3 w w' #[.slice A1 f.1.length c1, .slice A2 f.2.1.length c2, .slice A3 f.2.2.length c3] #[.slice B1 g.1.length d1, .slice B2 g.2.1.length d2, .slice B3 g.2.2.length d3] ∧ w'.cell? ⟨w.heap.size, 0, none⟩ = some (.slice A1 f.1.length c1) ∧ w'.cell? ⟨w.heap.size, 1, none⟩ = some (.slice A2 f.2.1.length c2) ∧ w'.cell? ⟨w.heap.size, 2, none⟩ = some (.slice A3 f.2.2.length c3) ∧ w'.cell? ⟨w.heap.size + 1, 0, none⟩ = some (.slice B1 g.1.length d1) ∧ w'.cell? ⟨w.heap.size + 1, 1, none⟩ = some (.slice B2 g.2.1.length d2) ∧ w'.cell? ⟨w.heap.size + 1, 2, none⟩ = some (.slice B3 g.2.2.length d3)) (first | assumption | exact HALL.out _ (by assumption) | exact HALL.out _ (Bx3.drew (by assumption)) | exact HALL.out _ (Bx3.alloc (by assumption : Bx3 w _ #[.slice A1 f.1.length c1, .slice A2 f.2.1.length c2, .slice A3 f.2.2.length c3] #[.slice B1 g.1.length d1, .slice B2 g.2.1.length d2, .slice B3 g.2.2.length d3] ∧ _).1 _))
      (first
        | (go_at_call_has 11 (Value.slice A1 f.1.length c1)
           refine (HCA _ (by assumption : Bx3 w _ #[.slice A1 f.1.length c1, .slice A2 f.2.1.length c2, .slice A3 f.2.2.length c3] #[.slice B1 g.1.length d1, .slice B2 g.2.1.length d2, .slice B3 g.2.2.length d3] ∧ _).1.below).mono ?_
           rintro e w1 ⟨rfl, hb1⟩
           have hB1 : Bx3 w w1 #[.slice A1 f.1.length c1, .slice A2 f.2.1.length c2, .slice A3 f.2.2.length c3] #[.slice B1 g.1.length d1, .slice B2 g.2.1.length d2, .slice B3 g.2.2.length d3] := (by assumption : Bx3 w _ #[.slice A1 f.1.length c1, .slice A2 f.2.1.length c2, .slice A3 f.2.2.length c3] #[.slice B1 g.1.length d1, .slice B2 g.2.1.length d2, .slice B3 g.2.2.length d3] ∧ _).1.later hb1)
        | (go_at_call 11
           refine (HCB _ (by assumption : Bx3 w _ #[.slice A1 f.1.length c1, .slice A2 f.2.1.length c2, .slice A3 f.2.2.length c3] #[.slice B1 g.1.length d1, .slice B2 g.2.1.length d2, .slice B3 g.2.2.length d3] ∧ _).1.below).mono ?_
           rintro e w2 ⟨rfl, hb2⟩
           have hB2 : Bx3 w w2 #[.slice A1 f.1.length c1, .slice A2 f.2.1.length c2, .slice A3 f.2.2.length c3] #[.slice B1 g.1.length d1, .slice B2 g.2.1.length d2, .slice B3 g.2.2.length d3] := (by assumption : Bx3 w _ #[.slice A1 f.1.length c1, .slice A2 f.2.1.length c2, .slice A3 f.2.2.length c3] #[.slice B1 g.1.length d1, .slice B2 g.2.1.length d2, .slice B3 g.2.2.length d3] ∧ _).1.later hb2)
        | (go_at_call 31
           refine (HOR.out _ _ (rowI2 _ _ _ _)).mono ?_
           rintro e w3 ⟨rfl, hb3⟩
           have hB3 : Bx3 w w3 #[.slice A1 f.1.length c1, .slice A2 f.2.1.length c2, .slice A3 f.2.2.length c3] #[.slice B1 g.1.length d1, .slice B2 g.2.1.length d2, .slice B3 g.2.2.length d3] := by rw [hb3]; exact (by assumption : Bx3 w _ #[.slice A1 f.1.length c1, .slice A2 f.2.1.length c2, .slice A3 f.2.2.length c3] #[.slice B1 g.1.length d1, .slice B2 g.2.1.length d2, .slice B3 g.2.2.length d3] ∧ _).1
           clear hb3))
    clear hB0 hB1 hB2
    have HB3 := Hid.mk' hB3
    clear hB3
    have t0 : w3.cell? ⟨w.heap.size + 2, 0, none⟩ = some (.slice none 0 0) := cell_at HB3.out.t rfl
    have t1 : w3.cell? ⟨w.heap.size + 2, 1, none⟩ = some (.slice none 0 0) := cell_at HB3.out.t rfl
    have t2 : w3.cell? ⟨w.heap.size + 2, 2, none⟩ = some (.slice none 0 0) := cell_at HB3.out.t rfl
    have u0 : w3.frozen? ⟨w.heap.size + 2, 0, none⟩ = false := free_at _ HB3.out.t
    have u1 : w3.frozen? ⟨w.heap.size + 2, 1, none⟩ = false := free_at _ HB3.out.t
    have u2 : w3.frozen? ⟨w.heap.size + 2, 2, none⟩ = false := free_at _ HB3.out.t
    have HS := Hid.mk' (set3 w3 (w.heap.size + 2) (.slice none 0 0) (.slice none 0 0) (.slice none 0 0) _ _ _ _ HB3.out.t)
    go_wp2_with fail
    (try simp only [Exit.inBlock, Exit.then])
    refine bodyPost_ret (results_cell_row_tmp rfl _ _ (w.heap.size + 2) 25 _ (0, 0) _ rfl HS.out.1 Tryz.underlying25 rfl (by kernel_rfl) (v := .int .i64 eo) rfl) rfl ?_
    refine ⟨_, rfl, ?_, HB3.out.below.grown HS.out.2 (by have := HB3.out.size; omega) (fun k e => by cases e; omega)⟩
    rw [HMF.out]
    exact FootOwn.nil _ _
end Go.Proofs.YtpbmcaidkjlokaaGreat
