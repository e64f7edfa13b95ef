/- The law SetsNorms, walked. -/
import Derived.Test.YtpbmcaidkjlokaaGreatNc
import Derived.Test.YtpbmcaidkjlokaaGreatAw
import Derived.Test.YtpbmcaidkjlokaaGreatSm
import Derived.Deep.RegionHeld3
namespace Go.Proofs.YtpbmcaidkjlokaaGreat
open Go.RowKit

set_option maxHeartbeats 8000000 in
set_option maxRecDepth 100000 in
theorem setsNorms_calls (A1 A2 A3 : Option Addr) (c1 c2 c3 : Nat) (f : Foot) (w : World) (h : FootIn w A1 A2 A3 f) (hf : Fit f) (hw : Wfs f) (hc1 : f.1.length ≤ c1) (hc3 : f.2.2.length ≤ c3) :
    Calls Tryz.prog 3 #[FootV A1 A2 A3 c1 c2 c3 f] w fun e w' => e = .returned (.bool true) ∧ Below w.heap.size w w' := by
  have HF := Hid.mk' h
  have hsz := hf.size
  have HFIT := Hid.mk' hf
  have HWF := Hid.mk' hw
  have HB0 : Hid (Below w.heap.size w (w.alloc (.cells #[.slice A1 f.1.length c1, .slice A2 f.2.1.length c2, .slice A3 f.2.2.length c3] 25))) := (Below.refl _ w).alloc (Nat.le_refl _) _
  have HX0 : Hid ((w.alloc (.cells #[.slice A1 f.1.length c1, .slice A2 f.2.1.length c2, .slice A3 f.2.2.length c3] 25)).heap[w.heap.size]? = some (.cells #[.slice A1 f.1.length c1, .slice A2 f.2.1.length c2, .slice A3 f.2.2.length c3] 25 (0, 0))) := World.alloc_heap_new _ _
  have HZ0 : Hid ((w.alloc (.cells #[.slice A1 f.1.length c1, .slice A2 f.2.1.length c2, .slice A3 f.2.2.length c3] 25)).heap.size = w.heap.size + 1) := by show _ = _; simp
  have HCP := fun (W : World) (hb : Below w.heap.size w W) => copy_calls A1 A2 A3 c1 c2 c3 f W (HF.out.below hb (Nat.le_refl _)) HFIT.out
  have HRN := fun (W : World) (hb : Below w.heap.size w W) => rNorm_calls A1 A2 A3 c1 c2 c3 f W (HF.out.below hb (Nat.le_refl _)) hsz hc1 hc3
  have HRC := fun (W : World) (hb : Below w.heap.size w W) => rcheck_calls A1 A2 A3 c1 c2 c3 f W (HF.out.below hb (Nat.le_refl _)) hsz
  have HNM := fun (B1 B2 B3 : Option Addr) (d1 d2 d3 : Nat) (W : World) (hi : FootIn W B1 B2 B3 f) => Norm_calls B1 B2 B3 d1 d2 d3 f W hi hsz HWF.out
  have HCK := fun (B1 B2 B3 : Option Addr) (d1 d2 d3 : Nat) (W : World) (hi : FootIn W B1 B2 B3 f) => check_calls B1 B2 B3 d1 d2 d3 f W hi hsz
  have HAW := fun W => awake_calls W
  clear h hf hw hsz
  obtain ⟨cf, HCF⟩ : ∃ cf, Hid (checkF f = cf) := ⟨_, Hid.mk' rfl⟩
  obtain ⟨nf, HNF⟩ : ∃ nf, Hid (normR f = nf) := ⟨_, Hid.mk' rfl⟩
  rw [HCF.out] at HRN HRC HNM HCK
  rw [HNF.out] at HRN HNM
  unfold FootV at HCP HRN HRC HNM HCK ⊢
  go_enter Tryz.func3, Tryz.ntmps3
  go_wp2_with fail
  refine (HCP _ HB0.out).mono ?_
  rintro e w1 ⟨v0, rfl, hv0, hb1⟩
  obtain ⟨B1, B2, B3, d1, d2, d3, rfl, hi0, -⟩ := hv0.at
  unfold FootV
  have HN1 := HNM B1 B2 B3 d1 d2 d3 w1 hi0
  have HB1 := Hid.mk' (HB0.out.trans (hb1.mono (by have := HZ0.out; omega)))
  have HX1 := Hid.mk' ((hb1.block _ (by have := HZ0.out; omega)).trans HX0.out)
  have hz1 : w.heap.size < w1.heap.size := by have := hb1.size; have := HZ0.out; omega
  clear hv0 hb1 hi0
  go_wp2_with fail
  refine HN1.mono ?_
  rintro e w2 ⟨v1, rfl, hv1, hb2⟩
  obtain ⟨G1, G2, G3, g1, g2, g3, rfl, hi1, -⟩ := hv1.at
  unfold FootV
  have HB2 := Hid.mk' (HB1.out.trans (hb2.mono (by omega)))
  have HX2 := Hid.mk' ((hb2.block _ hz1).trans HX1.out)
  have hz2 : w.heap.size < w2.heap.size := by have := hb2.size; omega
  have HI1 := Hid.mk' hi1
  clear hv1 hb2 HN1 hi1
  -- the first answer's block
  obtain ⟨GB, hGB⟩ : ∃ GB, w2.heap.size = GB := ⟨_, rfl⟩
  have hgn := World.alloc_heap_new w2 (.cells #[.slice G1 nf.1.length g1, .slice G2 nf.2.1.length g2, .slice G3 nf.2.2.length g3] 25)
  have hgs : (w2.alloc (.cells #[.slice G1 nf.1.length g1, .slice G2 nf.2.1.length g2, .slice G3 nf.2.2.length g3] 25)).heap.size = GB + 1 := by simp [hGB]
  have hgb : Below w2.heap.size w2 (w2.alloc (.cells #[.slice G1 nf.1.length g1, .slice G2 nf.2.1.length g2, .slice G3 nf.2.2.length g3] 25)) := (Below.refl _ _).alloc (Nat.le_refl _) _
  obtain ⟨WG, hWG⟩ : ∃ WG, w2.alloc (.cells #[.slice G1 nf.1.length g1, .slice G2 nf.2.1.length g2, .slice G3 nf.2.2.length g3] 25) = WG := ⟨_, rfl⟩
  rw [hWG] at hgn hgs hgb
  have HBG := Hid.mk' (HB2.out.trans (hgb.mono (by omega)))
  have hxg := (hgb.block _ hz2).trans HX2.out
  have HXG := Hid.mk' hxg
  have a0 : WG.cell? ⟨w.heap.size, 0, none⟩ = some (.slice A1 f.1.length c1) := cell_at hxg rfl
  have a1 : WG.cell? ⟨w.heap.size, 1, none⟩ = some (.slice A2 f.2.1.length c2) := cell_at hxg rfl
  have a2 : WG.cell? ⟨w.heap.size, 2, none⟩ = some (.slice A3 f.2.2.length c3) := cell_at hxg rfl
  have HGN : Hid (WG.heap[GB]? = some (.cells #[.slice G1 nf.1.length g1, .slice G2 nf.2.1.length g2, .slice G3 nf.2.2.length g3] 25 (0, 0))) := by rw [← hGB]; exact hgn
  have HIG := Hid.mk' (HI1.out.below hgb (Nat.le_refl _))
  have HZG := Hid.mk' (And.intro hgs (show w.heap.size < GB by omega))
  have HRW := HRN WG HBG.out
  clear hxg hgn hgs hgb HI1 HX1 HX2 HB1 HB2 HRN hz1 hz2 HNM
  go_wp2_with fail
  refine HRW.mono ?_
  rintro e w3 ⟨v2, rfl, hv2, hb3⟩
  obtain ⟨R1, R2, R3, r1, r2, r3, rfl, hi2, -⟩ := hv2
  unfold FootV
  clear HRW a0 a1 a2 hWG hGB
  obtain ⟨hgs, hng⟩ := HZG.out
  have hz3 : GB + 1 ≤ w3.heap.size := by have := hb3.size; omega
  have hxw := (hb3.block w.heap.size (by omega)).trans HXG.out
  have hxg := (hb3.block GB (by omega)).trans HGN.out
  have hig := HIG.out.below hb3 (Nat.le_refl _)
  have hbw := HBG.out.trans (hb3.mono (by omega))
  obtain ⟨RB, hRB⟩ : ∃ RB, w3.heap.size = RB := ⟨_, rfl⟩
  have hrn := World.alloc_heap_new w3 (.cells #[.slice R1 nf.1.length r1, .slice R2 nf.2.1.length r2, .slice R3 nf.2.2.length r3] 25)
  have hrs : (w3.alloc (.cells #[.slice R1 nf.1.length r1, .slice R2 nf.2.1.length r2, .slice R3 nf.2.2.length r3] 25)).heap.size = RB + 1 := by simp [hRB]
  have hrb : Below w3.heap.size w3 (w3.alloc (.cells #[.slice R1 nf.1.length r1, .slice R2 nf.2.1.length r2, .slice R3 nf.2.2.length r3] 25)) := (Below.refl _ _).alloc (Nat.le_refl _) _
  obtain ⟨WR, hWR⟩ : ∃ WR, w3.alloc (.cells #[.slice R1 nf.1.length r1, .slice R2 nf.2.1.length r2, .slice R3 nf.2.2.length r3] 25) = WR := ⟨_, rfl⟩
  rw [hWR] at hrn hrs hrb
  have HBR := Hid.mk' (hbw.trans (hrb.mono (by omega)))
  have y0 := (hrb.block w.heap.size (by omega)).trans hxw
  have y1 := (hrb.block GB (by omega)).trans hxg
  have y2 : WR.heap[RB]? = some (.cells #[.slice R1 nf.1.length r1, .slice R2 nf.2.1.length r2, .slice R3 nf.2.2.length r3] 25 (0, 0)) := by rw [← hRB]; exact hrn
  have HSM := Hid.mk' (And.intro (hig.below hrb (Nat.le_refl _)) (hi2.below hrb (Nat.le_refl _)))
  have HALL : Hid (∀ w' : World, Below WR.heap.size WR w' → (Below WR.heap.size WR w' ∧ w'.cell? ⟨GB, 0, none⟩ = some (.slice G1 nf.1.length g1) ∧ w'.cell? ⟨GB, 1, none⟩ = some (.slice G2 nf.2.1.length g2) ∧ w'.cell? ⟨GB, 2, none⟩ = some (.slice G3 nf.2.2.length g3) ∧ w'.cell? ⟨RB, 0, none⟩ = some (.slice R1 nf.1.length r1) ∧ w'.cell? ⟨RB, 1, none⟩ = some (.slice R2 nf.2.1.length r2) ∧ w'.cell? ⟨RB, 2, none⟩ = some (.slice R3 nf.2.2.length r3) ∧ w'.cell? ⟨w.heap.size, 0, none⟩ = some (.slice A1 f.1.length c1) ∧ w'.cell? ⟨w.heap.size, 1, none⟩ = some (.slice A2 f.2.1.length c2) ∧ w'.cell? ⟨w.heap.size, 2, none⟩ = some (.slice A3 f.2.2.length c3))) := fun w' hb => by
    have u0 := (hb.block w.heap.size (by omega)).trans y0
    have u1 := (hb.block GB (by omega)).trans y1
    have u2 := (hb.block RB (by omega)).trans y2
    exact ⟨hb, cell_at u1 rfl, cell_at u1 rfl, cell_at u1 rfl, cell_at u2 rfl, cell_at u2 rfl, cell_at u2 rfl, cell_at u0 rfl, cell_at u0 rfl, cell_at u0 rfl⟩
  have HSAME := fun (W : World) (hb : Below WR.heap.size WR W) => same_calls G1 G2 G3 R1 R2 R3 g1 g2 g3 r1 r2 r3 nf nf W (HSM.out.1.below hb (Nat.le_refl _)) (HSM.out.2.below hb (Nat.le_refl _))
  rw [show sameF nf nf = true from by simp [sameF]] at HSAME
  unfold FootV at HSAME
  have HCP' := fun (W : World) (hb : Below WR.heap.size WR W) => HCP W (HBR.out.trans (hb.mono HBR.out.size))
  have HRC' := fun (W : World) (hb : Below WR.heap.size WR W) => HRC W (HBR.out.trans (hb.mono HBR.out.size))
  clear HCP HRC hxw hxg hig hbw hrn hrb y0 y1 y2 hi2 hb3 HXG HGN HIG HBG hz3 hgs hng hrs
  go_wp2_with fail
  clear hRB hWR
  go_region_held3 (fun w' => Below WR.heap.size WR w' ∧ w'.cell? ⟨GB, 0, none⟩ = some (.slice G1 nf.1.length g1) ∧ w'.cell? ⟨GB, 1, none⟩ = some (.slice G2 nf.2.1.length g2) ∧ w'.cell? ⟨GB, 2, none⟩ = some (.slice G3 nf.2.2.length g3) ∧ w'.cell? ⟨RB, 0, none⟩ = some (.slice R1 nf.1.length r1) ∧ w'.cell? ⟨RB, 1, none⟩ = some (.slice R2 nf.2.1.length r2) ∧ w'.cell? ⟨RB, 2, none⟩ = some (.slice R3 nf.2.2.length r3) ∧ w'.cell? ⟨w.heap.size, 0, none⟩ = some (.slice A1 f.1.length c1) ∧ w'.cell? ⟨w.heap.size, 1, none⟩ = some (.slice A2 f.2.1.length c2) ∧ w'.cell? ⟨w.heap.size, 2, none⟩ = some (.slice A3 f.2.2.length c3)) (first | exact HALL.out _ (by assumption) | exact HALL.out _ ⟨rfl, rfl, rfl, Nat.le_refl _, fun _ _ => rfl⟩)
    (first
      | (go_at_call 10
         refine (HSAME _ (by assumption : _ ∧ _).1).mono ?_
         rintro e wa ⟨rfl, hba⟩
         have hBa : Below WR.heap.size WR wa := (by assumption : Below WR.heap.size WR _ ∧ _).1.trans (hba.mono (by assumption : Below WR.heap.size WR _ ∧ _).1.size))
      | (go_at_call 8
         refine (HCP' _ (by assumption : _ ∧ _).1).mono ?_
         rintro e wb ⟨vc, rfl, hvc, hbb⟩
         have hBb : Below WR.heap.size WR wb := (by assumption : Below WR.heap.size WR _ ∧ _).1.trans (hbb.mono (by assumption : Below WR.heap.size WR _ ∧ _).1.size)
         obtain ⟨K1, K2, K3, k1, k2, k3, rfl, hik, -⟩ := hvc.at
         unfold FootV)
      | (go_at_call 11
         refine (HCK K1 K2 K3 k1 k2 k3 _ hik).mono ?_
         rintro e wc ⟨rfl, hbc⟩
         have hBc : Below WR.heap.size WR wc := hBb.trans (hbc.mono hBb.size))
      | (go_at_call 12
         refine (HRC' _ (by assumption : _ ∧ _).1).mono ?_
         rintro e wd ⟨rfl, hbd⟩
         have hBd : Below WR.heap.size WR wd := (by assumption : Below WR.heap.size WR _ ∧ _).1.trans (hbd.mono (by assumption : Below WR.heap.size WR _ ∧ _).1.size))
      | (go_at_call 13
         refine (HAW _).mono ?_
         rintro e we ⟨rfl, hbe⟩
         have hBe : Below WR.heap.size WR we := (by assumption : Below WR.heap.size WR _ ∧ _).1.trans (hbe.mono (by assumption : Below WR.heap.size WR _ ∧ _).1.size)))
  go_wp2_with fail
  go_ret
  exact ⟨rfl, HBR.out.trans (hBe.mono HBR.out.size)⟩
end Go.Proofs.YtpbmcaidkjlokaaGreat
