/- The reference's normal foot, walked. -/
import Derived.Test.YtpbmcaidkjlokaaGreatRN
import Derived.Test.YtpbmcaidkjlokaaGreatCk
import Derived.Deep.RegionHeld3
import Derived.Deep.AppendLies
namespace Go.Proofs.YtpbmcaidkjlokaaGreat
open Go.RowKit

/-- A block that is none of the foot's: the foot outlives what is written there. -/
def Spare (w w' : World) (A3 : Option Addr) (f : Foot) (v : Value) : Prop := ∀ r, r < w.heap.size → (f.2.2 = [] ∨ ∀ a, A3 = some a → a.block ≠ r) → ∀ w'', w'.grownBy w'' (some r) → FootAt w'' v (normF f)
theorem own_or_none (v : Value) : v.ownBlock = none ∨ v.ownBlock ≠ none := by cases v.ownBlock <;> simp
theorem grown_drewN (w : World) (n : Nat) : w.grownBy (w.drewN n) none := ⟨rfl, rfl, rfl, Nat.le_refl _, fun _ _ _ => rfl⟩
set_option maxHeartbeats 8000000 in
set_option maxRecDepth 100000 in
theorem rnormal_calls (A1 A2 A3 : Option Addr) (c1 c2 c3 : Nat) (f : Foot) (w : World) (h : FootIn w A1 A2 A3 f) (hlen : sizeF f ≤ 65536) (hc1 : f.1.length ≤ c1) (hc3 : f.2.2.length ≤ c3) :
    Calls Tryz.prog 22 #[FootV A1 A2 A3 c1 c2 c3 f] w fun e w' => ∃ v, e = .returned v ∧ FootAt w' v (normF f) ∧ Below w.heap.size w w' ∧ Spare w w' A3 f v := by
  have HF := Hid.mk' h
  unfold sizeF at hlen
  have hl1 : f.1.length ≤ 65536 := by omega
  have hl2 : f.2.1.length ≤ 65536 := by omega
  have hl3 : f.2.2.length ≤ 65536 := by omega
  obtain ⟨i0, hi0, x0, x1, x2⟩ := info_parts info_Rn
  obtain ⟨i1, hi1, y0, y1, y2⟩ := info_parts info_Sp
  obtain ⟨i2, hi2, z0, z1, z2⟩ := info_parts info_Pt
  have HC13 := Hid.mk' (And.intro hc1 hc3)
  clear h hlen hc1 hc3
  unfold FootV
  have HB0 : Hid (Below w.heap.size w ((w.alloc (.cells #[.slice A1 f.1.length c1, .slice A2 f.2.1.length c2, .slice A3 f.2.2.length c3] 25)).alloc (.cells #[.slice none 0 0, .slice none 0 0, .slice none 0 0] 25))) := ((Below.refl _ w).alloc (Nat.le_refl _) _).alloc (by simp) _
  have HS3 := Hid.mk' (sorted_calls f.2.2.length f.2.2 A3 c3 ((w.alloc (.cells #[.slice A1 f.1.length c1, .slice A2 f.2.1.length c2, .slice A3 f.2.2.length c3] 25)).alloc (.cells #[.slice none 0 0, .slice none 0 0, .slice none 0 0] 25)) rfl (HF.out.wrs.below HB0.out (Nat.le_refl _)) HC13.out.2 (by omega))
  have H0a : Hid (((w.alloc (.cells #[.slice A1 f.1.length c1, .slice A2 f.2.1.length c2, .slice A3 f.2.2.length c3] 25)).alloc (.cells #[.slice none 0 0, .slice none 0 0, .slice none 0 0] 25)).heap[w.heap.size]? = some (.cells #[.slice A1 f.1.length c1, .slice A2 f.2.1.length c2, .slice A3 f.2.2.length c3] 25 (0, 0))) := by
    show _ = _
    rw [Below.heap_alloc _ _ _ (by simp)]; exact World.alloc_heap_new _ _
  have H0t : Hid (((w.alloc (.cells #[.slice A1 f.1.length c1, .slice A2 f.2.1.length c2, .slice A3 f.2.2.length c3] 25)).alloc (.cells #[.slice none 0 0, .slice none 0 0, .slice none 0 0] 25)).heap[w.heap.size + 1]? = some (.cells #[.slice none 0 0, .slice none 0 0, .slice none 0 0] 25 (0, 0))) := by
    show _ = _
    have := World.alloc_heap_new (w.alloc (.cells #[.slice A1 f.1.length c1, .slice A2 f.2.1.length c2, .slice A3 f.2.2.length c3] 25)) (.cells #[.slice none 0 0, .slice none 0 0, .slice none 0 0] 25)
    rwa [World.size_alloc] at this
  go_enter Tryz.func22, Tryz.ntmps22
  go_wp2_with fail
  refine HS3.out.mono ?_
  rintro e w1 ⟨Az, cz, rfl, hcz, hrz, hbz, hfz⟩
  obtain ⟨WL, hWL⟩ : ∃ WL, VP.ssort toPt f.2.2 = WL := ⟨_, rfl⟩
  rw [hWL] at hcz hrz ⊢
  have hWl : WL.length ≤ 65536 := by have := VP.length_ssort_le toPt f.2.2; rw [hWL] at this; omega
  have HWL := Hid.mk' hWL
  have hs1 : w.heap.size + 2 ≤ w1.heap.size := by have := hbz.size; simp at this; omega
  have ha1 := (hbz.block w.heap.size (by simp; omega)).trans H0a.out
  have ht1 := (hbz.block (w.heap.size + 1) (by simp)).trans H0t.out
  have hb1 := HB0.out.trans (hbz.mono (by simp; omega))
  have HZF : Hid (WL = [] ∨ ∀ a, Az = some a → a.block ≠ w.heap.size + 1 ∧ a.block < w1.heap.size) := by
    rcases hrz.2 with e4 | ⟨b4, off4, e4, hlt4, _⟩
    · exact .inl e4
    · rcases HF.out.wrs.2 with e3 | ⟨b, off, e3, hlt3, _⟩
      · left
        rw [← hWL, e3]; rfl
      · right
        intro a ea
        rw [ea] at e4
        cases e4
        refine ⟨fun e => ?_, hlt4⟩
        rcases hfz _ ea with h | h
        · rw [e3] at h; simp at h; simp at e; omega
        · simp at h e; omega
  have HFZ : Hid (∀ a, Az = some a → A3.map (·.block) = some a.block ∨ w.heap.size + 2 ≤ a.block) := fun a ea => (hfz a ea).imp id (fun h => by simpa using h)
  clear hWL hfz
  have HRZ := Hid.mk' hrz
  have HCZ := Hid.mk' hcz
  clear hrz hcz hbz HS3 HB0 H0a H0t
  -- the new foot's block
  obtain ⟨M, hM⟩ : ∃ M, w1.heap.size = M := ⟨_, rfl⟩
  have hM1 : w.heap.size + 1 < M := by omega
  have hgz : w1.grownBy (w1.alloc (.cells #[.slice none 0 0, .slice none 0 0, .slice Az WL.length cz] 25)) none := World.grownBy_alloc _ _ none
  have hbm : Below w.heap.size w (w1.alloc (.cells #[.slice none 0 0, .slice none 0 0, .slice Az WL.length cz] 25)) := hb1.alloc (by omega) _
  have hma := (hgz.block w.heap.size (by omega) (by simp)).trans ha1
  have hmt := (hgz.block (w.heap.size + 1) (by omega) (by simp)).trans ht1
  have hmo : (w1.alloc (.cells #[.slice none 0 0, .slice none 0 0, .slice Az WL.length cz] 25)).heap[M]? = some (.cells #[.slice none 0 0, .slice none 0 0, .slice Az WL.length cz] 25 (0, 0)) := by rw [← hM]; exact World.alloc_heap_new _ _
  have hms : (w1.alloc (.cells #[.slice none 0 0, .slice none 0 0, .slice Az WL.length cz] 25)).heap.size = M + 1 := by simp [hM]
  obtain ⟨WM, hWM⟩ : ∃ WM, w1.alloc (.cells #[.slice none 0 0, .slice none 0 0, .slice Az WL.length cz] 25) = WM := ⟨_, rfl⟩
  rw [hWM] at hgz hbm hma hmt hmo hms
  have HPL := Hid.mk' (places_calls A2 c2 f.2.1 WM (HF.out.sps.below hbm (Nat.le_refl _)) (by omega))
  have km : WM.cell? ⟨w.heap.size, 1, none⟩ = some (.slice A2 f.2.1.length c2) := cell_at hma rfl
  have HRZM := Hid.mk' (HRZ.out.via hgz.size (fun a _ ha => hgz.block a.block ha (by simp)))
  have HMS := Hid.mk' (And.intro hbm (And.intro hma (And.intro hmt (And.intro hmo hms))))
  clear hgz hbm hma hmt hmo hms ha1 ht1 hb1 HRZ
  go_wp2_with fail
  refine HPL.out.mono ?_
  rintro e wp ⟨Ap, cp, rfl, hcp, hrp, hbp, hfp⟩
  obtain ⟨hbm, hma, hmt, hmo, hms⟩ := HMS.out
  obtain ⟨PL, hPL⟩ : ∃ PL, VP.ssort toPt (f.2.1.map placeP) = PL := ⟨_, rfl⟩
  have HPM : Hid (PL.map plP = VP.ssort toPl (f.2.1.map splS)) := by show _ = _; rw [← hPL]; exact places_eq _
  rw [hPL] at hcp hrp ⊢
  have hPl : PL.length ≤ 65536 := by have := VP.length_ssort_le toPt (f.2.1.map placeP); rw [hPL] at this; simp at this; omega
  have hps : M < wp.heap.size := by have := hbp.size; omega
  have HRN : Hid (RN (M + 1) wp.heap.size w wp wp M #[.slice A1 f.1.length c1, .slice A2 f.2.1.length c2, .slice A3 f.2.2.length c3] (.slice none 0 0) (.slice none 0 0) (.slice Az WL.length cz) [] []) :=
    ⟨hbm.trans (hbp.mono (by omega)), (hbp.block _ (by omega)).trans hma, (hbp.block _ (by omega)).trans hmt, hM1, hps, ⟨rfl, rfl, rfl, Nat.le_refl _, fun _ _ _ => rfl⟩, (hbp.block _ (by omega)).trans hmo, Nat.lt_succ_self _, hps, Own.nil _ _ _, Own.nil _ _ _⟩
  have HPR : Hid (RowIn ePt 3 wp Ap PL) := hrp
  have HRZP : Hid (RowIn ePt 3 wp Az WL) := HRZM.out.below hbp (Nat.le_refl _)
  have HPF : Hid (∀ a, Ap = some a → M < a.block) := fun a ea => by have := hfp a ea; omega
  clear hPL hcp hrp hbp hfp hbm hma hmt hmo hms km HMS HPL hWM
  go_wp2_with fail
  go_loopw [5] (fun s5 wr => ∃ (i : Nat) (y : Value), i ≤ PL.length ∧ s5 = .int .i64 i ∧ Hid (RN (M + 1) wp.heap.size w wp wr M #[.slice A1 f.1.length c1, .slice A2 f.2.1.length c2, .slice A3 f.2.2.length c3] (.slice none 0 0) y (.slice Az WL.length cz) [] (outS f.2.1 (PL.map plP) i))) (fun s5 _ => PL.length - (intOf s5).toNat)
  case atStart => exact ⟨0, .slice none 0 0, Nat.zero_le _, rfl, HRN⟩
  case round =>
    obtain ⟨i, y, hi, rfl, HR⟩ := hrel
    by_cases hlt : i < PL.length
    · have hltz : (i : Int) < (PL.length : Int) := by omega
      obtain ⟨p, hp⟩ : ∃ p, PL[i]? = some p := ⟨_, List.getElem?_eq_getElem hlt⟩
      obtain ⟨bp, offp, rfl, hbp, hcp⟩ := HPR.out.at_ hlt
      have ep : PL[i] = p := (List.getElem?_eq_some_iff.1 hp).2
      rw [ep] at hcp
      have hbM : M < bp := HPF.out _ rfl
      have HPC : Hid (∀ (W : World) (y : Value) (S : List Sp), RN (M + 1) wp.heap.size w wp W M #[.slice A1 f.1.length c1, .slice A2 f.2.1.length c2, .slice A3 f.2.2.length c3] (.slice none 0 0) y (.slice Az WL.length cz) [] S → W.cell? ⟨bp, offp + i * 3, none⟩ = some (.int .i64 p.t) ∧ W.cell? ⟨bp, offp + i * 3 + 1, none⟩ = some (.int .i64 p.i)) := fun W y S hR =>
        ⟨(hR.cell (a := ⟨bp, _, none⟩) hbp (by simp only [ne_eq]; omega)).trans (hcp 0 _ rfl), (hR.cell (a := ⟨bp, _, none⟩) hbp (by simp only [ne_eq]; omega)).trans (hcp 1 _ rfl)⟩
      obtain ⟨q, HQ⟩ : ∃ q, Hid (plP p = q) := ⟨_, Hid.mk' rfl⟩
      have HOS : Hid (outS f.2.1 (PL.map plP) (i + 1) = outS f.2.1 (PL.map plP) i ++ (unionP (rangesOf f.2.1 q)).map (mkS q)) := by
        show _ = _
        exact outS_succ (by rw [List.getElem?_map, hp, ← HQ.out]; rfl)
      have HOL : Hid ((outS f.2.1 (PL.map plP) i).length ≤ 65536 * 65536) := by
        show _ ≤ _
        have h1 := outS_len f.2.1 (PL.map plP) i (by simpa using hi)
        have h2 := Nat.mul_le_mul (show i ≤ 65536 by omega) hl2
        omega
      clear hcp ep hp
      obtain ⟨T0, hT0⟩ : ∃ T0, outS f.2.1 (PL.map plP) i = T0 := ⟨_, rfl⟩
      rw [hT0] at HR HOS HOL
      clear hT0
      obtain ⟨V0, hV0⟩ : ∃ V0, V0 = wr := ⟨_, rfl⟩
      subst hV0
      go_wp2_with fail
      go_loopw [6, 7] (fun s6 s7 wi => ∃ k : Nat, k ≤ f.2.1.length ∧ s7 = .int .i64 k ∧ Hid (Own eRn 3 44 V0.heap.size wi s6 (rangesOf (f.2.1.take k) q)) ∧ Hid (V0.grownBy wi none)) (fun _ s7 _ => f.2.1.length - (intOf s7).toNat)
      case atStart => exact ⟨0, Nat.zero_le _, rfl, Hid.mk' (World.ownsRow_made V0 #[] 0 (Nat.le_refl _) (Nat.zero_le _) (by simp)), Hid.mk' (World.grownBy_alloc _ _ none)⟩
      case round =>
        obtain ⟨k, hk, rfl, HO, HGI⟩ := hrel
        have HRI := Hid.mk' (HR.out.later HGI.out)
        have ka : wr.cell? ⟨w.heap.size, 1, none⟩ = some (.slice A2 f.2.1.length c2) := cell_at HRI.out.arg rfl
        obtain ⟨p0, p1⟩ := HPC.out _ _ _ HRI.out
        have hwi := HGI.out.size
        by_cases hlk : k < f.2.1.length
        · have hlkz : (k : Int) < (f.2.1.length : Int) := by omega
          obtain ⟨s, hs⟩ : ∃ s, f.2.1[k]? = some s := ⟨_, List.getElem?_eq_getElem hlk⟩
          obtain ⟨b, off, rfl, hbl, hcell⟩ := HF.out.sps.at_ hlk
          have es : f.2.1[k] = s := (List.getElem?_eq_some_iff.1 hs).2
          rw [es] at hcell
          have hcw : ∀ j u, (eSp s)[j]? = some u → wr.cell? ⟨b, off + k * 5 + j, none⟩ = some u := fun j u hu => (HRI.out.below.cell (p := ⟨b, _, none⟩) hbl).trans (hcell j u hu)
          have d0 : wr.cell? ⟨b, off + k * 5, none⟩ = some (.int .i64 s.t) := hcw 0 _ rfl
          have d1 : wr.cell? ⟨b, off + k * 5 + 1, none⟩ = some (.int .i64 s.i) := hcw 1 _ rfl
          have d2 : wr.cell? ⟨b, off + k * 5 + 2, none⟩ = some (.string s.r.lo) := hcw 2 _ rfl
          have d3 : wr.cell? ⟨b, off + k * 5 + 3, none⟩ = some (.string s.r.hi) := hcw 3 _ rfl
          have d4 : wr.cell? ⟨b, off + k * 5 + 4, none⟩ = some (.bool s.r.op) := hcw 4 _ rfl
          have HTK : Hid (f.2.1.take (k + 1) = f.2.1.take k ++ [s]) := by show _ = _; rw [List.take_succ_eq_append_getElem hlk, es]
          clear hcell hcw hs es
          have hown := HO.out
          by_cases h1 : s.t = p.t
          · by_cases h2 : s.i = p.i
            · have g1 : (s.t == p.t) = true := beq_iff_eq.2 h1
              have g2 : (s.i == p.i) = true := beq_iff_eq.2 h2
              have HSQ : Hid (splS s = q) := by show _ = _; rw [← HQ.out]; show (⟨s.t, s.i⟩ : Pl) = ⟨p.t, p.i⟩; rw [h1, h2]
              obtain ⟨Ao, co, rfl, hco⟩ := HO.out.shape
              have hrl : (rangesOf (f.2.1.take k) q).length ≤ 65536 := Nat.le_trans (rangesOf_len _ _) (by simp; omega)
              clear h1 h2
              go_wp2_with fail
              go_quiet (fail)
              go_wp2_with (at_builtin; go_loud (refine wpList_append_own _ rfl _ _ 70 rfl V0.heap.size 44 i0 _ 3 40 Tryz.underlying70 hi0 x0 x1 x2 rfl (by decide) _ _ _ rfl (World.ownsRow.alloc hown _) ⟨wr.heap.size, 0, none⟩ 1 1 (eRn s.r) rfl rfl (new_cells rfl rfl) (eRn_one _) (by unfold maxLen; omega) (by omega) (by simp; omega) ?_))
              intro v' w4 hown4 hgr4 _
              have HOW : Hid (Own eRn 3 44 V0.heap.size w4 v' (rangesOf (f.2.1.take k) q ++ [s.r])) := own_snoc hown4
              have HG4 : Hid (V0.grownBy w4 none) := ((HGI.out.andThen (grown_drewN _ _) (fun j e => by cases e)).andThen (World.grownBy_alloc _ _ none) (fun j e => by cases e)).andThen hgr4 (fun j e => .inl (World.ownsRow.lt hown j e).1)
              clear hown4 hgr4
              go_wp2_with fail
              go_roundw
              case rel =>
                refine ⟨k + 1, by omega, by go_num, ?_, HG4⟩
                refine Hid.mk' ?_
                rw [HTK.out, rangesOf_snoc', if_pos HSQ.out]; exact HOW.out
              case measure => simp [intOf]; omega
            · have g1 : (s.t == p.t) = true := beq_iff_eq.2 h1
              have g2 : (s.i == p.i) = false := beq_eq_false_iff_ne.2 h2
              have HSQ : Hid (¬ splS s = q) := by show ¬ _; rw [← HQ.out]; intro e; exact h2 (congrArg Pl.b e)
              clear h1 h2
              go_wp2_with fail
              go_quiet (fail)
              go_wp2_with fail
              go_roundw
              case rel =>
                refine ⟨k + 1, by omega, by go_num, ?_, Hid.mk' (HGI.out.andThen (grown_drewN _ _) (fun j e => by cases e))⟩
                refine Hid.mk' ?_
                rw [HTK.out, rangesOf_snoc', if_neg HSQ.out, List.append_nil]; exact own_drewN HO.out _
              case measure => simp [intOf]; omega
          · have g1 : (s.t == p.t) = false := beq_eq_false_iff_ne.2 h1
            have HSQ : Hid (¬ splS s = q) := by show ¬ _; rw [← HQ.out]; intro e; exact h1 (congrArg Pl.a e)
            clear h1
            go_wp2_with fail
            go_quiet (fail)
            go_wp2_with fail
            go_roundw
            case rel =>
              refine ⟨k + 1, by omega, by go_num, ?_, Hid.mk' (HGI.out.andThen (grown_drewN _ _) (fun j e => by cases e))⟩
              refine Hid.mk' ?_
              rw [HTK.out, rangesOf_snoc', if_neg HSQ.out, List.append_nil]; exact own_drewN HO.out _
            case measure => simp [intOf]; omega
        · have hlkz : ¬ (k : Int) < (f.2.1.length : Int) := by omega
          have hke : f.2.1.take k = f.2.1 := List.take_of_length_le (by omega)
          rw [hke] at HO
          obtain ⟨Al, cl, rfl, hcl⟩ := HO.out.shape
          have hrl : (rangesOf f.2.1 q).length ≤ 65536 := Nat.le_trans (rangesOf_len _ _) hl2
          have HU := runion_calls Al cl (rangesOf f.2.1 q) wr (HO.out.row eRn_len).2 (by omega)
          have HUL : Hid ((unionP (rangesOf f.2.1 q)).length ≤ 65536) := Nat.le_trans (unionP_len _) hrl
          clear hke p0 p1
          go_wp2_with fail
          refine HU.mono ?_
          rintro e wu ⟨uv, rfl, hou, hbu⟩
          clear HU ka
          obtain ⟨U, hU⟩ : ∃ U, unionP (rangesOf f.2.1 q) = U := ⟨_, rfl⟩
          rw [hU] at hou HUL HOS
          obtain ⟨Au, cu, rfl, hcu⟩ := hou.shape
          have HGU : Hid (wr.grownBy wu none) := ⟨hbu.os, hbu.tape, hbu.output, hbu.size, fun j hj _ => hbu.block j hj⟩
          have HRU := Hid.mk' (HRI.out.later HGU.out)
          have HOU := Hid.mk' hou
          have hul := HUL.out
          obtain ⟨UB, HUB⟩ : ∃ UB, Hid (wr.heap.size = UB) := ⟨_, Hid.mk' rfl⟩
          rw [HUB.out] at HOU
          have HMU : Hid (M < UB) := by have := HRI.out.m2; have := HRI.out.gr.size; have := HUB.out; show _ < _; omega
          clear hU hou hbu hcu HRI HO HGI HGU HR
          go_wp2_with fail
          go_loopw [9] (fun s9 W => ∃ (j : Nat) (y : Value), j ≤ U.length ∧ s9 = .int .i64 j ∧ Hid (RN (M + 1) wp.heap.size w wp W M #[.slice A1 f.1.length c1, .slice A2 f.2.1.length c2, .slice A3 f.2.2.length c3] (.slice none 0 0) y (.slice Az WL.length cz) [] (T0 ++ (U.take j).map (mkS q))) ∧ Hid (Own eRn 3 44 UB W (.slice Au U.length cu) U)) (fun s9 _ => U.length - (intOf s9).toNat)
          case atStart => exact ⟨0, y, Nat.zero_le _, rfl, by show RN _ _ _ _ _ _ _ _ _ _ _ _; rw [List.take_zero, List.map_nil, List.append_nil]; exact HRU.out, HOU⟩
          case round =>
            obtain ⟨j, y, hj, rfl, HRJ, HOJ⟩ := hrel
            obtain ⟨p0, p1⟩ := HPC.out _ _ _ HRJ.out
            by_cases hlj : j < U.length
            · have hljz : (j : Int) < (U.length : Int) := by omega
              obtain ⟨u, hu⟩ : ∃ u, U[j]? = some u := ⟨_, List.getElem?_eq_getElem hlj⟩
              obtain ⟨gu, cuu, hAu, hgu1, hgu2⟩ := own_some HOJ.out (by intro e; rw [e] at hlj; simp at hlj)
              simp only [Value.slice.injEq] at hAu
              obtain ⟨rfl, -, rfl⟩ := hAu
              have e0 : wr.cell? ⟨gu, j * 3, none⟩ = some (.string u.lo) := HOJ.out.cell eRn_len hu (i := 0) rfl
              have e1 : wr.cell? ⟨gu, j * 3 + 1, none⟩ = some (.string u.hi) := HOJ.out.cell eRn_len hu (i := 1) rfl
              have e2 : wr.cell? ⟨gu, j * 3 + 2, none⟩ = some (.bool u.op) := HOJ.out.cell eRn_len hu (i := 2) rfl
              have HTU : Hid (T0 ++ (U.take (j + 1)).map (mkS q) = (T0 ++ (U.take j).map (mkS q)) ++ [(⟨p.t, p.i, u⟩ : Sp)]) := by
                show _ = _
                rw [List.take_succ_eq_append_getElem hlj, List.map_append, ← List.append_assoc]
                congr 1
                rw [(List.getElem?_eq_some_iff.1 hu).2]
                show [mkS q u] = _
                rw [← HQ.out]; rfl
              obtain ⟨T1, hT1⟩ : ∃ T1, T0 ++ (U.take j).map (mkS q) = T1 := ⟨_, rfl⟩
              have hT1l : T1.length ≤ 65536 * 65536 + 65536 := by
                rw [← hT1, List.length_append, List.length_map, List.length_take]; have := HOL.out; omega
              rw [hT1] at HRJ HTU
              obtain ⟨Ay, cy, rfl, hcy⟩ := HRJ.out.py.shape
              have hown : wr.ownsRow wp.heap.size 46 5 (.slice Ay T1.length cy) T1.length (T1.flatMap eSp) := HRJ.out.py
              have ko : wr.cell? ⟨M, 1, none⟩ = some (.slice Ay T1.length cy) := cell_at HRJ.out.o rfl
              have fo : wr.frozen? ⟨M, 1, none⟩ = false := free_at _ HRJ.out.o
              have hwz : wp.heap.size ≤ wr.heap.size := HRJ.out.gr.size
              have hMp := HRJ.out.m2
              have hMU := HMU.out
              have HNE := Hid.mk' (own_blk_ne (by decide) HOJ.out HRJ.out.py)
              have HFR : Hid (∀ w4 : World, (wr.alloc (.cells #[.int .i64 p.t, .int .i64 p.i, .string u.lo, .string u.hi, .bool u.op] 46)).drew.grownBy w4 (Value.slice Ay T1.length cy).ownBlock → (∀ a : Addr, a.block < wp.heap.size → w4.cell? a = wr.cell? a ∧ w4.frozen? a = wr.frozen? a) ∧ ∀ o, w4.cell? ⟨gu, o, none⟩ = wr.cell? ⟨gu, o, none⟩) := fun w4 hg =>
                ⟨fun a ha => far_cell hown hwz hg a ha, fun o => World.cell?_of_block ((hg.block gu (by show gu < (wr.alloc _).heap.size; simp; omega) (fun e => by
                  rcases HNE.out with h | h
                  · cases h
                  · exact h e)).trans (Below.heap_alloc _ _ _ hgu2))⟩
              have hbpM : bp ≠ M := by omega
              have hguM : gu ≠ M := by omega
              have hMw : M < wr.heap.size := by omega
              clear hT1 hu hcy
              go_wp2_with fail
              refine wp_region_noPanic ?_
              refine wp_region_held_drew (S := (fun w' => w'.cell? ⟨bp, offp + i * 3, none⟩ = some (.int .i64 p.t) ∧ w'.cell? ⟨bp, offp + i * 3 + 1, none⟩ = some (.int .i64 p.i) ∧ w'.cell? ⟨gu, j * 3, none⟩ = some (.string u.lo) ∧ w'.cell? ⟨gu, j * 3 + 1, none⟩ = some (.string u.hi) ∧ w'.cell? ⟨gu, j * 3 + 2, none⟩ = some (.bool u.op))) (by kernel_rfl) ?_ (fun hHeld => ?_)
              · (first | (refine ⟨?_, ?_, ?_, ?_, ?_⟩ <;> (refine (World.cell?_setCell_far _ _ _ _ (by simp only [ne_eq]; omega)).trans ?_; assumption)) | go_keep)
              refine wpAnyH_take (i := 0) (v := ?_) rfl (by kernel_rfl) (by kernel_rfl) (by kernel_rfl) (fun _ _ _ h => h) (Or.inl ⟨by rfl, ?_⟩) (by assumption) ?_
              rotate_left
              · intro w hSw
                (try dsimp only at hSw)
                first | (go_simp; with_reducible rfl) | go_simp
              (try simp only [Act.put, List.setIfInBounds_toArray, List.set_cons_zero, List.set_cons_succ])
              refine wpAnyH_take (i := 2) (v := ?_) rfl (by kernel_rfl) (by kernel_rfl) (by kernel_rfl) (fun _ _ _ h => h) (Or.inl ⟨by rfl, ?_⟩) (by assumption) ?_
              rotate_left
              · intro w hSw
                (try dsimp only at hSw)
                first | (go_simp; with_reducible rfl) | go_simp
              (try simp only [Act.put, List.setIfInBounds_toArray, List.set_cons_zero, List.set_cons_succ])
              refine wpAnyH_take (i := 3) (v := ?_) rfl (by kernel_rfl) (by kernel_rfl) (by kernel_rfl) (fun _ _ _ h => h) (Or.inl ⟨by rfl, ?_⟩) (by assumption) ?_
              rotate_left
              · intro w hSw
                (try dsimp only at hSw)
                first | (go_simp; with_reducible rfl) | go_simp
              (try simp only [Act.put, List.setIfInBounds_toArray, List.set_cons_zero, List.set_cons_succ])
              refine wpAnyH_take (i := 4) (v := ?_) rfl (by kernel_rfl) (by kernel_rfl) (by kernel_rfl) (fun _ _ _ h => h) (Or.inl ⟨by rfl, ?_⟩) (by assumption) ?_
              rotate_left
              · intro w hSw
                (try dsimp only at hSw)
                first | (go_simp; with_reducible rfl) | go_simp
              (try simp only [Act.put, List.setIfInBounds_toArray, List.set_cons_zero, List.set_cons_succ])
              refine wpAnyH_take (i := 5) (v := ?_) rfl (by kernel_rfl) (by kernel_rfl) (by kernel_rfl) (fun _ _ _ h => h) (Or.inl ⟨by rfl, ?_⟩) (by assumption) ?_
              rotate_left
              · intro w hSw
                (try dsimp only at hSw)
                first | (go_simp; with_reducible rfl) | go_simp
              (try simp only [Act.put, List.setIfInBounds_toArray, List.set_cons_zero, List.set_cons_succ])
              refine wpAnyH_take (i := 6) (v := ?_) rfl (by kernel_rfl) (by kernel_rfl) (by kernel_rfl) (fun _ _ _ h => h) (Or.inl ⟨by rfl, ?_⟩) (by assumption) ?_
              rotate_left
              · intro w hSw
                (try dsimp only at hSw)
                first | (go_simp; with_reducible rfl) | go_simp
              (try simp only [Act.put, List.setIfInBounds_toArray, List.set_cons_zero, List.set_cons_succ])
              refine wpAnyH_take (i := 7) (v := ?_) rfl (by kernel_rfl) (by kernel_rfl) (by kernel_rfl) (fun _ _ _ h => h) (Or.inl ⟨by rfl, ?_⟩) (by assumption) ?_
              rotate_left
              · intro w hSw
                (try dsimp only at hSw)
                first | (go_simp; with_reducible rfl) | go_simp
              (try simp only [Act.put, List.setIfInBounds_toArray, List.set_cons_zero, List.set_cons_succ])
              refine wpAnyH_take (i := 8) (v := ?_) rfl (by kernel_rfl) (by kernel_rfl) (by kernel_rfl) (fun _ _ _ h => h) (Or.inl ⟨by rfl, ?_⟩) (by assumption) ?_
              rotate_left
              · intro w hSw
                (try dsimp only at hSw)
                first | (go_simp; with_reducible rfl) | go_simp
              (try simp only [Act.put, List.setIfInBounds_toArray, List.set_cons_zero, List.set_cons_succ])
              refine wpAnyH_take (i := 9) (v := ?_) rfl (by kernel_rfl) (by kernel_rfl) (by kernel_rfl) (fun _ _ _ h => h) (Or.inl ⟨by rfl, ?_⟩) (by assumption) ?_
              rotate_left
              · intro w hSw
                (try dsimp only at hSw)
                first | (go_simp; with_reducible rfl) | go_simp
              (try simp only [Act.put, List.setIfInBounds_toArray, List.set_cons_zero, List.set_cons_succ])
              refine wpAnyH_take (i := 10) (v := ?_) rfl (by kernel_rfl) (by kernel_rfl) (by kernel_rfl) (fun _ _ _ h => h) (Or.inl ⟨by rfl, ?_⟩) (by assumption) ?_
              rotate_left
              · intro w hSw
                (try dsimp only at hSw)
                first | (go_simp; with_reducible rfl) | go_simp
              (try simp only [Act.put, List.setIfInBounds_toArray, List.set_cons_zero, List.set_cons_succ])
              refine wpAnyH_take (i := 11) (v := ?_) rfl (by kernel_rfl) (by kernel_rfl) (by kernel_rfl) (fun _ _ _ h => h) (Or.inl ⟨by rfl, ?_⟩) (by assumption) ?_
              rotate_left
              · intro w hSw
                (try dsimp only at hSw)
                first | (go_simp; with_reducible rfl) | go_simp
              (try simp only [Act.put, List.setIfInBounds_toArray, List.set_cons_zero, List.set_cons_succ])
              refine wpAnyH_take (i := 12) (v := ?_) rfl (by kernel_rfl) (by kernel_rfl) (by kernel_rfl) (fun _ _ _ h => h) (Or.inl ⟨by rfl, ?_⟩) (by assumption) ?_
              rotate_left
              · intro w hSw
                (try dsimp only at hSw)
                first | (go_simp; with_reducible rfl) | go_simp
              (try simp only [Act.put, List.setIfInBounds_toArray, List.set_cons_zero, List.set_cons_succ])
              refine wpAnyH_take (i := 13) (v := ?_) rfl (by kernel_rfl) (by kernel_rfl) (by kernel_rfl) (fun _ _ _ h => h) (Or.inl ⟨by rfl, ?_⟩) (by assumption) ?_
              rotate_left
              · intro w hSw
                (try dsimp only at hSw)
                first | (go_simp; with_reducible rfl) | go_simp
              (try simp only [Act.put, List.setIfInBounds_toArray, List.set_cons_zero, List.set_cons_succ])
              refine wpAnyH_take (i := 14) (v := ?_) rfl (by kernel_rfl) (by kernel_rfl) (by kernel_rfl) (fun _ _ _ h => h) (Or.inl ⟨by rfl, ?_⟩) (by assumption) ?_
              rotate_left
              · intro w hSw
                (try dsimp only at hSw)
                first | (go_simp; with_reducible rfl) | go_simp
              (try simp only [Act.put, List.setIfInBounds_toArray, List.set_cons_zero, List.set_cons_succ])
              refine wpAnyH_take (i := 15) (v := ?_) rfl (by kernel_rfl) (by kernel_rfl) (by kernel_rfl) (fun _ _ _ h => h) (Or.inl ⟨by rfl, ?_⟩) (by assumption) ?_
              rotate_left
              · intro w hSw
                (try dsimp only at hSw)
                first | (go_simp; with_reducible rfl) | go_simp
              (try simp only [Act.put, List.setIfInBounds_toArray, List.set_cons_zero, List.set_cons_succ])
              refine wpAnyH_take (i := 16) (v := ?_) rfl (by kernel_rfl) (by kernel_rfl) (by kernel_rfl) (fun _ _ _ h => h) (Or.inl ⟨by rfl, ?_⟩) (by assumption) ?_
              rotate_left
              · intro w hSw
                (try dsimp only at hSw)
                first | (go_simp; with_reducible rfl) | go_simp
              (try simp only [Act.put, List.setIfInBounds_toArray, List.set_cons_zero, List.set_cons_succ])
              refine wpAnyH_ready (rs := [1, 17]) (by kernel_rfl) (by simp) ?_
              refine AllReadyH.cons (i := 1) rfl (fun K hK => ?_) ?_
              · go_simp
                refine hK.out _ _ ?_ (fun hHeld => ?_)
                · (first | (refine ⟨?_, ?_, ?_, ?_, ?_⟩ <;> (refine (World.cell?_setCell_far _ _ _ _ (by simp only [ne_eq]; omega)).trans ?_; assumption)) | go_keep)
                clear hK K
                (try simp only [Act.put, List.setIfInBounds_toArray, List.set_cons_zero, List.set_cons_succ])
                refine wpAnyH_ready (rs := [17]) (by kernel_rfl) (by simp) ?_
                refine AllReadyH.cons (i := 17) rfl (fun K hK => ?_) ?_
                · go_simp
                  refine hK.out _ _ ?_ (fun hHeld => ?_)
                  · (first | (refine ⟨?_, ?_, ?_, ?_, ?_⟩ <;> (refine (World.cell?_setCell_far _ _ _ _ (by simp only [ne_eq]; omega)).trans ?_; assumption)) | go_keep)
                  clear hK K
                  (try simp only [Act.put, List.setIfInBounds_toArray, List.set_cons_zero, List.set_cons_succ])
                  refine wpAnyH_ready (rs := [18]) (by kernel_rfl) (by simp) ?_
                  refine AllReadyH.cons (i := 18) rfl (fun K hK => ?_) ?_
                  · refine step_append_lies _ rfl _ _ 23 rfl wp.heap.size 46 i1 _ 5 56 Tryz.underlying23 hi1 y0 y1 y2 rfl (by decide) (.slice Ay T1.length cy) T1.length _ rfl (own_drew (World.ownsRow.alloc hown _)) _ _ _ (eSp ⟨p.t, p.i, u⟩) rfl rfl ?_ (eSp_one _) (by decide) ?_ ?_ ?_ (wr.heap.size + 1) ?_ ?_
                    case refine_1 => exact new_cells rfl rfl
                    case refine_2 => unfold maxLen; omega
                    case refine_3 => omega
                    case refine_4 => simp; omega
                    case refine_5 => simp
                    intro gg cap w4 hown4 hgr4 hli hlt4
                    have HST := Hid.mk' (And.intro hown4 (And.intro hgr4 hli))
                    have f4 : w4.frozen? ⟨M, 1, none⟩ = false := ((HFR.out w4 hgr4).1 ⟨M, 1, none⟩ hMp).2.trans fo
                    have ko4 : w4.cell? ⟨M, 1, none⟩ = some (.slice Ay T1.length cy) := ((HFR.out w4 hgr4).1 ⟨M, 1, none⟩ hMp).1.trans ko
                    have k0 : w4.cell? ⟨bp, offp + i * 3, none⟩ = some (.int .i64 p.t) := ((HFR.out w4 hgr4).1 ⟨bp, _, none⟩ hbp).1.trans p0
                    have k1 : w4.cell? ⟨bp, offp + i * 3 + 1, none⟩ = some (.int .i64 p.i) := ((HFR.out w4 hgr4).1 ⟨bp, _, none⟩ hbp).1.trans p1
                    have k2 : w4.cell? ⟨gu, j * 3, none⟩ = some (.string u.lo) := ((HFR.out w4 hgr4).2 _).trans e0
                    have k3 : w4.cell? ⟨gu, j * 3 + 1, none⟩ = some (.string u.hi) := ((HFR.out w4 hgr4).2 _).trans e1
                    have k4 : w4.cell? ⟨gu, j * 3 + 2, none⟩ = some (.bool u.op) := ((HFR.out w4 hgr4).2 _).trans e2
                    clear hown4 hgr4 hli
                    refine hK.out _ _ ?_ (fun hHeld => ?_)
                    · (first | (refine ⟨?_, ?_, ?_, ?_, ?_⟩ <;> (refine (World.cell?_setCell_far _ _ _ _ (by simp only [ne_eq]; omega)).trans ?_; assumption)) | go_keep)
                    clear hK K
                    (try simp only [Act.put, List.setIfInBounds_toArray, List.set_cons_zero, List.set_cons_succ])
                    refine wpAnyH_take (i := 19) (v := ?_) rfl (by kernel_rfl) (by kernel_rfl) (by kernel_rfl) (fun _ _ _ h => h) (Or.inl ⟨by rfl, ?_⟩) (by assumption) ?_
                    rotate_left
                    · intro w hSw
                      (try dsimp only at hSw)
                      first | (go_simp; with_reducible rfl) | go_simp
                    (try simp only [Act.put, List.setIfInBounds_toArray, List.set_cons_zero, List.set_cons_succ])
                    refine wpAnyH_ready (rs := [20]) (by kernel_rfl) (by simp) ?_
                    refine AllReadyH.cons (i := 20) rfl (fun K hK => ?_) ?_
                    · go_simp
                      refine hK.out _ _ ?_ (fun hHeld => ?_)
                      · (first | (refine ⟨?_, ?_, ?_, ?_, ?_⟩ <;> (refine (World.cell?_setCell_far _ _ _ _ (by simp only [ne_eq]; omega)).trans ?_; assumption)) | go_keep)
                      clear hK K
                      (try simp only [Act.put, List.setIfInBounds_toArray, List.set_cons_zero, List.set_cons_succ])
                      refine wpAnyH_done (by kernel_rfl) ?_ _
                      refine NoPanic.normal ?_
                      go_wp2_with fail
                      go_roundw
                      case rel =>
                        obtain ⟨ho4, hg4, hl4⟩ := HST.out
                        have hkp : wr.grownBy (wr.alloc (.cells #[.int .i64 p.t, .int .i64 p.i, .string u.lo, .string u.hi, .bool u.op] 46)).drew none := ⟨rfl, rfl, rfl, by simp, fun j hj _ => Below.heap_alloc _ _ _ hj⟩
                        refine ⟨j + 1, .slice (some ⟨gg, 0, none⟩) (T1.length + 1) cap, by omega, by go_num, ?_, ?_⟩
                        · refine Hid.mk' ?_
                          rw [HTU.out]
                          exact (HRJ.out.later hkp).putY (p := ⟨p.t, p.i, u⟩) ho4 hg4 (Nat.le_refl _)
                        · refine Hid.mk' ?_
                          have o1 := HOJ.out.kept hkp (own_or_none _)
                          have o2 := o1.kept hg4 HNE.out
                          exact o2.kept (grownBy_setCell_at _ M 1 _) (own_ne_lit o2 HMU.out)
                      case measure => simp [intOf]; omega
                    exact AllReadyH.nil
                  exact AllReadyH.nil
                exact AllReadyH.nil
              refine AllReadyH.cons (i := 17) rfl (fun K hK => ?_) ?_
              · go_simp
                refine hK.out _ _ ?_ (fun hHeld => ?_)
                · (first | (refine ⟨?_, ?_, ?_, ?_, ?_⟩ <;> (refine (World.cell?_setCell_far _ _ _ _ (by simp only [ne_eq]; omega)).trans ?_; assumption)) | go_keep)
                clear hK K
                (try simp only [Act.put, List.setIfInBounds_toArray, List.set_cons_zero, List.set_cons_succ])
                refine wpAnyH_ready (rs := [1]) (by kernel_rfl) (by simp) ?_
                refine AllReadyH.cons (i := 1) rfl (fun K hK => ?_) ?_
                · go_simp
                  refine hK.out _ _ ?_ (fun hHeld => ?_)
                  · (first | (refine ⟨?_, ?_, ?_, ?_, ?_⟩ <;> (refine (World.cell?_setCell_far _ _ _ _ (by simp only [ne_eq]; omega)).trans ?_; assumption)) | go_keep)
                  clear hK K
                  (try simp only [Act.put, List.setIfInBounds_toArray, List.set_cons_zero, List.set_cons_succ])
                  refine wpAnyH_ready (rs := [18]) (by kernel_rfl) (by simp) ?_
                  refine AllReadyH.cons (i := 18) rfl (fun K hK => ?_) ?_
                  · refine step_append_lies _ rfl _ _ 23 rfl wp.heap.size 46 i1 _ 5 56 Tryz.underlying23 hi1 y0 y1 y2 rfl (by decide) (.slice Ay T1.length cy) T1.length _ rfl (own_drew (World.ownsRow.alloc hown _)) _ _ _ (eSp ⟨p.t, p.i, u⟩) rfl rfl ?_ (eSp_one _) (by decide) ?_ ?_ ?_ (wr.heap.size + 1) ?_ ?_
                    case refine_1 => exact new_cells rfl rfl
                    case refine_2 => unfold maxLen; omega
                    case refine_3 => omega
                    case refine_4 => simp; omega
                    case refine_5 => simp
                    intro gg cap w4 hown4 hgr4 hli hlt4
                    have HST := Hid.mk' (And.intro hown4 (And.intro hgr4 hli))
                    have f4 : w4.frozen? ⟨M, 1, none⟩ = false := ((HFR.out w4 hgr4).1 ⟨M, 1, none⟩ hMp).2.trans fo
                    have ko4 : w4.cell? ⟨M, 1, none⟩ = some (.slice Ay T1.length cy) := ((HFR.out w4 hgr4).1 ⟨M, 1, none⟩ hMp).1.trans ko
                    have k0 : w4.cell? ⟨bp, offp + i * 3, none⟩ = some (.int .i64 p.t) := ((HFR.out w4 hgr4).1 ⟨bp, _, none⟩ hbp).1.trans p0
                    have k1 : w4.cell? ⟨bp, offp + i * 3 + 1, none⟩ = some (.int .i64 p.i) := ((HFR.out w4 hgr4).1 ⟨bp, _, none⟩ hbp).1.trans p1
                    have k2 : w4.cell? ⟨gu, j * 3, none⟩ = some (.string u.lo) := ((HFR.out w4 hgr4).2 _).trans e0
                    have k3 : w4.cell? ⟨gu, j * 3 + 1, none⟩ = some (.string u.hi) := ((HFR.out w4 hgr4).2 _).trans e1
                    have k4 : w4.cell? ⟨gu, j * 3 + 2, none⟩ = some (.bool u.op) := ((HFR.out w4 hgr4).2 _).trans e2
                    clear hown4 hgr4 hli
                    refine hK.out _ _ ?_ (fun hHeld => ?_)
                    · (first | (refine ⟨?_, ?_, ?_, ?_, ?_⟩ <;> (refine (World.cell?_setCell_far _ _ _ _ (by simp only [ne_eq]; omega)).trans ?_; assumption)) | go_keep)
                    clear hK K
                    (try simp only [Act.put, List.setIfInBounds_toArray, List.set_cons_zero, List.set_cons_succ])
                    refine wpAnyH_take (i := 19) (v := ?_) rfl (by kernel_rfl) (by kernel_rfl) (by kernel_rfl) (fun _ _ _ h => h) (Or.inl ⟨by rfl, ?_⟩) (by assumption) ?_
                    rotate_left
                    · intro w hSw
                      (try dsimp only at hSw)
                      first | (go_simp; with_reducible rfl) | go_simp
                    (try simp only [Act.put, List.setIfInBounds_toArray, List.set_cons_zero, List.set_cons_succ])
                    refine wpAnyH_ready (rs := [20]) (by kernel_rfl) (by simp) ?_
                    refine AllReadyH.cons (i := 20) rfl (fun K hK => ?_) ?_
                    · go_simp
                      refine hK.out _ _ ?_ (fun hHeld => ?_)
                      · (first | (refine ⟨?_, ?_, ?_, ?_, ?_⟩ <;> (refine (World.cell?_setCell_far _ _ _ _ (by simp only [ne_eq]; omega)).trans ?_; assumption)) | go_keep)
                      clear hK K
                      (try simp only [Act.put, List.setIfInBounds_toArray, List.set_cons_zero, List.set_cons_succ])
                      refine wpAnyH_done (by kernel_rfl) ?_ _
                      refine NoPanic.normal ?_
                      go_wp2_with fail
                      go_roundw
                      case rel =>
                        obtain ⟨ho4, hg4, hl4⟩ := HST.out
                        have hkp : wr.grownBy (wr.alloc (.cells #[.int .i64 p.t, .int .i64 p.i, .string u.lo, .string u.hi, .bool u.op] 46)).drew none := ⟨rfl, rfl, rfl, by simp, fun j hj _ => Below.heap_alloc _ _ _ hj⟩
                        refine ⟨j + 1, .slice (some ⟨gg, 0, none⟩) (T1.length + 1) cap, by omega, by go_num, ?_, ?_⟩
                        · refine Hid.mk' ?_
                          rw [HTU.out]
                          exact (HRJ.out.later hkp).putY (p := ⟨p.t, p.i, u⟩) ho4 hg4 (Nat.le_refl _)
                        · refine Hid.mk' ?_
                          have o1 := HOJ.out.kept hkp (own_or_none _)
                          have o2 := o1.kept hg4 HNE.out
                          exact o2.kept (grownBy_setCell_at _ M 1 _) (own_ne_lit o2 HMU.out)
                      case measure => simp [intOf]; omega
                    exact AllReadyH.nil
                  exact AllReadyH.nil
                exact AllReadyH.nil
              exact AllReadyH.nil
            · have hljz : ¬ (j : Int) < (U.length : Int) := by omega
              have hke : U.take j = U := List.take_of_length_le (by omega)
              rw [hke, ← HOS.out] at HRJ
              clear hke p0 p1
              go_wp2_with fail
              go_roundw
              case rel => exact ⟨i + 1, y, by omega, by go_num, HRJ⟩
              case measure => simp [intOf]; omega
    · have hltz : ¬ (i : Int) < (PL.length : Int) := by omega
      obtain ⟨SN, HSN⟩ : ∃ SN, Hid ((normF f).2.1 = SN) := ⟨_, Hid.mk' rfl⟩
      have hos : outS f.2.1 (PL.map plP) i = SN := by
        rw [← HSN.out]
        unfold outS
        rw [List.take_of_length_le (by simp; omega), HPM.out]; rfl
      rw [hos] at HR
      clear hos
      have HS1 := sorted_calls f.1.length f.1 A1 c1 wr rfl (HF.out.pts.below HR.out.below (Nat.le_refl _)) HC13.out.1 (by omega)
      have ka : wr.cell? ⟨w.heap.size, 0, none⟩ = some (.slice A1 f.1.length c1) := cell_at HR.out.arg rfl
      go_wp2_with fail
      refine HS1.mono ?_
      rintro e w5 ⟨Aq, cq, rfl, hcq, hrq, hbq, hfq⟩
      clear HS1 ka
      have HZ5 : Hid (WL = [] ∨ RowIn ePt 3 w5 Az WL ∧ ∀ a, Az = some a → a.block ≠ w.heap.size + 1 ∧ a.block < M) := by
        rcases HZF.out with e | hz
        · exact .inl e
        · right
          refine ⟨?_, fun a ea => ⟨(hz a ea).1, by have := (hz a ea).2; omega⟩⟩
          refine (HRZP.out.via HR.out.gr.size (fun a ea ha => HR.out.gr.block a.block ha ?_)).below hbq (Nat.le_refl _)
          have := (hz a ea).2
          simp; omega
      obtain ⟨QL, hQL⟩ : ∃ QL, VP.ssort toPt f.1 = QL := ⟨_, rfl⟩
      have HQS := Hid.mk' hQL
      rw [hQL] at hcq hrq ⊢
      have hQl : QL.length ≤ 65536 := by have := VP.length_ssort_le toPt f.1; rw [hQL] at this; omega
      have HQM : Hid (QL = [] ∨ ∀ a, Aq = some a → a.block ≠ M) := by
        rcases HF.out.pts.2 with e3 | ⟨b, off, e3, hlt3, _⟩
        · left
          rw [← hQL, e3]; rfl
        · right
          intro a ea e
          rcases hfq a ea with h | h
          · rw [e3] at h; simp at h; omega
          · have := HR.out.m2; have := HR.out.gr.size; omega
      have HR5 : Hid (RN w5.heap.size wp.heap.size w w5 w5 M #[.slice A1 f.1.length c1, .slice A2 f.2.1.length c2, .slice A3 f.2.2.length c3] (.slice none 0 0) y (.slice Az WL.length cz) [] SN) := by
        have a := HR.out.anew hbq
        exact ⟨a.st, a.a, a.t, a.m1, a.m2, a.gr, a.o, a.m2, a.hby, Own.nil _ _ _, a.py⟩
      obtain ⟨Ay, cy, rfl, hcy⟩ := HR5.out.py.shape
      have HRQ := Hid.mk' hrq
      have HCY := Hid.mk' hcy
      clear hQL hcq hrq hbq hfq HR HRN hcy
      go_wp2_with fail
      go_loopw [11] (fun s11 wr => ∃ (i : Nat) (x : Value), i ≤ QL.length ∧ s11 = .int .i64 i ∧ Hid (RN w5.heap.size wp.heap.size w w5 wr M #[.slice A1 f.1.length c1, .slice A2 f.2.1.length c2, .slice A3 f.2.2.length c3] x (.slice Ay SN.length cy) (.slice Az WL.length cz) ((QL.take i).filter (fun p => !SN.any (inS p))) SN)) (fun s11 _ => QL.length - (intOf s11).toNat)
      case atStart => exact ⟨0, .slice none 0 0, Nat.zero_le _, rfl, HR5⟩
      case round =>
        obtain ⟨i, x, hi, rfl, HR⟩ := hrel
        by_cases hlt2 : i < QL.length
        · have hltz2 : (i : Int) < (QL.length : Int) := by omega
          obtain ⟨p, hp⟩ : ∃ p, QL[i]? = some p := ⟨_, List.getElem?_eq_getElem hlt2⟩
          obtain ⟨bq, offq, rfl, hbq, hcq⟩ := HRQ.out.at_ hlt2
          have ep : QL[i] = p := (List.getElem?_eq_some_iff.1 hp).2
          rw [ep] at hcq
          have hbM : bq ≠ M := by
            rcases HQM.out with e | e
            · rw [e] at hlt2; simp at hlt2
            · exact e _ rfl
          have HPC : Hid (∀ (W : World) (x : Value) (P : List Pt), RN w5.heap.size wp.heap.size w w5 W M #[.slice A1 f.1.length c1, .slice A2 f.2.1.length c2, .slice A3 f.2.2.length c3] x (.slice Ay SN.length cy) (.slice Az WL.length cz) P SN → W.cell? ⟨bq, offq + i * 3, none⟩ = some (.int .i64 p.t) ∧ W.cell? ⟨bq, offq + i * 3 + 1, none⟩ = some (.int .i64 p.i) ∧ W.cell? ⟨bq, offq + i * 3 + 2, none⟩ = some (.string p.key)) := fun W x P hR =>
            ⟨(hR.cell (a := ⟨bq, _, none⟩) hbq hbM).trans (hcq 0 _ rfl), (hR.cell (a := ⟨bq, _, none⟩) hbq hbM).trans (hcq 1 _ rfl), (hR.cell (a := ⟨bq, _, none⟩) hbq hbM).trans (hcq 2 _ rfl)⟩
          have HTK : Hid ((QL.take (i + 1)).filter (fun p => !SN.any (inS p)) = (QL.take i).filter (fun p => !SN.any (inS p)) ++ (if SN.any (inS p) = true then [] else [p])) := by
            show _ = _
            rw [List.take_succ_eq_append_getElem hlt2, List.filter_append, ep]
            cases hq' : SN.any (inS p) <;> simp [hq']
          obtain ⟨p0, p1, p2⟩ := HPC.out _ _ _ HR.out
          have HSP := spanned_calls p Ay cy SN wr.drew ((HR.out.py.row eSp_len).2)
          have ky : wr.cell? ⟨M, 1, none⟩ = some (.slice Ay SN.length cy) := cell_at HR.out.o rfl
          clear hcq ep hp
          cases hsp : SN.any (inS p)
          · rw [hsp] at HSP
            have HSB := Hid.mk' hsp
            obtain ⟨P0, hP0⟩ : ∃ P0, (QL.take i).filter (fun p => !SN.any (inS p)) = P0 := ⟨_, rfl⟩
            rw [hP0] at HR HTK
            have HTP : Hid ((QL.take (i + 1)).filter (fun p => !SN.any (inS p)) = P0 ++ [p]) := by show _ = _; rw [HTK.out, hsp]; rfl
            have hP0l : P0.length ≤ 65536 := by rw [← hP0]; refine Nat.le_trans (List.length_filter_le _ _) ?_; simp; omega
            clear hP0 hsp HTK
            go_wp2_with fail
            go_still_tail 6, (by kernel_rfl)
            change wpList _ _ _ _ _ wr.drew
            go_wp2_with (go_at_call 58; refine HSP.mono ?_; rintro e w6 ⟨rfl, hb6⟩; have hb6' : Below wr.heap.size wr w6 := ⟨hb6.os, hb6.tape, hb6.output, hb6.size, hb6.block⟩; have HR6 := Hid.mk' (HR.out.later ⟨hb6'.os, hb6'.tape, hb6'.output, hb6'.size, fun j hj _ => hb6'.block j hj⟩); clear hb6 hb6' ky p0 p1 p2 HR)
            obtain ⟨p0, p1, p2⟩ := HPC.out _ _ _ HR6.out
            obtain ⟨Ax, cx, rfl, hcx⟩ := HR6.out.px.shape
            have hown : w6.ownsRow w5.heap.size 37 3 (.slice Ax P0.length cx) P0.length (P0.flatMap ePt) := HR6.out.px
            have ko : w6.cell? ⟨M, 0, none⟩ = some (.slice Ax P0.length cx) := cell_at HR6.out.o rfl
            have fo : w6.frozen? ⟨M, 0, none⟩ = false := free_at _ HR6.out.o
            have hwz : w5.heap.size ≤ w6.heap.size := HR6.out.gr.size
            have hMp := HR6.out.m2
            have hMw : M < w6.heap.size := by omega
            have HFR : Hid (∀ w4 : World, (w6.alloc (.cells #[.int .i64 p.t, .int .i64 p.i, .string p.key] 37)).drew.grownBy w4 (Value.slice Ax P0.length cx).ownBlock → (∀ a : Addr, a.block < w5.heap.size → w4.cell? a = w6.cell? a ∧ w4.frozen? a = w6.frozen? a)) := fun w4 hg a ha => far_cell hown hwz hg a ha
            clear hcx
            refine wp_region_noPanic ?_
            refine wp_region_held_drew (S := (fun w' => w'.cell? ⟨bq, offq + i * 3, none⟩ = some (.int .i64 p.t) ∧ w'.cell? ⟨bq, offq + i * 3 + 1, none⟩ = some (.int .i64 p.i) ∧ w'.cell? ⟨bq, offq + i * 3 + 2, none⟩ = some (.string p.key))) (by kernel_rfl) ?_ (fun hHeld => ?_)
            · (first | (refine ⟨?_, ?_, ?_⟩ <;> (refine (World.cell?_setCell_far _ _ _ _ (by simp only [ne_eq]; omega)).trans ?_; assumption)) | go_keep)
            refine wpAnyH_take (i := 0) (v := ?_) rfl (by kernel_rfl) (by kernel_rfl) (by kernel_rfl) (fun _ _ _ h => h) (Or.inl ⟨by rfl, ?_⟩) (by assumption) ?_
            rotate_left
            · intro w hSw
              (try dsimp only at hSw)
              first | (go_simp; with_reducible rfl) | go_simp
            (try simp only [Act.put, List.setIfInBounds_toArray, List.set_cons_zero, List.set_cons_succ])
            refine wpAnyH_take (i := 2) (v := ?_) rfl (by kernel_rfl) (by kernel_rfl) (by kernel_rfl) (fun _ _ _ h => h) (Or.inl ⟨by rfl, ?_⟩) (by assumption) ?_
            rotate_left
            · intro w hSw
              (try dsimp only at hSw)
              first | (go_simp; with_reducible rfl) | go_simp
            (try simp only [Act.put, List.setIfInBounds_toArray, List.set_cons_zero, List.set_cons_succ])
            refine wpAnyH_take (i := 3) (v := ?_) rfl (by kernel_rfl) (by kernel_rfl) (by kernel_rfl) (fun _ _ _ h => h) (Or.inl ⟨by rfl, ?_⟩) (by assumption) ?_
            rotate_left
            · intro w hSw
              (try dsimp only at hSw)
              first | (go_simp; with_reducible rfl) | go_simp
            (try simp only [Act.put, List.setIfInBounds_toArray, List.set_cons_zero, List.set_cons_succ])
            refine wpAnyH_take (i := 4) (v := ?_) rfl (by kernel_rfl) (by kernel_rfl) (by kernel_rfl) (fun _ _ _ h => h) (Or.inl ⟨by rfl, ?_⟩) (by assumption) ?_
            rotate_left
            · intro w hSw
              (try dsimp only at hSw)
              first | (go_simp; with_reducible rfl) | go_simp
            (try simp only [Act.put, List.setIfInBounds_toArray, List.set_cons_zero, List.set_cons_succ])
            refine wpAnyH_take (i := 5) (v := ?_) rfl (by kernel_rfl) (by kernel_rfl) (by kernel_rfl) (fun _ _ _ h => h) (Or.inl ⟨by rfl, ?_⟩) (by assumption) ?_
            rotate_left
            · intro w hSw
              (try dsimp only at hSw)
              first | (go_simp; with_reducible rfl) | go_simp
            (try simp only [Act.put, List.setIfInBounds_toArray, List.set_cons_zero, List.set_cons_succ])
            refine wpAnyH_ready (rs := [1, 6]) (by kernel_rfl) (by simp) ?_
            refine AllReadyH.cons (i := 1) rfl (fun K hK => ?_) ?_
            · go_simp
              refine hK.out _ _ ?_ (fun hHeld => ?_)
              · (first | (refine ⟨?_, ?_, ?_⟩ <;> (refine (World.cell?_setCell_far _ _ _ _ (by simp only [ne_eq]; omega)).trans ?_; assumption)) | go_keep)
              clear hK K
              (try simp only [Act.put, List.setIfInBounds_toArray, List.set_cons_zero, List.set_cons_succ])
              refine wpAnyH_ready (rs := [6]) (by kernel_rfl) (by simp) ?_
              refine AllReadyH.cons (i := 6) rfl (fun K hK => ?_) ?_
              · go_simp
                refine hK.out _ _ ?_ (fun hHeld => ?_)
                · (first | (refine ⟨?_, ?_, ?_⟩ <;> (refine (World.cell?_setCell_far _ _ _ _ (by simp only [ne_eq]; omega)).trans ?_; assumption)) | go_keep)
                clear hK K
                (try simp only [Act.put, List.setIfInBounds_toArray, List.set_cons_zero, List.set_cons_succ])
                refine wpAnyH_ready (rs := [7]) (by kernel_rfl) (by simp) ?_
                refine AllReadyH.cons (i := 7) rfl (fun K hK => ?_) ?_
                · refine step_append_lies _ rfl _ _ 22 rfl w5.heap.size 37 i2 _ 3 32 Tryz.underlying22 hi2 z0 z1 z2 rfl (by decide) (.slice Ax P0.length cx) P0.length _ rfl (own_drew (World.ownsRow.alloc hown _)) _ _ _ (ePt p) rfl rfl ?_ (ePt_one _) (by decide) ?_ ?_ ?_ (w6.heap.size + 1) ?_ ?_
                  case refine_1 => exact new_cells rfl rfl
                  case refine_2 => unfold maxLen; omega
                  case refine_3 => omega
                  case refine_4 => simp; omega
                  case refine_5 => simp
                  intro gg cap w4 hown4 hgr4 hli hlt4
                  have HST := Hid.mk' (And.intro hown4 (And.intro hgr4 hli))
                  have f4 : w4.frozen? ⟨M, 0, none⟩ = false := (HFR.out w4 hgr4 ⟨M, 0, none⟩ hMp).2.trans fo
                  have ko4 : w4.cell? ⟨M, 0, none⟩ = some (.slice Ax P0.length cx) := (HFR.out w4 hgr4 ⟨M, 0, none⟩ hMp).1.trans ko
                  have k0 : w4.cell? ⟨bq, offq + i * 3, none⟩ = some (.int .i64 p.t) := (HFR.out w4 hgr4 ⟨bq, _, none⟩ hbq).1.trans p0
                  have k1 : w4.cell? ⟨bq, offq + i * 3 + 1, none⟩ = some (.int .i64 p.i) := (HFR.out w4 hgr4 ⟨bq, _, none⟩ hbq).1.trans p1
                  have k2 : w4.cell? ⟨bq, offq + i * 3 + 2, none⟩ = some (.string p.key) := (HFR.out w4 hgr4 ⟨bq, _, none⟩ hbq).1.trans p2
                  clear hown4 hgr4 hli
                  refine hK.out _ _ ?_ (fun hHeld => ?_)
                  · (first | (refine ⟨?_, ?_, ?_⟩ <;> (refine (World.cell?_setCell_far _ _ _ _ (by simp only [ne_eq]; omega)).trans ?_; assumption)) | go_keep)
                  clear hK K
                  (try simp only [Act.put, List.setIfInBounds_toArray, List.set_cons_zero, List.set_cons_succ])
                  refine wpAnyH_take (i := 8) (v := ?_) rfl (by kernel_rfl) (by kernel_rfl) (by kernel_rfl) (fun _ _ _ h => h) (Or.inl ⟨by rfl, ?_⟩) (by assumption) ?_
                  rotate_left
                  · intro w hSw
                    (try dsimp only at hSw)
                    first | (go_simp; with_reducible rfl) | go_simp
                  (try simp only [Act.put, List.setIfInBounds_toArray, List.set_cons_zero, List.set_cons_succ])
                  refine wpAnyH_ready (rs := [9]) (by kernel_rfl) (by simp) ?_
                  refine AllReadyH.cons (i := 9) rfl (fun K hK => ?_) ?_
                  · go_simp
                    refine hK.out _ _ ?_ (fun hHeld => ?_)
                    · (first | (refine ⟨?_, ?_, ?_⟩ <;> (refine (World.cell?_setCell_far _ _ _ _ (by simp only [ne_eq]; omega)).trans ?_; assumption)) | go_keep)
                    clear hK K
                    (try simp only [Act.put, List.setIfInBounds_toArray, List.set_cons_zero, List.set_cons_succ])
                    refine wpAnyH_done (by kernel_rfl) ?_ _
                    refine NoPanic.normal ?_
                    go_wp2_with fail
                    go_roundw
                    case rel =>
                      obtain ⟨ho4, hg4, hl4⟩ := HST.out
                      have hkp : w6.grownBy (w6.alloc (.cells #[.int .i64 p.t, .int .i64 p.i, .string p.key] 37)).drew none := ⟨rfl, rfl, rfl, by simp, fun j hj _ => Below.heap_alloc _ _ _ hj⟩
                      refine ⟨i + 1, .slice (some ⟨gg, 0, none⟩) (P0.length + 1) cap, by omega, by go_num, ?_⟩
                      refine Hid.mk' ?_
                      rw [HTP.out]
                      exact (HR6.out.later hkp).putX (p := p) ho4 hg4 (Nat.le_refl _)
                    case measure => simp [intOf]; omega
                  exact AllReadyH.nil
                exact AllReadyH.nil
              exact AllReadyH.nil
            refine AllReadyH.cons (i := 6) rfl (fun K hK => ?_) ?_
            · go_simp
              refine hK.out _ _ ?_ (fun hHeld => ?_)
              · (first | (refine ⟨?_, ?_, ?_⟩ <;> (refine (World.cell?_setCell_far _ _ _ _ (by simp only [ne_eq]; omega)).trans ?_; assumption)) | go_keep)
              clear hK K
              (try simp only [Act.put, List.setIfInBounds_toArray, List.set_cons_zero, List.set_cons_succ])
              refine wpAnyH_ready (rs := [1]) (by kernel_rfl) (by simp) ?_
              refine AllReadyH.cons (i := 1) rfl (fun K hK => ?_) ?_
              · go_simp
                refine hK.out _ _ ?_ (fun hHeld => ?_)
                · (first | (refine ⟨?_, ?_, ?_⟩ <;> (refine (World.cell?_setCell_far _ _ _ _ (by simp only [ne_eq]; omega)).trans ?_; assumption)) | go_keep)
                clear hK K
                (try simp only [Act.put, List.setIfInBounds_toArray, List.set_cons_zero, List.set_cons_succ])
                refine wpAnyH_ready (rs := [7]) (by kernel_rfl) (by simp) ?_
                refine AllReadyH.cons (i := 7) rfl (fun K hK => ?_) ?_
                · refine step_append_lies _ rfl _ _ 22 rfl w5.heap.size 37 i2 _ 3 32 Tryz.underlying22 hi2 z0 z1 z2 rfl (by decide) (.slice Ax P0.length cx) P0.length _ rfl (own_drew (World.ownsRow.alloc hown _)) _ _ _ (ePt p) rfl rfl ?_ (ePt_one _) (by decide) ?_ ?_ ?_ (w6.heap.size + 1) ?_ ?_
                  case refine_1 => exact new_cells rfl rfl
                  case refine_2 => unfold maxLen; omega
                  case refine_3 => omega
                  case refine_4 => simp; omega
                  case refine_5 => simp
                  intro gg cap w4 hown4 hgr4 hli hlt4
                  have HST := Hid.mk' (And.intro hown4 (And.intro hgr4 hli))
                  have f4 : w4.frozen? ⟨M, 0, none⟩ = false := (HFR.out w4 hgr4 ⟨M, 0, none⟩ hMp).2.trans fo
                  have ko4 : w4.cell? ⟨M, 0, none⟩ = some (.slice Ax P0.length cx) := (HFR.out w4 hgr4 ⟨M, 0, none⟩ hMp).1.trans ko
                  have k0 : w4.cell? ⟨bq, offq + i * 3, none⟩ = some (.int .i64 p.t) := (HFR.out w4 hgr4 ⟨bq, _, none⟩ hbq).1.trans p0
                  have k1 : w4.cell? ⟨bq, offq + i * 3 + 1, none⟩ = some (.int .i64 p.i) := (HFR.out w4 hgr4 ⟨bq, _, none⟩ hbq).1.trans p1
                  have k2 : w4.cell? ⟨bq, offq + i * 3 + 2, none⟩ = some (.string p.key) := (HFR.out w4 hgr4 ⟨bq, _, none⟩ hbq).1.trans p2
                  clear hown4 hgr4 hli
                  refine hK.out _ _ ?_ (fun hHeld => ?_)
                  · (first | (refine ⟨?_, ?_, ?_⟩ <;> (refine (World.cell?_setCell_far _ _ _ _ (by simp only [ne_eq]; omega)).trans ?_; assumption)) | go_keep)
                  clear hK K
                  (try simp only [Act.put, List.setIfInBounds_toArray, List.set_cons_zero, List.set_cons_succ])
                  refine wpAnyH_take (i := 8) (v := ?_) rfl (by kernel_rfl) (by kernel_rfl) (by kernel_rfl) (fun _ _ _ h => h) (Or.inl ⟨by rfl, ?_⟩) (by assumption) ?_
                  rotate_left
                  · intro w hSw
                    (try dsimp only at hSw)
                    first | (go_simp; with_reducible rfl) | go_simp
                  (try simp only [Act.put, List.setIfInBounds_toArray, List.set_cons_zero, List.set_cons_succ])
                  refine wpAnyH_ready (rs := [9]) (by kernel_rfl) (by simp) ?_
                  refine AllReadyH.cons (i := 9) rfl (fun K hK => ?_) ?_
                  · go_simp
                    refine hK.out _ _ ?_ (fun hHeld => ?_)
                    · (first | (refine ⟨?_, ?_, ?_⟩ <;> (refine (World.cell?_setCell_far _ _ _ _ (by simp only [ne_eq]; omega)).trans ?_; assumption)) | go_keep)
                    clear hK K
                    (try simp only [Act.put, List.setIfInBounds_toArray, List.set_cons_zero, List.set_cons_succ])
                    refine wpAnyH_done (by kernel_rfl) ?_ _
                    refine NoPanic.normal ?_
                    go_wp2_with fail
                    go_roundw
                    case rel =>
                      obtain ⟨ho4, hg4, hl4⟩ := HST.out
                      have hkp : w6.grownBy (w6.alloc (.cells #[.int .i64 p.t, .int .i64 p.i, .string p.key] 37)).drew none := ⟨rfl, rfl, rfl, by simp, fun j hj _ => Below.heap_alloc _ _ _ hj⟩
                      refine ⟨i + 1, .slice (some ⟨gg, 0, none⟩) (P0.length + 1) cap, by omega, by go_num, ?_⟩
                      refine Hid.mk' ?_
                      rw [HTP.out]
                      exact (HR6.out.later hkp).putX (p := p) ho4 hg4 (Nat.le_refl _)
                    case measure => simp [intOf]; omega
                  exact AllReadyH.nil
                exact AllReadyH.nil
              exact AllReadyH.nil
            exact AllReadyH.nil
          · rw [hsp] at HSP
            have HTP : Hid ((QL.take (i + 1)).filter (fun p => !SN.any (inS p)) = (QL.take i).filter (fun p => !SN.any (inS p))) := by show _ = _; rw [HTK.out, hsp]; simp
            clear hsp HTK
            go_wp2_with fail
            go_still_tail 6, (by kernel_rfl)
            change wpList _ _ _ _ _ wr.drew
            go_wp2_with (go_at_call 58; refine HSP.mono ?_; rintro e w6 ⟨rfl, hb6⟩; have hb6' : Below wr.heap.size wr w6 := ⟨hb6.os, hb6.tape, hb6.output, hb6.size, hb6.block⟩; have HR6 := Hid.mk' (HR.out.later ⟨hb6'.os, hb6'.tape, hb6'.output, hb6'.size, fun j hj _ => hb6'.block j hj⟩); clear hb6 hb6' ky p0 p1 p2)
            go_roundw
            case rel =>
              refine ⟨i + 1, x, by omega, by go_num, ?_⟩
              refine Hid.mk' ?_
              rw [HTP.out]; exact HR6.out
            case measure => simp [intOf]; omega
        · have hltz2 : ¬ (i : Int) < (QL.length : Int) := by omega
          obtain ⟨PN, HPN⟩ : ∃ PN, Hid ((normF f).1 = PN) := ⟨_, Hid.mk' rfl⟩
          have hpn : (QL.take i).filter (fun p => !SN.any (inS p)) = PN := by
            rw [List.take_of_length_le (by omega), ← HPN.out, ← HQS.out, ← HSN.out]
            show _ = (VP.ssort toPt f.1).filter _
            congr 1
            funext p
            congr 1
            have := VP.spannedB_congr (T := VP.TO.bytes) (pl := plP) (key := Pt.key) (VP.spansN_spanAt (TP := toPl) unionP_is mkS_is f.2.1) p
            rw [spannedB_any, spannedB_any] at this
            rw [spannedB_any]
            exact this
          rw [hpn] at HR
          clear hpn
          obtain ⟨Ax, cx, rfl, hcx⟩ := HR.out.px.shape
          have o0 : wr.cell? ⟨M, 0, none⟩ = some (.slice Ax PN.length cx) := cell_at HR.out.o rfl
          have o1 : wr.cell? ⟨M, 1, none⟩ = some (.slice Ay SN.length cy) := cell_at HR.out.o rfl
          have o2 : wr.cell? ⟨M, 2, none⟩ = some (.slice Az WL.length cz) := cell_at HR.out.o rfl
          have t0 : wr.cell? ⟨w.heap.size + 1, 0, none⟩ = some (.slice none 0 0) := cell_at HR.out.res rfl
          have t1 : wr.cell? ⟨w.heap.size + 1, 1, none⟩ = some (.slice none 0 0) := cell_at HR.out.res rfl
          have t2 : wr.cell? ⟨w.heap.size + 1, 2, none⟩ = some (.slice none 0 0) := cell_at HR.out.res rfl
          have u0 : wr.frozen? ⟨w.heap.size + 1, 0, none⟩ = false := free_at _ HR.out.res
          have u1 : wr.frozen? ⟨w.heap.size + 1, 1, none⟩ = false := free_at _ HR.out.res
          have u2 : wr.frozen? ⟨w.heap.size + 1, 2, none⟩ = false := free_at _ HR.out.res
          go_wp2_with fail
          have hst := set3 wr (w.heap.size + 1) (.slice Ax PN.length cx) (.slice Ay SN.length cy) (.slice Az WL.length cz) _ _ _ _ HR.out.res
          (try simp only [Exit.inBlock, Exit.then])
          refine bodyPost_ret (results_cell_row rfl _ _ (w.heap.size + 1) 25 _ (0, 0) _ rfl hst.1 Tryz.underlying25 rfl (by kernel_rfl)) rfl ?_
          have hm1 := HR.out.m1
          have hm2 := HR.out.m2
          have hms := HR.out.gr.size
          have eF : normF f = (PN, SN, WL) := Prod.ext HPN.out (Prod.ext HSN.out HWL.out)
          have px := HR.out.px.kept hst.2 (own_ne_lit HR.out.px (by omega))
          have py := HR.out.py.kept hst.2 (own_ne_lit HR.out.py (by have := HR.out.hby; omega))
          obtain ⟨W9, hW9⟩ : ∃ W9, ((wr.setCell ⟨w.heap.size + 1, 0, none⟩ (.slice Ax PN.length cx)).setCell ⟨w.heap.size + 1, 1, none⟩ (.slice Ay SN.length cy)).setCell ⟨w.heap.size + 1, 2, none⟩ (.slice Az WL.length cz) = W9 := ⟨_, rfl⟩
          rw [hW9] at hst px py ⊢
          have hfz : WL = [] ∨ RowIn ePt 3 W9 Az WL := by
            rcases HZ5.out with e | ⟨hz, hzb⟩
            · exact .inl e
            · right
              refine (hz.via HR.out.gr.size (fun a ea ha => HR.out.gr.block a.block ha ?_)).via hst.2.size (fun a ea ha => hst.2.block a.block ha ?_)
              · have := (hzb a ea).2; simp; omega
              · have := (hzb a ea).1; simpa using this
          have hwrs : RowIn ePt 3 W9 Az WL := by
            rcases hfz with e | e
            · rw [e]; exact RowIn.nil _
            · exact e
          refine ⟨_, rfl, ?_, HR.out.below.grown hst.2 (by omega) (fun k e => by cases e; omega), ?_⟩
          · rw [eF]
            exact ⟨Ax, Ay, Az, cx, cy, cz, rfl, ⟨(px.row ePt_len).2, (py.row eSp_len).2, hwrs⟩, hcx, HCY.out, HCZ.out⟩
          · intro r hr hA w'' hg
            rw [eF]
            have px' := px.kept hg (own_ne_lit px (by omega))
            have py' := py.kept hg (own_ne_lit py (by have := HR.out.hby; omega))
            have hw' : RowIn ePt 3 w'' Az WL := by
              rcases hA with e3 | hA
              · have : WL = [] := by rw [← HWL.out, e3]; rfl
                rw [this]; exact RowIn.nil _
              · refine hwrs.via hg.size (fun a ea ha => hg.block a.block ha ?_)
                rcases HFZ.out a ea with h | h
                · cases hA3 : A3 with
                  | none => rw [hA3] at h; cases h
                  | some a3 =>
                    rw [hA3] at h
                    have := hA a3 hA3
                    simp at h ⊢; omega
                · simp; omega
            exact ⟨Ax, Ay, Az, cx, cy, cz, rfl, ⟨(px'.row ePt_len).2, (py'.row eSp_len).2, hw'⟩, hcx, HCY.out, HCZ.out⟩
end Go.Proofs.YtpbmcaidkjlokaaGreat
