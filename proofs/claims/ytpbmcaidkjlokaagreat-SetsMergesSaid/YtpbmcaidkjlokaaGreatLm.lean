/- The law SetsMerges, walked. -/
import Derived.Test.YtpbmcaidkjlokaaGreatMs
import Derived.Test.YtpbmcaidkjlokaaGreatAw
import Derived.Test.YtpbmcaidkjlokaaGreatSm
namespace Go.Proofs.YtpbmcaidkjlokaaGreat
open Go.RowKit
set_option linter.unusedSimpArgs false
set_option linter.unusedVariables false

theorem withFact {P Q : Prop} (h : P) (k : P → Q) : Q := k h
theorem FootOwn.inn {base : Nat} {w : World} {G1 G2 G3 : Option Addr} {g1 g2 g3 : Nat} {mf : Foot} (h : FootOwn base w (FootV G1 G2 G3 g1 g2 g3 mf) mf) : FootIn w G1 G2 G3 mf := by
  obtain ⟨p, s, q, e, o1, o2, o3⟩ := h.shape
  simp [FootV] at e
  obtain ⟨rfl, rfl, rfl⟩ := e
  exact ⟨(o1.row ePt_len).2, (o2.row eSp_len).2, (o3.row ePt_len).2⟩
theorem foot_up {w : World} {A1 A2 A3 : Option Addr} {f : Foot} (o : Obj) (h : FootIn w A1 A2 A3 f) : FootIn (w.alloc o) A1 A2 A3 f := h.below ((Below.refl _ w).alloc (Nat.le_refl _) _) (Nat.le_refl _)
theorem foot_later {x w : World} {A1 A2 A3 : Option Addr} {f : Foot} (hb : Below x.heap.size x w) (h : FootIn x A1 A2 A3 f) : FootIn w A1 A2 A3 f := h.below hb (Nat.le_refl _)
theorem block_newb (w : World) (cs : Array Value) (t : TypeId) {b : Nat} (hb : w.heap.size = b) : (w.alloc (.cells cs t)).heap[b]? = some (.cells cs t (0, 0)) := by subst hb; exact World.alloc_heap_new w (.cells cs t)
theorem block_drew {w : World} {b : Nat} {o : Obj} (h : w.heap[b]? = some o) : w.drew.heap[b]? = some o := h
theorem block_lt {w : World} {b : Nat} {o : Obj} (h : w.heap[b]? = some o) : b < w.heap.size := (Array.getElem?_eq_some_iff.1 h).1
theorem block_up {w : World} {b : Nat} {p : Obj} (o : Obj) (h : w.heap[b]? = some p) : (w.alloc o).heap[b]? = some p := (Below.heap_alloc _ _ _ (block_lt h)).trans h
theorem block_later {x w : World} {b : Nat} {o : Obj} (hb : Below x.heap.size x w) (h : x.heap[b]? = some o) : w.heap[b]? = some o := (hb.block b (block_lt h)).trans h
/-- An answer's box, W the world that holds it. -/
structure Lf (w W : World) (fa fb : Array Value) (GB : Nat) (gv : Array Value) (G1 G2 G3 : Option Addr) (mf : Foot) : Prop where
  below : Below w.heap.size w W
  a : W.heap[w.heap.size]? = some (.cells fa 25 (0, 0))
  b : W.heap[w.heap.size + 1]? = some (.cells fb 25 (0, 0))
  g : W.heap[GB]? = some (.cells gv 25 (0, 0))
  inn : FootIn W G1 G2 G3 mf
/-- Where a call's two boxes stand. -/
structure St2 (w W : World) (fa fb : Array Value) : Prop where
  below : Below w.heap.size w W
  a : W.heap[w.heap.size]? = some (.cells fa 25 (0, 0))
  b : W.heap[w.heap.size + 1]? = some (.cells fb 25 (0, 0))
theorem St2.later {w W W' : World} {fa fb : Array Value} (h : St2 w W fa fb) (hb : Below W.heap.size W W') : St2 w W' fa fb := ⟨h.below.trans (hb.mono h.below.size), block_later hb h.a, block_later hb h.b⟩
theorem St2.start (w : World) (fa fb : Array Value) : St2 w ((w.alloc (.cells fa 25)).alloc (.cells fb 25)) fa fb where
  below := ((Below.refl _ w).alloc (Nat.le_refl _) _).alloc (by simp) _
  a := block_up _ (World.alloc_heap_new _ _)
  b := block_newb _ _ _ (by simp)
theorem Lf.stored {w W0 X wm : World} {fa fb : Array Value} {b : Nat} {G1 G2 G3 : Option Addr} {g1 g2 g3 : Nat} {mf : Foot} (h0 : St2 w W0 fa fb) (hX : Below W0.heap.size W0 X) (hm : Below X.heap.size X wm) (hom : FootOwn X.heap.size wm (FootV G1 G2 G3 g1 g2 g3 mf) mf) (hge : W0.heap.size ≤ b) (hb : X.heap[b]? = some (.cells #[.slice none 0 0, .slice none 0 0, .slice none 0 0] 25 (0, 0))) :
    wm.heap[b]? = some (.cells #[.slice none 0 0, .slice none 0 0, .slice none 0 0] 25 (0, 0)) ∧ Below W0.heap.size W0 (((wm.setCell ⟨b, 0, none⟩ (.slice G1 mf.1.length g1)).setCell ⟨b, 1, none⟩ (.slice G2 mf.2.1.length g2)).setCell ⟨b, 2, none⟩ (.slice G3 mf.2.2.length g3)) ∧ Lf w (((wm.setCell ⟨b, 0, none⟩ (.slice G1 mf.1.length g1)).setCell ⟨b, 1, none⟩ (.slice G2 mf.2.1.length g2)).setCell ⟨b, 2, none⟩ (.slice G3 mf.2.2.length g3)) fa fb b #[.slice G1 mf.1.length g1, .slice G2 mf.2.1.length g2, .slice G3 mf.2.2.length g3] G1 G2 G3 mf := by
  have h1 := block_later hm hb
  have hs := set3 wm b (.slice G1 mf.1.length g1) (.slice G2 mf.2.1.length g2) (.slice G3 mf.2.2.length g3) _ _ _ _ h1
  have hW := hX.trans (hm.mono hX.size)
  have hB := hW.grown hs.2 hW.size (fun k e => by cases e; exact hge)
  have h2 := h0.later hB
  exact ⟨h1, hB, h2.below, h2.a, h2.b, hs.1, (hom.kept hs.2 (block_lt hb)).inn⟩
theorem Lf.fresh {w W0 X wm : World} {fa fb : Array Value} {G1 G2 G3 : Option Addr} {g1 g2 g3 : Nat} {mf : Foot} (h0 : St2 w W0 fa fb) (hX : Below W0.heap.size W0 X) (hm : Below X.heap.size X wm) (hom : FootOwn X.heap.size wm (FootV G1 G2 G3 g1 g2 g3 mf) mf) :
    Lf w (wm.alloc (.cells #[.slice G1 mf.1.length g1, .slice G2 mf.2.1.length g2, .slice G3 mf.2.2.length g3] 25)) fa fb wm.heap.size #[.slice G1 mf.1.length g1, .slice G2 mf.2.1.length g2, .slice G3 mf.2.2.length g3] G1 G2 G3 mf := by
  have hW := hX.trans (hm.mono hX.size)
  have h2 := h0.later (hW.alloc hW.size (.cells #[.slice G1 mf.1.length g1, .slice G2 mf.2.1.length g2, .slice G3 mf.2.2.length g3] 25))
  exact ⟨h2.below, h2.a, h2.b, World.alloc_heap_new _ _, foot_up _ hom.inn⟩
theorem Lf.name {w W : World} {fa fb gv : Array Value} {GB : Nat} {G1 G2 G3 : Option Addr} {mf : Foot} (h : Lf w W fa fb GB gv G1 G2 G3 mf) : ∃ W2 GB2, W2 = W ∧ GB2 = GB ∧ Lf w W2 fa fb GB2 gv G1 G2 G3 mf := ⟨_, _, rfl, rfl, h⟩
theorem mergeE_comm_zero {f g : Foot} (h : mergeE f g = 0) : mergeE g f = 0 := by
  obtain ⟨h1, h2, h3⟩ := mergeE_zero h
  unfold mergeE
  rw [if_neg (by simpa using h2), if_neg (by simpa using h1), if_neg (by omega)]
theorem mergeF_comm {f g : Foot} (h : mergeE f g = 0) : mergeF g f = mergeF f g := by
  unfold mergeF
  rw [if_pos h, if_pos (mergeE_comm_zero h)]
  unfold normF
  exact VP.both_comm_normal unionP_is g f
set_option maxHeartbeats 16000000 in
set_option maxRecDepth 100000 in
theorem setsMerges_calls (A1 A2 A3 B1 B2 B3 : Option Addr) (c1 c2 c3 d1 d2 d3 : Nat) (f g : Foot) (w : World) (h : FootIn w A1 A2 A3 f) (h' : FootIn w B1 B2 B3 g) (hf : Fit f) (hg : Fit g) (hw1 : Wfs f) (hw2 : Wfs g) :
    Calls Tryz.prog 4 #[FootV A1 A2 A3 c1 c2 c3 f, FootV B1 B2 B3 d1 d2 d3 g] w fun e w' => e = .returned (.bool true) ∧ Below w.heap.size w w' := by
  have HF := Hid.mk' h
  have HG := Hid.mk' h'
  have HFF := Hid.mk' hf
  have HFG := Hid.mk' hg
  have HCPA := fun (W : World) (hb : Below w.heap.size w W) => copy_calls A1 A2 A3 c1 c2 c3 f W (HF.out.below hb (Nat.le_refl _)) HFF.out
  have HCPB := fun (W : World) (hb : Below w.heap.size w W) => copy_calls B1 B2 B3 d1 d2 d3 g W (HG.out.below hb (Nat.le_refl _)) HFG.out
  have HMGx := fun (C1 C2 C3 D1 D2 D3 : Option Addr) (c1 c2 c3 d1 d2 d3 : Nat) (W : World) (hi : FootIn W C1 C2 C3 f) (hj : FootIn W D1 D2 D3 g) => Merge_calls C1 C2 C3 D1 D2 D3 c1 c2 c3 d1 d2 d3 f g W hi hj HFF.out.size HFG.out.size hw1 hw2
  have HMNx := fun (C1 C2 C3 D1 D2 D3 : Option Addr) (c1 c2 c3 d1 d2 d3 : Nat) (W : World) (hi : FootIn W C1 C2 C3 g) (hj : FootIn W D1 D2 D3 f) => Merge_calls C1 C2 C3 D1 D2 D3 c1 c2 c3 d1 d2 d3 g f W hi hj HFG.out.size HFF.out.size hw2 hw1
  have HRMx := fun (W : World) (hb : Below w.heap.size w W) => rMerge_calls A1 A2 A3 B1 B2 B3 c1 c2 c3 d1 d2 d3 f g W (HF.out.below hb (Nat.le_refl _)) (HG.out.below hb (Nat.le_refl _)) HFF.out.size HFG.out.size
  have HAW := fun W => awake_calls W
  clear h h' hf hg
  unfold FootV at HCPA HCPB HMGx HMNx HRMx ⊢
  by_cases h0 : mergeE f g = 0
  · rw [mergeE_comm_zero h0, mergeF_comm h0] at HMNx
    rw [h0] at HMGx HRMx
    generalize mergeF f g = mf at HMGx HMNx HRMx
    have HMG := Hid.mk' HMGx
    have HMN := Hid.mk' HMNx
    have HRM := Hid.mk' HRMx
    clear HMGx HMNx HRMx h0 hw1 hw2
    go_enter Tryz.func4, Tryz.ntmps4
    go_wp2_with fail
    have HT0 := Hid.mk' (St2.start w #[.slice A1 f.1.length c1, .slice A2 f.2.1.length c2, .slice A3 f.2.2.length c3] #[.slice B1 g.1.length d1, .slice B2 g.2.1.length d2, .slice B3 g.2.2.length d3])
    obtain ⟨W0, hW0⟩ : ∃ W0, (w.alloc (.cells #[.slice A1 f.1.length c1, .slice A2 f.2.1.length c2, .slice A3 f.2.2.length c3] 25)).alloc (.cells #[.slice B1 g.1.length d1, .slice B2 g.2.1.length d2, .slice B3 g.2.2.length d3] 25) = W0 := ⟨_, rfl⟩
    rw [hW0] at HT0 ⊢
    clear hW0
    have xHALL : Hid (∀ w' : World, Below W0.heap.size W0 w' → (Below W0.heap.size W0 w' ∧ w'.cell? ⟨w.heap.size, 0, none⟩ = some (.slice A1 f.1.length c1) ∧ w'.cell? ⟨w.heap.size, 1, none⟩ = some (.slice A2 f.2.1.length c2) ∧ w'.cell? ⟨w.heap.size, 2, none⟩ = some (.slice A3 f.2.2.length c3) ∧ w'.cell? ⟨w.heap.size + 1, 0, none⟩ = some (.slice B1 g.1.length d1) ∧ w'.cell? ⟨w.heap.size + 1, 1, none⟩ = some (.slice B2 g.2.1.length d2) ∧ w'.cell? ⟨w.heap.size + 1, 2, none⟩ = some (.slice B3 g.2.2.length d3))) := fun w' hb => by
      have h2 := HT0.out.later hb
      exact ⟨hb, cell_at h2.a rfl, cell_at h2.a rfl, cell_at h2.a rfl, cell_at h2.b rfl, cell_at h2.b rfl, cell_at h2.b rfl⟩
    go_region_held3 (fun w' => Below W0.heap.size W0 w' ∧ w'.cell? ⟨w.heap.size, 0, none⟩ = some (.slice A1 f.1.length c1) ∧ w'.cell? ⟨w.heap.size, 1, none⟩ = some (.slice A2 f.2.1.length c2) ∧ w'.cell? ⟨w.heap.size, 2, none⟩ = some (.slice A3 f.2.2.length c3) ∧ w'.cell? ⟨w.heap.size + 1, 0, none⟩ = some (.slice B1 g.1.length d1) ∧ w'.cell? ⟨w.heap.size + 1, 1, none⟩ = some (.slice B2 g.2.1.length d2) ∧ w'.cell? ⟨w.heap.size + 1, 2, none⟩ = some (.slice B3 g.2.2.length d3)) (first | assumption | exact xHALL.out _ (by assumption) | exact xHALL.out _ ⟨rfl, rfl, rfl, Nat.le_refl _, fun _ _ => rfl⟩ | exact xHALL.out _ xHK.out | exact xHALL.out _ xHW.out | exact xHALL.out _ (xHW.out.alloc xHW.out.size _) | exact xHALL.out _ xHQ2.out | exact xHALL.out _ xHQ1.out | exact xHALL.out _ ⟨rfl, rfl, rfl, by simp, fun j hj => Below.heap_alloc _ _ _ hj⟩ | exact xHALL.out _ ((by assumption : Below W0.heap.size W0 _ ∧ _).1.alloc (by assumption : Below W0.heap.size W0 _ ∧ _).1.size _))
      (first
          | (go_at_call_has 8 (Value.slice A1 f.1.length c1)
             refine (HCPA _ (HT0.out.below.trans ((by assumption : Below W0.heap.size W0 _ ∧ _).1.mono HT0.out.below.size))).mono ?_
             rintro e xq1 ⟨vc, rfl, hvc, xhbq1⟩
             have xHQ1 := Hid.mk' ((by assumption : Below W0.heap.size W0 _ ∧ _).1.trans (xhbq1.mono (by assumption : Below W0.heap.size W0 _ ∧ _).1.size))
             obtain ⟨xC1, xC2, xC3, xc1, xc2, xc3, rfl, xhic, -⟩ := hvc.at
             unfold FootV
             have xHI1 := Hid.mk' xhic
             clear hvc xhic)
          | (go_at_call 8
             refine (HCPB _ (HT0.out.below.trans ((by assumption : Below W0.heap.size W0 _ ∧ _).1.mono HT0.out.below.size))).mono ?_
             rintro e xq2 ⟨vc, rfl, hvc, xhbq2⟩
             have xHQ2 := Hid.mk' ((by assumption : Below W0.heap.size W0 _ ∧ _).1.trans (xhbq2.mono (by assumption : Below W0.heap.size W0 _ ∧ _).1.size))
             obtain ⟨xD1, xD2, xD3, xd1, xd2, xd3, rfl, xhic, -⟩ := hvc.at
             unfold FootV
             have xHI2 := Hid.mk' xhic
             clear hvc xhic)
          | (go_at_call 14
             refine (HMG.out xC1 xC2 xC3 xD1 xD2 xD3 xc1 xc2 xc3 xd1 xd2 xd3 _ ?_ ?_).mono ?_
             · (repeat (first | with_reducible exact xHI1.out | with_reducible refine foot_up _ ?_ | with_reducible refine foot_later (by assumption) ?_))
             · (repeat (first | with_reducible exact xHI2.out | with_reducible refine foot_up _ ?_ | with_reducible refine foot_later (by assumption) ?_))
             rintro e xwm ⟨vm, rfl, xhom, xhbm⟩
             obtain ⟨xG1, xG2, xG3, xg1, xg2, xg3, rfl, -, -⟩ := xhom.at
             have xHW := Hid.mk' ((by assumption : Below W0.heap.size W0 _ ∧ _).1.trans (xhbm.mono (by assumption : Below W0.heap.size W0 _ ∧ _).1.size))
             first
               | (refine withFact (Lf.stored (b := W0.heap.size) HT0.out (by assumption : Below W0.heap.size W0 _ ∧ _).1 xhbm xhom (Nat.le_refl _) ?_) (fun xhl => ?_)
                  · (repeat (first | ((with_reducible refine block_newb _ _ _ ?_); (first | with_reducible rfl | (focus (simp; done)))) | with_reducible refine block_drew ?_ | with_reducible refine block_up _ ?_ | with_reducible refine block_later (by assumption) ?_))
                  have xht := xhl.1
                  have xt0 := cell_at xht (i := 0) rfl
                  have xt1 := cell_at xht (i := 1) rfl
                  have xt2 := cell_at xht (i := 2) rfl
                  have xu0 := free_at 0 xht
                  have xu1 := free_at 1 xht
                  have xu2 := free_at 2 xht
                  have xHK := Hid.mk' xhl.2.1
                  have xHL := Hid.mk' xhl.2.2
                  clear xhl xht)
               | (refine withFact (Lf.stored (b := xq1.heap.size) HT0.out (by assumption : Below W0.heap.size W0 _ ∧ _).1 xhbm xhom xHQ1.out.size ?_) (fun xhl => ?_)
                  · (repeat (first | ((with_reducible refine block_newb _ _ _ ?_); (first | with_reducible rfl | (focus (simp; done)))) | with_reducible refine block_drew ?_ | with_reducible refine block_up _ ?_ | with_reducible refine block_later (by assumption) ?_))
                  have xht := xhl.1
                  have xt0 := cell_at xht (i := 0) rfl
                  have xt1 := cell_at xht (i := 1) rfl
                  have xt2 := cell_at xht (i := 2) rfl
                  have xu0 := free_at 0 xht
                  have xu1 := free_at 1 xht
                  have xu2 := free_at 2 xht
                  have xHK := Hid.mk' xhl.2.1
                  have xHL := Hid.mk' xhl.2.2
                  clear xhl xht)
               | (refine withFact (Lf.stored (b := xq2.heap.size) HT0.out (by assumption : Below W0.heap.size W0 _ ∧ _).1 xhbm xhom xHQ2.out.size ?_) (fun xhl => ?_)
                  · (repeat (first | ((with_reducible refine block_newb _ _ _ ?_); (first | with_reducible rfl | (focus (simp; done)))) | with_reducible refine block_drew ?_ | with_reducible refine block_up _ ?_ | with_reducible refine block_later (by assumption) ?_))
                  have xht := xhl.1
                  have xt0 := cell_at xht (i := 0) rfl
                  have xt1 := cell_at xht (i := 1) rfl
                  have xt2 := cell_at xht (i := 2) rfl
                  have xu0 := free_at 0 xht
                  have xu1 := free_at 1 xht
                  have xu2 := free_at 2 xht
                  have xHK := Hid.mk' xhl.2.1
                  have xHL := Hid.mk' xhl.2.2
                  clear xhl xht)
               | (have xHL := Hid.mk' (Lf.fresh HT0.out (by assumption : Below W0.heap.size W0 _ ∧ _).1 xhbm xhom)
                  skip)
             clear xhom
             unfold FootV))
    all_goals (
      obtain ⟨W2, GB, eW, eB, hl⟩ := xHL.out.name
      simp only [← eW]
      (try simp only [← eB])
      have HT2 : Hid (St2 w W2 #[.slice A1 f.1.length c1, .slice A2 f.2.1.length c2, .slice A3 f.2.2.length c3] #[.slice B1 g.1.length d1, .slice B2 g.2.1.length d2, .slice B3 g.2.2.length d3]) := ⟨hl.below, hl.a, hl.b⟩
      have HGB := Hid.mk' hl.g
      have HGI := Hid.mk' hl.inn
      have k0 : W2.cell? ⟨w.heap.size, 0, none⟩ = some (.slice A1 f.1.length c1) := cell_at HT2.out.a rfl
      have k1 : W2.cell? ⟨w.heap.size, 1, none⟩ = some (.slice A2 f.2.1.length c2) := cell_at HT2.out.a rfl
      have k2 : W2.cell? ⟨w.heap.size, 2, none⟩ = some (.slice A3 f.2.2.length c3) := cell_at HT2.out.a rfl
      have l0 : W2.cell? ⟨w.heap.size + 1, 0, none⟩ = some (.slice B1 g.1.length d1) := cell_at HT2.out.b rfl
      have l1 : W2.cell? ⟨w.heap.size + 1, 1, none⟩ = some (.slice B2 g.2.1.length d2) := cell_at HT2.out.b rfl
      have l2 : W2.cell? ⟨w.heap.size + 1, 2, none⟩ = some (.slice B3 g.2.2.length d3) := cell_at HT2.out.b rfl
      have HRW := HRM.out W2 HT2.out.below
      clear hl eW eB
      (try clear xHL)
      go_wp2_with fail
      refine HRW.mono ?_
      rintro e w3 ⟨v2, rfl, hv2, hb3⟩
      obtain ⟨R1, R2, R3, r1, r2, r3, rfl, hi2, -⟩ := hv2
      unfold FootV
      clear HRW k0 k1 k2 l0 l1 l2
      have HT3 := Hid.mk' (HT2.out.later hb3)
      have HG3 := Hid.mk' (block_later hb3 HGB.out)
      have HI3 := Hid.mk' (foot_later hb3 HGI.out)
      obtain ⟨RB, hRB⟩ : ∃ RB, w3.heap.size = RB := ⟨_, rfl⟩
      have hrb : Below w3.heap.size w3 (w3.alloc (.cells #[.slice R1 mf.1.length r1, .slice R2 mf.2.1.length r2, .slice R3 mf.2.2.length r3] 25)) := (Below.refl _ _).alloc (Nat.le_refl _) _
      have hrn := World.alloc_heap_new w3 (.cells #[.slice R1 mf.1.length r1, .slice R2 mf.2.1.length r2, .slice R3 mf.2.2.length r3] 25)
      obtain ⟨WR, hWR⟩ : ∃ WR, w3.alloc (.cells #[.slice R1 mf.1.length r1, .slice R2 mf.2.1.length r2, .slice R3 mf.2.2.length r3] 25) = WR := ⟨_, rfl⟩
      rw [hWR] at hrb hrn
      rw [hRB] at hrn
      have HTR := Hid.mk' (HT3.out.later hrb)
      have HGR := Hid.mk' (block_later hrb HG3.out)
      have HIR := Hid.mk' (And.intro (foot_later hrb HI3.out) (foot_later hrb hi2))
      have m0 : WR.cell? ⟨GB, 0, none⟩ = some (.slice xG1 mf.1.length xg1) := cell_at HGR.out rfl
      have m1 : WR.cell? ⟨GB, 1, none⟩ = some (.slice xG2 mf.2.1.length xg2) := cell_at HGR.out rfl
      have m2 : WR.cell? ⟨GB, 2, none⟩ = some (.slice xG3 mf.2.2.length xg3) := cell_at HGR.out rfl
      have o0 : WR.cell? ⟨RB, 0, none⟩ = some (.slice R1 mf.1.length r1) := cell_at hrn rfl
      have o1 : WR.cell? ⟨RB, 1, none⟩ = some (.slice R2 mf.2.1.length r2) := cell_at hrn rfl
      have o2 : WR.cell? ⟨RB, 2, none⟩ = some (.slice R3 mf.2.2.length r3) := cell_at hrn rfl
      have HSM := same_calls xG1 xG2 xG3 R1 R2 R3 xg1 xg2 xg3 r1 r2 r3 mf mf WR HIR.out.1 HIR.out.2
      rw [show sameF mf mf = true from by simp [sameF]] at HSM
      unfold FootV at HSM
      clear hrb hrn hi2 hb3 HT3 HG3 HI3 HT2 HGB HGI HT0
      go_wp2_with fail
      refine HSM.mono ?_
      rintro e w4 ⟨rfl, hb4⟩
      have HT4 := Hid.mk' (HTR.out.later hb4)
      have HG4 := Hid.mk' (block_later hb4 HGR.out)
      have HI4 := Hid.mk' (foot_later hb4 HIR.out.1)
      clear hb4 HSM m0 m1 m2 o0 o1 o2 HTR HGR HIR hRB hWR
      go_wp2_with fail
      have yHALL : Hid (∀ w' : World, Below w4.heap.size w4 w' → (Below w4.heap.size w4 w' ∧ w'.cell? ⟨w.heap.size, 0, none⟩ = some (.slice A1 f.1.length c1) ∧ w'.cell? ⟨w.heap.size, 1, none⟩ = some (.slice A2 f.2.1.length c2) ∧ w'.cell? ⟨w.heap.size, 2, none⟩ = some (.slice A3 f.2.2.length c3) ∧ w'.cell? ⟨w.heap.size + 1, 0, none⟩ = some (.slice B1 g.1.length d1) ∧ w'.cell? ⟨w.heap.size + 1, 1, none⟩ = some (.slice B2 g.2.1.length d2) ∧ w'.cell? ⟨w.heap.size + 1, 2, none⟩ = some (.slice B3 g.2.2.length d3))) := fun w' hb => by
        have h2 := HT4.out.later hb
        exact ⟨hb, cell_at h2.a rfl, cell_at h2.a rfl, cell_at h2.a rfl, cell_at h2.b rfl, cell_at h2.b rfl, cell_at h2.b rfl⟩
      go_region_held3 (fun w' => Below w4.heap.size w4 w' ∧ w'.cell? ⟨w.heap.size, 0, none⟩ = some (.slice A1 f.1.length c1) ∧ w'.cell? ⟨w.heap.size, 1, none⟩ = some (.slice A2 f.2.1.length c2) ∧ w'.cell? ⟨w.heap.size, 2, none⟩ = some (.slice A3 f.2.2.length c3) ∧ w'.cell? ⟨w.heap.size + 1, 0, none⟩ = some (.slice B1 g.1.length d1) ∧ w'.cell? ⟨w.heap.size + 1, 1, none⟩ = some (.slice B2 g.2.1.length d2) ∧ w'.cell? ⟨w.heap.size + 1, 2, none⟩ = some (.slice B3 g.2.2.length d3)) (first | assumption | exact yHALL.out _ (by assumption) | exact yHALL.out _ ⟨rfl, rfl, rfl, Nat.le_refl _, fun _ _ => rfl⟩ | exact yHALL.out _ yHK.out | exact yHALL.out _ yHW.out | exact yHALL.out _ (yHW.out.alloc yHW.out.size _) | exact yHALL.out _ yHQ2.out | exact yHALL.out _ yHQ1.out | exact yHALL.out _ ⟨rfl, rfl, rfl, by simp, fun j hj => Below.heap_alloc _ _ _ hj⟩ | exact yHALL.out _ ((by assumption : Below w4.heap.size w4 _ ∧ _).1.alloc (by assumption : Below w4.heap.size w4 _ ∧ _).1.size _))
        (first
            | (go_at_call_has 8 (Value.slice B1 g.1.length d1)
               refine (HCPB _ (HT4.out.below.trans ((by assumption : Below w4.heap.size w4 _ ∧ _).1.mono HT4.out.below.size))).mono ?_
               rintro e yq1 ⟨vc, rfl, hvc, yhbq1⟩
               have yHQ1 := Hid.mk' ((by assumption : Below w4.heap.size w4 _ ∧ _).1.trans (yhbq1.mono (by assumption : Below w4.heap.size w4 _ ∧ _).1.size))
               obtain ⟨yC1, yC2, yC3, yc1, yc2, yc3, rfl, yhic, -⟩ := hvc.at
               unfold FootV
               have yHI1 := Hid.mk' yhic
               clear hvc yhic)
            | (go_at_call 8
               refine (HCPA _ (HT4.out.below.trans ((by assumption : Below w4.heap.size w4 _ ∧ _).1.mono HT4.out.below.size))).mono ?_
               rintro e yq2 ⟨vc, rfl, hvc, yhbq2⟩
               have yHQ2 := Hid.mk' ((by assumption : Below w4.heap.size w4 _ ∧ _).1.trans (yhbq2.mono (by assumption : Below w4.heap.size w4 _ ∧ _).1.size))
               obtain ⟨yD1, yD2, yD3, yd1, yd2, yd3, rfl, yhic, -⟩ := hvc.at
               unfold FootV
               have yHI2 := Hid.mk' yhic
               clear hvc yhic)
            | (go_at_call 14
               refine (HMN.out yC1 yC2 yC3 yD1 yD2 yD3 yc1 yc2 yc3 yd1 yd2 yd3 _ ?_ ?_).mono ?_
               · (repeat (first | with_reducible exact yHI1.out | with_reducible refine foot_up _ ?_ | with_reducible refine foot_later (by assumption) ?_))
               · (repeat (first | with_reducible exact yHI2.out | with_reducible refine foot_up _ ?_ | with_reducible refine foot_later (by assumption) ?_))
               rintro e ywm ⟨vm, rfl, yhom, yhbm⟩
               obtain ⟨yG1, yG2, yG3, yg1, yg2, yg3, rfl, -, -⟩ := yhom.at
               have yHW := Hid.mk' ((by assumption : Below w4.heap.size w4 _ ∧ _).1.trans (yhbm.mono (by assumption : Below w4.heap.size w4 _ ∧ _).1.size))
               first
                 | (refine withFact (Lf.stored (b := w4.heap.size) HT4.out (by assumption : Below w4.heap.size w4 _ ∧ _).1 yhbm yhom (Nat.le_refl _) ?_) (fun yhl => ?_)
                    · (repeat (first | ((with_reducible refine block_newb _ _ _ ?_); (first | with_reducible rfl | (focus (simp; done)))) | with_reducible refine block_drew ?_ | with_reducible refine block_up _ ?_ | with_reducible refine block_later (by assumption) ?_))
                    have yht := yhl.1
                    have yt0 := cell_at yht (i := 0) rfl
                    have yt1 := cell_at yht (i := 1) rfl
                    have yt2 := cell_at yht (i := 2) rfl
                    have yu0 := free_at 0 yht
                    have yu1 := free_at 1 yht
                    have yu2 := free_at 2 yht
                    have yHK := Hid.mk' yhl.2.1
                    have yHL := Hid.mk' yhl.2.2
                    clear yhl yht)
                 | (refine withFact (Lf.stored (b := yq1.heap.size) HT4.out (by assumption : Below w4.heap.size w4 _ ∧ _).1 yhbm yhom yHQ1.out.size ?_) (fun yhl => ?_)
                    · (repeat (first | ((with_reducible refine block_newb _ _ _ ?_); (first | with_reducible rfl | (focus (simp; done)))) | with_reducible refine block_drew ?_ | with_reducible refine block_up _ ?_ | with_reducible refine block_later (by assumption) ?_))
                    have yht := yhl.1
                    have yt0 := cell_at yht (i := 0) rfl
                    have yt1 := cell_at yht (i := 1) rfl
                    have yt2 := cell_at yht (i := 2) rfl
                    have yu0 := free_at 0 yht
                    have yu1 := free_at 1 yht
                    have yu2 := free_at 2 yht
                    have yHK := Hid.mk' yhl.2.1
                    have yHL := Hid.mk' yhl.2.2
                    clear yhl yht)
                 | (refine withFact (Lf.stored (b := yq2.heap.size) HT4.out (by assumption : Below w4.heap.size w4 _ ∧ _).1 yhbm yhom yHQ2.out.size ?_) (fun yhl => ?_)
                    · (repeat (first | ((with_reducible refine block_newb _ _ _ ?_); (first | with_reducible rfl | (focus (simp; done)))) | with_reducible refine block_drew ?_ | with_reducible refine block_up _ ?_ | with_reducible refine block_later (by assumption) ?_))
                    have yht := yhl.1
                    have yt0 := cell_at yht (i := 0) rfl
                    have yt1 := cell_at yht (i := 1) rfl
                    have yt2 := cell_at yht (i := 2) rfl
                    have yu0 := free_at 0 yht
                    have yu1 := free_at 1 yht
                    have yu2 := free_at 2 yht
                    have yHK := Hid.mk' yhl.2.1
                    have yHL := Hid.mk' yhl.2.2
                    clear yhl yht)
                 | (have yHL := Hid.mk' (Lf.fresh HT4.out (by assumption : Below w4.heap.size w4 _ ∧ _).1 yhbm yhom)
                    skip)
               clear yhom
               unfold FootV))
      all_goals (
        obtain ⟨W5, KB, eW, eB, hl⟩ := yHL.out.name
        simp only [← eW]
        (try simp only [← eB])
        have hb5 : Below w4.heap.size w4 W5 := by rw [eW]; first | exact yHK.out | exact yHW.out.alloc yHW.out.size _
        have HB5 := Hid.mk' hl.below
        have HG5 := Hid.mk' (block_later hb5 HG4.out)
        have HI5 := Hid.mk' (foot_later hb5 HI4.out)
        have HKB := Hid.mk' hl.g
        have HKI := Hid.mk' hl.inn
        clear hb5 hl eW eB
        (try clear yHL)
        have m0 : W5.cell? ⟨GB, 0, none⟩ = some (.slice xG1 mf.1.length xg1) := cell_at HG5.out rfl
        have m1 : W5.cell? ⟨GB, 1, none⟩ = some (.slice xG2 mf.2.1.length xg2) := cell_at HG5.out rfl
        have m2 : W5.cell? ⟨GB, 2, none⟩ = some (.slice xG3 mf.2.2.length xg3) := cell_at HG5.out rfl
        have o0 : W5.cell? ⟨KB, 0, none⟩ = some (.slice yG1 mf.1.length yg1) := cell_at HKB.out rfl
        have o1 : W5.cell? ⟨KB, 1, none⟩ = some (.slice yG2 mf.2.1.length yg2) := cell_at HKB.out rfl
        have o2 : W5.cell? ⟨KB, 2, none⟩ = some (.slice yG3 mf.2.2.length yg3) := cell_at HKB.out rfl
        have HSK := same_calls xG1 xG2 xG3 yG1 yG2 yG3 xg1 xg2 xg3 yg1 yg2 yg3 mf mf W5 HI5.out HKI.out
        rw [show sameF mf mf = true from by simp [sameF]] at HSK
        unfold FootV at HSK
        go_wp2_with fail
        refine HSK.mono ?_
        rintro e w6 ⟨rfl, hb6⟩
        go_wp2_with fail
        refine (HAW _).mono ?_
        rintro e w7 ⟨rfl, hb7⟩
        go_wp2_with fail
        go_ret
        exact ⟨rfl, HB5.out.trans ((hb6.trans (hb7.mono hb6.size)).mono HB5.out.size)⟩
      )
    )
  · have hb' : (mergeE f g != 0) = true := bne_iff_ne.2 h0
    generalize mergeE f g = em at HMGx HRMx hb'
    generalize mergeE g f = en at HMNx
    generalize mergeF f g = mf at HMGx HRMx
    generalize mergeF g f = mn at HMNx
    have HMG := Hid.mk' HMGx
    have HMN := Hid.mk' HMNx
    have HRM := Hid.mk' HRMx
    clear HMGx HMNx HRMx h0 hw1 hw2
    go_enter Tryz.func4, Tryz.ntmps4
    go_wp2_with fail
    have HT0 := Hid.mk' (St2.start w #[.slice A1 f.1.length c1, .slice A2 f.2.1.length c2, .slice A3 f.2.2.length c3] #[.slice B1 g.1.length d1, .slice B2 g.2.1.length d2, .slice B3 g.2.2.length d3])
    obtain ⟨W0, hW0⟩ : ∃ W0, (w.alloc (.cells #[.slice A1 f.1.length c1, .slice A2 f.2.1.length c2, .slice A3 f.2.2.length c3] 25)).alloc (.cells #[.slice B1 g.1.length d1, .slice B2 g.2.1.length d2, .slice B3 g.2.2.length d3] 25) = W0 := ⟨_, rfl⟩
    rw [hW0] at HT0 ⊢
    clear hW0
    have xHALL : Hid (∀ w' : World, Below W0.heap.size W0 w' → (Below W0.heap.size W0 w' ∧ w'.cell? ⟨w.heap.size, 0, none⟩ = some (.slice A1 f.1.length c1) ∧ w'.cell? ⟨w.heap.size, 1, none⟩ = some (.slice A2 f.2.1.length c2) ∧ w'.cell? ⟨w.heap.size, 2, none⟩ = some (.slice A3 f.2.2.length c3) ∧ w'.cell? ⟨w.heap.size + 1, 0, none⟩ = some (.slice B1 g.1.length d1) ∧ w'.cell? ⟨w.heap.size + 1, 1, none⟩ = some (.slice B2 g.2.1.length d2) ∧ w'.cell? ⟨w.heap.size + 1, 2, none⟩ = some (.slice B3 g.2.2.length d3))) := fun w' hb => by
      have h2 := HT0.out.later hb
      exact ⟨hb, cell_at h2.a rfl, cell_at h2.a rfl, cell_at h2.a rfl, cell_at h2.b rfl, cell_at h2.b rfl, cell_at h2.b rfl⟩
    go_region_held3 (fun w' => Below W0.heap.size W0 w' ∧ w'.cell? ⟨w.heap.size, 0, none⟩ = some (.slice A1 f.1.length c1) ∧ w'.cell? ⟨w.heap.size, 1, none⟩ = some (.slice A2 f.2.1.length c2) ∧ w'.cell? ⟨w.heap.size, 2, none⟩ = some (.slice A3 f.2.2.length c3) ∧ w'.cell? ⟨w.heap.size + 1, 0, none⟩ = some (.slice B1 g.1.length d1) ∧ w'.cell? ⟨w.heap.size + 1, 1, none⟩ = some (.slice B2 g.2.1.length d2) ∧ w'.cell? ⟨w.heap.size + 1, 2, none⟩ = some (.slice B3 g.2.2.length d3)) (first | assumption | exact xHALL.out _ (by assumption) | exact xHALL.out _ ⟨rfl, rfl, rfl, Nat.le_refl _, fun _ _ => rfl⟩ | exact xHALL.out _ xHK.out | exact xHALL.out _ xHW.out | exact xHALL.out _ (xHW.out.alloc xHW.out.size _) | exact xHALL.out _ xHQ2.out | exact xHALL.out _ xHQ1.out | exact xHALL.out _ ⟨rfl, rfl, rfl, by simp, fun j hj => Below.heap_alloc _ _ _ hj⟩ | exact xHALL.out _ ((by assumption : Below W0.heap.size W0 _ ∧ _).1.alloc (by assumption : Below W0.heap.size W0 _ ∧ _).1.size _))
      (first
          | (go_at_call_has 8 (Value.slice A1 f.1.length c1)
             refine (HCPA _ (HT0.out.below.trans ((by assumption : Below W0.heap.size W0 _ ∧ _).1.mono HT0.out.below.size))).mono ?_
             rintro e xq1 ⟨vc, rfl, hvc, xhbq1⟩
             have xHQ1 := Hid.mk' ((by assumption : Below W0.heap.size W0 _ ∧ _).1.trans (xhbq1.mono (by assumption : Below W0.heap.size W0 _ ∧ _).1.size))
             obtain ⟨xC1, xC2, xC3, xc1, xc2, xc3, rfl, xhic, -⟩ := hvc.at
             unfold FootV
             have xHI1 := Hid.mk' xhic
             clear hvc xhic)
          | (go_at_call 8
             refine (HCPB _ (HT0.out.below.trans ((by assumption : Below W0.heap.size W0 _ ∧ _).1.mono HT0.out.below.size))).mono ?_
             rintro e xq2 ⟨vc, rfl, hvc, xhbq2⟩
             have xHQ2 := Hid.mk' ((by assumption : Below W0.heap.size W0 _ ∧ _).1.trans (xhbq2.mono (by assumption : Below W0.heap.size W0 _ ∧ _).1.size))
             obtain ⟨xD1, xD2, xD3, xd1, xd2, xd3, rfl, xhic, -⟩ := hvc.at
             unfold FootV
             have xHI2 := Hid.mk' xhic
             clear hvc xhic)
          | (go_at_call 14
             refine (HMG.out xC1 xC2 xC3 xD1 xD2 xD3 xc1 xc2 xc3 xd1 xd2 xd3 _ ?_ ?_).mono ?_
             · (repeat (first | with_reducible exact xHI1.out | with_reducible refine foot_up _ ?_ | with_reducible refine foot_later (by assumption) ?_))
             · (repeat (first | with_reducible exact xHI2.out | with_reducible refine foot_up _ ?_ | with_reducible refine foot_later (by assumption) ?_))
             rintro e xwm ⟨vm, rfl, xhom, xhbm⟩
             obtain ⟨xG1, xG2, xG3, xg1, xg2, xg3, rfl, -, -⟩ := xhom.at
             have xHW := Hid.mk' ((by assumption : Below W0.heap.size W0 _ ∧ _).1.trans (xhbm.mono (by assumption : Below W0.heap.size W0 _ ∧ _).1.size))
             first
               | (refine withFact (Lf.stored (b := W0.heap.size) HT0.out (by assumption : Below W0.heap.size W0 _ ∧ _).1 xhbm xhom (Nat.le_refl _) ?_) (fun xhl => ?_)
                  · (repeat (first | ((with_reducible refine block_newb _ _ _ ?_); (first | with_reducible rfl | (focus (simp; done)))) | with_reducible refine block_drew ?_ | with_reducible refine block_up _ ?_ | with_reducible refine block_later (by assumption) ?_))
                  have xht := xhl.1
                  have xt0 := cell_at xht (i := 0) rfl
                  have xt1 := cell_at xht (i := 1) rfl
                  have xt2 := cell_at xht (i := 2) rfl
                  have xu0 := free_at 0 xht
                  have xu1 := free_at 1 xht
                  have xu2 := free_at 2 xht
                  have xHK := Hid.mk' xhl.2.1
                  have xHL := Hid.mk' xhl.2.2
                  clear xhl xht)
               | (refine withFact (Lf.stored (b := xq1.heap.size) HT0.out (by assumption : Below W0.heap.size W0 _ ∧ _).1 xhbm xhom xHQ1.out.size ?_) (fun xhl => ?_)
                  · (repeat (first | ((with_reducible refine block_newb _ _ _ ?_); (first | with_reducible rfl | (focus (simp; done)))) | with_reducible refine block_drew ?_ | with_reducible refine block_up _ ?_ | with_reducible refine block_later (by assumption) ?_))
                  have xht := xhl.1
                  have xt0 := cell_at xht (i := 0) rfl
                  have xt1 := cell_at xht (i := 1) rfl
                  have xt2 := cell_at xht (i := 2) rfl
                  have xu0 := free_at 0 xht
                  have xu1 := free_at 1 xht
                  have xu2 := free_at 2 xht
                  have xHK := Hid.mk' xhl.2.1
                  have xHL := Hid.mk' xhl.2.2
                  clear xhl xht)
               | (refine withFact (Lf.stored (b := xq2.heap.size) HT0.out (by assumption : Below W0.heap.size W0 _ ∧ _).1 xhbm xhom xHQ2.out.size ?_) (fun xhl => ?_)
                  · (repeat (first | ((with_reducible refine block_newb _ _ _ ?_); (first | with_reducible rfl | (focus (simp; done)))) | with_reducible refine block_drew ?_ | with_reducible refine block_up _ ?_ | with_reducible refine block_later (by assumption) ?_))
                  have xht := xhl.1
                  have xt0 := cell_at xht (i := 0) rfl
                  have xt1 := cell_at xht (i := 1) rfl
                  have xt2 := cell_at xht (i := 2) rfl
                  have xu0 := free_at 0 xht
                  have xu1 := free_at 1 xht
                  have xu2 := free_at 2 xht
                  have xHK := Hid.mk' xhl.2.1
                  have xHL := Hid.mk' xhl.2.2
                  clear xhl xht)
               | (have xHL := Hid.mk' (Lf.fresh HT0.out (by assumption : Below W0.heap.size W0 _ ∧ _).1 xhbm xhom)
                  skip)
             clear xhom
             unfold FootV))
    all_goals (
      obtain ⟨W2, GB, eW, eB, hl⟩ := xHL.out.name
      simp only [← eW]
      (try simp only [← eB])
      have HT2 : Hid (St2 w W2 #[.slice A1 f.1.length c1, .slice A2 f.2.1.length c2, .slice A3 f.2.2.length c3] #[.slice B1 g.1.length d1, .slice B2 g.2.1.length d2, .slice B3 g.2.2.length d3]) := ⟨hl.below, hl.a, hl.b⟩
      have HGB := Hid.mk' hl.g
      have HGI := Hid.mk' hl.inn
      have k0 : W2.cell? ⟨w.heap.size, 0, none⟩ = some (.slice A1 f.1.length c1) := cell_at HT2.out.a rfl
      have k1 : W2.cell? ⟨w.heap.size, 1, none⟩ = some (.slice A2 f.2.1.length c2) := cell_at HT2.out.a rfl
      have k2 : W2.cell? ⟨w.heap.size, 2, none⟩ = some (.slice A3 f.2.2.length c3) := cell_at HT2.out.a rfl
      have l0 : W2.cell? ⟨w.heap.size + 1, 0, none⟩ = some (.slice B1 g.1.length d1) := cell_at HT2.out.b rfl
      have l1 : W2.cell? ⟨w.heap.size + 1, 1, none⟩ = some (.slice B2 g.2.1.length d2) := cell_at HT2.out.b rfl
      have l2 : W2.cell? ⟨w.heap.size + 1, 2, none⟩ = some (.slice B3 g.2.2.length d3) := cell_at HT2.out.b rfl
      have HRW := HRM.out W2 HT2.out.below
      clear hl eW eB
      (try clear xHL)
      go_wp2_with fail
      refine HRW.mono ?_
      rintro e w3 ⟨v2, rfl, hv2, hb3⟩
      obtain ⟨R1, R2, R3, r1, r2, r3, rfl, hi2, -⟩ := hv2
      unfold FootV
      clear HRW k0 k1 k2 l0 l1 l2
      have HT3 := Hid.mk' (HT2.out.later hb3)
      have HG3 := Hid.mk' (block_later hb3 HGB.out)
      have HI3 := Hid.mk' (foot_later hb3 HGI.out)
      obtain ⟨RB, hRB⟩ : ∃ RB, w3.heap.size = RB := ⟨_, rfl⟩
      have hrb : Below w3.heap.size w3 (w3.alloc (.cells #[.slice R1 mf.1.length r1, .slice R2 mf.2.1.length r2, .slice R3 mf.2.2.length r3] 25)) := (Below.refl _ _).alloc (Nat.le_refl _) _
      have hrn := World.alloc_heap_new w3 (.cells #[.slice R1 mf.1.length r1, .slice R2 mf.2.1.length r2, .slice R3 mf.2.2.length r3] 25)
      obtain ⟨WR, hWR⟩ : ∃ WR, w3.alloc (.cells #[.slice R1 mf.1.length r1, .slice R2 mf.2.1.length r2, .slice R3 mf.2.2.length r3] 25) = WR := ⟨_, rfl⟩
      rw [hWR] at hrb hrn
      rw [hRB] at hrn
      have HTR := Hid.mk' (HT3.out.later hrb)
      have HGR := Hid.mk' (block_later hrb HG3.out)
      have HIR := Hid.mk' (And.intro (foot_later hrb HI3.out) (foot_later hrb hi2))
      have m0 : WR.cell? ⟨GB, 0, none⟩ = some (.slice xG1 mf.1.length xg1) := cell_at HGR.out rfl
      have m1 : WR.cell? ⟨GB, 1, none⟩ = some (.slice xG2 mf.2.1.length xg2) := cell_at HGR.out rfl
      have m2 : WR.cell? ⟨GB, 2, none⟩ = some (.slice xG3 mf.2.2.length xg3) := cell_at HGR.out rfl
      have o0 : WR.cell? ⟨RB, 0, none⟩ = some (.slice R1 mf.1.length r1) := cell_at hrn rfl
      have o1 : WR.cell? ⟨RB, 1, none⟩ = some (.slice R2 mf.2.1.length r2) := cell_at hrn rfl
      have o2 : WR.cell? ⟨RB, 2, none⟩ = some (.slice R3 mf.2.2.length r3) := cell_at hrn rfl
      have HSM := same_calls xG1 xG2 xG3 R1 R2 R3 xg1 xg2 xg3 r1 r2 r3 mf mf WR HIR.out.1 HIR.out.2
      rw [show sameF mf mf = true from by simp [sameF]] at HSM
      unfold FootV at HSM
      clear hrb hrn hi2 hb3 HT3 HG3 HI3 HT2 HGB HGI HT0
      go_wp2_with fail
      refine HSM.mono ?_
      rintro e w4 ⟨rfl, hb4⟩
      have HT4 := Hid.mk' (HTR.out.later hb4)
      have HG4 := Hid.mk' (block_later hb4 HGR.out)
      have HI4 := Hid.mk' (foot_later hb4 HIR.out.1)
      clear hb4 HSM m0 m1 m2 o0 o1 o2 HTR HGR HIR hRB hWR
      go_wp2_with fail
      have yHALL : Hid (∀ w' : World, Below w4.heap.size w4 w' → (Below w4.heap.size w4 w' ∧ w'.cell? ⟨w.heap.size, 0, none⟩ = some (.slice A1 f.1.length c1) ∧ w'.cell? ⟨w.heap.size, 1, none⟩ = some (.slice A2 f.2.1.length c2) ∧ w'.cell? ⟨w.heap.size, 2, none⟩ = some (.slice A3 f.2.2.length c3) ∧ w'.cell? ⟨w.heap.size + 1, 0, none⟩ = some (.slice B1 g.1.length d1) ∧ w'.cell? ⟨w.heap.size + 1, 1, none⟩ = some (.slice B2 g.2.1.length d2) ∧ w'.cell? ⟨w.heap.size + 1, 2, none⟩ = some (.slice B3 g.2.2.length d3))) := fun w' hb => by
        have h2 := HT4.out.later hb
        exact ⟨hb, cell_at h2.a rfl, cell_at h2.a rfl, cell_at h2.a rfl, cell_at h2.b rfl, cell_at h2.b rfl, cell_at h2.b rfl⟩
      go_region_held3 (fun w' => Below w4.heap.size w4 w' ∧ w'.cell? ⟨w.heap.size, 0, none⟩ = some (.slice A1 f.1.length c1) ∧ w'.cell? ⟨w.heap.size, 1, none⟩ = some (.slice A2 f.2.1.length c2) ∧ w'.cell? ⟨w.heap.size, 2, none⟩ = some (.slice A3 f.2.2.length c3) ∧ w'.cell? ⟨w.heap.size + 1, 0, none⟩ = some (.slice B1 g.1.length d1) ∧ w'.cell? ⟨w.heap.size + 1, 1, none⟩ = some (.slice B2 g.2.1.length d2) ∧ w'.cell? ⟨w.heap.size + 1, 2, none⟩ = some (.slice B3 g.2.2.length d3)) (first | assumption | exact yHALL.out _ (by assumption) | exact yHALL.out _ ⟨rfl, rfl, rfl, Nat.le_refl _, fun _ _ => rfl⟩ | exact yHALL.out _ yHK.out | exact yHALL.out _ yHW.out | exact yHALL.out _ (yHW.out.alloc yHW.out.size _) | exact yHALL.out _ yHQ2.out | exact yHALL.out _ yHQ1.out | exact yHALL.out _ ⟨rfl, rfl, rfl, by simp, fun j hj => Below.heap_alloc _ _ _ hj⟩ | exact yHALL.out _ ((by assumption : Below w4.heap.size w4 _ ∧ _).1.alloc (by assumption : Below w4.heap.size w4 _ ∧ _).1.size _))
        (first
            | (go_at_call_has 8 (Value.slice B1 g.1.length d1)
               refine (HCPB _ (HT4.out.below.trans ((by assumption : Below w4.heap.size w4 _ ∧ _).1.mono HT4.out.below.size))).mono ?_
               rintro e yq1 ⟨vc, rfl, hvc, yhbq1⟩
               have yHQ1 := Hid.mk' ((by assumption : Below w4.heap.size w4 _ ∧ _).1.trans (yhbq1.mono (by assumption : Below w4.heap.size w4 _ ∧ _).1.size))
               obtain ⟨yC1, yC2, yC3, yc1, yc2, yc3, rfl, yhic, -⟩ := hvc.at
               unfold FootV
               have yHI1 := Hid.mk' yhic
               clear hvc yhic)
            | (go_at_call 8
               refine (HCPA _ (HT4.out.below.trans ((by assumption : Below w4.heap.size w4 _ ∧ _).1.mono HT4.out.below.size))).mono ?_
               rintro e yq2 ⟨vc, rfl, hvc, yhbq2⟩
               have yHQ2 := Hid.mk' ((by assumption : Below w4.heap.size w4 _ ∧ _).1.trans (yhbq2.mono (by assumption : Below w4.heap.size w4 _ ∧ _).1.size))
               obtain ⟨yD1, yD2, yD3, yd1, yd2, yd3, rfl, yhic, -⟩ := hvc.at
               unfold FootV
               have yHI2 := Hid.mk' yhic
               clear hvc yhic)
            | (go_at_call 14
               refine (HMN.out yC1 yC2 yC3 yD1 yD2 yD3 yc1 yc2 yc3 yd1 yd2 yd3 _ ?_ ?_).mono ?_
               · (repeat (first | with_reducible exact yHI1.out | with_reducible refine foot_up _ ?_ | with_reducible refine foot_later (by assumption) ?_))
               · (repeat (first | with_reducible exact yHI2.out | with_reducible refine foot_up _ ?_ | with_reducible refine foot_later (by assumption) ?_))
               rintro e ywm ⟨vm, rfl, yhom, yhbm⟩
               obtain ⟨yG1, yG2, yG3, yg1, yg2, yg3, rfl, -, -⟩ := yhom.at
               have yHW := Hid.mk' ((by assumption : Below w4.heap.size w4 _ ∧ _).1.trans (yhbm.mono (by assumption : Below w4.heap.size w4 _ ∧ _).1.size))
               first
                 | (refine withFact (Lf.stored (b := w4.heap.size) HT4.out (by assumption : Below w4.heap.size w4 _ ∧ _).1 yhbm yhom (Nat.le_refl _) ?_) (fun yhl => ?_)
                    · (repeat (first | ((with_reducible refine block_newb _ _ _ ?_); (first | with_reducible rfl | (focus (simp; done)))) | with_reducible refine block_drew ?_ | with_reducible refine block_up _ ?_ | with_reducible refine block_later (by assumption) ?_))
                    have yht := yhl.1
                    have yt0 := cell_at yht (i := 0) rfl
                    have yt1 := cell_at yht (i := 1) rfl
                    have yt2 := cell_at yht (i := 2) rfl
                    have yu0 := free_at 0 yht
                    have yu1 := free_at 1 yht
                    have yu2 := free_at 2 yht
                    have yHK := Hid.mk' yhl.2.1
                    have yHL := Hid.mk' yhl.2.2
                    clear yhl yht)
                 | (refine withFact (Lf.stored (b := yq1.heap.size) HT4.out (by assumption : Below w4.heap.size w4 _ ∧ _).1 yhbm yhom yHQ1.out.size ?_) (fun yhl => ?_)
                    · (repeat (first | ((with_reducible refine block_newb _ _ _ ?_); (first | with_reducible rfl | (focus (simp; done)))) | with_reducible refine block_drew ?_ | with_reducible refine block_up _ ?_ | with_reducible refine block_later (by assumption) ?_))
                    have yht := yhl.1
                    have yt0 := cell_at yht (i := 0) rfl
                    have yt1 := cell_at yht (i := 1) rfl
                    have yt2 := cell_at yht (i := 2) rfl
                    have yu0 := free_at 0 yht
                    have yu1 := free_at 1 yht
                    have yu2 := free_at 2 yht
                    have yHK := Hid.mk' yhl.2.1
                    have yHL := Hid.mk' yhl.2.2
                    clear yhl yht)
                 | (refine withFact (Lf.stored (b := yq2.heap.size) HT4.out (by assumption : Below w4.heap.size w4 _ ∧ _).1 yhbm yhom yHQ2.out.size ?_) (fun yhl => ?_)
                    · (repeat (first | ((with_reducible refine block_newb _ _ _ ?_); (first | with_reducible rfl | (focus (simp; done)))) | with_reducible refine block_drew ?_ | with_reducible refine block_up _ ?_ | with_reducible refine block_later (by assumption) ?_))
                    have yht := yhl.1
                    have yt0 := cell_at yht (i := 0) rfl
                    have yt1 := cell_at yht (i := 1) rfl
                    have yt2 := cell_at yht (i := 2) rfl
                    have yu0 := free_at 0 yht
                    have yu1 := free_at 1 yht
                    have yu2 := free_at 2 yht
                    have yHK := Hid.mk' yhl.2.1
                    have yHL := Hid.mk' yhl.2.2
                    clear yhl yht)
                 | (have yHL := Hid.mk' (Lf.fresh HT4.out (by assumption : Below w4.heap.size w4 _ ∧ _).1 yhbm yhom)
                    skip)
               clear yhom
               unfold FootV))
      all_goals (
        obtain ⟨W5, KB, eW, eB, hl⟩ := yHL.out.name
        simp only [← eW]
        (try simp only [← eB])
        have hb5 : Below w4.heap.size w4 W5 := by rw [eW]; first | exact yHK.out | exact yHW.out.alloc yHW.out.size _
        have HB5 := Hid.mk' hl.below
        have HG5 := Hid.mk' (block_later hb5 HG4.out)
        have HI5 := Hid.mk' (foot_later hb5 HI4.out)
        have HKB := Hid.mk' hl.g
        have HKI := Hid.mk' hl.inn
        clear hb5 hl eW eB
        (try clear yHL)
        go_wp2_with fail
        refine (HAW _).mono ?_
        rintro e w7 ⟨rfl, hb7⟩
        go_wp2_with fail
        go_ret
        exact ⟨rfl, HB5.out.trans (hb7.mono HB5.out.size)⟩
      )
    )
end Go.Proofs.YtpbmcaidkjlokaaGreat
