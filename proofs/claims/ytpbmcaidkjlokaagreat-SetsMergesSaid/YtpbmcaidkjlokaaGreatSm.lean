/- Same: two feet compared. -/
import Derived.Test.YtpbmcaidkjlokaaGreatEq
import Derived.Test.YtpbmcaidkjlokaaGreatBd
namespace Go.Proofs.YtpbmcaidkjlokaaGreat
open Go.RowKit
def sameF (f g : Foot) : Bool := decide (f = g)
set_option maxHeartbeats 4000000 in
set_option maxRecDepth 100000 in
theorem same_calls (A1 A2 A3 B1 B2 B3 : Option Addr) (c1 c2 c3 d1 d2 d3 : Nat) (f g : Foot) (w : World) (h : FootIn w A1 A2 A3 f) (h' : FootIn w B1 B2 B3 g) :
    Calls Tryz.prog 10 #[FootV A1 A2 A3 c1 c2 c3 f, FootV B1 B2 B3 d1 d2 d3 g] w fun e w' => e = .returned (.bool (sameF f g)) ∧ Below w.heap.size w w' := by
  have HF := Hid.mk' h
  have HG := Hid.mk' h'
  have g1 := guardPt
  have g2 := guardSp
  have l1 := h.pts.len
  have l2 := h.sps.len
  have l3 := h.wrs.len
  have l4 := h'.pts.len
  have l5 := h'.sps.len
  have l6 := h'.wrs.len
  clear h h'
  unfold FootV
  have HBB : ∀ o o', Below w.heap.size w ((w.alloc o).alloc o') := fun o o' => ((Below.refl _ w).alloc (Nat.le_refl _) _).alloc (by simp) _
  have HBX := Hid.mk' HBB
  clear HBB
  by_cases n0 : f.1.length = g.1.length
  · have HE0 := Hid.mk' n0
    have q0 : ((f.1.length : Int) != (g.1.length : Int)) = false := bne_eq_false_iff_eq.2 (by omega)
    clear n0
    by_cases n1 : f.2.1.length = g.2.1.length
    · have HE1 := Hid.mk' n1
      have q1 : ((f.2.1.length : Int) != (g.2.1.length : Int)) = false := bne_eq_false_iff_eq.2 (by omega)
      clear n1
      by_cases n2 : f.2.2.length = g.2.2.length
      · have HE2 := Hid.mk' n2
        have q2 : ((f.2.2.length : Int) != (g.2.2.length : Int)) = false := bne_eq_false_iff_eq.2 (by omega)
        clear n2
        go_enter Tryz.func10, Tryz.ntmps10
        go_wp2_with fail
        have HBW : Hid (Below w.heap.size w ((w.alloc (.cells #[.slice A1 f.1.length c1, .slice A2 f.2.1.length c2, .slice A3 f.2.2.length c3] 25)).alloc (.cells #[.slice B1 g.1.length d1, .slice B2 g.2.1.length d2, .slice B3 g.2.2.length d3] 25))) := HBX.out _ _
        have HZ : Hid (w.heap.size + 1 < ((w.alloc (.cells #[.slice A1 f.1.length c1, .slice A2 f.2.1.length c2, .slice A3 f.2.2.length c3] 25)).alloc (.cells #[.slice B1 g.1.length d1, .slice B2 g.2.1.length d2, .slice B3 g.2.2.length d3] 25)).heap.size) := by show _ < _; simp
        have HC0 : Hid (((w.alloc (.cells #[.slice A1 f.1.length c1, .slice A2 f.2.1.length c2, .slice A3 f.2.2.length c3] 25)).alloc (.cells #[.slice B1 g.1.length d1, .slice B2 g.2.1.length d2, .slice B3 g.2.2.length d3] 25)).cell? ⟨w.heap.size, 0, none⟩ = some (.slice A1 f.1.length c1)) := by show _ = _; simp
        have HC1 : Hid (((w.alloc (.cells #[.slice A1 f.1.length c1, .slice A2 f.2.1.length c2, .slice A3 f.2.2.length c3] 25)).alloc (.cells #[.slice B1 g.1.length d1, .slice B2 g.2.1.length d2, .slice B3 g.2.2.length d3] 25)).cell? ⟨w.heap.size, 1, none⟩ = some (.slice A2 f.2.1.length c2)) := by show _ = _; simp
        have HC2 : Hid (((w.alloc (.cells #[.slice A1 f.1.length c1, .slice A2 f.2.1.length c2, .slice A3 f.2.2.length c3] 25)).alloc (.cells #[.slice B1 g.1.length d1, .slice B2 g.2.1.length d2, .slice B3 g.2.2.length d3] 25)).cell? ⟨w.heap.size, 2, none⟩ = some (.slice A3 f.2.2.length c3)) := by show _ = _; simp
        have HD0 : Hid (((w.alloc (.cells #[.slice A1 f.1.length c1, .slice A2 f.2.1.length c2, .slice A3 f.2.2.length c3] 25)).alloc (.cells #[.slice B1 g.1.length d1, .slice B2 g.2.1.length d2, .slice B3 g.2.2.length d3] 25)).cell? ⟨w.heap.size + 1, 0, none⟩ = some (.slice B1 g.1.length d1)) := by show _ = _; simp
        have HD1 : Hid (((w.alloc (.cells #[.slice A1 f.1.length c1, .slice A2 f.2.1.length c2, .slice A3 f.2.2.length c3] 25)).alloc (.cells #[.slice B1 g.1.length d1, .slice B2 g.2.1.length d2, .slice B3 g.2.2.length d3] 25)).cell? ⟨w.heap.size + 1, 1, none⟩ = some (.slice B2 g.2.1.length d2)) := by show _ = _; simp
        have HD2 : Hid (((w.alloc (.cells #[.slice A1 f.1.length c1, .slice A2 f.2.1.length c2, .slice A3 f.2.2.length c3] 25)).alloc (.cells #[.slice B1 g.1.length d1, .slice B2 g.2.1.length d2, .slice B3 g.2.2.length d3] 25)).cell? ⟨w.heap.size + 1, 2, none⟩ = some (.slice B3 g.2.2.length d3)) := by show _ = _; simp
        obtain ⟨W, hW⟩ : ∃ W, (w.alloc (.cells #[.slice A1 f.1.length c1, .slice A2 f.2.1.length c2, .slice A3 f.2.2.length c3] 25)).alloc (.cells #[.slice B1 g.1.length d1, .slice B2 g.2.1.length d2, .slice B3 g.2.2.length d3] 25) = W := ⟨_, rfl⟩
        rw [hW] at HBW HZ HC0 HC1 HC2 HD0 HD1 HD2 ⊢
        clear hW q0 q1 q2
        go_loopw [5] (fun s5 wr => ∃ k : Nat, k ≤ f.1.length ∧ s5 = .int .i64 k ∧ Hid (Below W.heap.size W wr) ∧ Hid (f.1.take k = g.1.take k)) (fun s5 _ => f.1.length - (intOf s5).toNat)
        case atStart => exact ⟨0, Nat.zero_le _, rfl, Below.refl _ _, rfl⟩
        case round =>
          obtain ⟨k, hk, rfl, HB, HN⟩ := hrel
          have k0 : wr.cell? ⟨w.heap.size, 0, none⟩ = some (.slice A1 f.1.length c1) := (HB.out.cell (p := ⟨w.heap.size, 0, none⟩) (Nat.lt_of_succ_lt HZ.out)).trans HC0.out
          have k1 : wr.cell? ⟨w.heap.size, 1, none⟩ = some (.slice A2 f.2.1.length c2) := (HB.out.cell (p := ⟨w.heap.size, 1, none⟩) (Nat.lt_of_succ_lt HZ.out)).trans HC1.out
          have k2 : wr.cell? ⟨w.heap.size, 2, none⟩ = some (.slice A3 f.2.2.length c3) := (HB.out.cell (p := ⟨w.heap.size, 2, none⟩) (Nat.lt_of_succ_lt HZ.out)).trans HC2.out
          have m0 : wr.cell? ⟨w.heap.size + 1, 0, none⟩ = some (.slice B1 g.1.length d1) := (HB.out.cell (p := ⟨w.heap.size + 1, 0, none⟩) HZ.out).trans HD0.out
          have m1 : wr.cell? ⟨w.heap.size + 1, 1, none⟩ = some (.slice B2 g.2.1.length d2) := (HB.out.cell (p := ⟨w.heap.size + 1, 1, none⟩) HZ.out).trans HD1.out
          have m2 : wr.cell? ⟨w.heap.size + 1, 2, none⟩ = some (.slice B3 g.2.2.length d3) := (HB.out.cell (p := ⟨w.heap.size + 1, 2, none⟩) HZ.out).trans HD2.out
          by_cases hlt : k < f.1.length
          · have hltz : (k : Int) < (f.1.length : Int) := by omega
            have hplt := hlt
            have hqlt : k < g.1.length := by have := HE0.out; omega
            have hqltz : (k : Int) < (g.1.length : Int) := by omega
            obtain ⟨x, hx⟩ : ∃ x, f.1[k]? = some x := ⟨_, List.getElem?_eq_getElem hplt⟩
            obtain ⟨bp, offp, rfl, hblp, hcellp⟩ := HF.out.pts.at_ hplt
            have ex : f.1[k] = x := (List.getElem?_eq_some_iff.1 hx).2
            rw [ex] at hcellp
            have hcwp : ∀ q v, (ePt x)[q]? = some v → wr.cell? ⟨bp, offp + k * 3 + q, none⟩ = some v := fun q v hv => (HB.out.cell (p := ⟨bp, _, none⟩) (Nat.lt_of_lt_of_le hblp HBW.out.size)).trans ((HBW.out.cell (p := ⟨bp, _, none⟩) hblp).trans (hcellp q v hv))
            have p0 : wr.cell? ⟨bp, offp + k * 3, none⟩ = some (.int .i64 x.t) := hcwp 0 _ rfl
            have p1 : wr.cell? ⟨bp, offp + k * 3 + 1, none⟩ = some (.int .i64 x.i) := hcwp 1 _ rfl
            have p2 : wr.cell? ⟨bp, offp + k * 3 + 2, none⟩ = some (.string x.key) := hcwp 2 _ rfl
            obtain ⟨y, hy⟩ : ∃ y, g.1[k]? = some y := ⟨_, List.getElem?_eq_getElem hqlt⟩
            obtain ⟨bq, offq, rfl, hblq, hcellq⟩ := HG.out.pts.at_ hqlt
            have ey : g.1[k] = y := (List.getElem?_eq_some_iff.1 hy).2
            rw [ey] at hcellq
            have hcwq : ∀ q v, (ePt y)[q]? = some v → wr.cell? ⟨bq, offq + k * 3 + q, none⟩ = some v := fun q v hv => (HB.out.cell (p := ⟨bq, _, none⟩) (Nat.lt_of_lt_of_le hblq HBW.out.size)).trans ((HBW.out.cell (p := ⟨bq, _, none⟩) hblq).trans (hcellq q v hv))
            have q0 : wr.cell? ⟨bq, offq + k * 3, none⟩ = some (.int .i64 y.t) := hcwq 0 _ rfl
            have q1 : wr.cell? ⟨bq, offq + k * 3 + 1, none⟩ = some (.int .i64 y.i) := hcwq 1 _ rfl
            have q2 : wr.cell? ⟨bq, offq + k * 3 + 2, none⟩ = some (.string y.key) := hcwq 2 _ rfl
            have HTK : Hid (f.1.take (k + 1) = f.1.take k ++ [x]) := by show _ = _; rw [List.take_succ_eq_append_getElem hplt, ex]
            have HTL : Hid (g.1.take (k + 1) = g.1.take k ++ [y]) := by show _ = _; rw [List.take_succ_eq_append_getElem hqlt, ey]
            have HXG := Hid.mk' hx
            have HYG := Hid.mk' hy
            have HNE : ∀ W, (binOp .neq 37 (.agg #[.int .i64 x.t, .int .i64 x.i, .string x.key]) (.agg #[.int .i64 y.t, .int .i64 y.i, .string y.key])).run Tryz.prog W = .ok (.bool (!decide (x = y))) W := fun W => neqPt x y W
            clear hcellp hcwp hcellq hcwq hx ex hy ey
            by_cases hxy : x = y
            · have HXY := Hid.mk' hxy
              rw [show (!decide (x = y)) = false from by simp [hxy]] at HNE
              clear hxy
              go_wp2_with fail
              go_quiet (fail)
              go_wp2_with fail
              go_roundw
              case rel =>
                refine ⟨k + 1, by omega, by go_num, below_drewN' HB.out _, ?_⟩
                show f.1.take (k + 1) = g.1.take (k + 1)
                rw [HTK.out, HTL.out, HN.out, HXY.out]
              case measure => simp [intOf]; omega
            · have HXY := Hid.mk' hxy
              rw [show (!decide (x = y)) = true from by simp [hxy]] at HNE
              clear hxy
              go_wp2_with fail
              go_quiet (fail)
              go_wp2_with fail
              go_ret
              refine ⟨ret_bool ?_, HBW.out.trans ((below_drewN' HB.out _).mono HBW.out.size)⟩
              have hne : f ≠ g := fun e => HXY.out (by have h1 := HXG.out; have h2 := HYG.out; rw [e, h2] at h1; exact (Option.some.inj h1).symm)
              simp [sameF, hne]
          · have hltz : ¬ (k : Int) < (f.1.length : Int) := by omega
            have HA0 : Hid (f.1 = g.1) := by
              have h1 := HN.out
              have h2 := HE0.out
              rwa [List.take_of_length_le (by omega), List.take_of_length_le (by omega)] at h1
            clear HN
            have HBW := Hid.mk' (HBW.out.trans (HB.out.mono HBW.out.size))
            have HZ : Hid (w.heap.size + 1 < wr.heap.size) := Nat.lt_of_lt_of_le HZ.out HB.out.size
            clear HB
            go_wp2_with fail
            have HC0 := Hid.mk' k0
            have HD0 := Hid.mk' m0
            clear k0 m0
            have HC1 := Hid.mk' k1
            have HD1 := Hid.mk' m1
            clear k1 m1
            have HC2 := Hid.mk' k2
            have HD2 := Hid.mk' m2
            clear k2 m2
            obtain ⟨W0, hW0⟩ : ∃ W0, W0 = wr := ⟨_, rfl⟩
            subst hW0
            go_loopw [6] (fun s6 wr => ∃ k : Nat, k ≤ f.2.1.length ∧ s6 = .int .i64 k ∧ Hid (Below W0.heap.size W0 wr) ∧ Hid (f.2.1.take k = g.2.1.take k)) (fun s6 _ => f.2.1.length - (intOf s6).toNat)
            case atStart => exact ⟨0, Nat.zero_le _, rfl, Below.refl _ _, rfl⟩
            case round =>
              obtain ⟨k, hk, rfl, HB, HN⟩ := hrel
              have k0 : wr.cell? ⟨w.heap.size, 0, none⟩ = some (.slice A1 f.1.length c1) := (HB.out.cell (p := ⟨w.heap.size, 0, none⟩) (Nat.lt_of_succ_lt HZ.out)).trans HC0.out
              have k1 : wr.cell? ⟨w.heap.size, 1, none⟩ = some (.slice A2 f.2.1.length c2) := (HB.out.cell (p := ⟨w.heap.size, 1, none⟩) (Nat.lt_of_succ_lt HZ.out)).trans HC1.out
              have k2 : wr.cell? ⟨w.heap.size, 2, none⟩ = some (.slice A3 f.2.2.length c3) := (HB.out.cell (p := ⟨w.heap.size, 2, none⟩) (Nat.lt_of_succ_lt HZ.out)).trans HC2.out
              have m0 : wr.cell? ⟨w.heap.size + 1, 0, none⟩ = some (.slice B1 g.1.length d1) := (HB.out.cell (p := ⟨w.heap.size + 1, 0, none⟩) HZ.out).trans HD0.out
              have m1 : wr.cell? ⟨w.heap.size + 1, 1, none⟩ = some (.slice B2 g.2.1.length d2) := (HB.out.cell (p := ⟨w.heap.size + 1, 1, none⟩) HZ.out).trans HD1.out
              have m2 : wr.cell? ⟨w.heap.size + 1, 2, none⟩ = some (.slice B3 g.2.2.length d3) := (HB.out.cell (p := ⟨w.heap.size + 1, 2, none⟩) HZ.out).trans HD2.out
              by_cases hlt : k < f.2.1.length
              · have hltz : (k : Int) < (f.2.1.length : Int) := by omega
                have hplt := hlt
                have hqlt : k < g.2.1.length := by have := HE1.out; omega
                have hqltz : (k : Int) < (g.2.1.length : Int) := by omega
                obtain ⟨x, hx⟩ : ∃ x, f.2.1[k]? = some x := ⟨_, List.getElem?_eq_getElem hplt⟩
                obtain ⟨bp, offp, rfl, hblp, hcellp⟩ := HF.out.sps.at_ hplt
                have ex : f.2.1[k] = x := (List.getElem?_eq_some_iff.1 hx).2
                rw [ex] at hcellp
                have hcwp : ∀ q v, (eSp x)[q]? = some v → wr.cell? ⟨bp, offp + k * 5 + q, none⟩ = some v := fun q v hv => (HB.out.cell (p := ⟨bp, _, none⟩) (Nat.lt_of_lt_of_le hblp HBW.out.size)).trans ((HBW.out.cell (p := ⟨bp, _, none⟩) hblp).trans (hcellp q v hv))
                have p0 : wr.cell? ⟨bp, offp + k * 5, none⟩ = some (.int .i64 x.t) := hcwp 0 _ rfl
                have p1 : wr.cell? ⟨bp, offp + k * 5 + 1, none⟩ = some (.int .i64 x.i) := hcwp 1 _ rfl
                have p2 : wr.cell? ⟨bp, offp + k * 5 + 2, none⟩ = some (.string x.r.lo) := hcwp 2 _ rfl
                have p3 : wr.cell? ⟨bp, offp + k * 5 + 3, none⟩ = some (.string x.r.hi) := hcwp 3 _ rfl
                have p4 : wr.cell? ⟨bp, offp + k * 5 + 4, none⟩ = some (.bool x.r.op) := hcwp 4 _ rfl
                obtain ⟨y, hy⟩ : ∃ y, g.2.1[k]? = some y := ⟨_, List.getElem?_eq_getElem hqlt⟩
                obtain ⟨bq, offq, rfl, hblq, hcellq⟩ := HG.out.sps.at_ hqlt
                have ey : g.2.1[k] = y := (List.getElem?_eq_some_iff.1 hy).2
                rw [ey] at hcellq
                have hcwq : ∀ q v, (eSp y)[q]? = some v → wr.cell? ⟨bq, offq + k * 5 + q, none⟩ = some v := fun q v hv => (HB.out.cell (p := ⟨bq, _, none⟩) (Nat.lt_of_lt_of_le hblq HBW.out.size)).trans ((HBW.out.cell (p := ⟨bq, _, none⟩) hblq).trans (hcellq q v hv))
                have q0 : wr.cell? ⟨bq, offq + k * 5, none⟩ = some (.int .i64 y.t) := hcwq 0 _ rfl
                have q1 : wr.cell? ⟨bq, offq + k * 5 + 1, none⟩ = some (.int .i64 y.i) := hcwq 1 _ rfl
                have q2 : wr.cell? ⟨bq, offq + k * 5 + 2, none⟩ = some (.string y.r.lo) := hcwq 2 _ rfl
                have q3 : wr.cell? ⟨bq, offq + k * 5 + 3, none⟩ = some (.string y.r.hi) := hcwq 3 _ rfl
                have q4 : wr.cell? ⟨bq, offq + k * 5 + 4, none⟩ = some (.bool y.r.op) := hcwq 4 _ rfl
                have HTK : Hid (f.2.1.take (k + 1) = f.2.1.take k ++ [x]) := by show _ = _; rw [List.take_succ_eq_append_getElem hplt, ex]
                have HTL : Hid (g.2.1.take (k + 1) = g.2.1.take k ++ [y]) := by show _ = _; rw [List.take_succ_eq_append_getElem hqlt, ey]
                have HXG := Hid.mk' hx
                have HYG := Hid.mk' hy
                have HNE : ∀ W, (binOp .neq 46 (.agg #[.int .i64 x.t, .int .i64 x.i, .string x.r.lo, .string x.r.hi, .bool x.r.op]) (.agg #[.int .i64 y.t, .int .i64 y.i, .string y.r.lo, .string y.r.hi, .bool y.r.op])).run Tryz.prog W = .ok (.bool (!decide (x = y))) W := fun W => neqSp x y W
                clear hcellp hcwp hcellq hcwq hx ex hy ey
                by_cases hxy : x = y
                · have HXY := Hid.mk' hxy
                  rw [show (!decide (x = y)) = false from by simp [hxy]] at HNE
                  clear hxy
                  go_wp2_with fail
                  go_quiet (fail)
                  go_wp2_with fail
                  go_roundw
                  case rel =>
                    refine ⟨k + 1, by omega, by go_num, below_drewN' HB.out _, ?_⟩
                    show f.2.1.take (k + 1) = g.2.1.take (k + 1)
                    rw [HTK.out, HTL.out, HN.out, HXY.out]
                  case measure => simp [intOf]; omega
                · have HXY := Hid.mk' hxy
                  rw [show (!decide (x = y)) = true from by simp [hxy]] at HNE
                  clear hxy
                  go_wp2_with fail
                  go_quiet (fail)
                  go_wp2_with fail
                  go_ret
                  refine ⟨ret_bool ?_, HBW.out.trans ((below_drewN' HB.out _).mono HBW.out.size)⟩
                  have hne : f ≠ g := fun e => HXY.out (by have h1 := HXG.out; have h2 := HYG.out; rw [e, h2] at h1; exact (Option.some.inj h1).symm)
                  simp [sameF, hne]
              · have hltz : ¬ (k : Int) < (f.2.1.length : Int) := by omega
                have HA1 : Hid (f.2.1 = g.2.1) := by
                  have h1 := HN.out
                  have h2 := HE1.out
                  rwa [List.take_of_length_le (by omega), List.take_of_length_le (by omega)] at h1
                clear HN
                have HBW := Hid.mk' (HBW.out.trans (HB.out.mono HBW.out.size))
                have HZ : Hid (w.heap.size + 1 < wr.heap.size) := Nat.lt_of_lt_of_le HZ.out HB.out.size
                clear HB
                go_wp2_with fail
                have HC0 := Hid.mk' k0
                have HD0 := Hid.mk' m0
                clear k0 m0
                have HC1 := Hid.mk' k1
                have HD1 := Hid.mk' m1
                clear k1 m1
                have HC2 := Hid.mk' k2
                have HD2 := Hid.mk' m2
                clear k2 m2
                obtain ⟨W1, hW1⟩ : ∃ W1, W1 = wr := ⟨_, rfl⟩
                subst hW1
                go_loopw [7] (fun s7 wr => ∃ k : Nat, k ≤ f.2.2.length ∧ s7 = .int .i64 k ∧ Hid (Below W1.heap.size W1 wr) ∧ Hid (f.2.2.take k = g.2.2.take k)) (fun s7 _ => f.2.2.length - (intOf s7).toNat)
                case atStart => exact ⟨0, Nat.zero_le _, rfl, Below.refl _ _, rfl⟩
                case round =>
                  obtain ⟨k, hk, rfl, HB, HN⟩ := hrel
                  have k0 : wr.cell? ⟨w.heap.size, 0, none⟩ = some (.slice A1 f.1.length c1) := (HB.out.cell (p := ⟨w.heap.size, 0, none⟩) (Nat.lt_of_succ_lt HZ.out)).trans HC0.out
                  have k1 : wr.cell? ⟨w.heap.size, 1, none⟩ = some (.slice A2 f.2.1.length c2) := (HB.out.cell (p := ⟨w.heap.size, 1, none⟩) (Nat.lt_of_succ_lt HZ.out)).trans HC1.out
                  have k2 : wr.cell? ⟨w.heap.size, 2, none⟩ = some (.slice A3 f.2.2.length c3) := (HB.out.cell (p := ⟨w.heap.size, 2, none⟩) (Nat.lt_of_succ_lt HZ.out)).trans HC2.out
                  have m0 : wr.cell? ⟨w.heap.size + 1, 0, none⟩ = some (.slice B1 g.1.length d1) := (HB.out.cell (p := ⟨w.heap.size + 1, 0, none⟩) HZ.out).trans HD0.out
                  have m1 : wr.cell? ⟨w.heap.size + 1, 1, none⟩ = some (.slice B2 g.2.1.length d2) := (HB.out.cell (p := ⟨w.heap.size + 1, 1, none⟩) HZ.out).trans HD1.out
                  have m2 : wr.cell? ⟨w.heap.size + 1, 2, none⟩ = some (.slice B3 g.2.2.length d3) := (HB.out.cell (p := ⟨w.heap.size + 1, 2, none⟩) HZ.out).trans HD2.out
                  by_cases hlt : k < f.2.2.length
                  · have hltz : (k : Int) < (f.2.2.length : Int) := by omega
                    have hplt := hlt
                    have hqlt : k < g.2.2.length := by have := HE2.out; omega
                    have hqltz : (k : Int) < (g.2.2.length : Int) := by omega
                    obtain ⟨x, hx⟩ : ∃ x, f.2.2[k]? = some x := ⟨_, List.getElem?_eq_getElem hplt⟩
                    obtain ⟨bp, offp, rfl, hblp, hcellp⟩ := HF.out.wrs.at_ hplt
                    have ex : f.2.2[k] = x := (List.getElem?_eq_some_iff.1 hx).2
                    rw [ex] at hcellp
                    have hcwp : ∀ q v, (ePt x)[q]? = some v → wr.cell? ⟨bp, offp + k * 3 + q, none⟩ = some v := fun q v hv => (HB.out.cell (p := ⟨bp, _, none⟩) (Nat.lt_of_lt_of_le hblp HBW.out.size)).trans ((HBW.out.cell (p := ⟨bp, _, none⟩) hblp).trans (hcellp q v hv))
                    have p0 : wr.cell? ⟨bp, offp + k * 3, none⟩ = some (.int .i64 x.t) := hcwp 0 _ rfl
                    have p1 : wr.cell? ⟨bp, offp + k * 3 + 1, none⟩ = some (.int .i64 x.i) := hcwp 1 _ rfl
                    have p2 : wr.cell? ⟨bp, offp + k * 3 + 2, none⟩ = some (.string x.key) := hcwp 2 _ rfl
                    obtain ⟨y, hy⟩ : ∃ y, g.2.2[k]? = some y := ⟨_, List.getElem?_eq_getElem hqlt⟩
                    obtain ⟨bq, offq, rfl, hblq, hcellq⟩ := HG.out.wrs.at_ hqlt
                    have ey : g.2.2[k] = y := (List.getElem?_eq_some_iff.1 hy).2
                    rw [ey] at hcellq
                    have hcwq : ∀ q v, (ePt y)[q]? = some v → wr.cell? ⟨bq, offq + k * 3 + q, none⟩ = some v := fun q v hv => (HB.out.cell (p := ⟨bq, _, none⟩) (Nat.lt_of_lt_of_le hblq HBW.out.size)).trans ((HBW.out.cell (p := ⟨bq, _, none⟩) hblq).trans (hcellq q v hv))
                    have q0 : wr.cell? ⟨bq, offq + k * 3, none⟩ = some (.int .i64 y.t) := hcwq 0 _ rfl
                    have q1 : wr.cell? ⟨bq, offq + k * 3 + 1, none⟩ = some (.int .i64 y.i) := hcwq 1 _ rfl
                    have q2 : wr.cell? ⟨bq, offq + k * 3 + 2, none⟩ = some (.string y.key) := hcwq 2 _ rfl
                    have HTK : Hid (f.2.2.take (k + 1) = f.2.2.take k ++ [x]) := by show _ = _; rw [List.take_succ_eq_append_getElem hplt, ex]
                    have HTL : Hid (g.2.2.take (k + 1) = g.2.2.take k ++ [y]) := by show _ = _; rw [List.take_succ_eq_append_getElem hqlt, ey]
                    have HXG := Hid.mk' hx
                    have HYG := Hid.mk' hy
                    have HNE : ∀ W, (binOp .neq 37 (.agg #[.int .i64 x.t, .int .i64 x.i, .string x.key]) (.agg #[.int .i64 y.t, .int .i64 y.i, .string y.key])).run Tryz.prog W = .ok (.bool (!decide (x = y))) W := fun W => neqPt x y W
                    clear hcellp hcwp hcellq hcwq hx ex hy ey
                    by_cases hxy : x = y
                    · have HXY := Hid.mk' hxy
                      rw [show (!decide (x = y)) = false from by simp [hxy]] at HNE
                      clear hxy
                      go_wp2_with fail
                      go_quiet (fail)
                      go_wp2_with fail
                      go_roundw
                      case rel =>
                        refine ⟨k + 1, by omega, by go_num, below_drewN' HB.out _, ?_⟩
                        show f.2.2.take (k + 1) = g.2.2.take (k + 1)
                        rw [HTK.out, HTL.out, HN.out, HXY.out]
                      case measure => simp [intOf]; omega
                    · have HXY := Hid.mk' hxy
                      rw [show (!decide (x = y)) = true from by simp [hxy]] at HNE
                      clear hxy
                      go_wp2_with fail
                      go_quiet (fail)
                      go_wp2_with fail
                      go_ret
                      refine ⟨ret_bool ?_, HBW.out.trans ((below_drewN' HB.out _).mono HBW.out.size)⟩
                      have hne : f ≠ g := fun e => HXY.out (by have h1 := HXG.out; have h2 := HYG.out; rw [e, h2] at h1; exact (Option.some.inj h1).symm)
                      simp [sameF, hne]
                  · have hltz : ¬ (k : Int) < (f.2.2.length : Int) := by omega
                    have HA2 : Hid (f.2.2 = g.2.2) := by
                      have h1 := HN.out
                      have h2 := HE2.out
                      rwa [List.take_of_length_le (by omega), List.take_of_length_le (by omega)] at h1
                    clear HN
                    go_wp2_with fail
                    go_ret
                    refine ⟨ret_bool ?_, HBW.out.trans (HB.out.mono HBW.out.size)⟩
                    have he : f = g := Prod.ext HA0.out (Prod.ext HA1.out HA2.out)
                    simp [sameF, he]
      · have q2 : ((f.2.2.length : Int) != (g.2.2.length : Int)) = true := bne_iff_ne.2 (by omega)
        have HN := Hid.mk' n2
        clear n2
        go_enter Tryz.func10, Tryz.ntmps10
        go_wp2_with fail
        go_ret
        refine ⟨ret_bool ?_, HBX.out _ _⟩
        have hne : f ≠ g := fun e => HN.out (by rw [e])
        simp [sameF, hne]
    · have q1 : ((f.2.1.length : Int) != (g.2.1.length : Int)) = true := bne_iff_ne.2 (by omega)
      have HN := Hid.mk' n1
      clear n1
      go_enter Tryz.func10, Tryz.ntmps10
      go_wp2_with fail
      go_ret
      refine ⟨ret_bool ?_, HBX.out _ _⟩
      have hne : f ≠ g := fun e => HN.out (by rw [e])
      simp [sameF, hne]
  · have q0 : ((f.1.length : Int) != (g.1.length : Int)) = true := bne_iff_ne.2 (by omega)
    have HN := Hid.mk' n0
    clear n0
    go_enter Tryz.func10, Tryz.ntmps10
    go_wp2_with fail
    go_ret
    refine ⟨ret_bool ?_, HBX.out _ _⟩
    have hne : f ≠ g := fun e => HN.out (by rw [e])
    simp [sameF, hne]
end Go.Proofs.YtpbmcaidkjlokaaGreat
