/- Check: code and reference. -/
import Derived.Test.YtpbmcaidkjlokaaGreatFt
import Derived.Test.YtpbmcaidkjlokaaGreatBd
namespace Go.Proofs.YtpbmcaidkjlokaaGreat
open Go.RowKit

def mayB (t i : Int) : Bool := decide (t ≥ 0) && decide (i ≥ -1)
def badP (p : Pt) : Bool := !mayB p.t p.i
def badS (s : Sp) : Bool := !mayB s.t s.i
def sizeF (f : Foot) : Nat := f.1.length + f.2.1.length + f.2.2.length
def badF (f : Foot) : Int := if (f.1.any badP || f.2.2.any badP || f.2.1.any badS) = true then 1 else 0
def checkF (f : Foot) : Int := if sizeF f > 65536 then 2 else badF f

theorem may_calls (t i : Int) (w : World) : Calls Tryz.prog 24 #[.int .i64 t, .int .i64 i] w fun e w' => e = .returned (.bool (mayB t i)) ∧ w' = w := by
  by_cases h : t ≥ 0
  · go_enter Tryz.func24, Tryz.ntmps24
    go_wp2
    go_ret
    exact ⟨by simp [mayB, h], rfl⟩
  · go_enter Tryz.func24, Tryz.ntmps24
    go_wp2
    go_ret
    exact ⟨ret_bool (by simp [mayB]; omega), rfl⟩
theorem rplace_calls (t i : Int) (w : World) : Calls Tryz.prog 30 #[.int .i64 t, .int .i64 i] w fun e w' => e = .returned (.bool (mayB t i)) ∧ w' = w := by
  by_cases h : t ≥ 0
  · go_enter Tryz.func30, Tryz.ntmps30
    go_wp2
    go_ret
    exact ⟨by simp [mayB, h], rfl⟩
  · go_enter Tryz.func30, Tryz.ntmps30
    go_wp2
    go_ret
    exact ⟨ret_bool (by simp [mayB]; omega), rfl⟩
theorem size_calls (A1 A2 A3 : Option Addr) (c1 c2 c3 : Nat) (f : Foot) (w : World) (hl : sizeF f ≤ 9223372036854775807) :
    Calls Tryz.prog 25 #[FootV A1 A2 A3 c1 c2 c3 f] w fun e w' => e = .returned (.int .i64 (sizeF f)) ∧ ∃ o, w' = w.alloc o := by
  unfold FootV
  unfold sizeF at hl
  go_enter Tryz.func25, Tryz.ntmps25
  go_wp2
  go_ret
  refine ⟨ret_int ?_, _, rfl⟩
  unfold sizeF; omega
theorem rsize_calls (A1 A2 A3 : Option Addr) (c1 c2 c3 : Nat) (f : Foot) (w : World) (hl : sizeF f ≤ 9223372036854775807) :
    Calls Tryz.prog 29 #[FootV A1 A2 A3 c1 c2 c3 f] w fun e w' => e = .returned (.int .i64 (sizeF f)) ∧ ∃ o, w' = w.alloc o := by
  unfold FootV
  unfold sizeF at hl
  go_enter Tryz.func29, Tryz.ntmps29
  go_wp2
  go_ret
  refine ⟨ret_int ?_, _, rfl⟩
  unfold sizeF; omega
theorem pred_bad (B : Nat) (w : World) : PredB Tryz.prog 23 #[] ePt badP B w := fun W x _ => by
  have HH := fun W => may_calls x.t x.i W
  show Calls _ _ #[.agg #[.int .i64 x.t, .int .i64 x.i, .string x.key]] _ _
  go_enter Tryz.func23, Tryz.ntmps23
  go_wp2_with (go_at_call 24; refine (HH _).mono ?_; rintro e w' ⟨rfl, rfl⟩)
  go_ret
  exact ⟨rfl, (Below.refl _ W).alloc (Nat.le_refl _) _⟩
theorem pred_badS (B : Nat) (w : World) : PredB Tryz.prog 28 #[] eSp badS B w := fun W x _ => by
  have HH := fun W => may_calls x.t x.i W
  show Calls _ _ #[.agg #[.int .i64 x.t, .int .i64 x.i, .string x.r.lo, .string x.r.hi, .bool x.r.op]] _ _
  go_enter Tryz.func28, Tryz.ntmps28
  go_wp2_with (go_at_call 24; refine (HH _).mono ?_; rintro e w' ⟨rfl, rfl⟩)
  go_ret
  exact ⟨rfl, (Below.refl _ W).alloc (Nat.le_refl _) _⟩

theorem check_calls (A1 A2 A3 : Option Addr) (c1 c2 c3 : Nat) (f : Foot) (w : World) (h : FootIn w A1 A2 A3 f) (hl : sizeF f ≤ 9223372036854775807) :
    Calls Tryz.prog 11 #[FootV A1 A2 A3 c1 c2 c3 f] w fun e w' => e = .returned (.int .i64 (checkF f)) ∧ Below w.heap.size w w' := by
  have e1 := enters_of Tryz.func23 (by kernel_rfl) rfl
  have e2 := enters_of Tryz.func28 (by kernel_rfl) rfl
  have HF := Hid.mk' h
  have hs := fun W => size_calls A1 A2 A3 c1 c2 c3 f W hl
  have HP := fun W (hb : Below w.heap.size w W) => containsFunc_Pt badP 23 #[] e1 w.heap.size A1 c1 f.1 W (pred_bad _ _) hb.size (HF.out.pts.below hb (Nat.le_refl _))
  have HQ := fun W (hb : Below w.heap.size w W) => containsFunc_Pt badP 23 #[] e1 w.heap.size A3 c3 f.2.2 W (pred_bad _ _) hb.size (HF.out.wrs.below hb (Nat.le_refl _))
  have HS := fun W (hb : Below w.heap.size w W) => containsFunc_Sp badS 28 #[] e2 w.heap.size A2 c2 f.2.1 W (pred_badS _ _) hb.size (HF.out.sps.below hb (Nat.le_refl _))
  clear h e1 e2
  unfold FootV at hs ⊢
  unfold checkF
  by_cases hz : sizeF f > 65536
  · have hz' : (sizeF f : Int) > 65536 := by omega
    rw [if_pos hz]
    generalize sizeF f = n at hs hz hz' hl
    go_enter Tryz.func11, Tryz.ntmps11
    go_wp2_with (go_at_call 25; refine (hs _).mono ?_; rintro e w' ⟨rfl, o, rfl⟩)
    go_ret
    exact ⟨rfl, ((Below.refl _ w).alloc (Nat.le_refl _) _).alloc (by simp) _⟩
  · have hz' : ¬ (sizeF f : Int) > 65536 := by omega
    rw [if_neg hz]
    generalize sizeF f = n at hs hz hz' hl
    cases hp : f.1.any badP
    · rw [hp] at HP
      cases hq : f.2.2.any badP
      · rw [hq] at HQ
        cases hr : f.2.1.any badS
        · rw [hr] at HS
          go_enter Tryz.func11, Tryz.ntmps11
          go_wp2_with (go_at_call 25; refine (hs _).mono ?_; rintro e w' ⟨rfl, o, rfl⟩)
          have HB0 : Hid (Below w.heap.size w ((w.alloc (.cells #[.slice A1 f.1.length c1, .slice A2 f.2.1.length c2, .slice A3 f.2.2.length c3] 25)).alloc o)) := ((Below.refl _ w).alloc (Nat.le_refl _) _).alloc (by simp) _
          refine (HP _ HB0.out).mono ?_
          rintro e w1 ⟨rfl, hb1⟩
          have HB1 := Hid.mk' (HB0.out.trans (hb1.mono (by simp; omega)))
          have k1 : w1.cell? ⟨w.heap.size, 1, none⟩ = some (.slice A2 f.2.1.length c2) := (hb1.cell (p := ⟨w.heap.size, 1, none⟩) (by simp; omega)).trans (by simp)
          have k2 : w1.cell? ⟨w.heap.size, 2, none⟩ = some (.slice A3 f.2.2.length c3) := (hb1.cell (p := ⟨w.heap.size, 2, none⟩) (by simp; omega)).trans (by simp)
          have z1 : w.heap.size < w1.heap.size := by have := hb1.size; simp at this; omega
          clear hb1 HP hs
          go_wp2_with fail
          refine (HQ _ HB1.out).mono ?_
          rintro e w2 ⟨rfl, hb2⟩
          have HB2 := Hid.mk' (HB1.out.trans (hb2.mono (by omega)))
          have l1 : w2.cell? ⟨w.heap.size, 1, none⟩ = some (.slice A2 f.2.1.length c2) := (hb2.cell (p := ⟨w.heap.size, 1, none⟩) z1).trans k1
          have z2 : w.heap.size < w2.heap.size := by have := hb2.size; omega
          clear hb2 HQ k1 k2
          go_wp2_with fail
          refine (HS _ HB2.out).mono ?_
          rintro e w3 ⟨rfl, hb3⟩
          have HB3 := Hid.mk' (HB2.out.trans (hb3.mono (by omega)))
          clear hb3 HS l1
          go_wp2_with fail
          go_ret
          exact ⟨ret_int (by simp [badF, hp, hq, hr]), HB3.out⟩
        · rw [hr] at HS
          go_enter Tryz.func11, Tryz.ntmps11
          go_wp2_with (go_at_call 25; refine (hs _).mono ?_; rintro e w' ⟨rfl, o, rfl⟩)
          have HB0 : Hid (Below w.heap.size w ((w.alloc (.cells #[.slice A1 f.1.length c1, .slice A2 f.2.1.length c2, .slice A3 f.2.2.length c3] 25)).alloc o)) := ((Below.refl _ w).alloc (Nat.le_refl _) _).alloc (by simp) _
          refine (HP _ HB0.out).mono ?_
          rintro e w1 ⟨rfl, hb1⟩
          have HB1 := Hid.mk' (HB0.out.trans (hb1.mono (by simp; omega)))
          have k1 : w1.cell? ⟨w.heap.size, 1, none⟩ = some (.slice A2 f.2.1.length c2) := (hb1.cell (p := ⟨w.heap.size, 1, none⟩) (by simp; omega)).trans (by simp)
          have k2 : w1.cell? ⟨w.heap.size, 2, none⟩ = some (.slice A3 f.2.2.length c3) := (hb1.cell (p := ⟨w.heap.size, 2, none⟩) (by simp; omega)).trans (by simp)
          have z1 : w.heap.size < w1.heap.size := by have := hb1.size; simp at this; omega
          clear hb1 HP hs
          go_wp2_with fail
          refine (HQ _ HB1.out).mono ?_
          rintro e w2 ⟨rfl, hb2⟩
          have HB2 := Hid.mk' (HB1.out.trans (hb2.mono (by omega)))
          have l1 : w2.cell? ⟨w.heap.size, 1, none⟩ = some (.slice A2 f.2.1.length c2) := (hb2.cell (p := ⟨w.heap.size, 1, none⟩) z1).trans k1
          have z2 : w.heap.size < w2.heap.size := by have := hb2.size; omega
          clear hb2 HQ k1 k2
          go_wp2_with fail
          refine (HS _ HB2.out).mono ?_
          rintro e w3 ⟨rfl, hb3⟩
          have HB3 := Hid.mk' (HB2.out.trans (hb3.mono (by omega)))
          clear hb3 HS l1
          go_wp2_with fail
          go_ret
          exact ⟨ret_int (by simp [badF, hr]), HB3.out⟩
      · rw [hq] at HQ
        go_enter Tryz.func11, Tryz.ntmps11
        go_wp2_with (go_at_call 25; refine (hs _).mono ?_; rintro e w' ⟨rfl, o, rfl⟩)
        have HB0 : Hid (Below w.heap.size w ((w.alloc (.cells #[.slice A1 f.1.length c1, .slice A2 f.2.1.length c2, .slice A3 f.2.2.length c3] 25)).alloc o)) := ((Below.refl _ w).alloc (Nat.le_refl _) _).alloc (by simp) _
        refine (HP _ HB0.out).mono ?_
        rintro e w1 ⟨rfl, hb1⟩
        have HB1 := Hid.mk' (HB0.out.trans (hb1.mono (by simp; omega)))
        have k1 : w1.cell? ⟨w.heap.size, 1, none⟩ = some (.slice A2 f.2.1.length c2) := (hb1.cell (p := ⟨w.heap.size, 1, none⟩) (by simp; omega)).trans (by simp)
        have k2 : w1.cell? ⟨w.heap.size, 2, none⟩ = some (.slice A3 f.2.2.length c3) := (hb1.cell (p := ⟨w.heap.size, 2, none⟩) (by simp; omega)).trans (by simp)
        have z1 : w.heap.size < w1.heap.size := by have := hb1.size; simp at this; omega
        clear hb1 HP hs
        go_wp2_with fail
        refine (HQ _ HB1.out).mono ?_
        rintro e w2 ⟨rfl, hb2⟩
        have HB2 := Hid.mk' (HB1.out.trans (hb2.mono (by omega)))
        have l1 : w2.cell? ⟨w.heap.size, 1, none⟩ = some (.slice A2 f.2.1.length c2) := (hb2.cell (p := ⟨w.heap.size, 1, none⟩) z1).trans k1
        have z2 : w.heap.size < w2.heap.size := by have := hb2.size; omega
        clear hb2 HQ k1 k2
        go_wp2_with fail
        go_ret
        exact ⟨ret_int (by simp [badF, hq]), HB2.out⟩
    · rw [hp] at HP
      go_enter Tryz.func11, Tryz.ntmps11
      go_wp2_with (go_at_call 25; refine (hs _).mono ?_; rintro e w' ⟨rfl, o, rfl⟩)
      have HB0 : Hid (Below w.heap.size w ((w.alloc (.cells #[.slice A1 f.1.length c1, .slice A2 f.2.1.length c2, .slice A3 f.2.2.length c3] 25)).alloc o)) := ((Below.refl _ w).alloc (Nat.le_refl _) _).alloc (by simp) _
      refine (HP _ HB0.out).mono ?_
      rintro e w1 ⟨rfl, hb1⟩
      have HB1 := Hid.mk' (HB0.out.trans (hb1.mono (by simp; omega)))
      have k1 : w1.cell? ⟨w.heap.size, 1, none⟩ = some (.slice A2 f.2.1.length c2) := (hb1.cell (p := ⟨w.heap.size, 1, none⟩) (by simp; omega)).trans (by simp)
      have k2 : w1.cell? ⟨w.heap.size, 2, none⟩ = some (.slice A3 f.2.2.length c3) := (hb1.cell (p := ⟨w.heap.size, 2, none⟩) (by simp; omega)).trans (by simp)
      have z1 : w.heap.size < w1.heap.size := by have := hb1.size; simp at this; omega
      clear hb1 HP hs
      go_wp2_with fail
      go_ret
      exact ⟨ret_int (by simp [badF, hp]), HB1.out⟩
-- reference
set_option maxHeartbeats 2000000 in
theorem rcheck_calls (A1 A2 A3 : Option Addr) (c1 c2 c3 : Nat) (f : Foot) (w : World) (h : FootIn w A1 A2 A3 f) (hl : sizeF f ≤ 9223372036854775807) :
    Calls Tryz.prog 12 #[FootV A1 A2 A3 c1 c2 c3 f] w fun e w' => e = .returned (.int .i64 (checkF f)) ∧ Below w.heap.size w w' := by
  have HF := Hid.mk' h
  have hs := fun W => rsize_calls A1 A2 A3 c1 c2 c3 f W hl
  clear h
  unfold FootV at hs ⊢
  unfold checkF
  by_cases hz : sizeF f > 65536
  · have hz' : (sizeF f : Int) > 65536 := by omega
    rw [if_pos hz]
    generalize sizeF f = n at hs hz hz' hl
    go_enter Tryz.func12, Tryz.ntmps12
    go_wp2_with (go_at_call 29; refine (hs _).mono ?_; rintro e w' ⟨rfl, o, rfl⟩)
    go_ret
    exact ⟨rfl, ((Below.refl _ w).alloc (Nat.le_refl _) _).alloc (by simp) _⟩
  · have hz' : ¬ (sizeF f : Int) > 65536 := by omega
    rw [if_neg hz]
    have hl1 : f.1.length ≤ 65536 ∧ f.2.1.length ≤ 65536 ∧ f.2.2.length ≤ 65536 := by unfold sizeF at hz; omega
    obtain ⟨hl1, hl2, hl3⟩ := hl1
    generalize sizeF f = n at hs hz hz' hl
    go_enter Tryz.func12, Tryz.ntmps12
    go_wp2_with (go_at_call 29; refine (hs _).mono ?_; rintro e w' ⟨rfl, o, rfl⟩)
    have HBW : Hid (Below w.heap.size w ((w.alloc (.cells #[.slice A1 f.1.length c1, .slice A2 f.2.1.length c2, .slice A3 f.2.2.length c3] 25)).alloc o)) := ((Below.refl _ w).alloc (Nat.le_refl _) _).alloc (by simp) _
    have HZ : Hid (w.heap.size < ((w.alloc (.cells #[.slice A1 f.1.length c1, .slice A2 f.2.1.length c2, .slice A3 f.2.2.length c3] 25)).alloc o).heap.size) := by show _ < _; simp; omega
    have HC0 : Hid (((w.alloc (.cells #[.slice A1 f.1.length c1, .slice A2 f.2.1.length c2, .slice A3 f.2.2.length c3] 25)).alloc o).cell? ⟨w.heap.size, 0, none⟩ = some (.slice A1 f.1.length c1)) := by show _ = _; simp
    have HC1 : Hid (((w.alloc (.cells #[.slice A1 f.1.length c1, .slice A2 f.2.1.length c2, .slice A3 f.2.2.length c3] 25)).alloc o).cell? ⟨w.heap.size, 1, none⟩ = some (.slice A2 f.2.1.length c2)) := by show _ = _; simp
    have HC2 : Hid (((w.alloc (.cells #[.slice A1 f.1.length c1, .slice A2 f.2.1.length c2, .slice A3 f.2.2.length c3] 25)).alloc o).cell? ⟨w.heap.size, 2, none⟩ = some (.slice A3 f.2.2.length c3)) := by show _ = _; simp
    obtain ⟨W, hW⟩ : ∃ W, (w.alloc (.cells #[.slice A1 f.1.length c1, .slice A2 f.2.1.length c2, .slice A3 f.2.2.length c3] 25)).alloc o = W := ⟨_, rfl⟩
    rw [hW] at HBW HZ HC0 HC1 HC2 ⊢
    clear hW hs
    go_loopw [3] (fun s3 wr => ∃ k : Nat, k ≤ f.1.length ∧ s3 = .int .i64 k ∧ Hid (Below W.heap.size W wr) ∧ Hid ((f.1.take k).any badP = false)) (fun s3 _ => f.1.length - (intOf s3).toNat)
    case atStart => exact ⟨0, Nat.zero_le _, rfl, Below.refl _ _, rfl⟩
    case round =>
      obtain ⟨k, hk, rfl, HB, HN⟩ := hrel
      have k0 : wr.cell? ⟨w.heap.size, 0, none⟩ = some (.slice A1 f.1.length c1) := (HB.out.cell (p := ⟨w.heap.size, 0, none⟩) HZ.out).trans HC0.out
      have k1 : wr.cell? ⟨w.heap.size, 1, none⟩ = some (.slice A2 f.2.1.length c2) := (HB.out.cell (p := ⟨w.heap.size, 1, none⟩) HZ.out).trans HC1.out
      have k2 : wr.cell? ⟨w.heap.size, 2, none⟩ = some (.slice A3 f.2.2.length c3) := (HB.out.cell (p := ⟨w.heap.size, 2, none⟩) HZ.out).trans HC2.out
      by_cases hlt : k < f.1.length
      · have hltz : (k : Int) < (f.1.length : Int) := by omega
        obtain ⟨x, hx⟩ : ∃ x, f.1[k]? = some x := ⟨_, List.getElem?_eq_getElem hlt⟩
        obtain ⟨b, off, rfl, hbl, hcell⟩ := HF.out.pts.at_ hlt
        have es : f.1[k] = x := (List.getElem?_eq_some_iff.1 hx).2
        rw [es] at hcell
        have hcw : ∀ q v, (ePt x)[q]? = some v → wr.cell? ⟨b, off + k * 3 + q, none⟩ = some v := fun q v hv => (HB.out.cell (p := ⟨b, _, none⟩) (Nat.lt_of_lt_of_le hbl HBW.out.size)).trans ((HBW.out.cell (p := ⟨b, _, none⟩) hbl).trans (hcell q v hv))
        have d0 : wr.cell? ⟨b, off + k * 3, none⟩ = some (.int .i64 x.t) := hcw 0 _ rfl
        have d1 : wr.cell? ⟨b, off + k * 3 + 1, none⟩ = some (.int .i64 x.i) := hcw 1 _ rfl
        have HM : Hid (x ∈ f.1) := by rw [← es]; exact List.getElem_mem hlt
        have HTK : Hid (f.1.take (k + 1) = f.1.take k ++ [x]) := by show _ = _; rw [List.take_succ_eq_append_getElem hlt, es]
        have HPL := fun W => rplace_calls x.t x.i W
        clear hcell hcw hx es
        cases hb : mayB x.t x.i
        · rw [hb] at HPL
          have HY : Hid (badP x = true) := by show (!mayB x.t x.i) = true; rw [hb]; rfl
          clear hb
          go_wp2_with fail
          go_quiet ((go_at_call 30; exact Calls.quiet_of_same (HPL _)))
          go_wp2_with fail
          go_ret
          have hany : f.1.any badP = true := List.any_eq_true.2 ⟨x, HM.out, HY.out⟩
          exact ⟨ret_int (by simp [badF, hany]), HBW.out.trans ((below_drewN' HB.out _).mono HBW.out.size)⟩
        · rw [hb] at HPL
          have HY : Hid (badP x = false) := by show (!mayB x.t x.i) = false; rw [hb]; rfl
          clear hb
          go_wp2_with fail
          go_quiet ((go_at_call 30; exact Calls.quiet_of_same (HPL _)))
          go_wp2_with fail
          go_roundw
          case rel =>
            refine ⟨k + 1, by omega, by go_num, below_drewN' HB.out _, ?_⟩
            show (f.1.take (k + 1)).any badP = false
            rw [HTK.out, List.any_append, HN.out]; simp [HY.out]
          case measure => simp [intOf]; omega
      · have hltz : ¬ (k : Int) < (f.1.length : Int) := by omega
        have HA0 : Hid (f.1.any badP = false) := by
          have h1 := HN.out
          rwa [List.take_of_length_le (by omega)] at h1
        clear HN
        have HBW := Hid.mk' (HBW.out.trans (HB.out.mono HBW.out.size))
        have HZ : Hid (w.heap.size < wr.heap.size) := Nat.lt_of_lt_of_le HZ.out HB.out.size
        clear HB
        go_wp2_with fail
        have HC0 := Hid.mk' k0
        have HC1 := Hid.mk' k1
        have HC2 := Hid.mk' k2
        clear k0 k1 k2
        obtain ⟨W0, hW0⟩ : ∃ W0, W0 = wr := ⟨_, rfl⟩
        subst hW0
        go_loopw [4] (fun s4 wr => ∃ k : Nat, k ≤ f.2.1.length ∧ s4 = .int .i64 k ∧ Hid (Below W0.heap.size W0 wr) ∧ Hid ((f.2.1.take k).any badS = false)) (fun s4 _ => f.2.1.length - (intOf s4).toNat)
        case atStart => exact ⟨0, Nat.zero_le _, rfl, Below.refl _ _, rfl⟩
        case round =>
          obtain ⟨k, hk, rfl, HB, HN⟩ := hrel
          have k0 : wr.cell? ⟨w.heap.size, 0, none⟩ = some (.slice A1 f.1.length c1) := (HB.out.cell (p := ⟨w.heap.size, 0, none⟩) HZ.out).trans HC0.out
          have k1 : wr.cell? ⟨w.heap.size, 1, none⟩ = some (.slice A2 f.2.1.length c2) := (HB.out.cell (p := ⟨w.heap.size, 1, none⟩) HZ.out).trans HC1.out
          have k2 : wr.cell? ⟨w.heap.size, 2, none⟩ = some (.slice A3 f.2.2.length c3) := (HB.out.cell (p := ⟨w.heap.size, 2, none⟩) HZ.out).trans HC2.out
          by_cases hlt : k < f.2.1.length
          · have hltz : (k : Int) < (f.2.1.length : Int) := by omega
            obtain ⟨x, hx⟩ : ∃ x, f.2.1[k]? = some x := ⟨_, List.getElem?_eq_getElem hlt⟩
            obtain ⟨b, off, rfl, hbl, hcell⟩ := HF.out.sps.at_ hlt
            have es : f.2.1[k] = x := (List.getElem?_eq_some_iff.1 hx).2
            rw [es] at hcell
            have hcw : ∀ q v, (eSp x)[q]? = some v → wr.cell? ⟨b, off + k * 5 + q, none⟩ = some v := fun q v hv => (HB.out.cell (p := ⟨b, _, none⟩) (Nat.lt_of_lt_of_le hbl HBW.out.size)).trans ((HBW.out.cell (p := ⟨b, _, none⟩) hbl).trans (hcell q v hv))
            have d0 : wr.cell? ⟨b, off + k * 5, none⟩ = some (.int .i64 x.t) := hcw 0 _ rfl
            have d1 : wr.cell? ⟨b, off + k * 5 + 1, none⟩ = some (.int .i64 x.i) := hcw 1 _ rfl
            have HM : Hid (x ∈ f.2.1) := by rw [← es]; exact List.getElem_mem hlt
            have HTK : Hid (f.2.1.take (k + 1) = f.2.1.take k ++ [x]) := by show _ = _; rw [List.take_succ_eq_append_getElem hlt, es]
            have HPL := fun W => rplace_calls x.t x.i W
            clear hcell hcw hx es
            cases hb : mayB x.t x.i
            · rw [hb] at HPL
              have HY : Hid (badS x = true) := by show (!mayB x.t x.i) = true; rw [hb]; rfl
              clear hb
              go_wp2_with fail
              go_quiet ((go_at_call 30; exact Calls.quiet_of_same (HPL _)))
              go_wp2_with fail
              go_ret
              have hany : f.2.1.any badS = true := List.any_eq_true.2 ⟨x, HM.out, HY.out⟩
              exact ⟨ret_int (by simp [badF, hany]), HBW.out.trans ((below_drewN' HB.out _).mono HBW.out.size)⟩
            · rw [hb] at HPL
              have HY : Hid (badS x = false) := by show (!mayB x.t x.i) = false; rw [hb]; rfl
              clear hb
              go_wp2_with fail
              go_quiet ((go_at_call 30; exact Calls.quiet_of_same (HPL _)))
              go_wp2_with fail
              go_roundw
              case rel =>
                refine ⟨k + 1, by omega, by go_num, below_drewN' HB.out _, ?_⟩
                show (f.2.1.take (k + 1)).any badS = false
                rw [HTK.out, List.any_append, HN.out]; simp [HY.out]
              case measure => simp [intOf]; omega
          · have hltz : ¬ (k : Int) < (f.2.1.length : Int) := by omega
            have HA1 : Hid (f.2.1.any badS = false) := by
              have h1 := HN.out
              rwa [List.take_of_length_le (by omega)] at h1
            clear HN
            have HBW := Hid.mk' (HBW.out.trans (HB.out.mono HBW.out.size))
            have HZ : Hid (w.heap.size < wr.heap.size) := Nat.lt_of_lt_of_le HZ.out HB.out.size
            clear HB
            go_wp2_with fail
            have HC0 := Hid.mk' k0
            have HC1 := Hid.mk' k1
            have HC2 := Hid.mk' k2
            clear k0 k1 k2
            obtain ⟨W1, hW1⟩ : ∃ W1, W1 = wr := ⟨_, rfl⟩
            subst hW1
            go_loopw [5] (fun s5 wr => ∃ k : Nat, k ≤ f.2.2.length ∧ s5 = .int .i64 k ∧ Hid (Below W1.heap.size W1 wr) ∧ Hid ((f.2.2.take k).any badP = false)) (fun s5 _ => f.2.2.length - (intOf s5).toNat)
            case atStart => exact ⟨0, Nat.zero_le _, rfl, Below.refl _ _, rfl⟩
            case round =>
              obtain ⟨k, hk, rfl, HB, HN⟩ := hrel
              have k0 : wr.cell? ⟨w.heap.size, 0, none⟩ = some (.slice A1 f.1.length c1) := (HB.out.cell (p := ⟨w.heap.size, 0, none⟩) HZ.out).trans HC0.out
              have k1 : wr.cell? ⟨w.heap.size, 1, none⟩ = some (.slice A2 f.2.1.length c2) := (HB.out.cell (p := ⟨w.heap.size, 1, none⟩) HZ.out).trans HC1.out
              have k2 : wr.cell? ⟨w.heap.size, 2, none⟩ = some (.slice A3 f.2.2.length c3) := (HB.out.cell (p := ⟨w.heap.size, 2, none⟩) HZ.out).trans HC2.out
              by_cases hlt : k < f.2.2.length
              · have hltz : (k : Int) < (f.2.2.length : Int) := by omega
                obtain ⟨x, hx⟩ : ∃ x, f.2.2[k]? = some x := ⟨_, List.getElem?_eq_getElem hlt⟩
                obtain ⟨b, off, rfl, hbl, hcell⟩ := HF.out.wrs.at_ hlt
                have es : f.2.2[k] = x := (List.getElem?_eq_some_iff.1 hx).2
                rw [es] at hcell
                have hcw : ∀ q v, (ePt x)[q]? = some v → wr.cell? ⟨b, off + k * 3 + q, none⟩ = some v := fun q v hv => (HB.out.cell (p := ⟨b, _, none⟩) (Nat.lt_of_lt_of_le hbl HBW.out.size)).trans ((HBW.out.cell (p := ⟨b, _, none⟩) hbl).trans (hcell q v hv))
                have d0 : wr.cell? ⟨b, off + k * 3, none⟩ = some (.int .i64 x.t) := hcw 0 _ rfl
                have d1 : wr.cell? ⟨b, off + k * 3 + 1, none⟩ = some (.int .i64 x.i) := hcw 1 _ rfl
                have HM : Hid (x ∈ f.2.2) := by rw [← es]; exact List.getElem_mem hlt
                have HTK : Hid (f.2.2.take (k + 1) = f.2.2.take k ++ [x]) := by show _ = _; rw [List.take_succ_eq_append_getElem hlt, es]
                have HPL := fun W => rplace_calls x.t x.i W
                clear hcell hcw hx es
                cases hb : mayB x.t x.i
                · rw [hb] at HPL
                  have HY : Hid (badP x = true) := by show (!mayB x.t x.i) = true; rw [hb]; rfl
                  clear hb
                  go_wp2_with fail
                  go_quiet ((go_at_call 30; exact Calls.quiet_of_same (HPL _)))
                  go_wp2_with fail
                  go_ret
                  have hany : f.2.2.any badP = true := List.any_eq_true.2 ⟨x, HM.out, HY.out⟩
                  exact ⟨ret_int (by simp [badF, hany]), HBW.out.trans ((below_drewN' HB.out _).mono HBW.out.size)⟩
                · rw [hb] at HPL
                  have HY : Hid (badP x = false) := by show (!mayB x.t x.i) = false; rw [hb]; rfl
                  clear hb
                  go_wp2_with fail
                  go_quiet ((go_at_call 30; exact Calls.quiet_of_same (HPL _)))
                  go_wp2_with fail
                  go_roundw
                  case rel =>
                    refine ⟨k + 1, by omega, by go_num, below_drewN' HB.out _, ?_⟩
                    show (f.2.2.take (k + 1)).any badP = false
                    rw [HTK.out, List.any_append, HN.out]; simp [HY.out]
                  case measure => simp [intOf]; omega
              · have hltz : ¬ (k : Int) < (f.2.2.length : Int) := by omega
                have HA2 : Hid (f.2.2.any badP = false) := by
                  have h1 := HN.out
                  rwa [List.take_of_length_le (by omega)] at h1
                clear HN
                go_wp2_with fail
                go_ret
                exact ⟨ret_int (by simp [badF, HA0.out, HA1.out, HA2.out]), HBW.out.trans (HB.out.mono HBW.out.size)⟩
end Go.Proofs.YtpbmcaidkjlokaaGreat
