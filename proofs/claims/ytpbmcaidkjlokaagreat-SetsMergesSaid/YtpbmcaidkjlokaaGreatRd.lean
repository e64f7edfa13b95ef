/- Reads: a foot reads a point. -/
import Derived.Test.YtpbmcaidkjlokaaGreatEq
import Derived.Test.YtpbmcaidkjlokaaGreatNo
namespace Go.Proofs.YtpbmcaidkjlokaaGreat
open Go.RowKit

theorem eqlPt' (x y : Pt) (w : World) : (binOp .eql 37 (.agg #[.int .i64 x.t, .int .i64 x.i, .string x.key]) (.agg #[.int .i64 y.t, .int .i64 y.i, .string y.key])).run Tryz.prog w = .ok (.bool (decide (x = y))) w := eqlPt x y w

set_option maxHeartbeats 2000000 in
set_option maxRecDepth 100000 in
theorem index_Pt (v : Pt) (A : Option Addr) (c : Nat) (xs : List Pt) (w : World) (h : RowIn ePt 3 w A xs) :
    Calls Tryz.prog 63 #[.slice A xs.length c, .agg #[.int .i64 v.t, .int .i64 v.i, .string v.key]] w fun e w' => e = .returned (.int .i64 (idxR (fun x => decide (v = x)) xs)) ∧ Below w.heap.size w w' := by
  have H := Hid.mk' h
  have hl := h.len
  have g1 := guardPt
  clear h
  go_enter Tryz.func63, Tryz.ntmps63
  go_wp2_with fail
  have HBW : Hid (Below w.heap.size w (w.alloc (.cells #[.int .i64 v.t, .int .i64 v.i, .string v.key] 37))) := (Below.refl _ w).alloc (Nat.le_refl _) _
  have HC0 : Hid ((w.alloc (.cells #[.int .i64 v.t, .int .i64 v.i, .string v.key] 37)).cell? ⟨w.heap.size, 0, none⟩ = some (.int .i64 v.t)) := by show _ = _; simp
  have HC1 : Hid ((w.alloc (.cells #[.int .i64 v.t, .int .i64 v.i, .string v.key] 37)).cell? ⟨w.heap.size, 1, none⟩ = some (.int .i64 v.i)) := by show _ = _; simp
  have HC2 : Hid ((w.alloc (.cells #[.int .i64 v.t, .int .i64 v.i, .string v.key] 37)).cell? ⟨w.heap.size, 2, none⟩ = some (.string v.key)) := by show _ = _; simp
  have HZ : Hid (w.heap.size < (w.alloc (.cells #[.int .i64 v.t, .int .i64 v.i, .string v.key] 37)).heap.size) := by show _ < _; simp
  obtain ⟨W, hW⟩ : ∃ W, w.alloc (.cells #[.int .i64 v.t, .int .i64 v.i, .string v.key] 37) = W := ⟨_, rfl⟩
  rw [hW] at HBW HC0 HC1 HC2 HZ ⊢
  clear hW
  go_loopw [5, 8] (fun _ s8 wr => ∃ k : Nat, k ≤ xs.length ∧ s8 = .int .i64 k ∧ Hid (Below W.heap.size W wr) ∧ Hid (k ≤ xs.findIdx (fun x => decide (v = x)))) (fun _ s8 _ => xs.length - (intOf s8).toNat)
  case atStart => exact ⟨0, Nat.zero_le _, rfl, Below.refl _ _, Nat.zero_le _⟩
  case round =>
    obtain ⟨k, hk, rfl, HB, HF⟩ := hrel
    have k0 : wr.cell? ⟨w.heap.size, 0, none⟩ = some (.int .i64 v.t) := (HB.out.cell (p := ⟨w.heap.size, 0, none⟩) HZ.out).trans HC0.out
    have k1 : wr.cell? ⟨w.heap.size, 1, none⟩ = some (.int .i64 v.i) := (HB.out.cell (p := ⟨w.heap.size, 1, none⟩) HZ.out).trans HC1.out
    have k2 : wr.cell? ⟨w.heap.size, 2, none⟩ = some (.string v.key) := (HB.out.cell (p := ⟨w.heap.size, 2, none⟩) HZ.out).trans HC2.out
    by_cases hlt : k < xs.length
    · have hltz : (k : Int) < (xs.length : Int) := by omega
      obtain ⟨x, hx⟩ : ∃ x, xs[k]? = some x := ⟨_, List.getElem?_eq_getElem hlt⟩
      obtain ⟨b, off, rfl, hbl, hcell⟩ := H.out.at_ hlt
      have es : xs[k] = x := (List.getElem?_eq_some_iff.1 hx).2
      rw [es] at hcell
      have hcw : ∀ q u, (ePt x)[q]? = some u → wr.cell? ⟨b, off + k * 3 + q, none⟩ = some u := fun q u hu => (HB.out.cell (p := ⟨b, _, none⟩) (Nat.lt_of_lt_of_le hbl HBW.out.size)).trans ((HBW.out.cell (p := ⟨b, _, none⟩) hbl).trans (hcell q u hu))
      have d0 : wr.cell? ⟨b, off + k * 3, none⟩ = some (.int .i64 x.t) := hcw 0 _ rfl
      have d1 : wr.cell? ⟨b, off + k * 3 + 1, none⟩ = some (.int .i64 x.i) := hcw 1 _ rfl
      have d2 : wr.cell? ⟨b, off + k * 3 + 2, none⟩ = some (.string x.key) := hcw 2 _ rfl
      have hs : decide (v = x) = false → k + 1 ≤ xs.findIdx (fun x => decide (v = x)) := fun e => findIdx_step hlt HF.out (by rw [es]; exact e)
      have ht : decide (v = x) = true → xs.findIdx (fun x => decide (v = x)) = k := fun e => findIdx_hit hlt HF.out (by rw [es]; exact e)
      have HE := fun W => eqlPt' v x W
      clear hcell hcw hx es
      cases hq : decide (v = x)
      · rw [hq] at HE
        have HS := Hid.mk' (hs hq)
        clear hs ht hq
        go_wp2_with fail
        go_quiet (fail)
        go_wp2_with fail
        go_roundw
        case rel => exact ⟨k + 1, by omega, by go_num, below_drewN' HB.out _, HS.out⟩
        case measure => simp [intOf]; omega
      · rw [hq] at HE
        have HS := Hid.mk' (ht hq)
        clear hs ht hq
        go_wp2_with fail
        go_quiet (fail)
        go_wp2_with fail
        go_ret
        exact ⟨ret_int (idxR_hit hlt HS.out), HBW.out.trans ((below_drewN' HB.out _).mono HBW.out.size)⟩
    · have hltz : ¬ (k : Int) < (xs.length : Int) := by omega
      go_wp2_with fail
      go_ret
      exact ⟨ret_int (idxR_miss hlt HF.out), HBW.out.trans (HB.out.mono HBW.out.size)⟩
set_option maxHeartbeats 1000000 in
theorem contains_Pt (v : Pt) (A : Option Addr) (c : Nat) (xs : List Pt) (w : World) (h : RowIn ePt 3 w A xs) :
    Calls Tryz.prog 34 #[.slice A xs.length c, .agg #[.int .i64 v.t, .int .i64 v.i, .string v.key]] w fun e w' => e = .returned (.bool (decide (v ∈ xs))) ∧ Below w.heap.size w w' := by
  have HC := fun o => index_Pt v A c xs (w.alloc o) (h.below ((Below.refl _ w).alloc (Nat.le_refl _) _) (Nat.le_refl _))
  have he := idxR_any (fun x => decide (v = x)) xs
  have hbd := idxR_bd (fun x => decide (v = x)) xs h.len
  have hm : xs.any (fun x => decide (v = x)) = decide (v ∈ xs) := by
    rw [Bool.eq_iff_iff, List.any_eq_true]; simp
  rw [hm] at he
  clear hm h
  generalize idxR (fun x => decide (v = x)) xs = r at HC he hbd
  have HB1 : Hid (∀ o w', Below (w.alloc o).heap.size (w.alloc o) w' → Below w.heap.size w w') := fun o w' h => ((Below.refl _ w).alloc (Nat.le_refl _) _).trans (h.mono (by simp))
  cases hq : decide (v ∈ xs) with
  | true =>
    have hr : 0 ≤ r := he.1 hq
    clear he hq
    go_enter Tryz.func34, Tryz.ntmps34
    go_wp2_with (go_at_call 63; refine (HC _).mono ?_; rintro e w' ⟨rfl, hb'⟩)
    go_ret
    exact ⟨rfl, HB1.out _ _ hb'⟩
  | false =>
    have hr : r < 0 := by
      rcases Int.lt_or_le r 0 with h | h
      · exact h
      · have := he.2 h; rw [hq] at this; cases this
    clear he hq
    go_enter Tryz.func34, Tryz.ntmps34
    go_wp2_with (go_at_call 63; refine (HC _).mono ?_; rintro e w' ⟨rfl, hb'⟩)
    go_ret
    exact ⟨ret_bool (by simp; omega), HB1.out _ _ hb'⟩
def inS (p : Pt) (s : Sp) : Bool := decide (splS s = plP p) && hasB s.r p.key
theorem spannedB_any (l : List Sp) (p : Pt) : VP.spannedB VP.TO.bytes plP Pt.key splS rgS l p = l.any (inS p) := rfl
theorem splS_eq (s : Sp) (p : Pt) : decide (splS s = plP p) = (decide (s.t = p.t) && decide (s.i = p.i)) := by
  rw [Bool.eq_iff_iff]; simp [splS, plP]
theorem pred_inS (p : Pt) (B0 B : Nat) (w : World) (h0 : B0 < B) (hc0 : w.cell? ⟨B0, 0, none⟩ = some (.int .i64 p.t)) (hc1 : w.cell? ⟨B0, 1, none⟩ = some (.int .i64 p.i)) (hc2 : w.cell? ⟨B0, 2, none⟩ = some (.string p.key)) :
    PredB Tryz.prog 35 #[.pointer (some ⟨B0, 0, none⟩)] eSp (inS p) B w := fun W x hW => by
  have k0 : W.cell? ⟨B0, 0, none⟩ = some (.int .i64 p.t) := (hW.cell (p := ⟨B0, 0, none⟩) h0).trans hc0
  have k1 : W.cell? ⟨B0, 1, none⟩ = some (.int .i64 p.i) := (hW.cell (p := ⟨B0, 1, none⟩) h0).trans hc1
  have k2 : W.cell? ⟨B0, 2, none⟩ = some (.string p.key) := (hW.cell (p := ⟨B0, 2, none⟩) h0).trans hc2
  have hlt : B0 < W.heap.size := World.block_lt_of_cell? W _ k2
  have HH := fun W => has_calls x.r p.key W
  unfold inS
  rw [splS_eq]
  clear hc0 hc1 hc2
  show Calls _ _ #[.agg #[.int .i64 x.t, .int .i64 x.i, .string x.r.lo, .string x.r.hi, .bool x.r.op], .pointer (some ⟨B0, 0, none⟩)] _ _
  by_cases h1 : x.t = p.t
  · by_cases h2 : x.i = p.i
    · rw [show (decide (x.t = p.t) && decide (x.i = p.i) && hasB x.r p.key) = hasB x.r p.key from by simp [h1, h2]]
      have g1 : (x.t == p.t) = true := beq_iff_eq.2 h1
      have g2 : (x.i == p.i) = true := beq_iff_eq.2 h2
      clear h1 h2
      go_enter Tryz.func35, Tryz.ntmps35
      go_wp2_with (go_at_call 36; refine (HH _).mono ?_; rintro e w' ⟨rfl, o, rfl⟩)
      go_ret
      exact ⟨rfl, ((Below.refl _ W).alloc (Nat.le_refl _) _).alloc (by simp) _⟩
    · rw [show (decide (x.t = p.t) && decide (x.i = p.i) && hasB x.r p.key) = false from by simp [h2]]
      have g1 : (x.t == p.t) = true := beq_iff_eq.2 h1
      have g2 : (x.i == p.i) = false := beq_eq_false_iff_ne.2 h2
      clear h1 h2
      go_enter Tryz.func35, Tryz.ntmps35
      go_wp2_with fail
      go_ret
      exact ⟨rfl, (Below.refl _ W).alloc (Nat.le_refl _) _⟩
  · rw [show (decide (x.t = p.t) && decide (x.i = p.i) && hasB x.r p.key) = false from by simp [h1]]
    have g1 : (x.t == p.t) = false := beq_eq_false_iff_ne.2 h1
    clear h1
    go_enter Tryz.func35, Tryz.ntmps35
    go_wp2_with fail
    go_ret
    exact ⟨rfl, (Below.refl _ W).alloc (Nat.le_refl _) _⟩
def readsF (f : Foot) (p : Pt) : Bool := VP.readsB VP.TO.bytes plP Pt.key splS rgS f p
theorem reads_calls (A1 A2 A3 : Option Addr) (c1 c2 c3 : Nat) (f : Foot) (p : Pt) (w : World) (h1 : RowIn ePt 3 w A1 f.1) (h2 : RowIn eSp 5 w A2 f.2.1) :
    Calls Tryz.prog 16 #[FootV A1 A2 A3 c1 c2 c3 f, .agg #[.int .i64 p.t, .int .i64 p.i, .string p.key]] w fun e w' => e = .returned (.bool (readsF f p)) ∧ Below w.heap.size w w' := by
  have e2 := enters_of Tryz.func35 (by kernel_rfl) rfl
  have HP := fun W (hb : Below w.heap.size w W) => contains_Pt p A1 c1 f.1 W (h1.below hb (Nat.le_refl _))
  have HS := fun W (hb : Below w.heap.size w W) (hz : w.heap.size + 1 < W.heap.size) (k0 : W.cell? ⟨w.heap.size + 1, 0, none⟩ = some (.int .i64 p.t)) (k1 : W.cell? ⟨w.heap.size + 1, 1, none⟩ = some (.int .i64 p.i)) (k2 : W.cell? ⟨w.heap.size + 1, 2, none⟩ = some (.string p.key)) =>
    containsFunc_Sp (inS p) 35 #[.pointer (some ⟨w.heap.size + 1, 0, none⟩)] e2 (w.heap.size + 2) A2 c2 f.2.1 W (pred_inS p (w.heap.size + 1) _ W (by omega) k0 k1 k2) (by omega) (h2.below hb (Nat.le_refl _))
  have HB0 : Hid (∀ o1 o2, Below w.heap.size w ((w.alloc o1).alloc o2)) := fun o1 o2 => ((Below.refl _ w).alloc (Nat.le_refl _) _).alloc (by simp) _
  clear h1 h2 e2
  unfold readsF VP.readsB
  rw [spannedB_any]
  unfold FootV
  cases hp : decide (p ∈ f.1)
  · rw [hp] at HP
    cases hq : f.2.1.any (inS p)
    all_goals
      rw [hq] at HS
      clear hp hq
      go_enter Tryz.func16, Tryz.ntmps16
      go_wp2_with fail
      refine (HP _ (HB0.out _ _)).mono ?_
      rintro e w1 ⟨rfl, hb1⟩
      have m0 : w1.cell? ⟨w.heap.size, 1, none⟩ = some (.slice A2 f.2.1.length c2) := (hb1.cell (p := ⟨w.heap.size, 1, none⟩) (by simp; omega)).trans (by simp)
      have k0 : w1.cell? ⟨w.heap.size + 1, 0, none⟩ = some (.int .i64 p.t) := (hb1.cell (p := ⟨w.heap.size + 1, 0, none⟩) (by simp)).trans (by simp)
      have k1 : w1.cell? ⟨w.heap.size + 1, 1, none⟩ = some (.int .i64 p.i) := (hb1.cell (p := ⟨w.heap.size + 1, 1, none⟩) (by simp)).trans (by simp)
      have k2 : w1.cell? ⟨w.heap.size + 1, 2, none⟩ = some (.string p.key) := (hb1.cell (p := ⟨w.heap.size + 1, 2, none⟩) (by simp)).trans (by simp)
      have HBB := Hid.mk' ((HB0.out _ _).trans (hb1.mono (by simp; omega)))
      have hz : w.heap.size + 1 < w1.heap.size := by have := hb1.size; simp at this; omega
      have HS' := HS w1 HBB.out hz k0 k1 k2
      clear hb1 HS HP
      go_wp2_with fail
      refine HS'.mono ?_
      rintro e w2 ⟨rfl, hb2⟩
      clear HS'
      go_wp2_with fail
      go_ret
      exact ⟨rfl, HBB.out.trans (hb2.mono (by omega))⟩
  · rw [hp] at HP
    clear HS hp
    go_enter Tryz.func16, Tryz.ntmps16
    go_wp2_with fail
    refine (HP _ (HB0.out _ _)).mono ?_
    rintro e w1 ⟨rfl, hb1⟩
    clear HP
    go_wp2_with fail
    go_ret
    exact ⟨ret_bool (by simp), (HB0.out _ _).trans (hb1.mono (by simp; omega))⟩
end Go.Proofs.YtpbmcaidkjlokaaGreat
