/- The reference's spanned and places. -/
import Derived.Test.YtpbmcaidkjlokaaGreatSo2
import Derived.Test.YtpbmcaidkjlokaaGreatRd
import Derived.Deep.AppendLies
namespace Go.Proofs.YtpbmcaidkjlokaaGreat
open Go.RowKit

set_option maxHeartbeats 4000000 in
set_option maxRecDepth 100000 in
theorem spanned_calls (p : Pt) (A : Option Addr) (c : Nat) (xs : List Sp) (w : World) (h : RowIn eSp 5 w A xs) :
    Calls Tryz.prog 58 #[.slice A xs.length c, .agg #[.int .i64 p.t, .int .i64 p.i, .string p.key]] w fun e w' => e = .returned (.bool (xs.any (inS p))) ∧ Below w.heap.size w w' := by
  have H := Hid.mk' h
  have hl := h.len
  clear h
  go_enter Tryz.func58, Tryz.ntmps58
  go_wp2_with fail
  have HBW : Hid (Below w.heap.size w (w.alloc (.cells #[.int .i64 p.t, .int .i64 p.i, .string p.key] 37))) := (Below.refl _ w).alloc (Nat.le_refl _) _
  have HC0 : Hid ((w.alloc (.cells #[.int .i64 p.t, .int .i64 p.i, .string p.key] 37)).cell? ⟨w.heap.size, 0, none⟩ = some (.int .i64 p.t)) := by show _ = _; simp
  have HC1 : Hid ((w.alloc (.cells #[.int .i64 p.t, .int .i64 p.i, .string p.key] 37)).cell? ⟨w.heap.size, 1, none⟩ = some (.int .i64 p.i)) := by show _ = _; simp
  have HC2 : Hid ((w.alloc (.cells #[.int .i64 p.t, .int .i64 p.i, .string p.key] 37)).cell? ⟨w.heap.size, 2, none⟩ = some (.string p.key)) := by show _ = _; simp
  have HZ : Hid (w.heap.size < (w.alloc (.cells #[.int .i64 p.t, .int .i64 p.i, .string p.key] 37)).heap.size) := by show _ < _; simp
  obtain ⟨W, hW⟩ : ∃ W, w.alloc (.cells #[.int .i64 p.t, .int .i64 p.i, .string p.key] 37) = W := ⟨_, rfl⟩
  rw [hW] at HBW HC0 HC1 HC2 HZ ⊢
  clear hW
  go_loopw [5] (fun s5 wr => ∃ k : Nat, k ≤ xs.length ∧ s5 = .int .i64 k ∧ Hid (Below W.heap.size W wr) ∧ Hid ((xs.take k).any (inS p) = false)) (fun s5 _ => xs.length - (intOf s5).toNat)
  case atStart => exact ⟨0, Nat.zero_le _, rfl, Below.refl _ _, rfl⟩
  case round =>
    obtain ⟨k, hk, rfl, HB, HF⟩ := hrel
    have k0 : wr.cell? ⟨w.heap.size, 0, none⟩ = some (.int .i64 p.t) := (HB.out.cell (p := ⟨w.heap.size, 0, none⟩) HZ.out).trans HC0.out
    have k1 : wr.cell? ⟨w.heap.size, 1, none⟩ = some (.int .i64 p.i) := (HB.out.cell (p := ⟨w.heap.size, 1, none⟩) HZ.out).trans HC1.out
    have k2 : wr.cell? ⟨w.heap.size, 2, none⟩ = some (.string p.key) := (HB.out.cell (p := ⟨w.heap.size, 2, none⟩) HZ.out).trans HC2.out
    by_cases hlt : k < xs.length
    · have hltz : (k : Int) < (xs.length : Int) := by omega
      obtain ⟨x, hx⟩ : ∃ x, xs[k]? = some x := ⟨_, List.getElem?_eq_getElem hlt⟩
      obtain ⟨b, off, rfl, hbl, hcell⟩ := H.out.at_ hlt
      have es : xs[k] = x := (List.getElem?_eq_some_iff.1 hx).2
      rw [es] at hcell
      have hcw : ∀ q u, (eSp x)[q]? = some u → wr.cell? ⟨b, off + k * 5 + q, none⟩ = some u := fun q u hu => (HB.out.cell (p := ⟨b, _, none⟩) (Nat.lt_of_lt_of_le hbl HBW.out.size)).trans ((HBW.out.cell (p := ⟨b, _, none⟩) hbl).trans (hcell q u hu))
      have d0 : wr.cell? ⟨b, off + k * 5, none⟩ = some (.int .i64 x.t) := hcw 0 _ rfl
      have d1 : wr.cell? ⟨b, off + k * 5 + 1, none⟩ = some (.int .i64 x.i) := hcw 1 _ rfl
      have d2 : wr.cell? ⟨b, off + k * 5 + 2, none⟩ = some (.string x.r.lo) := hcw 2 _ rfl
      have d3 : wr.cell? ⟨b, off + k * 5 + 3, none⟩ = some (.string x.r.hi) := hcw 3 _ rfl
      have d4 : wr.cell? ⟨b, off + k * 5 + 4, none⟩ = some (.bool x.r.op) := hcw 4 _ rfl
      have HM : Hid (x ∈ xs) := by rw [← es]; exact List.getElem_mem hlt
      have HTK : Hid (xs.take (k + 1) = xs.take k ++ [x]) := by show _ = _; rw [List.take_succ_eq_append_getElem hlt, es]
      have HR : ∀ W, Calls Tryz.prog 81 #[.agg #[.string x.r.lo, .string x.r.hi, .bool x.r.op], .string p.key] W fun e w' => e = .returned (.bool (hasB x.r p.key)) ∧ Below W.heap.size W w' := fun W => (rhas_calls x.r p.key W).mono fun e w' ⟨h1, o, h2⟩ => ⟨h1, by rw [h2]; exact (Below.refl _ _).alloc (Nat.le_refl _) _⟩
      clear hcell hcw hx es
      by_cases h1 : x.t = p.t
      · by_cases h2 : x.i = p.i
        · have g1 : (x.t == p.t) = true := beq_iff_eq.2 h1
          have g2 : (x.i == p.i) = true := beq_iff_eq.2 h2
          have hin : inS p x = hasB x.r p.key := by unfold inS; rw [splS_eq]; simp [h1, h2]
          cases hh : hasB x.r p.key
          all_goals
            rw [hh] at HR hin
            have HIN := Hid.mk' hin
            clear hin hh h1 h2
            go_wp2_with fail
            go_still_tail 26, (by kernel_rfl)
            change wpList _ _ _ _ _ wr.drew
            go_wp2_with (go_at_call 81; refine (HR _).mono ?_; rintro e w1 ⟨rfl, hb1⟩; have hb1' : Below wr.heap.size wr w1 := ⟨hb1.os, hb1.tape, hb1.output, hb1.size, hb1.block⟩; have HB1 := Hid.mk' (HB.out.trans (hb1'.mono HB.out.size)); clear hb1 hb1')
          · go_roundw
            case rel =>
              refine ⟨k + 1, by omega, by go_num, HB1, ?_⟩
              show (xs.take (k + 1)).any (inS p) = false
              rw [HTK.out, List.any_append, HF.out]; simp [HIN.out]
            case measure => simp [intOf]; omega
          · go_ret
            have hany : xs.any (inS p) = true := List.any_eq_true.2 ⟨x, HM.out, HIN.out⟩
            exact ⟨ret_bool hany.symm, HBW.out.trans (HB1.out.mono HBW.out.size)⟩
        · have g1 : (x.t == p.t) = true := beq_iff_eq.2 h1
          have g2 : (x.i == p.i) = false := beq_eq_false_iff_ne.2 h2
          have HIN : Hid (inS p x = false) := by show _ = _; unfold inS; rw [splS_eq]; simp [h2]
          clear h1 h2
          go_wp2_with fail
          go_quiet (fail)
          go_wp2_with fail
          go_roundw
          case rel =>
            refine ⟨k + 1, by omega, by go_num, below_drewN' HB.out _, ?_⟩
            show (xs.take (k + 1)).any (inS p) = false
            rw [HTK.out, List.any_append, HF.out]; simp [HIN.out]
          case measure => simp [intOf]; omega
      · have g1 : (x.t == p.t) = false := beq_eq_false_iff_ne.2 h1
        have HIN : Hid (inS p x = false) := by show _ = _; unfold inS; rw [splS_eq]; simp [h1]
        clear h1
        go_wp2_with fail
        go_quiet (fail)
        go_wp2_with fail
        go_roundw
        case rel =>
          refine ⟨k + 1, by omega, by go_num, below_drewN' HB.out _, ?_⟩
          show (xs.take (k + 1)).any (inS p) = false
          rw [HTK.out, List.any_append, HF.out]; simp [HIN.out]
        case measure => simp [intOf]; omega
    · have hltz : ¬ (k : Int) < (xs.length : Int) := by omega
      have HA : Hid (xs.any (inS p) = false) := by
        have h1 := HF.out
        rwa [List.take_of_length_le (by omega)] at h1
      go_wp2_with fail
      go_ret
      exact ⟨ret_bool HA.out.symm, HBW.out.trans (HB.out.mono HBW.out.size)⟩

def placeP (s : Sp) : Pt := ⟨s.t, s.i, ⟨#[]⟩⟩
set_option maxHeartbeats 4000000 in
set_option maxRecDepth 100000 in
theorem places_calls (A : Option Addr) (c : Nat) (xs : List Sp) (w : World) (h : RowIn eSp 5 w A xs) (hby : xs.length * 32 ≤ 140737488355328) :
    Calls Tryz.prog 56 #[.slice A xs.length c] w fun e w' => ∃ A' c', e = .returned (.slice A' (VP.ssort toPt (xs.map placeP)).length c') ∧ (VP.ssort toPt (xs.map placeP)).length ≤ c' ∧ RowIn ePt 3 w' A' (VP.ssort toPt (xs.map placeP)) ∧ Below w.heap.size w w' ∧ (∀ a, A' = some a → w.heap.size ≤ a.block) := by
  have H := Hid.mk' h
  have hl := h.len
  obtain ⟨i2, hi2, z0, z1, z2⟩ := info_parts info_Pt
  clear h
  go_enter Tryz.func56, Tryz.ntmps56
  go_wp2_with fail
  go_loopw [3, 4] (fun s3 s4 wr => ∃ k : Nat, k ≤ xs.length ∧ s4 = .int .i64 k ∧ Hid (Own ePt 3 37 w.heap.size wr s3 ((xs.take k).map placeP)) ∧ Hid (Below w.heap.size w wr)) (fun _ s4 _ => xs.length - (intOf s4).toNat)
  case atStart => exact ⟨0, Nat.zero_le _, rfl, Hid.mk' (World.ownsRow_made w #[] 0 (Nat.le_refl _) (Nat.zero_le _) (by simp)), Hid.mk' ((Below.refl _ w).alloc (Nat.le_refl _) _)⟩
  case round =>
    obtain ⟨k, hk, rfl, HO, HB⟩ := hrel
    have hsz := HB.out.size
    by_cases hlt : k < xs.length
    · have hltz : (k : Int) < (xs.length : Int) := by omega
      obtain ⟨x, hx⟩ : ∃ x, xs[k]? = some x := ⟨_, List.getElem?_eq_getElem hlt⟩
      obtain ⟨b, off, rfl, hbl, hcell⟩ := H.out.at_ hlt
      have es : xs[k] = x := (List.getElem?_eq_some_iff.1 hx).2
      rw [es] at hcell
      have hcw : ∀ q u, (eSp x)[q]? = some u → wr.cell? ⟨b, off + k * 5 + q, none⟩ = some u := fun q u hu => (HB.out.cell (p := ⟨b, _, none⟩) hbl).trans (hcell q u hu)
      have d0 : wr.cell? ⟨b, off + k * 5, none⟩ = some (.int .i64 x.t) := hcw 0 _ rfl
      have d1 : wr.cell? ⟨b, off + k * 5 + 1, none⟩ = some (.int .i64 x.i) := hcw 1 _ rfl
      have HTK : Hid ((xs.take (k + 1)).map placeP = (xs.take k).map placeP ++ [placeP x]) := by show _ = _; rw [List.take_succ_eq_append_getElem hlt, es, List.map_append]; rfl
      obtain ⟨Ao, co, rfl, hco⟩ := HO.out.shape
      have hln : ((xs.take k).map placeP).length = k := by rw [List.length_map, List.length_take_of_le (Nat.le_of_lt hlt)]
      have HLN := Hid.mk' hln
      have hown : wr.ownsRow w.heap.size 37 3 (.slice Ao ((xs.take k).map placeP).length co) ((xs.take k).map placeP).length (((xs.take k).map placeP).flatMap ePt) := HO.out
      rw [hln] at hown ⊢
      have hfar : ∀ w4 : World, (wr.alloc (.cells #[.int .i64 x.t, .int .i64 x.i, .string ⟨#[]⟩] 37)).drew.grownBy w4 (Value.slice Ao k co).ownBlock → ∀ a : Addr, a.block < w.heap.size → w4.cell? a = wr.cell? a := fun w4 hg a ha => (far_cell hown hsz hg a ha).1
      have HFR := Hid.mk' hfar
      clear hcell hcw hx es hln hfar
      go_wp2_with fail
      go_region_held3 (fun w' => w'.cell? ⟨b, off + k * 5, none⟩ = some (.int .i64 x.t) ∧ w'.cell? ⟨b, off + k * 5 + 1, none⟩ = some (.int .i64 x.i)) (go_keep)
        (first
          | (refine step_append_lies _ rfl _ _ 22 rfl w.heap.size 37 i2 _ 3 32 Tryz.underlying22 hi2 z0 z1 z2 rfl (by decide) (.slice Ao k co) k _ rfl (own_drew (World.ownsRow.alloc hown _)) _ _ _ (ePt (placeP x)) rfl rfl ?_ (ePt_one _) (by decide) ?_ ?_ ?_ (wr.heap.size + 1) ?_ ?_
             case refine_1 => exact new_cells rfl rfl
             case refine_2 => unfold maxLen; omega
             case refine_3 => omega
             case refine_4 => simp; omega
             case refine_5 => simp
             intro gg cap w4 hown4 hgr4 hli hlt4
             have HST := Hid.mk' (And.intro hown4 hgr4)
             have f0 : w4.cell? ⟨b, off + k * 5, none⟩ = some (.int .i64 x.t) := (HFR.out w4 hgr4 _ hbl).trans d0
             have f1 : w4.cell? ⟨b, off + k * 5 + 1, none⟩ = some (.int .i64 x.i) := (HFR.out w4 hgr4 _ hbl).trans d1
             clear hown4 hgr4 hli))
      all_goals
        go_wp2_with fail
        go_roundw
        case rel =>
          obtain ⟨ho4, hg4⟩ := HST.out
          refine ⟨k + 1, by omega, by go_num, ?_, ?_⟩
          · refine Hid.mk' ?_
            rw [HTK.out]
            exact own_snoc (by rw [HLN.out]; exact ho4)
          · refine Hid.mk' ((HB.out.alloc hsz _ : Below _ _ (wr.alloc (.cells #[.int .i64 x.t, .int .i64 x.i, .string ⟨#[]⟩] 37))).trans ⟨hg4.os, hg4.tape, hg4.output, hg4.size, fun j hj => hg4.block j (by show j < (wr.alloc _).heap.size; simp; omega) (fun e => by have := (World.ownsRow.lt hown j e.symm).1; omega)⟩)
        case measure => simp [intOf]; omega
    · have hltz : ¬ (k : Int) < (xs.length : Int) := by omega
      obtain ⟨Ao, co, rfl, hco⟩ := HO.out.shape
      have hke : (xs.take k).map placeP = xs.map placeP := by rw [List.take_of_length_le (by omega)]
      rw [hke] at hco HO ⊢
      have HS := sorted_calls (xs.map placeP).length (xs.map placeP) Ao co wr rfl (HO.out.row ePt_len).2 hco (by rw [List.length_map]; exact hby)
      have HLO : Hid (∀ a, Ao = some a → w.heap.size ≤ a.block) := fun a e => by subst e; exact own_low HO.out
      clear hke
      rw [List.length_map] at HS ⊢
      go_wp2_with fail
      refine HS.mono ?_
      rintro e w1 ⟨A', c', rfl, hc', hr', hb', hf'⟩
      clear HS
      have HR := Hid.mk' (And.intro hc' (And.intro hr' (And.intro hb' hf')))
      clear hr' hb' hf' hc'
      go_wp2_with fail
      go_ret
      obtain ⟨h1, h2, h3, h4⟩ := HR.out
      refine ⟨A', c', rfl, h1, h2, HB.out.trans (h3.mono hsz), fun a ea => ?_⟩
      rcases h4 a ea with h | h
      · cases hAo : Ao with
        | none => rw [hAo] at h; cases h
        | some ao =>
          rw [hAo] at h
          have := HLO.out ao hAo
          simp at h; omega
      · omega
end Go.Proofs.YtpbmcaidkjlokaaGreat
