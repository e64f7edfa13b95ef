/- slices.IndexFunc and its kin over vellum/api.Span. -/
import Derived.Test.YtpbmcaidkjlokaaGreatTy
import Derived.Test.YtpbmcaidkjlokaaGreatPr
import Derived.Shelf.Abstract
namespace Go.Proofs.YtpbmcaidkjlokaaGreat
open Go.RowKit

set_option maxHeartbeats 1000000 in
set_option maxRecDepth 100000 in
theorem indexFunc_Sp (p : Sp → Bool) (g : Nat) (lb : Array Value) (eg : ∀ args w, (callFunc g args).run Tryz.prog w = .ok (.enter g args) w) (B : Nat) (A : Option Addr) (c : Nat) (xs : List Sp) (w : World)
    (hp : PredB Tryz.prog g lb eSp p B w) (hB : B ≤ w.heap.size) (h : RowIn eSp 5 w A xs) :
    Calls Tryz.prog 60 #[.slice A xs.length c, .func (.func g) #[] lb] w fun e w' => e = .returned (.int .i64 (idxR p xs)) ∧ Below w.heap.size w w' := by
  have hl := h.len
  have H : Hid (RowIn eSp 5 w A xs) := h
  have HP : Hid (PredB Tryz.prog g lb eSp p B w) := hp
  clear h hp
  go_enter Tryz.func60, Tryz.ntmps60
  go_wp2
  go_loopw [5, 8] (fun _ s8 wr => ∃ kk : Nat, kk ≤ xs.length ∧ s8 = .int .i64 kk ∧ Hid (Below w.heap.size w wr) ∧ Hid (kk ≤ xs.findIdx p)) (fun _ s8 _ => xs.length - (intOf s8).toNat)
  case atStart => exact ⟨0, Nat.zero_le _, rfl, Below.refl _ w, Nat.zero_le _⟩
  case round =>
    obtain ⟨kk, hkk, rfl, HB, HF⟩ := hrel
    by_cases hlt : kk < xs.length
    · have hltz : (kk : Int) < (xs.length : Int) := by omega
      obtain ⟨b, off, rfl, hb, hc⟩ := (H.out.below HB.out (Nat.le_refl _)).at_ hlt
      have c0 : wr.cell? ⟨b, off + kk * 5, none⟩ = some (.int .i64 xs[kk].t) := hc 0 _ rfl
      have c1 : wr.cell? ⟨b, off + kk * 5 + 1, none⟩ = some (.int .i64 xs[kk].i) := hc 1 _ rfl
      have c2 : wr.cell? ⟨b, off + kk * 5 + 2, none⟩ = some (.string xs[kk].r.lo) := hc 2 _ rfl
      have c3 : wr.cell? ⟨b, off + kk * 5 + 3, none⟩ = some (.string xs[kk].r.hi) := hc 3 _ rfl
      have c4 : wr.cell? ⟨b, off + kk * 5 + 4, none⟩ = some (.bool xs[kk].r.op) := hc 4 _ rfl
      have HC : Calls Tryz.prog g (#[.agg #[.int .i64 xs[kk].t, .int .i64 xs[kk].i, .string xs[kk].r.lo, .string xs[kk].r.hi, .bool xs[kk].r.op]] ++ lb) wr fun e w' => e = .returned (.bool (p xs[kk])) ∧ Below wr.heap.size wr w' := HP.out wr xs[kk] (HB.out.mono hB)
      have hs := findIdx_step hlt HF.out
      have ht := findIdx_hit hlt HF.out
      clear hc
      generalize xs[kk] = x at c0 c1 c2 c3 c4 HC hs ht
      cases hq : p x with
      | true =>
        rw [hq] at HC
        have HT : Hid (xs.findIdx p = kk) := ht hq
        clear hs ht hq
        go_wp2_with (go_at_fn g; refine HC.mono ?_; rintro e w' ⟨rfl, hb'⟩)
        go_ret
        exact ⟨ret_int (idxR_hit hlt HT.out), HB.out.trans (hb'.mono HB.out.size)⟩
      | false =>
        rw [hq] at HC
        have HT : Hid (kk + 1 ≤ xs.findIdx p) := hs hq
        clear hs ht hq
        go_wp2_with (go_at_fn g; refine HC.mono ?_; rintro e w' ⟨rfl, hb'⟩)
        go_roundw
        case rel => exact ⟨kk + 1, by omega, by go_num, HB.out.trans (hb'.mono HB.out.size), HT.out⟩
        case measure => simp [intOf]; omega
    · have hltz : ¬ (kk : Int) < (xs.length : Int) := by omega
      go_wp2
      go_ret
      exact ⟨ret_int (idxR_miss hlt HF.out), HB.out⟩

set_option maxHeartbeats 1000000 in
theorem containsFunc_Sp (p : Sp → Bool) (g : Nat) (lb : Array Value) (eg : ∀ args w, (callFunc g args).run Tryz.prog w = .ok (.enter g args) w) (B : Nat) (A : Option Addr) (c : Nat) (xs : List Sp) (w : World)
    (hp : PredB Tryz.prog g lb eSp p B w) (hB : B ≤ w.heap.size) (h : RowIn eSp 5 w A xs) :
    Calls Tryz.prog 27 #[.slice A xs.length c, .func (.func g) #[] lb] w fun e w' => e = .returned (.bool (xs.any p)) ∧ Below w.heap.size w w' := by
  have HC := indexFunc_Sp p g lb eg B A c xs w hp hB h
  have he := idxR_any p xs
  have hbd := idxR_bd p xs h.len
  clear hp h
  generalize idxR p xs = r at HC he hbd
  cases hq : xs.any p with
  | true =>
    have hr : 0 ≤ r := he.1 hq
    clear he
    go_enter Tryz.func27, Tryz.ntmps27
    go_wp2_with (go_at_call 60; refine HC.mono ?_; rintro e w' ⟨rfl, hb'⟩)
    go_ret
    exact ⟨rfl, hb'⟩
  | false =>
    have hr : r < 0 := by
      rcases Int.lt_or_le r 0 with h | h
      · exact h
      · have := he.2 h; rw [hq] at this; cases this
    clear he
    go_enter Tryz.func27, Tryz.ntmps27
    go_wp2_with (go_at_call 60; refine HC.mono ?_; rintro e w' ⟨rfl, hb'⟩)
    go_ret
    exact ⟨ret_bool (by simp; omega), hb'⟩

set_option maxHeartbeats 2000000 in
set_option maxRecDepth 100000 in
/-- DeleteFunc over a row of the call's own. -/
theorem deleteFunc_Sp (p : Sp → Bool) (gf : Nat) (lb : Array Value) (eg : ∀ args w, (callFunc gf args).run Tryz.prog w = .ok (.enter gf args) w) (base : Nat) (v : Value) (xs : List Sp) (w : World)
    (hp : PredB Tryz.prog gf lb eSp p base w) (hB : base ≤ w.heap.size) (h : Own eSp 5 46 base w v xs) :
    Calls Tryz.prog 42 #[v, .func (.func gf) #[] lb] w fun e w' => ∃ v', e = .returned v' ∧ Own eSp 5 46 base w' v' (xs.filter fun x => !p x) ∧ Below base w w' := by
  have hl := own_len h
  have HP : Hid (PredB Tryz.prog gf lb eSp p base w) := hp
  obtain ⟨A, cap, rfl, hcap⟩ := h.shape
  have HI := indexFunc_Sp p gf lb eg base A cap xs w hp hB (h.row eSp_len).2
  clear hp
  by_cases hany : xs.findIdx p < xs.length
  · -- something goes
    obtain ⟨k0, HK⟩ : ∃ k0, Hid (xs.findIdx p = k0) := ⟨_, rfl⟩
    have hk0 : k0 < xs.length := by rw [← HK.out]; exact hany
    have hfresh : xs.length ≠ 0 := by omega
    obtain ⟨g, hA⟩ : ∃ g, A = some ⟨g, 0, none⟩ := by
      rcases h.2 with ⟨e, h0⟩ | ⟨g, c', cur, e, _⟩
      · exact absurd h0 hfresh
      · simp at e; exact ⟨g, e.1⟩
    subst hA
    have hgl := (World.ownsRow.lt h g rfl)
    have e1 : idxR p xs = (k0 : Int) := by unfold idxR; rw [if_pos hany, HK.out]
    rw [e1] at HI
    have HS : Hid ((xs.take k0) = (xs.take (k0 + 1)).filter fun x => !p x) := (filter_start HK.out hk0)
    have HO : Hid (w.ownsRow base 46 5 (.slice (some ⟨g, 0, none⟩) xs.length cap) xs.length (xs.flatMap eSp)) := h
    have hne1 : ((k0 : Int) == -1) = false := beq_eq_false_iff_ne.2 (by omega)
    clear h e1 hany hfresh
    go_enter Tryz.func42, Tryz.ntmps42
    go_wp2_with (go_at_call 60; refine HI.mono ?_; rintro e w0 ⟨rfl, hb0⟩)
    go_loopw [5, 6, 7] (fun s5 s6 _ wr => ∃ (i j : Nat) (ys : List Sp), s5 = .int .i64 i ∧ s6 = .int .i64 j ∧ i < j ∧ j ≤ xs.length ∧ ys.length = xs.length ∧ Hid (wr.ownsRow base 46 5 (.slice (some ⟨g, 0, none⟩) xs.length cap) xs.length (ys.flatMap eSp)) ∧ Hid (Below base w wr) ∧ Hid (g < wr.heap.size ∧ base ≤ wr.heap.size) ∧ Hid (ys.take i = (xs.take j).filter fun x => !p x) ∧ Hid (ys.drop j = xs.drop j)) (fun _ s6 _ _ => xs.length - (intOf s6).toNat)
    case atStart =>
      refine ⟨k0, k0 + 1, xs, rfl, by go_num, by omega, by omega, rfl, ?_, hb0.mono hB, ?_, HS.out, rfl⟩
      · exact World.ownsRow.kept HO.out (row := none) ⟨hb0.os, hb0.tape, hb0.output, hb0.size, fun i hi _ => hb0.block i hi⟩ (by simp [Value.ownBlock])
      · exact ⟨Nat.lt_of_lt_of_le hgl.2 hb0.size, Nat.le_trans hB hb0.size⟩
    case round =>
      obtain ⟨i, j, ys, rfl, rfl, hij, hjn, hyl, HW, HB, HG, HT, HD⟩ := hrel
      by_cases hlt : j < xs.length
      · have hltz : (j : Int) < (xs.length : Int) := by omega
        have hyj : ys[j]? = xs[j]? := by have := congrArg (fun l => l[0]?) HD.out; simpa using this
        obtain ⟨x, hx⟩ : ∃ x, xs[j]? = some x := ⟨_, List.getElem?_eq_getElem hlt⟩
        rw [hx] at hyj
        have hcell : ∀ q v, (eSp x)[q]? = some v → wr.cell? ⟨g, j * 5 + q, none⟩ = some v := fun q v hv => by
          have hq : q < 5 := by have := (List.getElem?_eq_some_iff.1 hv).1; rwa [eSp_len] at this
          rw [World.ownsRow.cellAt HW.out (j * 5 + q) (by omega), flatMap_get eSp_len ys j x q hyj hq]; exact hv
        have hold : ∀ q, q < 5 → ∃ u, wr.cell? ⟨g, i * 5 + q, none⟩ = some u := fun q hq => by
          rw [World.ownsRow.cellAt HW.out (i * 5 + q) (by omega)]
          have := (flatMap_len eSp_len ys)
          exact ⟨_, List.getElem?_eq_getElem (by rw [this]; omega)⟩
        have c0 : wr.cell? ⟨g, j * 5, none⟩ = some (.int .i64 x.t) := hcell 0 _ rfl
        have c1 : wr.cell? ⟨g, j * 5 + 1, none⟩ = some (.int .i64 x.i) := hcell 1 _ rfl
        have c2 : wr.cell? ⟨g, j * 5 + 2, none⟩ = some (.string x.r.lo) := hcell 2 _ rfl
        have c3 : wr.cell? ⟨g, j * 5 + 3, none⟩ = some (.string x.r.hi) := hcell 3 _ rfl
        have c4 : wr.cell? ⟨g, j * 5 + 4, none⟩ = some (.bool x.r.op) := hcell 4 _ rfl
        have HC := fun W hW => HP.out W x hW
        have HCX : Hid (xs[j]? = some x) := hx
        clear hcell hx hyj HC
        have hbox : Below base w (wr.alloc (.cells #[.int .i64 x.t, .int .i64 x.i, .string x.r.lo, .string x.r.hi, .bool x.r.op] 46)) := HB.out.alloc HG.out.2 _
        have HC : Calls Tryz.prog gf (#[.agg #[.int .i64 x.t, .int .i64 x.i, .string x.r.lo, .string x.r.hi, .bool x.r.op]] ++ lb) (wr.alloc (.cells #[.int .i64 x.t, .int .i64 x.i, .string x.r.lo, .string x.r.hi, .bool x.r.op] 46)) fun e w' => e = .returned (.bool (p x)) ∧ Below (wr.heap.size + 1) (wr.alloc (.cells #[.int .i64 x.t, .int .i64 x.i, .string x.r.lo, .string x.r.hi, .bool x.r.op] 46)) w' := (HP.out _ x hbox).mono fun e w' h => ⟨h.1, by have := h.2; rwa [World.size_alloc] at this⟩
        have HBX := Hid.mk' hbox
        clear hbox
        cases hq : p x with
        | false =>
          rw [hq] at HC
          have HQ : Hid (p x = false) := hq
          clear hq
          go_wp2_with fail
          refine HC.mono ?_
          rintro e w1 ⟨rfl, hb1⟩
          have HB1 := Hid.mk' hb1
          clear hb1
          have hgr : wr.grownBy w1 none := ⟨HB1.out.os, HB1.out.tape, HB1.out.output, Nat.le_trans (by simp) HB1.out.size, fun q hq' _ => (HB1.out.block q (by omega)).trans (Below.heap_alloc _ _ q hq')⟩
          have HW1 : Hid (w1.ownsRow base 46 5 (.slice (some ⟨g, 0, none⟩) xs.length cap) xs.length (ys.flatMap eSp)) := World.ownsRow.kept HW.out hgr (by simp [Value.ownBlock])
          have hcell1 : ∀ (a : Addr), a.block < wr.heap.size → w1.cell? a = wr.cell? a := fun a ha => World.cell?_of_block (hgr.block a.block ha (by simp))
          obtain ⟨o0, d0⟩ := hold 0 (by omega)
          obtain ⟨o1, d1⟩ := hold 1 (by omega)
          obtain ⟨o2, d2⟩ := hold 2 (by omega)
          obtain ⟨o3, d3⟩ := hold 3 (by omega)
          obtain ⟨o4, d4⟩ := hold 4 (by omega)
          have d0' : w1.cell? ⟨g, i * 5, none⟩ = some o0 := (hcell1 ⟨g, _, none⟩ HG.out.1).trans d0
          have d1' : w1.cell? ⟨g, i * 5 + 1, none⟩ = some o1 := (hcell1 ⟨g, _, none⟩ HG.out.1).trans d1
          have d2' : w1.cell? ⟨g, i * 5 + 2, none⟩ = some o2 := (hcell1 ⟨g, _, none⟩ HG.out.1).trans d2
          have d3' : w1.cell? ⟨g, i * 5 + 3, none⟩ = some o3 := (hcell1 ⟨g, _, none⟩ HG.out.1).trans d3
          have d4' : w1.cell? ⟨g, i * 5 + 4, none⟩ = some o4 := (hcell1 ⟨g, _, none⟩ HG.out.1).trans d4
          have f0 : w1.frozen? ⟨g, i * 5, none⟩ = false := World.ownsRow.frozenAt HW1.out _
          have f1 : w1.frozen? ⟨g, i * 5 + 1, none⟩ = false := World.ownsRow.frozenAt HW1.out _
          have f2 : w1.frozen? ⟨g, i * 5 + 2, none⟩ = false := World.ownsRow.frozenAt HW1.out _
          have f3 : w1.frozen? ⟨g, i * 5 + 3, none⟩ = false := World.ownsRow.frozenAt HW1.out _
          have f4 : w1.frozen? ⟨g, i * 5 + 4, none⟩ = false := World.ownsRow.frozenAt HW1.out _
          have b0 : w1.cell? ⟨wr.heap.size, 0, none⟩ = some (.int .i64 x.t) := (HB1.out.cell (p := ⟨wr.heap.size, 0, none⟩) (by simp)).trans (by simp)
          have b1 : w1.cell? ⟨wr.heap.size, 1, none⟩ = some (.int .i64 x.i) := (HB1.out.cell (p := ⟨wr.heap.size, 1, none⟩) (by simp)).trans (by simp)
          have b2 : w1.cell? ⟨wr.heap.size, 2, none⟩ = some (.string x.r.lo) := (HB1.out.cell (p := ⟨wr.heap.size, 2, none⟩) (by simp)).trans (by simp)
          have b3 : w1.cell? ⟨wr.heap.size, 3, none⟩ = some (.string x.r.hi) := (HB1.out.cell (p := ⟨wr.heap.size, 3, none⟩) (by simp)).trans (by simp)
          have b4 : w1.cell? ⟨wr.heap.size, 4, none⟩ = some (.bool x.r.op) := (HB1.out.cell (p := ⟨wr.heap.size, 4, none⟩) (by simp)).trans (by simp)
          have hne : g ≠ wr.heap.size := Nat.ne_of_lt HG.out.1
          clear hcell1 hold d0 c0 d1 c1 d2 c2 d3 c3 d4 c4
          have HGR := Hid.mk' hgr
          clear hgr
          go_wp2
          go_roundw
          case rel =>
            have hs := own_stores (g := g) (p := i * 5) HW1.out (eSp x)
            have hfs := flatMap_set eSp_len ys i x (by omega)
            have hsl := setL_eq (eSp x) (i * 5) (ys.flatMap eSp) (by rw [flatMap_len eSp_len, eSp_len]; omega)
            rw [eSp_len, ← hfs] at hsl
            rw [hsl] at hs
            refine ⟨i + 1, j + 1, ys.set i x, by go_num, by go_num, by omega, by omega, by simp [hyl], hs.1, ?_, ?_, ?_, ?_⟩
            · refine (HBX.out.trans (HB1.out.mono (by have := HG.out.2; omega))).trans ?_
              exact ⟨hs.2.os, hs.2.tape, hs.2.output, hs.2.size, fun q hq' => hs.2.block q (by have := HB1.out.size; have := HG.out.2; simp at *; omega) (fun e => by cases e; have := hgl.1; omega)⟩
            · have h1 := hs.2.size; have h2 := HB1.out.size; have h3 := HG.out
              exact ⟨Nat.lt_of_lt_of_le (by simp at h2; omega) h1, Nat.le_trans (by simp at h2; omega) h1⟩
            · show (ys.set i x).take (i + 1) = _
              exact filter_keep hlt HCX.out HQ.out (by omega) HT.out
            · show (ys.set i x).drop (j + 1) = _
              rw [List.drop_set_of_lt (by omega)]
              have := congrArg (fun l => l.drop 1) HD.out
              simpa [List.drop_drop] using this
          case measure => simp [intOf]; omega
        | true =>
          rw [hq] at HC
          have HQ : Hid (p x = true) := hq
          clear hq hold
          go_wp2_with fail
          refine HC.mono ?_
          rintro e w1 ⟨rfl, hb1⟩
          have HB1 := Hid.mk' hb1
          clear hb1 c0 c1 c2 c3 c4
          go_wp2
          go_roundw
          case rel =>
            have hgr : wr.grownBy w1 none := ⟨HB1.out.os, HB1.out.tape, HB1.out.output, Nat.le_trans (by simp) HB1.out.size, fun q hq' _ => (HB1.out.block q (by omega)).trans (Below.heap_alloc _ _ q hq')⟩
            refine ⟨i, j + 1, ys, rfl, by go_num, by omega, by omega, hyl, World.ownsRow.kept HW.out hgr (by simp [Value.ownBlock]), HBX.out.trans (HB1.out.mono (by have := HG.out.2; omega)), ?_, ?_, ?_⟩
            · have h2 := HB1.out.size; have h3 := HG.out
              simp at h2
              exact ⟨by omega, by omega⟩
            · show ys.take i = _
              exact filter_drop hlt HCX.out HQ.out HT.out
            · show ys.drop (j + 1) = xs.drop (j + 1)
              have := congrArg (fun l => l.drop 1) HD.out
              simpa [List.drop_drop] using this
          case measure => simp [intOf]; omega
      · have hltz : ¬ (j : Int) < (xs.length : Int) := by omega
        have hje : j = xs.length := by omega
        obtain ⟨w2, cs', hrun, hown2, htk, hgr2⟩ := own_clear (P := Tryz.prog) (k := 5) (t := 23) (e := 46) Tryz.underlying23 (Tryz.zeroValue46 wr) rfl (by intro v hv; simp [Value.cells] at hv; rcases hv with rfl | rfl | rfl | rfl | rfl <;> rfl) HW.out (i := i) (c := cap - i) (by omega) 0
        have HR := Hid.mk' hrun
        have hrun' := hrun
        clear hrun
        have HO2 := Hid.mk' (own_take hown2 (i := i) (by omega))
        have HTK : Hid (cs'.take (i * 5) = (xs.filter fun x => !p x).flatMap eSp) := by
          show cs'.take (i * 5) = _
          rw [htk, flatMap_take eSp_len, HT.out, hje, List.take_length]
        have HLN : Hid (i = (xs.filter fun x => !p x).length) := by
          have h1 := congrArg List.length HT.out
          rw [hje, List.take_length, List.length_take, hyl] at h1
          show i = _
          omega
        have HG2 := Hid.mk' hgr2
        have hicap : i < cap := by omega
        have HJE := Hid.mk' hje
        clear htk hgr2 hown2 hje
        go_wp2
        go_ret
        refine ⟨_, rfl, ?_, ?_⟩
        · have := HO2.out
          rw [HTK.out] at this
          show World.ownsRow _ _ _ _ _ _ _
          rw [← HLN.out]
          exact this
        · exact HB.out.trans ⟨HG2.out.os, HG2.out.tape, HG2.out.output, HG2.out.size, fun q hq' => HG2.out.block q (by have := HG.out.2; omega) (fun e => by cases e; have := hgl.1; omega)⟩
  · have e1 : idxR p xs = -1 := by unfold idxR; rw [if_neg hany]
    rw [e1] at HI
    have HO := Hid.mk' h
    have HF : Hid ((xs.filter fun x => !p x) = xs) := filter_all hany
    clear h e1 hany
    go_enter Tryz.func42, Tryz.ntmps42
    go_wp2_with (go_at_call 60; refine HI.mono ?_; rintro e w0 ⟨rfl, hb0⟩)
    go_ret
    refine ⟨_, rfl, ?_, hb0.mono hB⟩
    rw [HF.out]
    exact HO.out.below hb0

theorem info_Sp : (Tryz.prog.info? 46).map (fun i => (i.zero, i.size, i.bytes)) = some (some (.agg #[(.int .i64 0), (.int .i64 0), (.string ⟨#[]⟩), (.string ⟨#[]⟩), (.bool false)]), 5, 56) := by kernel_rfl

set_option maxHeartbeats 1000000 in
set_option maxRecDepth 100000 in
theorem clone_Sp (A : Option Addr) (c : Nat) (xs : List Sp) (w : World) (h : RowIn eSp 5 w A xs) (hby : xs.length * 56 ≤ 140737488355328) :
    Calls Tryz.prog 43 #[.slice A xs.length c] w fun e w' => ∃ v', e = .returned v' ∧ Own eSp 5 46 w.heap.size w' v' xs ∧ Below w.heap.size w w' := by
  have q : ∀ (w : World) (a : Option Addr) (n c n' c' : Nat), (binOp .eql 23 (.slice a n c) (.slice none n' c')).run Tryz.prog w = .ok (.bool a.isNone) w := fun w a n c n' c' => Lib.run_eql_slice_nil w _ _ a n c n' c' Tryz.underlying23
  have H := Hid.mk' h
  have hl := h.len
  clear h
  cases A with
  | none =>
    have he : xs = [] := by
      rcases H.out.2 with e | ⟨b, off, e, _⟩
      · exact e
      · cases e
    subst he
    go_enter Tryz.func43, Tryz.ntmps43
    go_wp2
    go_ret
    exact ⟨_, rfl, Own.nil _ _ _, Below.refl _ _⟩
  | some ad =>
    obtain ⟨i0, hi, hz0, hz1, hz2⟩ := info_parts info_Sp
    go_enter Tryz.func43, Tryz.ntmps43
    go_wp2_with (at_builtin; refine wpList_append_own _ rfl _ _ 23 rfl w.heap.size 46 i0 _ 5 56 Tryz.underlying23 hi hz0 hz1 hz2 rfl (by decide) _ _ _ rfl (World.ownsRow_made w #[] 0 (Nat.le_refl _) (Nat.zero_le _) (by simp)) ad xs.length c (xs.flatMap eSp) rfl ?qc1 ?qc2 ?qc3 ?qc4 ?qc5 ?qc6 ?_)
    case qc1 => exact flatMap_len eSp_len xs
    case qc2 => exact fun j u hj => cells_flat eSp_len (H.out.below (w' := w.alloc (.cells #[] 46)) ((Below.refl w.heap.size w).alloc (Nat.le_refl _) _) (Nat.le_refl _)) j u hj
    case qc3 => exact fun u hu => by obtain ⟨x, _, hx⟩ := List.mem_flatMap.1 hu; exact eSp_one x u hx
    case qc4 => rw [Nat.zero_add]; exact hl
    case qc5 => rw [Nat.zero_add]; exact hby
    case qc6 => simp
    intro v' w1 hown hgrow hnil
    have HO := Hid.mk' hown
    have HG := Hid.mk' hgrow
    clear hown hgrow hnil
    go_wp2
    go_ret
    refine ⟨v', rfl, ?_, ?_⟩
    · exact HO.out
    · exact ((Below.refl _ w).alloc (Nat.le_refl _) _).grown HG.out (by simp) (by intro k hk; simp [Value.ownBlock] at hk; omega)
end Go.Proofs.YtpbmcaidkjlokaaGreat
