/- The reference's sorted: in order, each once. -/
import Derived.Test.YtpbmcaidkjlokaaGreatCp
import Derived.Test.YtpbmcaidkjlokaaGreatS3
import Derived.Deep.RegionHeld3
import Derived.Sort.AtCall
import Derived.StillTailTactics
namespace Go.Proofs.YtpbmcaidkjlokaaGreat
open Go.RowKit

theorem RowIn.take {α : Type} {enc : α → List Value} {k : Nat} {w : World} {A : Option Addr} {xs : List α} (h : RowIn enc k w A xs) (m : Nat) : RowIn enc k w A (xs.take m) := by
  refine ⟨by have := h.1; simp; omega, ?_⟩
  rcases h.2 with e | ⟨b, off, e, hlt, hc⟩
  · left; simp [e]
  · right
    refine ⟨b, off, e, hlt, fun j x hx => hc j x ?_⟩
    rw [List.getElem?_take] at hx
    split at hx
    · exact hx
    · cases hx
theorem RowIn.drop {α : Type} {enc : α → List Value} {k : Nat} {w : World} {b off : Nat} {xs : List α} (h : RowIn enc k w (some ⟨b, off, none⟩) xs) (m : Nat) : RowIn enc k w (some ⟨b, off + m * k, none⟩) (xs.drop m) := by
  refine ⟨by have := h.1; simp; omega, ?_⟩
  rcases h.2 with e | ⟨b', off', e, hlt, hc⟩
  · left; simp [e]
  · right
    cases e
    refine ⟨b, off + m * k, rfl, hlt, fun j x hx i v hv => ?_⟩
    rw [List.getElem?_drop] at hx
    have := hc (m + j) x hx i v hv
    rw [Nat.add_mul] at this
    rw [Nat.add_assoc off]; exact this
theorem ssort_short {α : Type} (T : VP.TO α) {l : List α} (h : l.length < 2) : VP.ssort T l = l := by
  refine VP.ssort_of_ss T ?_
  match l, h with
  | [], _ => exact List.Pairwise.nil
  | [a], _ => exact List.pairwise_singleton _ _
theorem own_low {α : Type} {enc : α → List Value} {k : Nat} {e : TypeId} {base n c : Nat} {w : World} {a : Addr} {xs : List α} (h : Own enc k e base w (.slice (some a) n c) xs) : base ≤ a.block := by
  rcases h.2 with ⟨e, _⟩ | ⟨g, cap, cur, e, hb, _⟩
  · cases e
  · cases e; exact hb
def lenOf : Value → Nat
  | .slice _ n _ => n
  | _ => 0
/-- Two lists in order and what was told of them so far. -/
structure Mg (la lb out xs : List Pt) : Prop where
  ss : VP.SS toPt out
  sa : VP.SS toPt la
  sb : VP.SS toPt lb
  lo : ∀ x ∈ out, ∀ y, y ∈ la ∨ y ∈ lb → toPt.lt x y = true
  mem : ∀ x, (x ∈ out ∨ x ∈ la ∨ x ∈ lb) ↔ x ∈ xs
  len : out.length + la.length + lb.length ≤ xs.length
theorem Mg.start {la lb xs : List Pt} (sa : VP.SS toPt la) (sb : VP.SS toPt lb) (mem : ∀ x, (x ∈ la ∨ x ∈ lb) ↔ x ∈ xs) (len : la.length + lb.length ≤ xs.length) : Mg la lb [] xs :=
  ⟨List.Pairwise.nil, sa, sb, fun x hx => absurd hx (by simp), fun x => by rw [← mem x]; simp, by simpa using len⟩
theorem ss_snoc {out : List Pt} {a : Pt} (h : VP.SS toPt out) (ha : ∀ x ∈ out, toPt.lt x a = true) : VP.SS toPt (out ++ [a]) := by
  refine List.pairwise_append.2 ⟨h, List.pairwise_singleton _ _, fun x hx y hy => ?_⟩
  rw [List.mem_singleton] at hy; subst hy; exact ha x hx
theorem Mg.takeA {la lb out xs : List Pt} {a : Pt} (h : Mg (a :: la) lb out xs) (hb : ∀ y ∈ lb, toPt.lt a y = true) : Mg la lb (out ++ [a]) xs where
  ss := ss_snoc h.ss (fun x hx => h.lo x hx a (.inl (by simp)))
  sa := (List.pairwise_cons.1 h.sa).2
  sb := h.sb
  lo x hx y hy := by
    rcases List.mem_append.1 hx with hx | hx
    · exact h.lo x hx y (hy.imp (fun e => by simp [e]) id)
    · rw [List.mem_singleton] at hx; subst hx
      rcases hy with hy | hy
      · exact (List.pairwise_cons.1 h.sa).1 y hy
      · exact hb y hy
  mem x := by rw [← h.mem x]; simp [or_assoc]
  len := by have := h.len; simp at *; omega
theorem Mg.takeB {la lb out xs : List Pt} {b : Pt} (h : Mg la (b :: lb) out xs) (ha : ∀ y ∈ la, toPt.lt b y = true) : Mg la lb (out ++ [b]) xs where
  ss := ss_snoc h.ss (fun x hx => h.lo x hx b (.inr (by simp)))
  sa := h.sa
  sb := (List.pairwise_cons.1 h.sb).2
  lo x hx y hy := by
    rcases List.mem_append.1 hx with hx | hx
    · exact h.lo x hx y (hy.imp id (fun e => by simp [e]))
    · rw [List.mem_singleton] at hx; subst hx
      rcases hy with hy | hy
      · exact ha y hy
      · exact (List.pairwise_cons.1 h.sb).1 y hy
  mem x := by
    rw [← h.mem x]
    simp only [List.mem_append, List.mem_cons, List.not_mem_nil, or_false]
    constructor
    · rintro ((h | h) | h | h)
      · exact .inl h
      · exact .inr (.inr (.inl h))
      · exact .inr (.inl h)
      · exact .inr (.inr (.inr h))
    · rintro (h | h | h | h)
      · exact .inl (.inl h)
      · exact .inr (.inl h)
      · exact .inl (.inr h)
      · exact .inr (.inr h)
  len := by have := h.len; simp at *; omega
theorem Mg.skipA {la lb out xs : List Pt} {a : Pt} (h : Mg (a :: la) (a :: lb) out xs) : Mg la (a :: lb) out xs where
  ss := h.ss
  sa := (List.pairwise_cons.1 h.sa).2
  sb := h.sb
  lo x hx y hy := h.lo x hx y (hy.imp (fun e => by simp [e]) id)
  mem x := by
    rw [← h.mem x]
    simp only [List.mem_cons]
    constructor
    · rintro (h | h | h)
      · exact .inl h
      · exact .inr (.inl (.inr h))
      · exact .inr (.inr h)
    · rintro (h | (h | h) | h)
      · exact .inl h
      · exact .inr (.inr (.inl h))
      · exact .inr (.inl h)
      · exact .inr (.inr h)
  len := by have := h.len; simp at *; omega
theorem Mg.fin {out xs : List Pt} (h : Mg [] [] out xs) : out = VP.ssort toPt xs := VP.ss_eq_ssort toPt h.ss (fun x => by rw [← h.mem x]; simp)
theorem reslice1 {w : World} {b o n c : Nat} {x : Pt} {xs : List Pt} (h : RowIn ePt 3 w (some ⟨b, o, none⟩) (x :: xs)) (hn : n = xs.length) (hc : n + 1 ≤ c) :
    ∃ A', RowIn ePt 3 w A' xs ∧ ∀ W, (Instr.slice 22 (.slice (some ⟨b, o, none⟩) (n + 1) c) (some (.int .i64 1)) none none).run Tryz.prog W = .ok (.slice A' n (c - 1)) W := by
  have hd := h.drop 1
  simp only [List.drop_succ_cons, List.drop_zero, Nat.one_mul] at hd
  by_cases h1 : c = 1
  · subst h1
    have : xs = [] := List.length_eq_zero_iff.1 (by omega)
    subst this
    refine ⟨some ⟨b, o, none⟩, RowIn.nil _, fun W => ?_⟩
    subst hn
    go_simp
  · refine ⟨_, hd, fun W => ?_⟩
    clear hd h
    subst hn
    go_simp
    intro h; omega
set_option maxHeartbeats 4000000 in
set_option maxRecDepth 100000 in
theorem sorted_calls : ∀ (n : Nat) (xs : List Pt) (A : Option Addr) (c : Nat) (w : World), xs.length = n → RowIn ePt 3 w A xs → xs.length ≤ c → xs.length * 32 ≤ 140737488355328 →
    Calls Tryz.prog 55 #[.slice A xs.length c] w fun e w' => ∃ A' c', e = .returned (.slice A' (VP.ssort toPt xs).length c') ∧ (VP.ssort toPt xs).length ≤ c' ∧ RowIn ePt 3 w' A' (VP.ssort toPt xs) ∧ Below w.heap.size w w' ∧ (∀ a, A' = some a → A.map (·.block) = some a.block ∨ w.heap.size ≤ a.block) := by
  intro n
  induction n using Nat.strongRecOn with
  | _ n ih =>
  intro xs A c w hn h hc hby
  subst hn
  have H := Hid.mk' h
  clear h
  by_cases h2 : xs.length < 2
  · have h2z : (xs.length : Int) < 2 := by omega
    clear hby ih
    go_enter Tryz.func55, Tryz.ntmps55
    go_wp2_with fail
    go_ret
    have e := ssort_short toPt h2
    refine ⟨A, c, by rw [e]; rfl, by rw [e]; exact hc, by rw [e]; exact H.out, Below.refl _ _, fun a ea => .inl (by rw [ea]; rfl)⟩
  · have h2z : ¬ (xs.length : Int) < 2 := by omega
    obtain ⟨b, off, rfl, hbl, -⟩ := H.out.at_ (j := 0) (by omega)
    obtain ⟨m, hm⟩ : ∃ m, xs.length / 2 = m := ⟨_, rfl⟩
    have hq : IntKind.i64.wrap ((xs.length : Int) / 2) = (m : Int) := by rw [IntKind.wrap_i64]; omega
    have hmc : (m : Int) ≤ (c : Int) := by omega
    have hml : (m : Int) ≤ (xs.length : Int) := by omega
    have hm0 : 0 ≤ (m : Int) := by omega
    have hcm : ¬ c = m := by omega
    have hc0 : ¬ c = 0 := by omega
    have hm2 : 2 * m ≤ xs.length ∧ 1 ≤ m := by omega
    have I1 : ∀ W, Below w.heap.size w W → Calls Tryz.prog 55 #[.slice (some ⟨b, off, none⟩) m c] W fun e w' => ∃ A' c', e = .returned (.slice A' (VP.ssort toPt (xs.take m)).length c') ∧ (VP.ssort toPt (xs.take m)).length ≤ c' ∧ RowIn ePt 3 w' A' (VP.ssort toPt (xs.take m)) ∧ Below W.heap.size W w' := fun W hb => by
      have := ih (xs.take m).length (by simp; omega) (xs.take m) (some ⟨b, off, none⟩) c W rfl ((H.out.below hb (Nat.le_refl _)).take m) (by simp; omega) (by simp; omega)
      rw [List.length_take_of_le (by omega)] at this
      exact this.mono (fun e w' ⟨A', c', h1, h2, h3, h4, _⟩ => ⟨A', c', h1, h2, h3, h4⟩)
    have I2 : ∀ W, Below w.heap.size w W → Calls Tryz.prog 55 #[.slice (some ⟨b, off + m * 3, none⟩) (xs.length - m) (c - m)] W fun e w' => ∃ A' c', e = .returned (.slice A' (VP.ssort toPt (xs.drop m)).length c') ∧ (VP.ssort toPt (xs.drop m)).length ≤ c' ∧ RowIn ePt 3 w' A' (VP.ssort toPt (xs.drop m)) ∧ Below W.heap.size W w' := fun W hb => by
      have := ih (xs.drop m).length (by simp; omega) (xs.drop m) (some ⟨b, off + m * 3, none⟩) (c - m) W rfl ((H.out.below hb (Nat.le_refl _)).drop m) (by simp; omega) (by simp; omega)
      rw [List.length_drop] at this
      exact this.mono (fun e w' ⟨A', c', h1, h2, h3, h4, _⟩ => ⟨A', c', h1, h2, h3, h4⟩)
    have HM := Hid.mk' hm
    clear hm hm2 ih
    go_enter Tryz.func55, Tryz.ntmps55
    go_wp2_with fail
    go_region_held3 (fun w' => Below w.heap.size w w') (first | assumption | exact ⟨rfl, rfl, rfl, Nat.le_refl _, fun _ _ => rfl⟩)
      (first
        | (go_at_call_has 55 (c - m)
           refine (I2 _ (by assumption)).mono ?_
           rintro e w2 ⟨A2, k2, rfl, hk2, hr2, hb2⟩
           have HB2 : Below w.heap.size w w2 := (by assumption : Below w.heap.size w _).trans (hb2.mono (by assumption : Below w.heap.size w _).size))
        | (go_at_call 55
           refine (I1 _ (by assumption)).mono ?_
           rintro e w1 ⟨A1, k1, rfl, hk1, hr1, hb1⟩
           have HB1 : Below w.heap.size w w1 := (by assumption : Below w.heap.size w _).trans (hb1.mono (by assumption : Below w.heap.size w _).size)))
    have HL1 : Hid (RowIn ePt 3 w2 A1 (VP.ssort toPt (xs.take m))) := hr1.below hb2 (Nat.le_refl _)
    have HL2 := Hid.mk' hr2
    have HBZ := Hid.mk' HB2
    have HMG : Hid (Mg (VP.ssort toPt (xs.take m)) (VP.ssort toPt (xs.drop m)) [] xs) := Hid.mk' (Mg.start (VP.ss_ssort toPt _) (VP.ss_ssort toPt _) (fun x => by rw [VP.mem_ssort, VP.mem_ssort, ← List.mem_append, List.take_append_drop]) (by
      have h1 := VP.length_ssort_le toPt (xs.take m)
      have h2 := VP.length_ssort_le toPt (xs.drop m)
      simp at h1 h2; omega))
    clear hr1 hr2 hb1 hb2 HB1 HB2 I1 I2
    generalize VP.ssort toPt (xs.take m) = la0 at *
    generalize VP.ssort toPt (xs.drop m) = lb0 at *
    obtain ⟨i0, hi, z0, z1, z2⟩ := info_parts info_Pt
    go_wp2_with fail
    go_loopw [3, 4, 5] (fun s3 s4 s5 wr => ∃ (la lb out : List Pt) (Aa Ab : Option Addr) (ca cb : Nat), s3 = .slice Aa la.length ca ∧ s4 = .slice Ab lb.length cb ∧ la.length ≤ ca ∧ lb.length ≤ cb ∧ Hid (RowIn ePt 3 w2 Aa la) ∧ Hid (RowIn ePt 3 w2 Ab lb) ∧ Hid (Own ePt 3 37 w2.heap.size wr s5 out) ∧ Hid (Mg la lb out xs) ∧ Hid (Below w2.heap.size w2 wr)) (fun s3 s4 _ _ => lenOf s3 + lenOf s4)
    case atStart =>
      refine ⟨la0, lb0, [], A1, A2, k1, k2, rfl, rfl, hk1, hk2, HL1, HL2, ?_, HMG, Hid.mk' ((Below.refl _ w2).alloc (Nat.le_refl _) _)⟩
      exact Hid.mk' (World.ownsRow_made w2 #[] 0 (Nat.le_refl _) (Nat.zero_le _) (by simp))
    case round =>
      obtain ⟨la, lb, out, Aa, Ab, ca, cb, rfl, rfl, hca, hcb, HA, HBR, HO, HM2, HB⟩ := hrel
      have hln := HM2.out.len
      have hsz := HB.out.size
      obtain ⟨Ao, co, rfl, hco⟩ := HO.out.shape
      have hown := HO.out
      cases la with
      | nil =>
        cases lb with
        | nil =>
          have HF := Hid.mk' HM2.out.fin
          clear HA HBR HM2 hln hown
          go_wp2_with fail
          go_ret
          have hr := (HO.out.row ePt_len).2
          refine ⟨Ao, co, by rw [← HF.out]; rfl, by rw [← HF.out]; exact hco, by rw [← HF.out]; exact hr, HBZ.out.trans (HB.out.mono HBZ.out.size), fun a ea => .inr ?_⟩
          subst ea
          have := own_low HO.out
          have := HBZ.out.size
          omega
        | cons y lb =>
          simp only [List.length_cons, List.length_nil] at hln hcb hca ⊢
          obtain ⟨bb, ob, rfl, hlbb, hcbb⟩ := HBR.out.at_ (j := 0) (by simp)
          simp only [List.getElem_cons_zero] at hcbb
          have y0 : wr.cell? ⟨bb, ob, none⟩ = some (.int .i64 y.t) := (HB.out.cell (p := ⟨bb, _, none⟩) hlbb).trans (by simpa using hcbb 0 _ rfl)
          have y1 : wr.cell? ⟨bb, ob + 1, none⟩ = some (.int .i64 y.i) := (HB.out.cell (p := ⟨bb, _, none⟩) hlbb).trans (by simpa using hcbb 1 _ rfl)
          have y2 : wr.cell? ⟨bb, ob + 2, none⟩ = some (.string y.key) := (HB.out.cell (p := ⟨bb, _, none⟩) hlbb).trans (by simpa using hcbb 2 _ rfl)
          have HXy : Hid (∀ W, Below w2.heap.size w2 W → W.cell? ⟨bb, ob, none⟩ = some (.int .i64 y.t) ∧ W.cell? ⟨bb, ob + 1, none⟩ = some (.int .i64 y.i) ∧ W.cell? ⟨bb, ob + 2, none⟩ = some (.string y.key)) := fun W hb => ⟨(hb.cell (p := ⟨bb, _, none⟩) hlbb).trans (by simpa using hcbb 0 _ rfl), (hb.cell (p := ⟨bb, _, none⟩) hlbb).trans (by simpa using hcbb 1 _ rfl), (hb.cell (p := ⟨bb, _, none⟩) hlbb).trans (by simpa using hcbb 2 _ rfl)⟩
          obtain ⟨Ry, hRy, hSy⟩ := reslice1 HBR.out rfl (show lb.length + 1 ≤ cb from by simpa using hcb)
          have HRy := Hid.mk' hRy
          have hpy : (0 : Int) < (lb.length : Int) + 1 := by omega
          have hzy : ((lb.length : Int) + 1 == 0) = false := beq_eq_false_iff_ne.2 (by omega)
          clear hcbb hRy
          go_wp2_with fail
          go_quiet (fail)
          go_wp2_with fail
          go_quiet (fail)
          go_wp2_with (at_builtin; go_loud (refine wpList_append_own _ rfl _ _ 22 rfl w2.heap.size 37 i0 _ 3 32 Tryz.underlying22 hi z0 z1 z2 rfl (by decide) _ _ _ rfl (World.ownsRow.alloc hown _) ⟨wr.heap.size, 0, none⟩ 1 1 (ePt y) rfl rfl (new_cells rfl rfl) (ePt_one _) (by unfold maxLen; omega) (by omega) (by simp; omega) ?_))
          intro v' w4 hown4 hgr4 _
          have HOW : Hid (Own ePt 3 37 w2.heap.size w4 v' (out ++ [y])) := own_snoc hown4
          have HB4 : Hid (Below w2.heap.size w2 w4) := ((below_drewN' HB.out _).alloc (by first | omega | (simp; omega)) _).grown hgr4 (by first | omega | (simp; omega)) (fun k e => (World.ownsRow.lt hown k e).1)
          clear hown4 hgr4
          go_wp2_with fail
          go_roundw
          case rel => exact ⟨[], lb, out ++ [y], Aa, Ry, ca, cb - 1, rfl, rfl, by first | omega | (simp; omega) | simp, by first | omega | (simp; omega) | simp, RowIn.nil _, HRy, HOW, HM2.out.takeB (by simp), HB4⟩
          case measure => simp [lenOf] <;> omega
      | cons x la =>
        cases lb with
        | nil =>
          simp only [List.length_cons, List.length_nil] at hln hcb hca ⊢
          obtain ⟨ba, oa, rfl, hlba, hcba⟩ := HA.out.at_ (j := 0) (by simp)
          simp only [List.getElem_cons_zero] at hcba
          have x0 : wr.cell? ⟨ba, oa, none⟩ = some (.int .i64 x.t) := (HB.out.cell (p := ⟨ba, _, none⟩) hlba).trans (by simpa using hcba 0 _ rfl)
          have x1 : wr.cell? ⟨ba, oa + 1, none⟩ = some (.int .i64 x.i) := (HB.out.cell (p := ⟨ba, _, none⟩) hlba).trans (by simpa using hcba 1 _ rfl)
          have x2 : wr.cell? ⟨ba, oa + 2, none⟩ = some (.string x.key) := (HB.out.cell (p := ⟨ba, _, none⟩) hlba).trans (by simpa using hcba 2 _ rfl)
          have HXx : Hid (∀ W, Below w2.heap.size w2 W → W.cell? ⟨ba, oa, none⟩ = some (.int .i64 x.t) ∧ W.cell? ⟨ba, oa + 1, none⟩ = some (.int .i64 x.i) ∧ W.cell? ⟨ba, oa + 2, none⟩ = some (.string x.key)) := fun W hb => ⟨(hb.cell (p := ⟨ba, _, none⟩) hlba).trans (by simpa using hcba 0 _ rfl), (hb.cell (p := ⟨ba, _, none⟩) hlba).trans (by simpa using hcba 1 _ rfl), (hb.cell (p := ⟨ba, _, none⟩) hlba).trans (by simpa using hcba 2 _ rfl)⟩
          obtain ⟨Rx, hRx, hSx⟩ := reslice1 HA.out rfl (show la.length + 1 ≤ ca from by simpa using hca)
          have HRx := Hid.mk' hRx
          have hpx : (0 : Int) < (la.length : Int) + 1 := by omega
          have hzx : ((la.length : Int) + 1 == 0) = false := beq_eq_false_iff_ne.2 (by omega)
          clear hcba hRx
          go_wp2_with fail
          go_quiet (fail)
          go_wp2_with (at_builtin; go_loud (refine wpList_append_own _ rfl _ _ 22 rfl w2.heap.size 37 i0 _ 3 32 Tryz.underlying22 hi z0 z1 z2 rfl (by decide) _ _ _ rfl (World.ownsRow.alloc hown _) ⟨wr.heap.size, 0, none⟩ 1 1 (ePt x) rfl rfl (new_cells rfl rfl) (ePt_one _) (by unfold maxLen; omega) (by omega) (by simp; omega) ?_))
          intro v' w4 hown4 hgr4 _
          have HOW : Hid (Own ePt 3 37 w2.heap.size w4 v' (out ++ [x])) := own_snoc hown4
          have HB4 : Hid (Below w2.heap.size w2 w4) := ((below_drewN' HB.out _).alloc (by first | omega | (simp; omega)) _).grown hgr4 (by first | omega | (simp; omega)) (fun k e => (World.ownsRow.lt hown k e).1)
          clear hown4 hgr4
          go_wp2_with fail
          go_roundw
          case rel => exact ⟨la, [], out ++ [x], Rx, Ab, ca - 1, cb, rfl, rfl, by first | omega | (simp; omega) | simp, by first | omega | (simp; omega) | simp, HRx, RowIn.nil _, HOW, HM2.out.takeA (by simp), HB4⟩
          case measure => simp [lenOf] <;> omega
        | cons y lb =>
          simp only [List.length_cons] at hln hcb hca ⊢
          obtain ⟨ba, oa, rfl, hlba, hcba⟩ := HA.out.at_ (j := 0) (by simp)
          simp only [List.getElem_cons_zero] at hcba
          have x0 : wr.cell? ⟨ba, oa, none⟩ = some (.int .i64 x.t) := (HB.out.cell (p := ⟨ba, _, none⟩) hlba).trans (by simpa using hcba 0 _ rfl)
          have x1 : wr.cell? ⟨ba, oa + 1, none⟩ = some (.int .i64 x.i) := (HB.out.cell (p := ⟨ba, _, none⟩) hlba).trans (by simpa using hcba 1 _ rfl)
          have x2 : wr.cell? ⟨ba, oa + 2, none⟩ = some (.string x.key) := (HB.out.cell (p := ⟨ba, _, none⟩) hlba).trans (by simpa using hcba 2 _ rfl)
          have HXx : Hid (∀ W, Below w2.heap.size w2 W → W.cell? ⟨ba, oa, none⟩ = some (.int .i64 x.t) ∧ W.cell? ⟨ba, oa + 1, none⟩ = some (.int .i64 x.i) ∧ W.cell? ⟨ba, oa + 2, none⟩ = some (.string x.key)) := fun W hb => ⟨(hb.cell (p := ⟨ba, _, none⟩) hlba).trans (by simpa using hcba 0 _ rfl), (hb.cell (p := ⟨ba, _, none⟩) hlba).trans (by simpa using hcba 1 _ rfl), (hb.cell (p := ⟨ba, _, none⟩) hlba).trans (by simpa using hcba 2 _ rfl)⟩
          obtain ⟨Rx, hRx, hSx⟩ := reslice1 HA.out rfl (show la.length + 1 ≤ ca from by simpa using hca)
          have HRx := Hid.mk' hRx
          have hpx : (0 : Int) < (la.length : Int) + 1 := by omega
          have hzx : ((la.length : Int) + 1 == 0) = false := beq_eq_false_iff_ne.2 (by omega)
          clear hcba hRx
          obtain ⟨bb, ob, rfl, hlbb, hcbb⟩ := HBR.out.at_ (j := 0) (by simp)
          simp only [List.getElem_cons_zero] at hcbb
          have y0 : wr.cell? ⟨bb, ob, none⟩ = some (.int .i64 y.t) := (HB.out.cell (p := ⟨bb, _, none⟩) hlbb).trans (by simpa using hcbb 0 _ rfl)
          have y1 : wr.cell? ⟨bb, ob + 1, none⟩ = some (.int .i64 y.i) := (HB.out.cell (p := ⟨bb, _, none⟩) hlbb).trans (by simpa using hcbb 1 _ rfl)
          have y2 : wr.cell? ⟨bb, ob + 2, none⟩ = some (.string y.key) := (HB.out.cell (p := ⟨bb, _, none⟩) hlbb).trans (by simpa using hcbb 2 _ rfl)
          have HXy : Hid (∀ W, Below w2.heap.size w2 W → W.cell? ⟨bb, ob, none⟩ = some (.int .i64 y.t) ∧ W.cell? ⟨bb, ob + 1, none⟩ = some (.int .i64 y.i) ∧ W.cell? ⟨bb, ob + 2, none⟩ = some (.string y.key)) := fun W hb => ⟨(hb.cell (p := ⟨bb, _, none⟩) hlbb).trans (by simpa using hcbb 0 _ rfl), (hb.cell (p := ⟨bb, _, none⟩) hlbb).trans (by simpa using hcbb 1 _ rfl), (hb.cell (p := ⟨bb, _, none⟩) hlbb).trans (by simpa using hcbb 2 _ rfl)⟩
          obtain ⟨Ry, hRy, hSy⟩ := reslice1 HBR.out rfl (show lb.length + 1 ≤ cb from by simpa using hcb)
          have HRy := Hid.mk' hRy
          have hpy : (0 : Int) < (lb.length : Int) + 1 := by omega
          have hzy : ((lb.length : Int) + 1 == 0) = false := beq_eq_false_iff_ne.2 (by omega)
          clear hcbb hRy
          have hxx := (List.pairwise_cons.1 HM2.out.sa).1
          have hyy := (List.pairwise_cons.1 HM2.out.sb).1
          have HXX := Hid.mk' hxx
          have HYY := Hid.mk' hyy
          clear hxx hyy
          have HC := fun W => rcmp_calls x y W
          obtain ⟨cp, HCP⟩ : ∃ cp, Hid (cmpPt x y = cp) := ⟨_, rfl⟩
          rw [HCP.out] at HC
          rcases cmpPt_cases x y with ⟨hlt, e⟩ | ⟨heq, e⟩ | ⟨hlt, e⟩
          · obtain rfl : cp = -1 := HCP.out.symm.trans e
            have HLT := Hid.mk' hlt
            clear hlt e
            go_wp2_with fail
            go_still_tail 14, (by kernel_rfl)
            change wpList _ _ _ _ _ wr.drew
            go_wp2_with (first | (go_at_call 78; refine (HC _).mono ?_; rintro e w5 ⟨rfl, hb5⟩; have hb5' : Below wr.heap.size wr w5 := ⟨hb5.os, hb5.tape, hb5.output, hb5.size, hb5.block⟩; have HBK5 := Hid.mk' (HB.out.trans (hb5'.mono HB.out.size)); have hown5 := Own.below hown hb5'; have hsz5 := HBK5.out.size; obtain ⟨p50, p51, p52⟩ := HXx.out w5 HBK5.out; obtain ⟨q50, q51, q52⟩ := HXy.out w5 HBK5.out; clear hb5 hb5' x0 x1 x2 y0 y1 y2 hown) | (at_builtin; go_loud (refine wpList_append_own _ rfl _ _ 22 rfl w2.heap.size 37 i0 _ 3 32 Tryz.underlying22 hi z0 z1 z2 rfl (by decide) _ _ _ rfl (World.ownsRow.alloc hown5 _) ⟨w5.heap.size, 0, none⟩ 1 1 (ePt x) rfl rfl (new_cells rfl rfl) (ePt_one _) (by unfold maxLen; omega) (by omega) (by simp; omega) ?_)))
            intro v' w4 hown4 hgr4 _
            have HOW : Hid (Own ePt 3 37 w2.heap.size w4 v' (out ++ [x])) := own_snoc hown4
            have HB4 : Hid (Below w2.heap.size w2 w4) := (HBK5.out.alloc (by first | omega | (simp; omega)) _).grown hgr4 (by first | omega | (simp; omega)) (fun k e => (World.ownsRow.lt hown5 k e).1)
            clear hown4 hgr4
            go_wp2_with fail
            go_roundw
            case rel => exact ⟨la, y :: lb, out ++ [x], Rx, (some ⟨bb, ob, none⟩), ca - 1, cb, rfl, rfl, by first | omega | (simp; omega) | simp, by first | omega | (simp; omega) | simp, HRx, HBR, HOW, (HM2.out.takeA (fun z hz => by rcases List.mem_cons.1 hz with e | e; (· rw [e]; exact HLT.out); (· exact toPt.tr HLT.out (HYY.out z e)))), HB4⟩
            case measure => simp [lenOf] <;> omega
          · obtain rfl : cp = 0 := HCP.out.symm.trans e
            have HEQ := Hid.mk' heq
            clear heq e
            go_wp2_with fail
            go_still_tail 14, (by kernel_rfl)
            change wpList _ _ _ _ _ wr.drew
            go_wp2_with (first | (go_at_call 78; refine (HC _).mono ?_; rintro e w5 ⟨rfl, hb5⟩; have hb5' : Below wr.heap.size wr w5 := ⟨hb5.os, hb5.tape, hb5.output, hb5.size, hb5.block⟩; have HBK5 := Hid.mk' (HB.out.trans (hb5'.mono HB.out.size)); have hown5 := Own.below hown hb5'; have hsz5 := HBK5.out.size; obtain ⟨p50, p51, p52⟩ := HXx.out w5 HBK5.out; obtain ⟨q50, q51, q52⟩ := HXy.out w5 HBK5.out; clear hb5 hb5' x0 x1 x2 y0 y1 y2 hown))
            go_wp2_with fail
            go_still_tail 10, (by kernel_rfl)
            change wpList _ _ _ _ _ w5.drew
            go_wp2_with (first | (go_at_call 78; refine (HC _).mono ?_; rintro e w6 ⟨rfl, hb6⟩; have hb6' : Below w5.heap.size w5 w6 := ⟨hb6.os, hb6.tape, hb6.output, hb6.size, hb6.block⟩; have HBK6 := Hid.mk' (HBK5.out.trans (hb6'.mono HBK5.out.size)); have hown6 := Own.below hown5 hb6'; have hsz6 := HBK6.out.size; obtain ⟨p60, p61, p62⟩ := HXx.out w6 HBK6.out; obtain ⟨q60, q61, q62⟩ := HXy.out w6 HBK6.out; clear hb6 hb6' p50 p51 p52 q50 q51 q52 hown5) | (at_builtin; go_loud (refine wpList_append_own _ rfl _ _ 22 rfl w2.heap.size 37 i0 _ 3 32 Tryz.underlying22 hi z0 z1 z2 rfl (by decide) _ _ _ rfl (World.ownsRow.alloc hown6 _) ⟨w6.heap.size, 0, none⟩ 1 1 (ePt y) rfl rfl (new_cells rfl rfl) (ePt_one _) (by unfold maxLen; omega) (by omega) (by simp; omega) ?_)))
            intro v' w4 hown4 hgr4 _
            have HOW : Hid (Own ePt 3 37 w2.heap.size w4 v' (out ++ [y])) := own_snoc hown4
            have HB4 : Hid (Below w2.heap.size w2 w4) := (HBK6.out.alloc (by first | omega | (simp; omega)) _).grown hgr4 (by first | omega | (simp; omega)) (fun k e => (World.ownsRow.lt hown6 k e).1)
            clear hown4 hgr4
            go_wp2_with fail
            go_roundw
            case rel => exact ⟨la, lb, out ++ [y], Rx, Ry, ca - 1, cb - 1, rfl, rfl, by first | omega | (simp; omega) | simp, by first | omega | (simp; omega) | simp, HRx, HRy, HOW, (by have hh := HM2.out; rw [HEQ.out] at hh; exact hh.skipA.takeB (fun z hz => by have := HXX.out z hz; rwa [HEQ.out] at this)), HB4⟩
            case measure => simp [lenOf] <;> omega
          · obtain rfl : cp = 1 := HCP.out.symm.trans e
            have HLT := Hid.mk' hlt
            clear hlt e
            go_wp2_with fail
            go_still_tail 14, (by kernel_rfl)
            change wpList _ _ _ _ _ wr.drew
            go_wp2_with (first | (go_at_call 78; refine (HC _).mono ?_; rintro e w5 ⟨rfl, hb5⟩; have hb5' : Below wr.heap.size wr w5 := ⟨hb5.os, hb5.tape, hb5.output, hb5.size, hb5.block⟩; have HBK5 := Hid.mk' (HB.out.trans (hb5'.mono HB.out.size)); have hown5 := Own.below hown hb5'; have hsz5 := HBK5.out.size; obtain ⟨p50, p51, p52⟩ := HXx.out w5 HBK5.out; obtain ⟨q50, q51, q52⟩ := HXy.out w5 HBK5.out; clear hb5 hb5' x0 x1 x2 y0 y1 y2 hown))
            go_wp2_with fail
            go_still_tail 10, (by kernel_rfl)
            change wpList _ _ _ _ _ w5.drew
            go_wp2_with (first | (go_at_call 78; refine (HC _).mono ?_; rintro e w6 ⟨rfl, hb6⟩; have hb6' : Below w5.heap.size w5 w6 := ⟨hb6.os, hb6.tape, hb6.output, hb6.size, hb6.block⟩; have HBK6 := Hid.mk' (HBK5.out.trans (hb6'.mono HBK5.out.size)); have hown6 := Own.below hown5 hb6'; have hsz6 := HBK6.out.size; obtain ⟨p60, p61, p62⟩ := HXx.out w6 HBK6.out; obtain ⟨q60, q61, q62⟩ := HXy.out w6 HBK6.out; clear hb6 hb6' p50 p51 p52 q50 q51 q52 hown5) | (at_builtin; go_loud (refine wpList_append_own _ rfl _ _ 22 rfl w2.heap.size 37 i0 _ 3 32 Tryz.underlying22 hi z0 z1 z2 rfl (by decide) _ _ _ rfl (World.ownsRow.alloc hown6 _) ⟨w6.heap.size, 0, none⟩ 1 1 (ePt y) rfl rfl (new_cells rfl rfl) (ePt_one _) (by unfold maxLen; omega) (by omega) (by simp; omega) ?_)))
            intro v' w4 hown4 hgr4 _
            have HOW : Hid (Own ePt 3 37 w2.heap.size w4 v' (out ++ [y])) := own_snoc hown4
            have HB4 : Hid (Below w2.heap.size w2 w4) := (HBK6.out.alloc (by first | omega | (simp; omega)) _).grown hgr4 (by first | omega | (simp; omega)) (fun k e => (World.ownsRow.lt hown6 k e).1)
            clear hown4 hgr4
            go_wp2_with fail
            go_roundw
            case rel => exact ⟨x :: la, lb, out ++ [y], (some ⟨ba, oa, none⟩), Ry, ca, cb - 1, rfl, rfl, by first | omega | (simp; omega) | simp, by first | omega | (simp; omega) | simp, HA, HRy, HOW, (HM2.out.takeB (fun z hz => by rcases List.mem_cons.1 hz with e | e; (· rw [e]; exact HLT.out); (· exact toPt.tr HLT.out (HXX.out z e)))), HB4⟩
            case measure => simp [lenOf] <;> omega
end Go.Proofs.YtpbmcaidkjlokaaGreat
