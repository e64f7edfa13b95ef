/- sets.norm walked. -/
import Derived.Test.YtpbmcaidkjlokaaGreatNo
import Derived.Deep.DeepCutAuto
namespace Go.Proofs.YtpbmcaidkjlokaaGreat
open Go.RowKit Go.Maps Go.Sort

/-- Its numbers and texts are such, and it is no longer than a foot may be. -/
structure FootWf (f : Foot) : Prop where
  pts : ∀ p ∈ f.1, wfPt p
  sps : ∀ s ∈ f.2.1, wfSp s
  wrs : ∀ p ∈ f.2.2, wfPt p
  len : f.1.length + f.2.1.length + f.2.2.length ≤ 65536
def rangesOf (l : List Sp) (q : Pl) : List Rn := VP.rangesAt splS rgS l q
theorem rangesOf_snoc (l : List Sp) (s : Sp) : (fun q => rangesOf (l ++ [s]) q) = updG (rangesOf l) (splS s) (rangesOf l (splS s) ++ [s.r]) := by
  funext q
  unfold rangesOf VP.rangesAt updG
  rw [List.filter_append, List.map_append]
  by_cases h : q = splS s
  · subst h; simp [rgS]
  · have : ¬ splS s = q := fun e => h e.symm
    simp [h, this]
theorem rangesOf_len (l : List Sp) (q : Pl) : (rangesOf l q).length ≤ l.length := by
  unfold rangesOf VP.rangesAt
  rw [List.length_map]
  exact List.length_filter_le _ _
/-- What stays while the foot is made. -/
structure Keep (w wr : World) (foot : Value) (vp : Value) (ps : List Pl) : Prop where
  below : Below w.heap.size w wr
  size : w.heap.size + 2 < wr.heap.size
  arg : wr.heap[w.heap.size]? = some (.cells foot.cells 25 (0, 0))
  zero : wr.heap[w.heap.size + 1]? = some (.cells #[.slice none 0 0, .slice none 0 0, .slice none 0 0] 25 (0, 0))
  ps : Own ePl 2 69 w.heap.size wr vp ps
/-- Blocks that may be written meanwhile. -/
def Free (w wr : World) (row : Option Nat) : Prop := ∀ r, row = some r → w.heap.size + 2 ≤ r ∧ ∃ o, wr.heap[r]? = some o ∧ ∀ cur, o ≠ .cells cur 69 (0, 0)
theorem Free.none {w wr : World} : Free w wr none := fun r e => by cases e
theorem Keep.kept {w wr w' : World} {foot vp : Value} {ps : List Pl} (h : Keep w wr foot vp ps) {row : Option Nat} (hg : wr.grownBy w' row) (hr : Free w wr row) : Keep w w' foot vp ps where
  below := h.below.grown hg (by have := h.size; omega) (fun k e => by have := (hr k e).1; omega)
  size := Nat.lt_of_lt_of_le h.size hg.size
  arg := (hg.block _ (by have := h.size; omega) (fun e => by have := (hr _ e.symm).1; omega)).trans h.arg
  zero := (hg.block _ (by have := h.size; omega) (fun e => by have := (hr _ e.symm).1; omega)).trans h.zero
  ps := h.ps.kept hg (by
    cases row with
    | none => cases vp.ownBlock <;> simp
    | some r =>
      obtain ⟨_, o, ho, hno⟩ := hr r rfl
      exact ownsRow_ne_a h.ps ho hno)
theorem Keep.alloc {w wr : World} {foot vp : Value} {ps : List Pl} (h : Keep w wr foot vp ps) (o : Obj) : Keep w (wr.alloc o) foot vp ps := h.kept (World.grownBy_alloc wr o none) Free.none
theorem any_union (l : List Sp) (p : Pt) : (unionP (rangesOf l (plP p))).any (fun r => hasB r p.key) = VP.spannedB VP.TO.bytes plP Pt.key splS rgS l p := by
  rw [Bool.eq_iff_iff, VP.spannedB_iff]
  rw [← VP.mem_rangesAt]
  refine Iff.trans ?_ ((unionP_is (rangesOf l (plP p))).2 p.key)
  rw [List.any_eq_true]
  rfl
def halfG (l : List Sp) (ps : List Pl) (j : Nat) : Pl → List Rn := fun q => if q ∈ ps.take j then unionP (rangesOf l q) else rangesOf l q
def outS (l : List Sp) (ps : List Pl) (j : Nat) : List Sp := (ps.take j).flatMap fun q => (unionP (rangesOf l q)).map (mkS q)
theorem outS_succ {l : List Sp} {ps : List Pl} {j : Nat} {q : Pl} (h : ps[j]? = some q) : outS l ps (j + 1) = outS l ps j ++ (unionP (rangesOf l q)).map (mkS q) := by
  have hj : j < ps.length := (List.getElem?_eq_some_iff.1 h).1
  have e : ps[j] = q := (List.getElem?_eq_some_iff.1 h).2
  unfold outS
  rw [List.take_succ_eq_append_getElem hj, List.flatMap_append, e]; simp
theorem outS_len (l : List Sp) (ps : List Pl) : ∀ j, j ≤ ps.length → (outS l ps j).length ≤ j * l.length
  | 0, _ => by simp [outS]
  | j + 1, h => by
    rw [outS_succ (List.getElem?_eq_getElem (by omega)), List.length_append, List.length_map, Nat.add_mul]
    have h1 := outS_len l ps j (by omega)
    have h2 := unionP_len (rangesOf l ps[j])
    have h3 := rangesOf_len l ps[j]
    omega
theorem halfG_succ {l : List Sp} {ps : List Pl} {j : Nat} {q : Pl} (h : ps[j]? = some q) : halfG l ps (j + 1) = updG (halfG l ps j) q (unionP (rangesOf l q)) := by
  have hj : j < ps.length := (List.getElem?_eq_some_iff.1 h).1
  have e : ps[j] = q := (List.getElem?_eq_some_iff.1 h).2
  funext q'
  unfold halfG updG
  rw [List.take_succ_eq_append_getElem hj, e]
  by_cases hq : q' = q
  · subst hq; simp
  · simp [hq]
theorem not_mem_take {α : Type} {l : List α} (hn : l.Nodup) {j : Nat} {x : α} (h : l[j]? = some x) : x ∉ l.take j := by
  intro hm
  obtain ⟨i, hi, e⟩ := List.mem_iff_getElem.1 hm
  rw [List.getElem_take] at e
  have hj : j < l.length := (List.getElem?_eq_some_iff.1 h).1
  have e2 : l[j] = x := (List.getElem?_eq_some_iff.1 h).2
  have hi' : i < j := by simp at hi; omega
  have := (List.nodup_iff_pairwise_ne.1 hn)
  rw [List.pairwise_iff_getElem] at this
  exact this i j (by omega) hj hi' (e.trans e2.symm)
set_option maxHeartbeats 4000000 in
set_option maxRecDepth 100000 in
theorem norm_calls (A1 A2 A3 : Option Addr) (c1 c2 c3 : Nat) (f : Foot) (w : World) (h : FootIn w A1 A2 A3 f) (hwf : FootWf f) :
    Calls Tryz.prog 20 #[FootV A1 A2 A3 c1 c2 c3 f] w fun e w' => ∃ v, e = .returned v ∧ FootOwn w.heap.size w' v (normF f) ∧ Below w.heap.size w w' := by
  have hmm := @run_makeMap Tryz.prog
  obtain ⟨i0, hi, hz0, hz1, hz2⟩ := info_parts info_Rn
  have HWF := Hid.mk' hwf
  have HF := Hid.mk' h
  have hl2 : f.2.1.length ≤ 65536 := by have := hwf.len; omega
  have hl1 : f.1.length ≤ 65536 := by have := hwf.len; omega
  have hl3 : f.2.2.length ≤ 65536 := by have := hwf.len; omega
  clear h hwf
  unfold FootV
  go_enter Tryz.func20, Tryz.ntmps20
  go_wp2_with fail
  go_loopw [19] (fun s19 wr => ∃ (k : Nat) (D : DataW Value), k ≤ f.2.1.length ∧ s19 = .int .i64 k ∧ Hid (Groups wr (w.heap.size + 2) (w.heap.size + 2) k D (rangesOf (f.2.1.take k))) ∧ Hid (∀ q, wfPl q → (has D (lPl q) = true ↔ q ∈ (f.2.1.take k).map splS)) ∧ Hid (Below w.heap.size w wr) ∧ Hid (w.heap.size + 2 < wr.heap.size) ∧
    Hid (wr.heap[w.heap.size]? = some (.cells #[.slice A1 f.1.length c1, .slice A2 f.2.1.length c2, .slice A3 f.2.2.length c3] 25)) ∧ Hid (wr.heap[w.heap.size + 1]? = some (.cells #[.slice none 0 0, .slice none 0 0, .slice none 0 0] 25)))
    (fun s19 _ => f.2.1.length - (intOf s19).toNat)
  case atStart =>
    refine ⟨0, .map [], Nat.zero_le _, rfl, ?_, Hid.mk' (fun q _ => by simp [has_nil]), ?_, ?_, ?_, ?_⟩
    · have := Groups.start ((w.alloc (.cells #[.slice A1 f.1.length c1, .slice A2 f.2.1.length c2, .slice A3 f.2.2.length c3] 25)).alloc (.cells #[.slice none 0 0, .slice none 0 0, .slice none 0 0] 25)) (w.heap.size + 2)
      rw [show ((w.alloc (.cells #[.slice A1 f.1.length c1, .slice A2 f.2.1.length c2, .slice A3 f.2.2.length c3] 25)).alloc (.cells #[.slice none 0 0, .slice none 0 0, .slice none 0 0] 25)).heap.size = w.heap.size + 2 from by simp] at this
      exact Hid.mk' this
    · exact Hid.mk' ((((Below.refl _ w).alloc (Nat.le_refl _) _).alloc (by simp) _).alloc (by simp; omega) _)
    · exact Hid.mk' (by simp)
    · refine Hid.mk' ?_
      rw [Below.heap_alloc _ _ _ (by simp; omega), Below.heap_alloc _ _ _ (by simp)]
      exact World.alloc_heap_new _ _
    · refine Hid.mk' ?_
      rw [Below.heap_alloc _ _ _ (by simp)]
      have := World.alloc_heap_new (w.alloc (.cells #[.slice A1 f.1.length c1, .slice A2 f.2.1.length c2, .slice A3 f.2.2.length c3] 25)) (.cells #[.slice none 0 0, .slice none 0 0, .slice none 0 0] 25)
      rwa [World.size_alloc] at this
  case round =>
    obtain ⟨k, D, hk, rfl, HG, HKK, HB, HZ, HX, HY⟩ := hrel
    by_cases hlt : k < f.2.1.length
    · have hltz : (k : Int) < (f.2.1.length : Int) := by omega
      obtain ⟨s, hs⟩ : ∃ s, f.2.1[k]? = some s := ⟨_, List.getElem?_eq_getElem hlt⟩
      obtain ⟨b, off, rfl, hbl, hcell⟩ := HF.out.sps.at_ hlt
      have es : f.2.1[k] = s := (List.getElem?_eq_some_iff.1 hs).2
      rw [es] at hcell
      have hcw : ∀ q v, (eSp s)[q]? = some v → wr.cell? ⟨b, off + k * 5 + q, none⟩ = some v := fun q v hv => (HB.out.cell (p := ⟨b, _, none⟩) hbl).trans (hcell q v hv)
      have d0 : wr.cell? ⟨b, off + k * 5, none⟩ = some (.int .i64 s.t) := hcw 0 _ rfl
      have d1 : wr.cell? ⟨b, off + k * 5 + 1, none⟩ = some (.int .i64 s.i) := hcw 1 _ rfl
      have d2 : wr.cell? ⟨b, off + k * 5 + 2, none⟩ = some (.string s.r.lo) := hcw 2 _ rfl
      have d3 : wr.cell? ⟨b, off + k * 5 + 3, none⟩ = some (.string s.r.hi) := hcw 3 _ rfl
      have d4 : wr.cell? ⟨b, off + k * 5 + 4, none⟩ = some (.bool s.r.op) := hcw 4 _ rfl
      have HWX : Hid (wfPl (splS s)) := HWF.out.sps s (by rw [← es]; exact List.getElem_mem hlt)
      have HTK : Hid (f.2.1.take (k + 1) = f.2.1.take k ++ [s]) := by show _ = _; rw [List.take_succ_eq_append_getElem hlt, es]
      clear hcell hcw es hs
      obtain ⟨W, hW⟩ : ∃ W, W = ((wr.alloc (.cells #[.int .i64 s.t, .int .i64 s.i, .string s.r.lo, .string s.r.hi, .bool s.r.op] 46)).alloc (.cells #[.int .i64 s.t, .int .i64 s.i] 69)).alloc (.cells #[.string s.r.lo, .string s.r.hi, .bool s.r.op] 44) := ⟨_, rfl⟩
      have hgW : wr.grownBy W none := by
        rw [hW]; exact (World.grownBy_alloc _ _ none).andThen ((World.grownBy_alloc _ _ none).andThen (World.grownBy_alloc _ _ none) (fun j e => by cases e)) (fun j e => by cases e)
      have hsW : W.heap.size = wr.heap.size + 3 := by rw [hW]; simp
      have hGW := HG.out.kept hgW NotGr.none
      obtain ⟨v0, st, w1, hrun, hat0, hg1, hb1, hst⟩ := entry_store hGW.own (by unfold maxLen; omega) HWX.out
      obtain ⟨v0', hat0', hown0⟩ := hGW.row _ HWX.out
      obtain rfl : v0' = v0 := by rw [hat0] at hat0'; cases hat0'; rfl
      have hrun' : (Instr.mapEntry 67 (.map (some (w.heap.size + 2))) (.agg #[.int .i64 s.t, .int .i64 s.i])).run Tryz.prog W = .ok (.tuple #[v0', goInt st]) w1 := hrun
      rw [hW] at hrun'
      clear hrun hat0'
      have hbz : w.heap.size + 2 ≠ wr.heap.size + 2 := by have := HZ.out; omega
      have hnews : ∀ j u, (eRn s.r)[j]? = some u → w1.cell? (Addr.add ⟨wr.heap.size + 2, 0, none⟩ j) = some u := fun j u hj => by
        have h1 : W.cell? (Addr.add ⟨wr.heap.size + 2, 0, none⟩ j) = some u := by rw [hW]; exact new_cells (by simp) rfl j u hj
        rw [Addr.add_lit] at h1 ⊢
        exact (World.cell?_of_block (a := ⟨wr.heap.size + 2, 0 + j, none⟩) (hg1.block (wr.heap.size + 2) (by rw [hsW]; omega) (fun e => hbz (by simpa using e.symm)))).trans h1
      have hv0b : v0'.ownBlock = none ∨ v0'.ownBlock ≠ some (w.heap.size + 2) := by
        obtain ⟨es0, cl0, hbm⟩ := hGW.heap
        exact ownsRow_ne_a hown0 hbm (fun cur e => by cases e)
      have hown1 : Own eRn 3 44 (w.heap.size + 2) w1 v0' (rangesOf (f.2.1.take k) (splS s)) := hown0.kept hg1 hv0b
      have hrl : (rangesOf (f.2.1.take k) (splS s)).length ≤ 65536 := Nat.le_trans (rangesOf_len _ _) (by simp; omega)
      have HGN := Hid.mk' (And.intro hgW (And.intro hg1 (And.intro hb1 (And.intro hat0 hv0b))))
      have HSZ1 : Hid (wr.heap.size + 3 ≤ w1.heap.size) := by have := hg1.size; rw [hsW] at this; exact this
      have HST := Hid.mk' hst
      clear hgW hg1 hb1 hat0 hv0b hown0 hGW hW hst hsW hbz
      go_wp2_with (at_builtin; go_loud (refine wpList_append_own_at _ rfl _ _ 70 rfl (w.heap.size + 2) 44 i0 _ 3 40 Tryz.underlying70 hi hz0 hz1 hz2 rfl (by decide) _ _ _ rfl hown1 ⟨wr.heap.size + 2, 0, none⟩ 1 1 (eRn s.r) rfl rfl hnews (eRn_one _) (by unfold maxLen; omega) (by omega) (by have := HSZ1.out; have := HZ.out; omega) ?_))
      intro v' w2 hown2 hg2 _ hat
      obtain ⟨hgW, hg1, hb1, hat0, hv0b⟩ := HGN.out
      have hb1lt : w.heap.size + 2 < w1.heap.size := by have := HSZ1.out; have := HZ.out; omega
      have hne2 : v0'.ownBlock ≠ some (w.heap.size + 2) := by
        rcases hv0b with h | h
        · rw [h]; simp
        · exact h
      obtain ⟨w3, hr3, hm3, hg3⟩ := HST.out w2 v' (hg2.block _ hb1lt (fun e => hne2 e.symm))
      have hr3' : (Instr.entryStore 67 (.map (some (w.heap.size + 2))) (.int .i64 st) v').run Tryz.prog w2 = .ok () w3 := hr3
      have HGR := Hid.mk' (HG.out.laid HWX.out hat0 hgW hg1 hb1 hg2 hg3 (own_snoc hown2) (hat.imp id (fun e => .inr ⟨_, e, by have := HSZ1.out; omega⟩)) hm3)
      have hlow : ∀ j, v0'.ownBlock = some j → w.heap.size + 2 ≤ j := fun j hj => (World.ownsRow.lt hown1 j hj).1
      have HOLD : Hid (∀ j, j < w.heap.size + 2 → w3.heap[j]? = wr.heap[j]?) := fun j hj => by
        have z := HZ.out
        have z1 := HSZ1.out
        have z0 := hgW.size
        have z2 := hg2.size
        have e0 := hgW.block j (by omega) (by simp)
        have e1 := hg1.block j (by omega) (fun e => by cases e; omega)
        have e2 := hg2.block j (by omega) (fun e => by have := hlow j e.symm; omega)
        have e3 := hg3.block j (by omega) (fun e => by cases e; omega)
        rw [e3, e2, e1, e0]
      have HEX : Hid (w3.os = wr.os ∧ w3.tape = wr.tape ∧ w3.output = wr.output ∧ wr.heap.size + 3 ≤ w3.heap.size) := by
        have z1 := HSZ1.out
        have z2 := hg2.size
        have z3 := hg3.size
        exact ⟨hg3.os.trans (hg2.os.trans (hg1.os.trans hgW.os)), hg3.tape.trans (hg2.tape.trans (hg1.tape.trans hgW.tape)), hg3.output.trans (hg2.output.trans (hg1.output.trans hgW.output)), by omega⟩
      clear hown2 hg2 hat hgW hg1 hb1 hat0 hv0b hb1lt hr3 hm3 hg3 hlow hown1 hrun' HST hnews hrl
      go_wp2_with fail
      go_roundw
      case rel =>
        obtain ⟨x1, x2, x3, x4⟩ := HEX.out
        refine ⟨k + 1, D.put (lPl (splS s)) (.held v'), by omega, by go_num, ?_, ?_, ?_, ?_, ?_, ?_⟩
        · refine Hid.mk' ?_
          rw [HTK.out]
          exact HGR.out.congr (fun q _ => by rw [congrFun (rangesOf_snoc (f.2.1.take k) s) q])
        · refine Hid.mk' (fun q hq => ?_)
          rw [HTK.out, List.map_append]
          have hp := kPl.has_put HWX.out HG.out.isMap (.held v') hq
          rw [show litOf Tryz.prog 69 vPl q = lPl q from rfl, HKK.out q hq] at hp
          refine hp.trans ?_
          simp [or_comm]
        · exact Hid.mk' (HB.out.trans ⟨x1, x2, x3, by omega, fun j hj => HOLD.out j (by omega)⟩)
        · have := HZ.out; exact Hid.mk' (by omega)
        · exact Hid.mk' ((HOLD.out _ (by omega)).trans HX.out)
        · exact Hid.mk' ((HOLD.out _ (by omega)).trans HY.out)
      case measure => simp [intOf]; omega
    · have hltz : ¬ (k : Int) < (f.2.1.length : Int) := by omega
      have hke : k = f.2.1.length := by omega
      have HGF : Hid (Groups wr (w.heap.size + 2) (w.heap.size + 2) k D (rangesOf f.2.1)) := by
        have := HG.out
        rw [hke, List.take_length] at this
        rw [hke]
        exact this
      have HKF : Hid (∀ q, wfPl q → (has D (lPl q) = true ↔ q ∈ f.2.1.map splS)) := by
        have := HKK.out
        rw [hke, List.take_length] at this
        exact this
      clear hke HG HKK
      have HK := fun W => (callsIn_wide (n := 6)).1 (keys_Pl Fence.wide 6 trivial rfl (some (w.heap.size + 2)) W)
      have HZ' := HZ.out
      obtain ⟨W7, hW7⟩ : ∃ W7, wr.alloc (.cells #[.slice none 0 0, .slice none 0 0, .slice none 0 0] 25) = W7 := ⟨_, rfl⟩
      have hs7 : W7.heap.size = wr.heap.size + 1 := by rw [← hW7]; simp
      have hg7 : wr.grownBy W7 none := by rw [← hW7]; exact World.grownBy_alloc _ _ none
      have h7 : W7.heap[wr.heap.size]? = some (.cells #[.slice none 0 0, .slice none 0 0, .slice none 0 0] 25 (0, 0)) := by rw [← hW7]; exact World.alloc_heap_new _ _
      have HG7 := Hid.mk' (HGF.out.kept hg7 NotGr.none)
      have HB7 := Hid.mk' (HB.out.grown hg7 (by omega) (fun k e => by cases e))
      have HX7 := Hid.mk' ((hg7.block _ (by omega) (by simp)).trans HX.out)
      have HY7 := Hid.mk' ((hg7.block _ (by omega) (by simp)).trans HY.out)
      have H7 := Hid.mk' h7
      obtain ⟨B7, hB7⟩ : ∃ B7, wr.heap.size = B7 := ⟨_, rfl⟩
      go_wp2_with fail
      rw [hB7] at hs7 H7 HZ'
      have HS7 := Hid.mk' hs7
      clear hg7 h7 HGF HB HX HY HZ hW7 hB7 hs7
      refine (HK W7).mono ?_
      rintro e w8 ⟨rfl, rfl⟩
      have hS := sortedFunc_Pl (w.heap.size + 2) k D anyElem cmpPl (swo_of cmpPl_lt) 48 (enters_of Tryz.func48 (by kernel_rfl) rfl) (fun x y W => bplace_calls x y W) W7.heap.size (W7.alloc (.cells #[.map (some (w.heap.size + 2))] 67)) (by simp) (by simp) (HG7.out.own.alloc _) (by have := (owns_isMap HG7.out.own).2; omega)
      clear HK
      go_wp2_with fail
      refine hS.mono ?_
      rintro e w9 ⟨v9, ps, rfl, hA, hso, ho, hb⟩
      have hs7 := HS7.out
      have HPS : Hid (ps = VP.ssort toPl (f.2.1.map splS)) := VP.ss_eq_ssort toPl (pairwise_ss cmpPl_lt hso hA.1) (fun q => by
        constructor
        · intro hq; exact (HKF.out q (hA.2.1 q hq)).1 ((hA.2.2 q (hA.2.1 q hq)).1 hq)
        · intro hq
          obtain ⟨x, hx, rfl⟩ := List.mem_map.1 hq
          have hw := HWF.out.sps x hx
          exact (hA.2.2 _ hw).2 ((HKF.out _ hw).2 hq))
      have HND : Hid (ps.Nodup ∧ ∀ q ∈ ps, wfPl q) := ⟨hA.1, hA.2.1⟩
      have hpl : ps.length ≤ 65536 := by
        have := VP.length_ssort_le toPl (f.2.1.map splS)
        rw [← HPS.out] at this
        simp at this
        omega
      have hsz8 : (W7.alloc (.cells #[.map (some (w.heap.size + 2))] 67)).heap.size = B7 + 2 := by simp [hs7]
      have HK9 : Hid (Keep w w9 (.agg #[.slice A1 f.1.length c1, .slice A2 f.2.1.length c2, .slice A3 f.2.2.length c3]) v9 ps) := by
        have hb0 : Below (B7 + 1) W7 w9 := ((Below.refl _ W7).alloc (by omega) _).trans (hb.mono (by omega))
        refine ⟨HB7.out.trans (hb0.mono (by omega)), ?_, (hb0.block _ (by omega)).trans HX7.out, (hb0.block _ (by omega)).trans HY7.out, ho.lower (by omega)⟩
        have := hb.size; omega
      have HG9 : Hid (Groups w9 (w.heap.size + 2) (w.heap.size + 2) k D (rangesOf f.2.1)) := (HG7.out.alloc _).below hb
      have H79 : Hid (w9.heap[B7]? = some (.cells #[.slice none 0 0, .slice none 0 0, .slice none 0 0] 25 (0, 0))) := by
        refine (hb.block _ (by omega)).trans ((Below.heap_alloc _ _ _ (by omega)).trans H7.out)
      obtain ⟨A9, c9, rfl, hc9⟩ := ho.shape
      clear hA hso ho hb hS HKF HB7 HX7 HY7 H7 HG7 hsz8 hs7 hc9
      have hzl : w.heap.size + 2 < B7 := HZ'
      go_wp2_with fail
      go_loopw [43] (fun s43 wr => ∃ (j : Nat) (D : DataW Value) (sv : Value), j ≤ ps.length ∧ s43 = .int .i64 j ∧ Hid (Groups wr (w.heap.size + 2) (w.heap.size + 2) (k + j) D (halfG f.2.1 ps j)) ∧ Hid (Keep w wr (.agg #[.slice A1 f.1.length c1, .slice A2 f.2.1.length c2, .slice A3 f.2.2.length c3]) (.slice A9 ps.length c9) ps) ∧ Hid (wr.heap[B7]? = some (.cells #[.slice none 0 0, sv, .slice none 0 0] 25 (0, 0))) ∧ Hid (Own eSp 5 46 (w.heap.size + 2) wr sv (outS f.2.1 ps j)))
        (fun s43 _ => ps.length - (intOf s43).toNat)
      case atStart =>
        exact ⟨0, D, .slice none 0 0, Nat.zero_le _, rfl, Hid.mk' (HG9.out.congr (fun q _ => by simp [halfG])), HK9, H79, Hid.mk' (Own.nil _ _ _)⟩
      case round =>
        obtain ⟨j, D, sv, hj, rfl, HG, HKP, H7, HS⟩ := hrel
        by_cases hlt2 : j < ps.length
        · have hltz2 : (j : Int) < (ps.length : Int) := by omega
          obtain ⟨q, hq⟩ : ∃ q, ps[j]? = some q := ⟨_, List.getElem?_eq_getElem hlt2⟩
          obtain ⟨g9, cc9, hA9, hg91, hg92⟩ := own_some HKP.out.ps (by intro e; rw [e] at hlt2; simp at hlt2)
          simp only [Value.slice.injEq] at hA9
          obtain ⟨rfl, -, rfl⟩ := hA9
          have e0 : wr.cell? ⟨g9, j * 2, none⟩ = some (.int .i64 q.a) := HKP.out.ps.cell ePl_len hq (i := 0) rfl
          have e1 : wr.cell? ⟨g9, j * 2 + 1, none⟩ = some (.int .i64 q.b) := HKP.out.ps.cell ePl_len hq (i := 1) rfl
          have HQ : Hid (ps[j]? = some q) := hq
          have HWQ : Hid (wfPl q) := HND.out.2 q (List.mem_of_getElem? hq)
          clear hq hg92
          have t0 : (wr.alloc (.cells #[.int .i64 q.a, .int .i64 q.b] 69)).cell? ⟨wr.heap.size, 0, none⟩ = some (.int .i64 q.a) := by simp
          have t1 : (wr.alloc (.cells #[.int .i64 q.a, .int .i64 q.b] 69)).cell? ⟨wr.heap.size, 1, none⟩ = some (.int .i64 q.b) := by simp
          have hsW0 : (wr.alloc (.cells #[.int .i64 q.a, .int .i64 q.b] 69)).heap.size = wr.heap.size + 1 := by simp
          obtain ⟨W, hW⟩ : ∃ W, wr.alloc (.cells #[.int .i64 q.a, .int .i64 q.b] 69) = W := ⟨_, rfl⟩
          have ht10w : (wr.alloc (.cells #[.int .i64 q.a, .int .i64 q.b] 69)).heap[wr.heap.size]? = some (.cells #[.int .i64 q.a, .int .i64 q.b] 69 (0, 0)) := World.alloc_heap_new _ _
          rw [hW] at t0 t1 hsW0 ht10w
          have HT10 := Hid.mk' ht10w
          clear ht10w
          have hsW : W.heap.size = wr.heap.size + 1 := hsW0
          clear hsW0
          have HGW : Hid (Groups W (w.heap.size + 2) (w.heap.size + 2) (k + j) D (halfG f.2.1 ps j)) := by rw [← hW]; exact HG.out.alloc _
          have HKW : Hid (Keep w W (.agg #[.slice A1 f.1.length c1, .slice A2 f.2.1.length c2, .slice A3 f.2.2.length c3]) (.slice (some ⟨g9, 0, none⟩) ps.length c9) ps) := by rw [← hW]; exact HKP.out.alloc _
          have hgX : wr.grownBy W none := by rw [← hW]; exact World.grownBy_alloc _ _ none
          have H7W : Hid (W.heap[B7]? = some (.cells #[.slice none 0 0, sv, .slice none 0 0] 25 (0, 0))) := (hgX.block _ (Array.getElem?_eq_some_iff.1 H7.out).1 (by simp)).trans H7.out
          have HSW : Hid (Own eSp 5 46 (w.heap.size + 2) W sv (outS f.2.1 ps j)) := HS.out.kept hgX (by cases sv.ownBlock <;> simp)
          obtain ⟨vr, hvr, hor⟩ := HGW.out.row q HWQ.out
          have hgq : halfG f.2.1 ps j q = rangesOf f.2.1 q := by
            unfold halfG
            rw [if_neg (not_mem_take HND.out.1 HQ.out)]
          rw [hgq] at hor
          obtain ⟨Ar, cr, rfl, hcr⟩ := hor.shape
          have hlk : ∀ W', W'.heap = W.heap → (Instr.lookup 67 (.map (some (w.heap.size + 2))) (.agg #[.int .i64 q.a, .int .i64 q.b]) false).run Tryz.prog W' = .ok (.slice Ar (rangesOf f.2.1 q).length cr) W' := fun W' hW' => by
            have ho' : W'.ownsMap Tryz.prog 69 anyElem (w.heap.size + 2) (k + j) D := by
              obtain ⟨es, cl, hb, r⟩ := HGW.out.own
              exact ⟨es, cl, by rw [hW']; exact hb, r⟩
            obtain ⟨v, pp, hr, hv⟩ := ho'.lookup kPl.keyed Tryz.underlying67 (zeroRn W') (zd := nilD) (zp := []) rfl (kPl.lit HWQ.out)
            have : v = .slice Ar (rangesOf f.2.1 q).length cr := by
              have e := hv
              rw [show litOf Tryz.prog 69 vPl q = lPl q from rfl, hvr] at e
              simp [anyElem] at e
              exact e.1
            rw [← this]
            exact hr
          have lk1 := hlk W.drew rfl
          have HU := union_calls Ar cr (rangesOf f.2.1 q) W.drew (hor.row eRn_len).2 (by have := rangesOf_len f.2.1 q; omega)
          have HVR := Hid.mk' hvr
          have HOR := Hid.mk' hor
          have HSW1 := Hid.mk' hsW
          clear hlk hvr hor hcr hgX hsW hgq
          have HBB : Hid (w.heap.size + 2 < W.heap.size ∧ B7 < W.heap.size) := ⟨HKW.out.size, (Array.getElem?_eq_some_iff.1 H7W.out).1⟩
          go_wp2_with fail
          clear hW e0 e1
          go_cut [] (fun wx => ∃ (w1 : World) (v1 : Value), Hid (Below W.heap.size W w1) ∧ Hid (Own eRn 3 44 W.heap.size w1 v1 (unionP (rangesOf f.2.1 q))) ∧ Hid (wx.ownsMap Tryz.prog 69 anyElem (w.heap.size + 2) (k + j + 1) (D.put (lPl q) (.held v1)) ∧ w1.grownBy wx (some (w.heap.size + 2))))
          case first =>
            go_region_with (go_at_call 51; refine HU.mono ?_; rintro e w1 ⟨v1, rfl, ho1, hb1⟩; have hb1' : Below W.heap.size W w1 := ⟨hb1.os, hb1.tape, hb1.output, hb1.size, hb1.block⟩; have HB1 := Hid.mk' hb1'; have HO1 := Hid.mk' ho1; have t0' : w1.cell? ⟨wr.heap.size, 0, none⟩ = some (.int .i64 q.a) := (hb1'.cell (p := ⟨wr.heap.size, 0, none⟩) (by have := HSW1.out; show wr.heap.size < _; omega)).trans t0; have t1' : w1.cell? ⟨wr.heap.size, 1, none⟩ = some (.int .i64 q.b) := (hb1'.cell (p := ⟨wr.heap.size, 1, none⟩) (by have := HSW1.out; show wr.heap.size < _; omega)).trans t1; obtain ⟨w2, hr2, hm2, hg2⟩ := (HGW.out.below hb1').own.update kPl.keyed Tryz.underlying67 (by unfold maxLen; omega) (kPl.lit HWQ.out) (val := v1) (d := .held v1) (ps := []) rfl; have hr2' : (Instr.mapUpdate 67 (.map (some (w.heap.size + 2))) (.agg #[.int .i64 q.a, .int .i64 q.b]) v1).run Tryz.prog w1 = .ok () w2 := hr2; have HM2 := Hid.mk' (And.intro hm2 hg2); clear hb1 hb1' ho1 hr2 hm2 hg2)
            all_goals (go_wp2_with fail; go_meet; exact ⟨w1, v1, HB1, HO1, HM2⟩)
          case rest =>
            obtain ⟨w1, v1, HB1, HO1, HM2⟩ := hcut
            have g0 : W.grownBy w1 none := ⟨HB1.out.os, HB1.out.tape, HB1.out.output, HB1.out.size, fun i hi _ => HB1.out.block i hi⟩
            have g3 := HM2.out.2
            have hbm1 : ∃ es cl, w1.heap[w.heap.size + 2]? = some (.map es cl) := (HGW.out.below HB1.out).heap
            have grefl : ∀ (X : World) r, X.grownBy X r := fun X r => ⟨rfl, rfl, rfl, Nat.le_refl _, fun _ _ _ => rfl⟩
            have hfree : Free w w1 (some (w.heap.size + 2)) := fun r e => by
              cases e
              obtain ⟨es, cl, hb⟩ := hbm1
              exact ⟨Nat.le_refl _, _, hb, fun cur e => by cases e⟩
            have hat1 : v1.ownBlock = none ∨ ∃ k, v1.ownBlock = some k ∧ W.heap.size ≤ k := by
              cases hv : v1.ownBlock with
              | none => exact .inl rfl
              | some r => exact .inr ⟨r, rfl, (own_blk HO1.out r hv).1⟩
            have HGC : Hid (Groups wc (w.heap.size + 2) (w.heap.size + 2) (k + (j + 1)) (D.put (lPl q) (.held v1)) (halfG f.2.1 ps (j + 1))) := by
              have := HGW.out.laid HWQ.out HVR.out g0 (grefl _ _) hbm1 (grefl _ _) g3 (HO1.out.lower (by have := HBB.out; omega)) (.inr hat1) HM2.out.1
              rw [halfG_succ HQ.out]
              exact this
            have HKC : Hid (Keep w wc (.agg #[.slice A1 f.1.length c1, .slice A2 f.2.1.length c2, .slice A3 f.2.2.length c3]) (.slice (some ⟨g9, 0, none⟩) ps.length c9) ps) := (HKW.out.kept g0 Free.none).kept g3 hfree
            have h7c : wc.heap[B7]? = some (.cells #[.slice none 0 0, sv, .slice none 0 0] 25 (0, 0)) := by
              have hb := HBB.out
              exact (g3.block _ (by have := HB1.out.size; omega) (fun e => by cases e; omega)).trans ((HB1.out.block _ hb.2).trans H7W.out)
            have H7C := Hid.mk' h7c
            have HSC : Hid (Own eSp 5 46 (w.heap.size + 2) wc sv (outS f.2.1 ps j)) := by
              obtain ⟨es, cl, hb⟩ := hbm1
              have o1 := HSW.out.below HB1.out
              exact o1.kept g3 (ownsRow_ne_a o1 hb (fun cur e => by cases e))
            have ht10 : wc.heap[wr.heap.size]? = some (.cells #[.int .i64 q.a, .int .i64 q.b] 69 (0, 0)) := by
              have hb := HBB.out
              have hs := HSW1.out
              exact (g3.block _ (by have := HB1.out.size; omega) (fun e => by have := Option.some.inj e; omega)).trans ((HB1.out.block _ (by omega)).trans HT10.out)
            have HT10C := Hid.mk' ht10
            obtain ⟨B10, hB10⟩ : ∃ B10, wr.heap.size = B10 := ⟨_, rfl⟩
            rw [hB10] at HT10C
            have c10 : wc.cell? ⟨B10, 0, none⟩ = some (.int .i64 q.a) := cell_at HT10C.out rfl
            have d10 : wc.cell? ⟨B10, 1, none⟩ = some (.int .i64 q.b) := cell_at HT10C.out rfl
            have hvc : (D.put (lPl q) (.held v1)).atKey (lPl q) nilD = .held v1 := kPl.find q HWQ.out D _ _ HGW.out.isMap
            have lkc : (Instr.lookup 67 (.map (some (w.heap.size + 2))) (.agg #[.int .i64 q.a, .int .i64 q.b]) false).run Tryz.prog wc = .ok v1 wc := by
              obtain ⟨v, pp, hr, hv⟩ := HGC.out.own.lookup kPl.keyed Tryz.underlying67 (zeroRn wc) (zd := nilD) (zp := []) rfl (kPl.lit HWQ.out)
              rw [show litOf Tryz.prog 69 vPl q = lPl q from rfl, hvc] at hv
              simp [anyElem] at hv
              rw [← hv.1]; exact hr
            have HVC := Hid.mk' hvc
            have hul : (unionP (rangesOf f.2.1 q)).length ≤ 65536 := by have h1 := unionP_len (rangesOf f.2.1 q); have h2 := rangesOf_len f.2.1 q; omega
            have hol := outS_len f.2.1 ps j hj
            have hol2 : j * f.2.1.length ≤ 65536 * 65536 := Nat.mul_le_mul (by omega) hl2
            obtain ⟨us, hus⟩ : ∃ us, us = unionP (rangesOf f.2.1 q) := ⟨_, rfl⟩
            rw [← hus] at hul HO1
            have HUS := Hid.mk' hus
            have hv1c : Own eRn 3 44 (w.heap.size + 2) wc v1 us := by
              obtain ⟨v, hv, ho⟩ := HGC.out.row q HWQ.out
              have : v = v1 := by rw [HVC.out] at hv; cases hv; rfl
              subst this
              have e : halfG f.2.1 ps (j + 1) q = us := by rw [halfG_succ HQ.out, HUS.out]; simp [updG]
              rw [e] at ho; exact ho
            obtain ⟨Au, cu, rfl, hcu⟩ := hv1c.shape
            have HV1C := Hid.mk' hv1c
            clear g0 g3 hbm1 grefl hfree hat1 h7c ht10 hvc hus hv1c t0 t1 lk1 HU hcu
            rw [hB10]
            obtain ⟨i1, hi1, hy0, hy1, hy2⟩ := info_parts info_Sp
            go_wp2_with fail
            go_loopw [57] (fun s57 wi => ∃ (i : Nat) (sv : Value), i ≤ us.length ∧ s57 = .int .i64 i ∧ Hid (Groups wi (w.heap.size + 2) (w.heap.size + 2) (k + (j + 1)) (D.put (lPl q) (.held (.slice Au us.length cu))) (halfG f.2.1 ps (j + 1))) ∧ Hid (Keep w wi (.agg #[.slice A1 f.1.length c1, .slice A2 f.2.1.length c2, .slice A3 f.2.2.length c3]) (.slice (some ⟨g9, 0, none⟩) ps.length c9) ps) ∧ Hid (wi.heap[B7]? = some (.cells #[.slice none 0 0, sv, .slice none 0 0] 25 (0, 0))) ∧ Hid (Own eSp 5 46 (w.heap.size + 2) wi sv (outS f.2.1 ps j ++ (us.take i).map (mkS q))) ∧ Hid (wi.heap[B10]? = some (.cells #[.int .i64 q.a, .int .i64 q.b] 69 (0, 0))) ∧ Hid (Own eRn 3 44 (w.heap.size + 2) wi (.slice Au us.length cu) us))
              (fun s57 _ => us.length - (intOf s57).toNat)
            case atStart =>
              exact ⟨0, sv, Nat.zero_le _, rfl, HGC, HKC, H7C, Hid.mk' (by simpa using HSC.out), HT10C, HV1C⟩
            case round =>
              obtain ⟨i, sv, hiu, rfl, HG, HKP, H7, HS, HT, HV⟩ := hrel
              by_cases hlt3 : i < us.length
              · have hltz3 : (i : Int) < (us.length : Int) := by omega
                obtain ⟨r, hr⟩ : ∃ r, us[i]? = some r := ⟨_, List.getElem?_eq_getElem hlt3⟩
                obtain ⟨gu, ccu, hAu, hgu1, hgu2⟩ := own_some HV.out (by intro e; rw [e] at hlt3; simp at hlt3)
                simp only [Value.slice.injEq] at hAu
                obtain ⟨rfl, -, rfl⟩ := hAu
                have r0 : wr.cell? ⟨gu, i * 3, none⟩ = some (.string r.lo) := HV.out.cell eRn_len hr (i := 0) rfl
                have r1 : wr.cell? ⟨gu, i * 3 + 1, none⟩ = some (.string r.hi) := HV.out.cell eRn_len hr (i := 1) rfl
                have r2 : wr.cell? ⟨gu, i * 3 + 2, none⟩ = some (.bool r.op) := HV.out.cell eRn_len hr (i := 2) rfl
                have HTU : Hid (us.take (i + 1) = us.take i ++ [r]) := by show _ = _; rw [List.take_succ_eq_append_getElem hlt3, (List.getElem?_eq_some_iff.1 hr).2]
                have n7 : B7 < wr.heap.size := (Array.getElem?_eq_some_iff.1 H7.out).1
                have n10 : B10 < wr.heap.size := (Array.getElem?_eq_some_iff.1 HT.out).1
                have x7 : (wr.alloc (.cells #[.string r.lo, .string r.hi, .bool r.op] 44)).cell? ⟨B7, 1, none⟩ = some sv := cell_at ((Below.heap_alloc _ _ _ n7).trans H7.out) rfl
                have y0 : (wr.alloc (.cells #[.string r.lo, .string r.hi, .bool r.op] 44)).cell? ⟨B10, 0, none⟩ = some (.int .i64 q.a) := cell_at ((Below.heap_alloc _ _ _ n10).trans HT.out) rfl
                have y1 : (wr.alloc (.cells #[.string r.lo, .string r.hi, .bool r.op] 44)).cell? ⟨B10, 1, none⟩ = some (.int .i64 q.b) := cell_at ((Below.heap_alloc _ _ _ n10).trans HT.out) rfl
                have hsz := HKP.out.size
                obtain ⟨xs, hxs⟩ : ∃ xs, xs = outS f.2.1 ps j ++ (us.take i).map (mkS q) := ⟨_, rfl⟩
                have hxl : xs.length ≤ 65536 * 65536 + 65536 := by rw [hxs]; simp; omega
                rw [← hxs] at HS
                have HXS := Hid.mk' hxs
                have hown := HS.out
                clear hr hxs hgu2
                go_wp2_with (at_builtin; go_loud (refine wpList_append_own _ rfl _ _ 23 rfl (w.heap.size + 2) 46 i1 _ 5 56 Tryz.underlying23 hi1 hy0 hy1 hy2 rfl (by decide) _ _ _ rfl ((World.ownsRow.alloc hown _).alloc _) ⟨wr.heap.size + 1, 0, none⟩ 1 1 (eSp ⟨q.a, q.b, r⟩) rfl rfl (new_cells (World.size_alloc _ _) rfl) (eSp_one _) (by unfold maxLen; omega) (by omega) (by simp; omega) ?_))
                intro v' w4 hown4 hgr4 _
                have ho4 : Own eSp 5 46 (w.heap.size + 2) w4 v' (xs ++ [⟨q.a, q.b, r⟩]) := own_snoc hown4
                obtain ⟨g4, cap4, rfl, -, -⟩ := own_some ho4 (by simp)
                have hlen1 : (xs ++ [(⟨q.a, q.b, r⟩ : Sp)]).length = xs.length + 1 := by simp
                rw [hlen1] at ho4 ⊢
                clear hlen1
                have gA : wr.grownBy ((wr.alloc (.cells #[.string r.lo, .string r.hi, .bool r.op] 44)).alloc (.cells #[.int .i64 q.a, .int .i64 q.b, .string r.lo, .string r.hi, .bool r.op] 46)) none := (World.grownBy_alloc _ _ none).andThen (World.grownBy_alloc _ _ none) (fun j e => by cases e)
                obtain ⟨WA, hWA⟩ : ∃ WA, (wr.alloc (.cells #[.string r.lo, .string r.hi, .bool r.op] 44)).alloc (.cells #[.int .i64 q.a, .int .i64 q.b, .string r.lo, .string r.hi, .bool r.op] 46) = WA := ⟨_, rfl⟩
                have hgr4' : WA.grownBy w4 sv.ownBlock := by rw [← hWA]; exact hgr4
                rw [hWA] at gA
                have svA : Own eSp 5 46 (w.heap.size + 2) WA sv xs := HS.out.kept gA (by cases sv.ownBlock <;> simp)
                have hblk := own_blk svA
                have nGr : NotGr WA sv.ownBlock := fun r e => by
                  obtain ⟨_, cur, hc⟩ := hblk r e
                  exact ⟨_, hc, (fun cur e => by cases e), (fun es c e => by cases e)⟩
                have fKp : Free w WA sv.ownBlock := fun r e => by
                  obtain ⟨hb, cur, hc⟩ := hblk r e
                  exact ⟨hb, _, hc, fun cur e => by cases e⟩
                have H7A := (gA.block _ n7 (by simp)).trans H7.out
                have HTA := (gA.block _ n10 (by simp)).trans HT.out
                have lA : ∀ B, B < wr.heap.size → B < WA.heap.size := fun B h => Nat.lt_of_lt_of_le h gA.size
                have h74 : w4.heap[B7]? = some (.cells #[.slice none 0 0, sv, .slice none 0 0] 25 (0, 0)) := (hgr4'.block _ (lA _ n7) (fun e => by obtain ⟨_, cur, hc⟩ := hblk _ e.symm; rw [H7A] at hc; cases hc)).trans H7A
                have hT4 : w4.heap[B10]? = some (.cells #[.int .i64 q.a, .int .i64 q.b] 69 (0, 0)) := (hgr4'.block _ (lA _ n10) (fun e => by obtain ⟨_, cur, hc⟩ := hblk _ e.symm; rw [HTA] at hc; cases hc)).trans HTA
                have HG4 := (HG.out.kept gA NotGr.none).kept hgr4' nGr
                have HK4 := (HKP.out.kept gA Free.none).kept hgr4' fKp
                have hvA := HV.out.kept gA (by simp [Value.ownBlock])
                have HV4 := hvA.kept hgr4' (by
                  refine .inr fun e => ?_
                  obtain ⟨_, cur, hc⟩ := hblk _ e.symm
                  obtain ⟨_, cur2, hc2⟩ := own_blk hvA _ rfl
                  rw [hc] at hc2; cases hc2)
                -- the store
                have x74 : w4.cell? ⟨B7, 1, none⟩ = some sv := cell_at h74 rfl
                have f74 : w4.frozen? ⟨B7, 1, none⟩ = false := free_at 1 h74
                obtain ⟨w5, hw5⟩ : ∃ w5, w4.setCell ⟨B7, 1, none⟩ (.slice (some ⟨g4, 0, none⟩) (xs.length + 1) cap4) = w5 := ⟨_, rfl⟩
                have g5 : w4.grownBy w5 (some B7) := by rw [← hw5]; exact grownBy_setCell_at _ _ _ _
                have h75 : w5.heap[B7]? = some (.cells #[.slice none 0 0, .slice (some ⟨g4, 0, none⟩) (xs.length + 1) cap4, .slice none 0 0] 25 (0, 0)) := by rw [← hw5]; exact heap_setCell_at _ h74
                have nGr7 : NotGr w4 (some B7) := fun r e => by cases e; exact ⟨_, h74, (fun cur e => by cases e), (fun es c e => by cases e)⟩
                have fKp7 : Free w w4 (some B7) := fun r e => by cases e; exact ⟨by omega, _, h74, fun cur e => by cases e⟩
                have HG5 := Hid.mk' (HG4.kept g5 nGr7)
                have HK5 := Hid.mk' (HK4.kept g5 fKp7)
                have H75 := Hid.mk' h75
                have HS5 := Hid.mk' (ho4.kept g5 (ownsRow_ne_a ho4 h74 (fun cur e => by cases e)))
                have HT5 := Hid.mk' ((g5.block B10 (Array.getElem?_eq_some_iff.1 hT4).1 (fun e => by cases e; rw [h74] at hT4; cases hT4)).trans hT4)
                have HV5 := Hid.mk' (HV4.kept g5 (ownsRow_ne_a HV4 h74 (fun cur e => by cases e)))
                clear hown4 hgr4 ho4 gA hgr4' svA hblk nGr fKp H7A HTA lA hT4 HG4 HK4 hvA HV4 g5 h75 nGr7 fKp7 hWA h74 hown
                go_wp2_with fail
                go_roundw
                case rel =>
                  refine ⟨i + 1, _, by omega, by go_num, HG5, HK5, H75, ?_, HT5, HV5⟩
                  refine Hid.mk' ?_
                  rw [HTU.out, List.map_append, ← List.append_assoc, ← HXS.out]
                  exact HS5.out
                case measure => simp [intOf]; omega
              · have hltz3 : ¬ (i : Int) < (us.length : Int) := by omega
                have HIE : Hid (i = us.length) := by show _ = _; omega
                go_wp2_with fail
                go_roundw
                case rel =>
                  refine ⟨j + 1, _, sv, by omega, by go_num, HG, HKP, H7, ?_⟩
                  refine Hid.mk' ?_
                  have := HS.out
                  rw [HIE.out, List.take_length, HUS.out, ← outS_succ HQ.out] at this
                  exact this
                case measure => simp [intOf]; omega
        · have hltz2 : ¬ (j : Int) < (ps.length : Int) := by omega
          have hje : j = ps.length := by omega
          have HGE : Hid (Groups wr (w.heap.size + 2) (w.heap.size + 2) (k + j) D (fun q => unionP (rangesOf f.2.1 q))) := by
            refine Hid.mk' (HG.out.congr (fun q hq => ?_))
            unfold halfG
            rw [hje, List.take_length]
            split
            · rfl
            · rename_i hn
              have : rangesOf f.2.1 q = [] := by
                unfold rangesOf VP.rangesAt
                rw [List.map_eq_nil_iff, List.filter_eq_nil_iff]
                intro s hs he
                apply hn
                rw [HPS.out, VP.mem_ssort]
                exact List.mem_map.2 ⟨s, hs, by simpa using he⟩
              rw [this]; exact (VP.union_nil unionP_is).symm
          have HSE : Hid (Own eSp 5 46 (w.heap.size + 2) wr sv (VP.spansN toPl splS rgS mkS unionP f.2.1)) := by
            have := HS.out
            rw [hje] at this
            unfold outS at this
            rw [List.take_length, HPS.out] at this
            exact this
          clear hje HG HS
          have a0 : wr.cell? ⟨w.heap.size, 0, none⟩ = some (.slice A1 f.1.length c1) := cell_at HKP.out.arg rfl
          have hON := once_calls A1 c1 f.1 wr (HF.out.pts.below HKP.out.below (Nat.le_refl _)) HWF.out.pts (by omega)
          go_wp2_with fail
          refine hON.mono ?_
          rintro e w1 ⟨vo, rfl, hoo, hbo⟩
          obtain ⟨ss, hss⟩ : ∃ ss, ss = VP.ssort toPt f.1 := ⟨_, rfl⟩
          rw [← hss] at hoo
          have hsl : ss.length ≤ 65536 := by have := VP.length_ssort_le toPt f.1; rw [← hss] at this; omega
          have HSW2 : Hid (∀ p ∈ ss, wfPt p) := fun p hp => HWF.out.pts p (by rw [hss, VP.mem_ssort] at hp; exact hp)
          have HSS := Hid.mk' hss
          have gb : wr.grownBy w1 none := ⟨hbo.os, hbo.tape, hbo.output, hbo.size, fun i hi _ => hbo.block i hi⟩
          have HG1 := Hid.mk' (HGE.out.kept gb NotGr.none)
          have HK1 := Hid.mk' (HKP.out.kept gb Free.none)
          have H71 := Hid.mk' ((hbo.block _ (Array.getElem?_eq_some_iff.1 H7.out).1).trans H7.out)
          have HS1 := Hid.mk' (HSE.out.below hbo)
          obtain ⟨Ao, co, rfl, hco⟩ := hoo.shape
          obtain ⟨AS, cS, rfl, hcS⟩ := HSE.out.shape
          have HOO : Hid (Own ePt 3 37 0 w1 (.slice Ao ss.length co) ss ∧ ∀ r, (Value.slice Ao ss.length co).ownBlock = some r → r < w1.heap.size) := ⟨hoo.lower (Nat.zero_le _), fun r hr => (World.ownsRow.lt hoo r hr).2⟩
          clear hss gb hoo hbo hco hcS hON a0 HGE HKP H7 HSE
          obtain ⟨i2, hi2, z0, z1, z2⟩ := info_parts info_Pt
          obtain ⟨sps, hsps⟩ : ∃ sps, sps = VP.spansN toPl splS rgS mkS unionP f.2.1 := ⟨_, rfl⟩
          rw [← hsps] at HS1 H71
          have HSPS := Hid.mk' hsps
          clear hsps
          go_wp2_with fail
          go_loopw [78] (fun s78 wi => ∃ (i : Nat) (pv : Value), i ≤ ss.length ∧ s78 = .int .i64 i ∧ Hid (Groups wi (w.heap.size + 2) (w.heap.size + 2) (k + j) D (fun q => unionP (rangesOf f.2.1 q))) ∧ Hid (Keep w wi (.agg #[.slice A1 f.1.length c1, .slice A2 f.2.1.length c2, .slice A3 f.2.2.length c3]) (.slice A9 ps.length c9) ps) ∧ Hid (wi.heap[B7]? = some (.cells #[pv, .slice AS sps.length cS, .slice none 0 0] 25 (0, 0))) ∧ Hid (Own eSp 5 46 (w.heap.size + 2) wi (.slice AS sps.length cS) sps) ∧ Hid (Own ePt 3 37 w1.heap.size wi pv ((ss.take i).filter fun p => !VP.spannedB VP.TO.bytes plP Pt.key splS rgS f.2.1 p)) ∧ Hid (Own ePt 3 37 0 wi (.slice Ao ss.length co) ss) ∧ Hid (w1.heap.size ≤ wi.heap.size))
            (fun s78 _ => ss.length - (intOf s78).toNat)
          case atStart =>
            exact ⟨0, .slice none 0 0, Nat.zero_le _, rfl, HG1, HK1, H71, HS1, Hid.mk' (Own.nil _ _ _), Hid.mk' HOO.out.1, Hid.mk' (Nat.le_refl _)⟩
          case round =>
            obtain ⟨i, pv, hiu, rfl, HG, HKP, H7, HS, HP, HO, HLE⟩ := hrel
            by_cases hlt3 : i < ss.length
            · have hltz3 : (i : Int) < (ss.length : Int) := by omega
              obtain ⟨p, hp⟩ : ∃ p, ss[i]? = some p := ⟨_, List.getElem?_eq_getElem hlt3⟩
              obtain ⟨go, cco, hAo, -, hgo2⟩ := own_some HO.out (by intro e; rw [e] at hlt3; simp at hlt3)
              simp only [Value.slice.injEq] at hAo
              obtain ⟨rfl, -, rfl⟩ := hAo
              have p0 : wr.cell? ⟨go, i * 3, none⟩ = some (.int .i64 p.t) := HO.out.cell ePt_len hp (i := 0) rfl
              have p1 : wr.cell? ⟨go, i * 3 + 1, none⟩ = some (.int .i64 p.i) := HO.out.cell ePt_len hp (i := 1) rfl
              have p2 : wr.cell? ⟨go, i * 3 + 2, none⟩ = some (.string p.key) := HO.out.cell ePt_len hp (i := 2) rfl
              have HTK : Hid (ss.take (i + 1) = ss.take i ++ [p]) := by show _ = _; rw [List.take_succ_eq_append_getElem hlt3, (List.getElem?_eq_some_iff.1 hp).2]
              have hwp : wfPt p := HSW2.out p (List.mem_of_getElem? hp)
              have HWQ : Hid (wfPl (plP p)) := ⟨hwp.1, hwp.2.1⟩
              have hsz := HKP.out.size
              -- the point is boxed
              have ht14w : (wr.alloc (.cells #[.int .i64 p.t, .int .i64 p.i, .string p.key] 37)).heap[wr.heap.size]? = some (.cells #[.int .i64 p.t, .int .i64 p.i, .string p.key] 37 (0, 0)) := World.alloc_heap_new _ _
              obtain ⟨W, hW⟩ : ∃ W, wr.alloc (.cells #[.int .i64 p.t, .int .i64 p.i, .string p.key] 37) = W := ⟨_, rfl⟩
              rw [hW] at ht14w
              have gW : wr.grownBy W none := by rw [← hW]; exact World.grownBy_alloc _ _ none
              have hsW : W.heap.size = wr.heap.size + 1 := by rw [← hW]; simp
              have HGW := Hid.mk' (HG.out.kept gW NotGr.none)
              obtain ⟨vq, hvq, hoq⟩ := HGW.out.row (plP p) HWQ.out
              obtain ⟨Aq, cq, rfl, hcq⟩ := hoq.shape
              have lkq : (Instr.lookup 67 (.map (some (w.heap.size + 2))) (.agg #[.int .i64 p.t, .int .i64 p.i]) false).run Tryz.prog W = .ok (.slice Aq (unionP (rangesOf f.2.1 (plP p))).length cq) W := by
                obtain ⟨v, pp, hr, hv⟩ := HGW.out.own.lookup kPl.keyed Tryz.underlying67 (zeroRn W) (zd := nilD) (zp := []) rfl (kPl.lit HWQ.out)
                rw [show litOf Tryz.prog 69 vPl (plP p) = lPl (plP p) from rfl, hvq] at hv
                simp [anyElem] at hv
                rw [← hv.1]; exact hr
              have hHC := containsFunc_Rn (fun r => hasB r p.key) 54 #[.pointer (some ⟨wr.heap.size, 0, none⟩)] (enters_of Tryz.func54 (by kernel_rfl) rfl) W.heap.size Aq cq _ W (pred_has p.key wr.heap.size W.heap.size W (by omega) (cell_at ht14w rfl)) (Nat.le_refl _) (hoq.row eRn_len).2
              rw [any_union f.2.1 p] at hHC
              have t0 : W.cell? ⟨wr.heap.size, 0, none⟩ = some (.int .i64 p.t) := cell_at ht14w rfl
              have t1 : W.cell? ⟨wr.heap.size, 1, none⟩ = some (.int .i64 p.i) := cell_at ht14w rfl
              have HT14 := Hid.mk' ht14w
              have HSW3 := Hid.mk' hsW
              have HGWW := Hid.mk' gW
              have HHC := Hid.mk' hHC
              clear ht14w gW hsW hvq hoq hcq hp hwp hgo2 hHC
              cases hsp : VP.spannedB VP.TO.bytes plP Pt.key splS rgS f.2.1 p
              all_goals have HC := HHC.out
              all_goals rw [hsp] at HC
              all_goals have HSP := Hid.mk' hsp
              all_goals clear hsp
              all_goals go_wp2_with fail
              all_goals refine HC.mono ?_
              all_goals rintro e w3 ⟨rfl, hb3⟩
              all_goals have g3 : W.grownBy w3 none := ⟨hb3.os, hb3.tape, hb3.output, hb3.size, fun i hi _ => hb3.block i hi⟩
              all_goals have HG3 := Hid.mk' (HGW.out.kept g3 NotGr.none)
              all_goals have HK3 := Hid.mk' ((HKP.out.kept HGWW.out Free.none).kept g3 Free.none)
              all_goals have H73 := Hid.mk' ((g3.block _ (Nat.lt_of_lt_of_le (Array.getElem?_eq_some_iff.1 H7.out).1 HGWW.out.size) (by simp)).trans ((HGWW.out.block _ (Array.getElem?_eq_some_iff.1 H7.out).1 (by simp)).trans H7.out))
              all_goals have HS3 := Hid.mk' ((HS.out.kept HGWW.out (by cases AS <;> simp [Value.ownBlock])).kept g3 (by cases AS <;> simp [Value.ownBlock]))
              all_goals have HP3 := Hid.mk' ((HP.out.kept HGWW.out (by cases pv.ownBlock <;> simp)).kept g3 (by cases pv.ownBlock <;> simp))
              all_goals have HO3 := Hid.mk' ((HO.out.kept HGWW.out (by simp [Value.ownBlock])).kept g3 (by simp [Value.ownBlock]))
              all_goals have HT3 := Hid.mk' ((g3.block _ (Array.getElem?_eq_some_iff.1 HT14.out).1 (by simp)).trans HT14.out)
              all_goals have HL3 : Hid (w1.heap.size ≤ w3.heap.size) := Nat.le_trans HLE.out (Nat.le_trans HGWW.out.size g3.size)
              all_goals clear g3 hb3 hW lkq t0 t1 HC
              · -- kept
                obtain ⟨xs, hxs⟩ : ∃ xs, xs = (ss.take i).filter fun p => !VP.spannedB VP.TO.bytes plP Pt.key splS rgS f.2.1 p := ⟨_, rfl⟩
                have hxl : xs.length ≤ 65536 := by rw [hxs]; exact Nat.le_trans (List.length_filter_le _ _) (by simp; omega)
                rw [← hxs] at HP3
                have HXS := Hid.mk' hxs
                have hown := HP3.out
                have x7 : w3.cell? ⟨B7, 0, none⟩ = some pv := cell_at H73.out rfl
                have q0 : w3.cell? ⟨wr.heap.size, 0, none⟩ = some (.int .i64 p.t) := cell_at HT3.out rfl
                have q1 : w3.cell? ⟨wr.heap.size, 1, none⟩ = some (.int .i64 p.i) := cell_at HT3.out rfl
                have q2 : w3.cell? ⟨wr.heap.size, 2, none⟩ = some (.string p.key) := cell_at HT3.out rfl
                clear hxs
                go_wp2_with (at_builtin; go_loud (refine wpList_append_own _ rfl _ _ 22 rfl w1.heap.size 37 i2 _ 3 32 Tryz.underlying22 hi2 z0 z1 z2 rfl (by decide) _ _ _ rfl (World.ownsRow.alloc hown _) ⟨w3.heap.size, 0, none⟩ 1 1 (ePt p) rfl rfl (new_cells rfl rfl) (ePt_one _) (by unfold maxLen; omega) (by omega) (by have := HL3.out; simp; omega) ?_))
                intro v' w4 hown4 hgr4 _
                have ho4 : Own ePt 3 37 w1.heap.size w4 v' (xs ++ [p]) := own_snoc hown4
                obtain ⟨g4, cap4, rfl, -, -⟩ := own_some ho4 (by simp)
                have hlen1 : (xs ++ [p]).length = xs.length + 1 := by simp
                rw [hlen1] at ho4 ⊢
                clear hlen1
                obtain ⟨WA, hWA⟩ : ∃ WA, w3.alloc (.cells #[.int .i64 p.t, .int .i64 p.i, .string p.key] 37) = WA := ⟨_, rfl⟩
                have gA : w3.grownBy WA none := by rw [← hWA]; exact World.grownBy_alloc _ _ none
                have hgr4' : WA.grownBy w4 pv.ownBlock := by rw [← hWA]; exact hgr4
                have pvA : Own ePt 3 37 w1.heap.size WA pv xs := HP3.out.kept gA (by cases pv.ownBlock <;> simp)
                have hblk := own_blk pvA
                have hkz := HK1.out.size
                have nGr : NotGr WA pv.ownBlock := fun r e => by
                  obtain ⟨_, cur, hc⟩ := hblk r e
                  exact ⟨_, hc, (fun cur e => by cases e), (fun es c e => by cases e)⟩
                have fKp : Free w WA pv.ownBlock := fun r e => by
                  obtain ⟨hb, cur, hc⟩ := hblk r e
                  exact ⟨by omega, _, hc, (fun cur e => by cases e)⟩
                have H7A := (gA.block _ (Array.getElem?_eq_some_iff.1 H73.out).1 (by simp)).trans H73.out
                have h74 : w4.heap[B7]? = some (.cells #[pv, .slice AS sps.length cS, .slice none 0 0] 25 (0, 0)) := (hgr4'.block _ (Array.getElem?_eq_some_iff.1 H7A).1 (fun e => by obtain ⟨_, cur, hc⟩ := hblk _ e.symm; rw [H7A] at hc; cases hc)).trans H7A
                have HG4 := (HG3.out.kept gA NotGr.none).kept hgr4' nGr
                have HK4 := (HK3.out.kept gA Free.none).kept hgr4' fKp
                have hsA := HS3.out.kept gA (by cases AS <;> simp [Value.ownBlock])
                have HS4 := hsA.kept hgr4' (by
                  cases hv : (Value.slice AS sps.length cS).ownBlock with
                  | none => exact .inl rfl
                  | some r =>
                    refine .inr fun e => ?_
                    obtain ⟨_, cur, hc⟩ := hblk _ e.symm
                    obtain ⟨_, cur2, hc2⟩ := own_blk hsA _ hv
                    rw [hc] at hc2; cases hc2)
                have hoA := HO3.out.kept gA (by simp [Value.ownBlock])
                have HO4 := hoA.kept hgr4' (by
                  refine .inr fun e => ?_
                  have h1 : w1.heap.size ≤ go := (hblk go e.symm).1
                  have h2 : go < w1.heap.size := HOO.out.2 go rfl
                  omega)
                have hl4 : w1.heap.size ≤ w4.heap.size := Nat.le_trans HL3.out (Nat.le_trans gA.size hgr4'.size)
                have x74 : w4.cell? ⟨B7, 0, none⟩ = some pv := cell_at h74 rfl
                have f74 : w4.frozen? ⟨B7, 0, none⟩ = false := free_at 0 h74
                obtain ⟨w5, hw5⟩ : ∃ w5, w4.setCell ⟨B7, 0, none⟩ (.slice (some ⟨g4, 0, none⟩) (xs.length + 1) cap4) = w5 := ⟨_, rfl⟩
                have g5 : w4.grownBy w5 (some B7) := by rw [← hw5]; exact grownBy_setCell_at _ _ _ _
                have h75 : w5.heap[B7]? = some (.cells #[.slice (some ⟨g4, 0, none⟩) (xs.length + 1) cap4, .slice AS sps.length cS, .slice none 0 0] 25 (0, 0)) := by rw [← hw5]; exact heap_setCell_at _ h74
                have nGr7 : NotGr w4 (some B7) := fun r e => by cases e; exact ⟨_, h74, (fun cur e => by cases e), (fun es c e => by cases e)⟩
                have fKp7 : Free w w4 (some B7) := fun r e => by cases e; exact ⟨by omega, _, h74, (fun cur e => by cases e)⟩
                have HG5 := Hid.mk' (HG4.kept g5 nGr7)
                have HK5 := Hid.mk' (HK4.kept g5 fKp7)
                have H75 := Hid.mk' h75
                have HS5 := Hid.mk' (HS4.kept g5 (ownsRow_ne_a HS4 h74 (fun cur e => by cases e)))
                have HP5 := Hid.mk' (ho4.kept g5 (ownsRow_ne_a ho4 h74 (fun cur e => by cases e)))
                have HO5 := Hid.mk' (HO4.kept g5 (ownsRow_ne_a HO4 h74 (fun cur e => by cases e)))
                have HL5 := Hid.mk' (Nat.le_trans hl4 g5.size)
                clear hown4 hgr4 ho4 gA hgr4' pvA hblk nGr fKp H7A HG4 HK4 hsA HS4 hoA HO4 hl4 g5 h75 nGr7 fKp7 hWA h74 hown
                go_wp2_with fail
                go_roundw
                case rel =>
                  refine ⟨i + 1, _, by omega, by go_num, HG5, HK5, H75, HS5, ?_, HO5, HL5⟩
                  refine Hid.mk' ?_
                  rw [HTK.out, List.filter_append, ← HXS.out]
                  have e : [p].filter (fun p => !VP.spannedB VP.TO.bytes plP Pt.key splS rgS f.2.1 p) = [p] := by simp [HSP.out]
                  rw [e]
                  exact HP5.out
                case measure => simp [intOf]; omega
              · go_wp2_with fail
                go_roundw
                case rel =>
                  refine ⟨i + 1, pv, by omega, by go_num, HG3, HK3, H73, HS3, ?_, HO3, HL3⟩
                  refine Hid.mk' ?_
                  rw [HTK.out, List.filter_append]
                  have e : [p].filter (fun p => !VP.spannedB VP.TO.bytes plP Pt.key splS rgS f.2.1 p) = [] := by simp [HSP.out]
                  rw [e, List.append_nil]
                  exact HP3.out
                case measure => simp [intOf]; omega
            · have hltz3 : ¬ (i : Int) < (ss.length : Int) := by omega
              have hie : i = ss.length := by omega
              have HPE : Hid (Own ePt 3 37 w1.heap.size wr pv (VP.ptsN VP.TO.bytes toPt plP Pt.key splS rgS f.2.1 f.1)) := by
                have := HP.out
                rw [hie, List.take_length, HSS.out] at this
                exact this
              clear hie HP
              have a0 : wr.cell? ⟨w.heap.size, 2, none⟩ = some (.slice A3 f.2.2.length c3) := cell_at HKP.out.arg rfl
              have hON := once_calls A3 c3 f.2.2 wr (HF.out.wrs.below HKP.out.below (Nat.le_refl _)) HWF.out.wrs (by omega)
              obtain ⟨Ap, cp, rfl, -⟩ := HPE.out.shape
              go_wp2_with fail
              refine hON.mono ?_
              rintro e w3 ⟨vw, rfl, how, hbw⟩
              obtain ⟨Aw, cw, rfl, -⟩ := how.shape
              have g3 : wr.grownBy w3 none := ⟨hbw.os, hbw.tape, hbw.output, hbw.size, fun i hi _ => hbw.block i hi⟩
              have HK3 := HKP.out.kept g3 Free.none
              have H73 := (hbw.block _ (Array.getElem?_eq_some_iff.1 H7.out).1).trans H7.out
              have HS3 := HS.out.below hbw
              have HP3 := HPE.out.below hbw
              have m0 : w3.cell? ⟨B7, 0, none⟩ = some (.slice Ap (VP.ptsN VP.TO.bytes toPt plP Pt.key splS rgS f.2.1 f.1).length cp) := cell_at H73 rfl
              have m1 : w3.cell? ⟨B7, 1, none⟩ = some (.slice AS sps.length cS) := cell_at H73 rfl
              have m2 : w3.cell? ⟨B7, 2, none⟩ = some (.slice none 0 0) := cell_at H73 rfl
              have fm2 : w3.frozen? ⟨B7, 2, none⟩ = false := free_at 2 H73
              have k0 : w3.cell? ⟨w.heap.size + 1, 0, none⟩ = some (.slice none 0 0) := cell_at HK3.zero rfl
              have k1 : w3.cell? ⟨w.heap.size + 1, 1, none⟩ = some (.slice none 0 0) := cell_at HK3.zero rfl
              have k2 : w3.cell? ⟨w.heap.size + 1, 2, none⟩ = some (.slice none 0 0) := cell_at HK3.zero rfl
              have fk0 : w3.frozen? ⟨w.heap.size + 1, 0, none⟩ = false := free_at 0 HK3.zero
              have fk1 : w3.frozen? ⟨w.heap.size + 1, 1, none⟩ = false := free_at 1 HK3.zero
              have fk2 : w3.frozen? ⟨w.heap.size + 1, 2, none⟩ = false := free_at 2 HK3.zero
              have HK3' := Hid.mk' HK3
              have H73' := Hid.mk' H73
              have HS3' := Hid.mk' HS3
              have HP3' := Hid.mk' HP3
              have HW3 := Hid.mk' (And.intro how hbw)
              have hne : w.heap.size + 1 ≠ B7 := by omega
              have hne' : B7 ≠ w.heap.size + 1 := by omega
              clear g3 HK3 H73 HS3 HP3 how hbw hON a0
              go_wp2_with fail
              obtain ⟨PL, hPL⟩ : ∃ PL, PL = VP.ptsN VP.TO.bytes toPt plP Pt.key splS rgS f.2.1 f.1 := ⟨_, rfl⟩
              obtain ⟨WL, hWL⟩ : ∃ WL, WL = VP.ssort toPt f.2.2 := ⟨_, rfl⟩
              rw [← hPL] at HP3' H73'
              rw [← hWL] at HW3
              rw [← hPL, ← hWL]
              obtain ⟨w4, hw4⟩ : ∃ w4, w3.setCell ⟨B7, 2, none⟩ (.slice Aw WL.length cw) = w4 := ⟨_, rfl⟩
              have g4 : w3.grownBy w4 (some B7) := by rw [← hw4]; exact grownBy_setCell_at _ _ _ _
              have hz4 : w4.heap[w.heap.size + 1]? = some (.cells #[.slice none 0 0, .slice none 0 0, .slice none 0 0] 25 (0, 0)) := (g4.block _ (Array.getElem?_eq_some_iff.1 HK3'.out.zero).1 (fun e => hne (Option.some.inj e))).trans HK3'.out.zero
              rw [hw4]
              obtain ⟨w5, hw5⟩ : ∃ w5, ((w4.setCell ⟨w.heap.size + 1, 0, none⟩ (.slice Ap PL.length cp)).setCell ⟨w.heap.size + 1, 1, none⟩ (.slice AS sps.length cS)).setCell ⟨w.heap.size + 1, 2, none⟩ (.slice Aw WL.length cw) = w5 := ⟨_, rfl⟩
              have hz5 : w5.heap[w.heap.size + 1]? = some (.cells #[.slice Ap PL.length cp, .slice AS sps.length cS, .slice Aw WL.length cw] 25 (0, 0)) := by
                rw [← hw5]
                exact heap_setCell_at _ (heap_setCell_at _ (heap_setCell_at _ hz4))
              have g5 : w4.grownBy w5 (some (w.heap.size + 1)) := by
                rw [← hw5]
                exact ((grownBy_setCell_at _ _ _ _).andThen (grownBy_setCell_at _ _ _ _) (fun j e => .inr e)).andThen (grownBy_setCell_at _ _ _ _) (fun j e => .inr e)
              rw [hw5]
              have v0 : w5.cell? ⟨w.heap.size + 1, 0, none⟩ = some (.slice Ap PL.length cp) := cell_at hz5 rfl
              have v1 : w5.cell? ⟨w.heap.size + 1, 1, none⟩ = some (.slice AS sps.length cS) := cell_at hz5 rfl
              have v2 : w5.cell? ⟨w.heap.size + 1, 2, none⟩ = some (.slice Aw WL.length cw) := cell_at hz5 rfl
              have n7b : ∀ (o : Obj), w3.heap[B7]? = some o → True := fun _ _ => trivial
              have hs1 := HP3'.out.kept g4 (ownsRow_ne_a HP3'.out H73'.out (fun cur e => by cases e))
              have hs2 := HS3'.out.kept g4 (ownsRow_ne_a HS3'.out H73'.out (fun cur e => by cases e))
              have hs3 := HW3.out.1.kept g4 (ownsRow_ne_a HW3.out.1 H73'.out (fun cur e => by cases e))
              have h1 := Hid.mk' (hs1.kept g5 (ownsRow_ne_a hs1 hz4 (fun cur e => by cases e)))
              have h2 := Hid.mk' (hs2.kept g5 (ownsRow_ne_a hs2 hz4 (fun cur e => by cases e)))
              have h3 := Hid.mk' (hs3.kept g5 (ownsRow_ne_a hs3 hz4 (fun cur e => by cases e)))
              have hkz := HK1.out.size
              have hkw := HKP.out.size
              have HBE : Hid (Below w.heap.size w w5) := (HK3'.out.below.grown g4 (by have := HK3'.out.size; omega) (fun q e => by cases e; omega)).grown g5 (by have := HK3'.out.size; have := g4.size; omega) (fun q e => by cases e; omega)
              have HPL := Hid.mk' hPL
              have HWL := Hid.mk' hWL
              clear hw5 hw4 g5 g4 hz4 hs1 hs2 hs3 n7b hPL hWL m0 m1 m2 fm2 k0 k1 k2 fk0 fk1 fk2
              refine bodyPost_ret (results_cell_row rfl _ _ (w.heap.size + 1) 25 _ (0, 0) _ rfl hz5 Tryz.underlying25 rfl (by kernel_rfl)) rfl ?_
              refine ⟨_, rfl, ⟨_, _, _, rfl, ?_, ?_, ?_⟩, HBE.out⟩
              · have e : (normF f).1 = PL := HPL.out.symm
                rw [e]; exact h1.out.lower (by omega)
              · have e : (normF f).2.1 = sps := HSPS.out.symm
                rw [e]; exact h2.out.lower (by omega)
              · have e : (normF f).2.2 = WL := HWL.out.symm
                rw [e]; exact h3.out.lower (by omega)
end Go.Proofs.YtpbmcaidkjlokaaGreat
