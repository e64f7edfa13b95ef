/- The union of ranges. -/
import Derived.Test.YtpbmcaidkjlokaaGreatLRn
import Derived.Test.YtpbmcaidkjlokaaGreatUr
import Derived.Test.YtpbmcaidkjlokaaGreatSo
import Derived.Test.YtpbmcaidkjlokaaGreatBd
namespace Go.Proofs.YtpbmcaidkjlokaaGreat
open Go.RowKit Go.Sort

def loOrd (x y : Rn) : Int := Lib.compareBytes x.lo.data.toList y.lo.data.toList
theorem cmp_less : ∀ a b : List UInt8, Lib.compareBytes a b = if Op.bytesLess a b = true then -1 else if Op.bytesLess b a = true then 1 else 0
  | [], [] => by simp [Lib.compareBytes, Op.bytesLess]
  | [], _ :: _ => by simp [Lib.compareBytes, Op.bytesLess]
  | _ :: _, [] => by simp [Lib.compareBytes, Op.bytesLess]
  | a :: l, b :: m => by
    unfold Lib.compareBytes
    rw [cmp_less l m]
    simp only [Op.bytesLess]
    by_cases h : a < b
    · simp [h]
    · by_cases h2 : b < a
      · have : ¬ a = b := fun e => by subst e; exact h h2
        simp [h, h2, this]
      · have e : a = b := UInt8.le_antisymm (UInt8.not_lt.1 h2) (UInt8.not_lt.1 h)
        subst e
        simp
theorem cmp_str (a b : ByteArray) : Lib.compareBytes a.data.toList b.data.toList = if VP.TO.bytes.lt a b = true then -1 else if VP.TO.bytes.lt b a = true then 1 else 0 := by
  rw [cmp_less, VP.TO.bytes_lt, VP.TO.bytes_lt, Go.ByteArray.toList_eq, Go.ByteArray.toList_eq]
theorem lo_lt (x y : Rn) : ltOf loOrd x y = VP.TO.bytes.lt x.lo y.lo := by
  unfold ltOf loOrd
  rw [cmp_str]
  cases h : VP.TO.bytes.lt x.lo y.lo
  · cases h2 : VP.TO.bytes.lt y.lo x.lo <;> simp
  · simp
theorem lo_swo : SWO (ltOf loOrd) where
  irrefl x := by rw [lo_lt]; exact VP.TO.bytes.irr _
  trans x y z h1 h2 := by rw [lo_lt] at *; exact VP.TO.bytes.tr h1 h2
  ntrans x y z h1 h2 := by rw [lo_lt] at *; exact VP.TO.bytes.le_trans h2 h1
def sortLo (l : List Rn) : List Rn := l.mergeSort fun a b => !VP.TO.bytes.lt b.lo a.lo
theorem sortLo_perm (l : List Rn) : (sortLo l).Perm l := List.mergeSort_perm _ _
theorem sortLo_sorted (l : List Rn) : VP.SortedLo VP.TO.bytes (sortLo l) := by
  have := List.pairwise_mergeSort (le := fun a b : Rn => !VP.TO.bytes.lt b.lo a.lo) (by intro a b c h1 h2; simp at *; exact VP.TO.bytes.le_trans h1 h2) (by
    intro a b
    cases h : VP.TO.bytes.lt b.lo a.lo
    · simp
    · simp [VP.TO.bytes.asym h]) l
  exact this.imp (by intro a b h; simpa using h)
/-- The union: what the merge makes of the sorted ranges that hold something. -/
def unionP (l : List Rn) : List Rn := VP.uMerge VP.TO.bytes ByteArray.empty (sortLo (l.filter fun x => !empB x))

theorem Own.last {α : Type} {enc : α → List Value} {k : Nat} (hk : ∀ x, (enc x).length = k) {e : TypeId} {base g n cap : Nat} {w : World} {l : List α} {x : α} (h : Own enc k e base w (.slice (some ⟨g, 0, none⟩) n cap) (l ++ [x])) {i : Nat} {v : Value} (hv : (enc x)[i]? = some v) : w.cell? ⟨g, l.length * k + i, none⟩ = some v := by
  have hn : n = (l ++ [x]).length := by
    rcases h.2 with ⟨h', _⟩ | ⟨g', cap', cur, h', _⟩
    · simp at h'
    · simp only [Value.slice.injEq] at h'; exact h'.2.1
  subst hn
  have hi : i < k := by
    have := (List.getElem?_eq_some_iff.1 hv).1
    rwa [hk] at this
  have hc := World.ownsRow.cellAt h (l.length * k + i) (by rw [List.length_append, Nat.add_mul]; simp; omega)
  rw [hc, flatMap_get hk (l ++ [x]) l.length x i (by simp) hi]
  exact hv
theorem Own.setLast {α : Type} {enc : α → List Value} {k : Nat} (hk : ∀ x, (enc x).length = k) {e : TypeId} {base g n cap : Nat} {w : World} {l : List α} {x y : α} (h : Own enc k e base w (.slice (some ⟨g, 0, none⟩) n cap) (l ++ [x])) {i : Nat} {v : Value} (hv : enc y = (enc x).set i v) : Own enc k e base (w.setCell ⟨g, l.length * k + i, none⟩ v) (.slice (some ⟨g, 0, none⟩) n cap) (l ++ [y]) ∧ w.grownBy (w.setCell ⟨g, l.length * k + i, none⟩ v) (some g) := by
  have hn : n = (l ++ [x]).length := by
    rcases h.2 with ⟨h', _⟩ | ⟨g', cap', cur, h', _⟩
    · simp at h'
    · simp only [Value.slice.injEq] at h'; exact h'.2.1
  subst hn
  have hs := own_stores (p := l.length * k + i) h [v]
  refine ⟨?_, hs.2⟩
  have e1 : setL [v] (l.length * k + i) ((l ++ [x]).flatMap enc) = (l ++ [y]).flatMap enc := by
    simp only [setL, List.flatMap_append, List.flatMap_cons, List.flatMap_nil, List.append_nil]
    rw [List.set_append_right _ _ (by rw [flatMap_len hk]; omega), flatMap_len hk, Nat.add_sub_cancel_left, hv]
  have e2 : (l ++ [y]).length = (l ++ [x]).length := by simp
  have := hs.1
  rw [e1] at this
  show World.ownsRow _ _ _ _ _ _ _
  rw [e2]
  exact this
theorem own_some {α : Type} {enc : α → List Value} {k : Nat} {e : TypeId} {base : Nat} {w : World} {v : Value} {l : List α} (h : Own enc k e base w v l) (hl : l ≠ []) : ∃ g cap, v = .slice (some ⟨g, 0, none⟩) l.length cap ∧ base ≤ g ∧ g < w.heap.size := by
  rcases h.2 with ⟨_, h'⟩ | ⟨g, cap, cur, h', hb, hg, _⟩
  · exact absurd (List.eq_nil_of_length_eq_zero h') hl
  · exact ⟨g, cap, h', hb, (Array.getElem?_eq_some_iff.1 hg).1⟩
theorem new_cells {w : World} {cs : Array Value} {e : TypeId} {n : Nat} {l : List Value} (h : w.heap.size = n) (hl : cs.toList = l) : ∀ j u, l[j]? = some u → (w.alloc (.cells cs e)).cell? (Addr.add ⟨n, 0, none⟩ j) = some u := by
  intro j u hj
  subst h hl
  rw [Addr.add_lit, Nat.zero_add]
  have : cs[j]? = some u := by simpa using hj
  simp [this]
theorem own_snoc {α : Type} {enc : α → List Value} {k : Nat} {e : TypeId} {base : Nat} {w : World} {v : Value} {l : List α} {x : α} (h : w.ownsRow base e k v (l.length + 1) (l.flatMap enc ++ enc x)) : Own enc k e base w v (l ++ [x]) := by
  unfold Own
  rw [List.length_append, List.flatMap_append, List.flatMap_cons, List.flatMap_nil, List.append_nil]
  exact h
theorem run_max_str (P : Program) (ty : TypeId) (ats : Array TypeId) (a b : ByteArray) (w : World) : (Builtin.max_ ats ty #[.string a, .string b]).run P w = .ok (.string (if VP.TO.bytes.lt a b = true then b else a)) w := by
  cases h : Op.bytesLess a.toList b.toList <;> simp [Builtin.max_, Builtin.max2, VP.TO.bytes_lt, Op.stringOp, asBool, h]
theorem own_setAfter {α : Type} {enc : α → List Value} {k : Nat} (hk : ∀ x, (enc x).length = k) {e : TypeId} {base g n cap : Nat} {wr : World} {l : List α} {x y : α} (h : Own enc k e base wr (.slice (some ⟨g, 0, none⟩) n cap) (l ++ [x])) (o : Obj) (q : Nat) {i : Nat} {v : Value} (hv : enc y = (enc x).set i v) {m : Nat} (hm : m = l.length) :
    Own enc k e base (((wr.alloc o).drewN q).setCell ⟨g, m * k + i, none⟩ v) (.slice (some ⟨g, 0, none⟩) n cap) (l ++ [y]) ∧ wr.grownBy (((wr.alloc o).drewN q).setCell ⟨g, m * k + i, none⟩ v) (some g) := by
  subst hm
  have h0 : wr.grownBy ((wr.alloc o).drewN q) none := ⟨rfl, rfl, rfl, by simp, fun j hj _ => Below.heap_alloc _ _ j hj⟩
  have h1 := (h.kept h0 (by simp [Value.ownBlock])).setLast hk hv
  exact ⟨h1.1, h1.2.os.trans h0.os, h1.2.tape.trans h0.tape, h1.2.output.trans h0.output, Nat.le_trans h0.size h1.2.size, fun j hj hne => (h1.2.block j (Nat.lt_of_lt_of_le hj h0.size) hne).trans (h0.block j hj (by simp))⟩
def accL (ys : List Rn) (k : Nat) : List Rn := (ys.take k).foldl (VP.uStep VP.TO.bytes ByteArray.empty) []
theorem accL_succ (ys : List Rn) (k : Nat) (r : Rn) (h : ys[k]? = some r) : accL ys (k + 1) = VP.uStep VP.TO.bytes ByteArray.empty (accL ys k) r := by
  have hk : k < ys.length := (List.getElem?_eq_some_iff.1 h).1
  have e : ys[k] = r := (List.getElem?_eq_some_iff.1 h).2
  unfold accL
  rw [List.take_succ_eq_append_getElem hk, List.foldl_append, e]; rfl
theorem uStep_len (acc : List Rn) (r : Rn) : (VP.uStep VP.TO.bytes ByteArray.empty acc r).length ≤ acc.length + 1 := by
  cases acc with
  | nil => simp [VP.uStep]
  | cons a t => simp only [VP.uStep]; split <;> (try split) <;> (try split) <;> simp
theorem accL_len (ys : List Rn) : ∀ k, k ≤ ys.length → (accL ys k).length ≤ k
  | 0, _ => by simp [accL]
  | k + 1, h => by
    rw [accL_succ ys k ys[k] (List.getElem?_eq_getElem (by omega))]
    have := uStep_len (accL ys k) ys[k]
    have := accL_len ys k (by omega)
    omega

theorem emp_pred (B : Nat) (w : World) (_hB : B ≤ w.heap.size) : PredB Tryz.prog 71 #[] eRn empB B w := fun W x _ => by
  refine (empty_calls x W).mono ?_
  rintro e w' ⟨rfl, o, rfl⟩
  exact ⟨rfl, (Below.refl _ W).alloc (Nat.le_refl _) _⟩

theorem sort_Rn (base : Nat) (v : Value) (xs : List Rn) (w : World) (h : Own eRn 3 44 base w v xs) (hsz : xs.length < 4611686018427387904) :
    Calls Tryz.prog 72 #[v, .func (.func 73) #[] #[]] w fun ex w' =>
      ex = .returned (.tuple #[]) ∧ ∃ ys, ys.Perm xs ∧ VP.SortedLo VP.TO.bytes ys ∧ Own eRn 3 44 base w' v ys ∧ w.grownBy w' v.ownBlock := by
  have eg : ∀ args w, (callFunc 73 args).run Tryz.prog w = .ok (.enter 73 args) w := enters_of Tryz.func73 (by kernel_rfl) rfl
  have := sort_own Tryz.sortRn Tryz.isAgg44 Tryz.sizeOf44 eRn_len eRn_one loOrd lo_swo 73 #[] v eg (fun x y W => by
    refine (byLo x y W).mono ?_
    rintro e w' ⟨rfl, o1, o2, rfl⟩
    exact ⟨rfl, 0, _, by rw [alloc_eq_grow, alloc_eq_grow, grow_grow]; rfl⟩) h hsz
  refine Calls.mono this ?_
  rintro ex w' ⟨h1, ys, h2, h3, h4, h5⟩
  exact ⟨h1, ys, h2, h3.imp (fun {a b} e => by rw [lo_lt] at e; exact e), h4, h5⟩

set_option maxHeartbeats 2000000 in
set_option maxRecDepth 100000 in
theorem union_calls (A : Option Addr) (c : Nat) (xs : List Rn) (w : World) (h : RowIn eRn 3 w A xs) (hby : xs.length * 40 ≤ 140737488355328) :
    Calls Tryz.prog 51 #[.slice A xs.length c] w fun e w' => ∃ v, e = .returned v ∧ Own eRn 3 44 w.heap.size w' v (unionP xs) ∧ Below w.heap.size w w' := by
  have HC := clone_Rn A c xs w h hby
  clear h
  go_enter Tryz.func51, Tryz.ntmps51
  go_wp2_with fail
  refine HC.mono ?_
  rintro e w1 ⟨v1, rfl, ho1, hb1⟩
  have HD := deleteFunc_Rn empB 71 #[] (enters_of Tryz.func71 (by kernel_rfl) rfl) w.heap.size v1 xs w1 (emp_pred _ _ hb1.size) hb1.size ho1
  have HB1 := Hid.mk' hb1
  clear hb1 ho1 HC
  go_wp2_with fail
  refine HD.mono ?_
  rintro e w2 ⟨v2, rfl, ho2, hb2⟩
  have hlen : (xs.filter fun x => !empB x).length ≤ xs.length := List.length_filter_le _ _
  have HS := sort_Rn w.heap.size v2 _ w2 ho2 (by omega)
  have HB2 := Hid.mk' (HB1.out.trans hb2)
  have HO2 := Hid.mk' ho2
  have HSZ2 : Hid (w.heap.size ≤ w2.heap.size) := Nat.le_trans HB1.out.size hb2.size
  clear hb2 ho2 HD HB1
  go_wp2_with fail
  refine HS.mono ?_
  rintro e w3 ⟨rfl, ys, hperm, hsort, ho3, hgr3⟩
  obtain ⟨A2, c2, rfl, hc2⟩ := ho3.shape
  obtain ⟨-, hrow⟩ := ho3.row eRn_len
  have hyl : ys.length = (xs.filter fun x => !empB x).length := hperm.length_eq
  have HR := Hid.mk' hrow
  have HP := Hid.mk' (And.intro hperm hsort)
  have HSZ : Hid (w.heap.size ≤ w3.heap.size) := Nat.le_trans HSZ2.out hgr3.size
  have HB3 : Hid (Below w.heap.size w w3) := HB2.out.grown hgr3 HSZ2.out (fun q hq => (World.ownsRow.lt HO2.out q hq).1)
  have hyb : ys.length * 40 ≤ 140737488355328 := by omega
  clear hrow ho3 hgr3 hperm hsort hyl hlen hby HB2 HO2 HSZ2 HS
  have hmx := run_max_str Tryz.prog
  obtain ⟨i0, hi, hz0, hz1, hz2⟩ := info_parts info_Rn
  go_wp2_with fail
  go_loopw [4, 15] (fun s4 s15 wr => ∃ k : Nat, k ≤ ys.length ∧ s15 = .int .i64 k ∧ Hid (Own eRn 3 44 w3.heap.size wr s4 (accL ys k).reverse) ∧ Hid (Below w3.heap.size w3 wr) ∧ Hid (w3.heap.size ≤ wr.heap.size)) (fun _ s15 _ => ys.length - (intOf s15).toNat)
  case atStart => exact ⟨0, Nat.zero_le _, rfl, Own.nil _ _ _, Below.refl _ _, Nat.le_refl _⟩
  case round =>
    obtain ⟨k, hk, rfl, HW, HB, HG⟩ := hrel
    by_cases hlt : k < ys.length
    · have hltz : (k : Int) < (ys.length : Int) := by omega
      obtain ⟨r, hr⟩ : ∃ r, ys[k]? = some r := ⟨_, List.getElem?_eq_getElem hlt⟩
      obtain ⟨b, off, rfl, hbl, hcell⟩ := HR.out.at_ hlt
      have er : ys[k] = r := (List.getElem?_eq_some_iff.1 hr).2
      rw [er] at hcell
      have hcw : ∀ q v, (eRn r)[q]? = some v → wr.cell? ⟨b, off + k * 3 + q, none⟩ = some v := fun q v hv => (HB.out.cell (p := ⟨b, _, none⟩) hbl).trans (hcell q v hv)
      have c0 : wr.cell? ⟨b, off + k * 3, none⟩ = some (.string r.lo) := hcw 0 _ rfl
      have c1 : wr.cell? ⟨b, off + k * 3 + 1, none⟩ = some (.string r.hi) := hcw 1 _ rfl
      have c2 : wr.cell? ⟨b, off + k * 3 + 2, none⟩ = some (.bool r.op) := hcw 2 _ rfl
      have HA := Hid.mk' (accL_succ ys k r hr)
      have hal := accL_len ys k hk
      clear hcell hcw er hr
      obtain ⟨L, hL⟩ : ∃ L, accL ys k = L := ⟨_, rfl⟩
      rw [hL] at HW HA hal
      clear hL
      obtain ⟨rlo, rhi, rop⟩ := r
      simp only at c0 c1 c2
      cases L with
      | nil =>
        obtain ⟨A4, c4, rfl, hc4⟩ := HW.out.shape
        have hown := HW.out
        clear HW
        cases rop
        · go_wp2_with (at_builtin; go_loud (refine wpList_append_own _ rfl _ _ 70 rfl w3.heap.size 44 i0 _ 3 40 Tryz.underlying70 hi hz0 hz1 hz2 rfl (by decide) _ _ _ rfl ((World.ownsRow.alloc hown _).alloc _) ⟨wr.heap.size + 1, 0, none⟩ 1 1 (eRn ⟨rlo, rhi, false⟩) rfl rfl (new_cells (World.size_alloc _ _) rfl) (eRn_one _) (by unfold maxLen; first | omega | (simp; done) | (simp; omega)) (by first | omega | (simp; done) | (simp; omega)) (by have := HG.out; simp; omega) ?_))
          intro v' w4 hown4 hgr4 _
          have HOW := Hid.mk' hown4
          have HGW := Hid.mk' hgr4
          clear hown4 hgr4
          go_wp2
          go_roundw
          case rel =>
            have ha : (accL ys (k + 1)).reverse = ([] : List Rn).reverse ++ [VP.nz ByteArray.empty ⟨rlo, rhi, false⟩] := by rw [HA.out]; rfl
            have ho4 : Own eRn 3 44 w3.heap.size w4 v' (accL ys (k + 1)).reverse := by rw [ha]; exact own_snoc HOW.out
            refine ⟨k + 1, by omega, by go_num, ho4, ?_, ?_⟩
            · exact ((HB.out.alloc HG.out _).alloc (by have := HG.out; simp; omega) _).grown HGW.out (by have := HG.out; simp; omega) (fun q hq => (World.ownsRow.lt (hown) q hq).1)
            · have h1 := HGW.out.size; have h2 := HG.out; simp at h1; show _ ≤ _; omega
          case measure => simp [intOf]; omega
        · go_wp2_with (at_builtin; go_loud (refine wpList_append_own _ rfl _ _ 70 rfl w3.heap.size 44 i0 _ 3 40 Tryz.underlying70 hi hz0 hz1 hz2 rfl (by decide) _ _ _ rfl ((World.ownsRow.alloc hown _).alloc _) ⟨wr.heap.size + 1, 0, none⟩ 1 1 (eRn ⟨rlo, ⟨#[]⟩, true⟩) rfl rfl (new_cells (World.size_alloc _ _) rfl) (eRn_one _) (by unfold maxLen; first | omega | (simp; done) | (simp; omega)) (by first | omega | (simp; done) | (simp; omega)) (by have := HG.out; simp; omega) ?_))
          intro v' w4 hown4 hgr4 _
          have HOW := Hid.mk' hown4
          have HGW := Hid.mk' hgr4
          clear hown4 hgr4
          go_wp2
          go_roundw
          case rel =>
            have ha : (accL ys (k + 1)).reverse = ([] : List Rn).reverse ++ [VP.nz ByteArray.empty ⟨rlo, rhi, true⟩] := by rw [HA.out]; rfl
            have ho4 : Own eRn 3 44 w3.heap.size w4 v' (accL ys (k + 1)).reverse := by rw [ha]; exact own_snoc HOW.out
            refine ⟨k + 1, by omega, by go_num, ho4, ?_, ?_⟩
            · exact ((HB.out.alloc HG.out _).alloc (by have := HG.out; simp; omega) _).grown HGW.out (by have := HG.out; simp; omega) (fun q hq => (World.ownsRow.lt (hown) q hq).1)
            · have h1 := HGW.out.size; have h2 := HG.out; simp at h1; show _ ≤ _; omega
          case measure => simp [intOf]; omega
      | cons last t =>
        obtain ⟨g, cap, rfl, hg1, hg2⟩ := own_some HW.out (by simp)
        obtain ⟨llo, lhi, lop⟩ := last
        have hwn := HW.out
        rw [List.reverse_cons] at hwn
        have d0 : wr.cell? ⟨g, t.length * 3, none⟩ = some (.string llo) := by have := hwn.last eRn_len (i := 0) rfl; rwa [List.length_reverse] at this
        have d1 : wr.cell? ⟨g, t.length * 3 + 1, none⟩ = some (.string lhi) := by have := hwn.last eRn_len (i := 1) rfl; rwa [List.length_reverse] at this
        have d2 : wr.cell? ⟨g, t.length * 3 + 2, none⟩ = some (.bool lop) := by have := hwn.last eRn_len (i := 2) rfl; rwa [List.length_reverse] at this
        have f1 : wr.frozen? ⟨g, t.length * 3 + 1, none⟩ = false := World.ownsRow.frozenAt HW.out _
        have f2 : wr.frozen? ⟨g, t.length * 3 + 2, none⟩ = false := World.ownsRow.frozenAt HW.out _
        have hgne : g ≠ wr.heap.size := by omega
        have hown : Hid (wr.ownsRow w3.heap.size 44 3 (.slice (some ⟨g, 0, none⟩) (t.length + 1) cap) (t.length + 1) ((⟨llo, lhi, lop⟩ :: t : List Rn).reverse.flatMap eRn)) := by
          have := HW.out
          unfold Own at this
          rw [show (⟨llo, lhi, lop⟩ :: t : List Rn).reverse.length = t.length + 1 from by simp] at this
          exact this
        have HWN := Hid.mk' hwn
        clear HW hwn
        simp only [List.length_cons] at hal
        rw [show (⟨llo, lhi, lop⟩ :: t : List Rn).reverse.length = t.length + 1 from by simp]
        cases rop
        · cases lop
          · cases hlt2 : VP.TO.bytes.lt lhi rlo
            · have hor : Op.bytesLess rlo.toList lhi.toList = true ∨ (Op.bytesLess rlo.toList lhi.toList = false ∧ (rlo.toList == lhi.toList) = true) := by
                cases h3 : Op.bytesLess rlo.toList lhi.toList
                · right
                  exact ⟨rfl, beq_iff_eq.2 (congrArg ByteArray.toList (VP.TO.bytes.tri (a := rlo) (b := lhi) h3 hlt2))⟩
                · exact Or.inl rfl
              have HL : Hid (VP.TO.bytes.lt lhi rlo = false) := hlt2
              rw [VP.TO.bytes_lt] at hlt2
              rcases hor with h3 | ⟨h3, h4⟩
              · go_wp2_with fail
                go_quiet (fail)
                go_wp2_with fail
                go_region
                go_wp2_with fail
                go_roundw
                case rel =>
                  have hst := own_setAfter eRn_len HWN.out (.cells #[.string rlo, .string rhi, .bool false] 44) (nq + 1) (i := 1) (v := .string (if VP.TO.bytes.lt lhi rhi = true then rhi else lhi)) (y := ⟨llo, if VP.TO.bytes.lt lhi rhi = true then rhi else lhi, false⟩) rfl (m := t.length) (by simp)
                  have ha : (accL ys (k + 1)).reverse = t.reverse ++ [⟨llo, if VP.TO.bytes.lt lhi rhi = true then rhi else lhi, false⟩] := by rw [HA.out]; simp [VP.uStep, HL.out]
                  refine ⟨k + 1, by omega, by go_num, ?_, ?_, ?_⟩
                  · have := hst.1
                    rw [← ha] at this
                    exact Hid.mk' (by simpa using this)
                  · exact HB.out.trans ⟨hst.2.os, hst.2.tape, hst.2.output, hst.2.size, fun q hq => hst.2.block q (by have := HG.out; omega) (fun e => by cases e; omega)⟩
                  · show _ ≤ _; have := hst.2.size; have := HG.out; omega
                case measure => simp [intOf]; omega
              · go_wp2_with fail
                go_quiet (fail)
                go_wp2_with fail
                go_region
                go_wp2_with fail
                go_roundw
                case rel =>
                  have hst := own_setAfter eRn_len HWN.out (.cells #[.string rlo, .string rhi, .bool false] 44) (nq + 1) (i := 1) (v := .string (if VP.TO.bytes.lt lhi rhi = true then rhi else lhi)) (y := ⟨llo, if VP.TO.bytes.lt lhi rhi = true then rhi else lhi, false⟩) rfl (m := t.length) (by simp)
                  have ha : (accL ys (k + 1)).reverse = t.reverse ++ [⟨llo, if VP.TO.bytes.lt lhi rhi = true then rhi else lhi, false⟩] := by rw [HA.out]; simp [VP.uStep, HL.out]
                  refine ⟨k + 1, by omega, by go_num, ?_, ?_, ?_⟩
                  · have := hst.1
                    rw [← ha] at this
                    exact Hid.mk' (by simpa using this)
                  · exact HB.out.trans ⟨hst.2.os, hst.2.tape, hst.2.output, hst.2.size, fun q hq => hst.2.block q (by have := HG.out; omega) (fun e => by cases e; omega)⟩
                  · show _ ≤ _; have := hst.2.size; have := HG.out; omega
                case measure => simp [intOf]; omega
            · have h3 : Op.bytesLess rlo.toList lhi.toList = false := VP.TO.bytes.asym hlt2
              have h4 : (rlo.toList == lhi.toList) = false := by
                rw [beq_eq_false_iff_ne]
                intro e
                have := VP.toList_inj _ _ e
                subst this
                rw [VP.TO.bytes.irr] at hlt2; cases hlt2
              go_wp2_with fail
              go_quiet (fail)
              go_wp2_with (at_builtin; go_loud (refine wpList_append_own _ rfl _ _ 70 rfl w3.heap.size 44 i0 _ 3 40 Tryz.underlying70 hi hz0 hz1 hz2 rfl (by decide) _ (t.length + 1) _ rfl ((own_drewN (World.ownsRow.alloc hown.out _) _).alloc _) ⟨wr.heap.size + 1, 0, none⟩ 1 1 (eRn ⟨rlo, rhi, false⟩) rfl rfl (new_cells (by simp) rfl) (eRn_one _) (by unfold maxLen; first | omega | (simp; done) | (simp; omega)) (by first | omega | (simp; done) | (simp; omega)) (by have := HG.out; simp; omega) ?_))
              intro v' w4 hown4 hgr4 _
              have HOW := Hid.mk' hown4
              have HGW := Hid.mk' hgr4
              clear hown4 hgr4
              go_wp2
              go_roundw
              case rel =>
                have ha : (accL ys (k + 1)).reverse = (⟨llo, lhi, false⟩ :: t : List Rn).reverse ++ [VP.nz ByteArray.empty ⟨rlo, rhi, false⟩] := by rw [HA.out]; simp [VP.uStep, hlt2]
                have ho4 : Own eRn 3 44 w3.heap.size w4 v' (accL ys (k + 1)).reverse := by rw [ha]; refine own_snoc ?_; rw [show (⟨llo, lhi, false⟩ :: t : List Rn).reverse.length = t.length + 1 from by simp, List.reverse_cons, List.flatMap_append, List.append_assoc]; exact HOW.out
                refine ⟨k + 1, by omega, by go_num, ho4, ?_, ?_⟩
                · exact ((below_drewN' (HB.out.alloc HG.out _) _).alloc (by have := HG.out; simp; omega) _).grown HGW.out (by have := HG.out; simp; omega) (fun q hq => (World.ownsRow.lt (hown.out) q hq).1)
                · have h1 := HGW.out.size; have h2 := HG.out; simp at h1; show _ ≤ _; omega
              case measure => simp [intOf]; omega
          · go_wp2_with fail
            go_roundw
            case rel =>
              have ha : accL ys (k + 1) = ⟨llo, lhi, true⟩ :: t := by rw [HA.out]; simp [VP.uStep]
              refine ⟨k + 1, by omega, by go_num, ?_, HB.out.alloc HG.out _, ?_⟩
              · have := World.ownsRow.alloc hown.out (.cells #[.string rlo, .string rhi, .bool false] 44)
                refine Hid.mk' ?_
                rw [ha]
                simpa [Own] using this
              · show _ ≤ _; have := HG.out; simp; omega
            case measure => simp [intOf]; omega
        · cases lop
          · cases hlt2 : VP.TO.bytes.lt lhi rlo
            · have hor : Op.bytesLess rlo.toList lhi.toList = true ∨ (Op.bytesLess rlo.toList lhi.toList = false ∧ (rlo.toList == lhi.toList) = true) := by
                cases h3 : Op.bytesLess rlo.toList lhi.toList
                · right
                  exact ⟨rfl, beq_iff_eq.2 (congrArg ByteArray.toList (VP.TO.bytes.tri (a := rlo) (b := lhi) h3 hlt2))⟩
                · exact Or.inl rfl
              have HL : Hid (VP.TO.bytes.lt lhi rlo = false) := hlt2
              rw [VP.TO.bytes_lt] at hlt2
              rcases hor with h3 | ⟨h3, h4⟩
              · go_wp2_with fail
                go_quiet (fail)
                go_wp2_with fail
                go_roundw
                case rel =>
                  have hst0 := own_setAfter eRn_len HWN.out (.cells #[.string rlo, .string ⟨#[]⟩, .bool true] 44) nq (i := 2) (v := .bool true) (y := ⟨llo, lhi, true⟩) rfl (m := t.length) (by simp)
                  have hst1 := hst0.1.setLast eRn_len (i := 1) (v := .string ⟨#[]⟩) (y := ⟨llo, ⟨#[]⟩, true⟩) rfl
                  rw [List.length_reverse] at hst1
                  have hst : _ ∧ wr.grownBy _ (some g) := ⟨hst1.1, hst1.2.os.trans hst0.2.os, hst1.2.tape.trans hst0.2.tape, hst1.2.output.trans hst0.2.output, Nat.le_trans hst0.2.size hst1.2.size, fun j hj hne => (hst1.2.block j (Nat.lt_of_lt_of_le hj hst0.2.size) hne).trans (hst0.2.block j hj hne)⟩
                  have ha : (accL ys (k + 1)).reverse = t.reverse ++ [⟨llo, ⟨#[]⟩, true⟩] := by rw [HA.out]; simp [VP.uStep, HL.out]; rfl
                  refine ⟨k + 1, by omega, by go_num, ?_, ?_, ?_⟩
                  · have := hst.1
                    rw [← ha] at this
                    exact Hid.mk' (by simpa using this)
                  · exact HB.out.trans ⟨hst.2.os, hst.2.tape, hst.2.output, hst.2.size, fun q hq => hst.2.block q (by have := HG.out; omega) (fun e => by cases e; omega)⟩
                  · show _ ≤ _; have := hst.2.size; have := HG.out; omega
                case measure => simp [intOf]; omega
              · go_wp2_with fail
                go_quiet (fail)
                go_wp2_with fail
                go_roundw
                case rel =>
                  have hst0 := own_setAfter eRn_len HWN.out (.cells #[.string rlo, .string ⟨#[]⟩, .bool true] 44) nq (i := 2) (v := .bool true) (y := ⟨llo, lhi, true⟩) rfl (m := t.length) (by simp)
                  have hst1 := hst0.1.setLast eRn_len (i := 1) (v := .string ⟨#[]⟩) (y := ⟨llo, ⟨#[]⟩, true⟩) rfl
                  rw [List.length_reverse] at hst1
                  have hst : _ ∧ wr.grownBy _ (some g) := ⟨hst1.1, hst1.2.os.trans hst0.2.os, hst1.2.tape.trans hst0.2.tape, hst1.2.output.trans hst0.2.output, Nat.le_trans hst0.2.size hst1.2.size, fun j hj hne => (hst1.2.block j (Nat.lt_of_lt_of_le hj hst0.2.size) hne).trans (hst0.2.block j hj hne)⟩
                  have ha : (accL ys (k + 1)).reverse = t.reverse ++ [⟨llo, ⟨#[]⟩, true⟩] := by rw [HA.out]; simp [VP.uStep, HL.out]; rfl
                  refine ⟨k + 1, by omega, by go_num, ?_, ?_, ?_⟩
                  · have := hst.1
                    rw [← ha] at this
                    exact Hid.mk' (by simpa using this)
                  · exact HB.out.trans ⟨hst.2.os, hst.2.tape, hst.2.output, hst.2.size, fun q hq => hst.2.block q (by have := HG.out; omega) (fun e => by cases e; omega)⟩
                  · show _ ≤ _; have := hst.2.size; have := HG.out; omega
                case measure => simp [intOf]; omega
            · have h3 : Op.bytesLess rlo.toList lhi.toList = false := VP.TO.bytes.asym hlt2
              have h4 : (rlo.toList == lhi.toList) = false := by
                rw [beq_eq_false_iff_ne]
                intro e
                have := VP.toList_inj _ _ e
                subst this
                rw [VP.TO.bytes.irr] at hlt2; cases hlt2
              go_wp2_with fail
              go_quiet (fail)
              go_wp2_with (at_builtin; go_loud (refine wpList_append_own _ rfl _ _ 70 rfl w3.heap.size 44 i0 _ 3 40 Tryz.underlying70 hi hz0 hz1 hz2 rfl (by decide) _ (t.length + 1) _ rfl ((own_drewN (World.ownsRow.alloc hown.out _) _).alloc _) ⟨wr.heap.size + 1, 0, none⟩ 1 1 (eRn ⟨rlo, ⟨#[]⟩, true⟩) rfl rfl (new_cells (by simp) rfl) (eRn_one _) (by unfold maxLen; first | omega | (simp; done) | (simp; omega)) (by first | omega | (simp; done) | (simp; omega)) (by have := HG.out; simp; omega) ?_))
              intro v' w4 hown4 hgr4 _
              have HOW := Hid.mk' hown4
              have HGW := Hid.mk' hgr4
              clear hown4 hgr4
              go_wp2
              go_roundw
              case rel =>
                have ha : (accL ys (k + 1)).reverse = (⟨llo, lhi, false⟩ :: t : List Rn).reverse ++ [VP.nz ByteArray.empty ⟨rlo, rhi, true⟩] := by rw [HA.out]; simp [VP.uStep, hlt2]
                have ho4 : Own eRn 3 44 w3.heap.size w4 v' (accL ys (k + 1)).reverse := by rw [ha]; refine own_snoc ?_; rw [show (⟨llo, lhi, false⟩ :: t : List Rn).reverse.length = t.length + 1 from by simp, List.reverse_cons, List.flatMap_append, List.append_assoc]; exact HOW.out
                refine ⟨k + 1, by omega, by go_num, ho4, ?_, ?_⟩
                · exact ((below_drewN' (HB.out.alloc HG.out _) _).alloc (by have := HG.out; simp; omega) _).grown HGW.out (by have := HG.out; simp; omega) (fun q hq => (World.ownsRow.lt (hown.out) q hq).1)
                · have h1 := HGW.out.size; have h2 := HG.out; simp at h1; show _ ≤ _; omega
              case measure => simp [intOf]; omega
          · go_wp2_with fail
            go_roundw
            case rel =>
              have ha : accL ys (k + 1) = ⟨llo, lhi, true⟩ :: t := by rw [HA.out]; simp [VP.uStep]
              refine ⟨k + 1, by omega, by go_num, ?_, HB.out.alloc HG.out _, ?_⟩
              · have := World.ownsRow.alloc hown.out (.cells #[.string rlo, .string ⟨#[]⟩, .bool true] 44)
                refine Hid.mk' ?_
                rw [ha]
                simpa [Own] using this
              · show _ ≤ _; have := HG.out; simp; omega
            case measure => simp [intOf]; omega
    · have hltz : ¬ (k : Int) < (ys.length : Int) := by omega
      have hke : k = ys.length := by omega
      have HK := Hid.mk' hke
      clear hke
      go_wp2_with fail
      go_ret
      refine ⟨_, rfl, ?_, ?_⟩
      · have e1 : (accL ys k).reverse = unionP xs := by
          rw [HK.out]
          unfold accL
          rw [List.take_length]
          exact VP.uMerge_perm _ _ (HP.out.1.trans (sortLo_perm _).symm) (fun r hr => by
            have := (List.mem_filter.1 (HP.out.1.mem_iff.1 hr)).2
            show empB r = false
            simpa using this) HP.out.2 (sortLo_sorted _)
        rw [← e1]
        exact HW.out.lower HSZ.out
      · exact HB3.out.trans (HB.out.mono HSZ.out)
end Go.Proofs.YtpbmcaidkjlokaaGreat
