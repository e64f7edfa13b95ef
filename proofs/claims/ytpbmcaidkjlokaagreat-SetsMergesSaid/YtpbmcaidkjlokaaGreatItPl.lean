/- The keys of a map at vellum/sets.place: collected, sorted. -/
import Derived.Test.YtpbmcaidkjlokaaGreatMp
import Derived.Test.YtpbmcaidkjlokaaGreatLPt
import Derived.Shelf.SlIter.Sorted
import Derived.RangeFuncSeq
import Derived.OwnWalkIn
import Derived.TacticsInMore
import Derived.RegionIn
import Derived.LoopNIn
import Derived.LoopIn
namespace Go.Proofs.YtpbmcaidkjlokaaGreat
open Go.RowKit Go.Maps Go.Sort

set_option maxRecDepth 100000 in
set_option maxHeartbeats 1000000 in
theorem keys1_Pl {H : Type} (F : Fence) (n : Nat) (h10 : F.fn 67) (hro : F.round = none) (hn : 1 ≤ n) (l Bm b nn : Nat) (D0 : DataW H) {R : Value → Option (DataW H × List MemPlace)} (J : List Pl → World → Prop)
    (hY : ∀ pre x W, J pre W → pre.length < Maps.size D0 → YieldAt F (n - 1) Tryz.prog l #[vPl x] W fun e W' => e = .returned (.bool true) ∧ J (pre ++ [x]) W' ∧ KeepsWalks W W')
    (W : World) (hJ : AbidesFrom W.heap.size J) (hm : W.cell? ⟨Bm, 0, none⟩ = some (.map (some b))) (hown : W.ownsMap Tryz.prog 69 R b nn D0) (h0 : J [] W) :
    CallsIn F n Tryz.prog 67 #[.func (.yield l) #[] #[], .pointer (some ⟨Bm, 0, none⟩)] W fun e W' => (∃ v, e = .returned v) ∧ ∃ ss : List Pl, AllKeys Tryz.prog 69 vPl wfPl D0 ss ∧ J ss W' := by
  refine callsIn_of_wp Tryz.func67 rfl h10 ?_ hro
  simp only [Tryz.ntmps67, List.size_toArray, List.length_cons, List.length_nil, Nat.reduceAdd, Nat.reduceSub, Array.replicate_succ, Array.replicate_zero, List.push_toArray, List.append_toArray, List.nil_append, List.cons_append]
  gi_wp2_with (first
    | (gi_at_range; refine wpListIn_range_own _ rfl _ 67 rfl 69 _ kPl.keyed Tryz.underlying67 _ b nn _ rfl hown ?_; intro w0 hrg0 hg0 hs0)
    | gi_in)
  go_frame
  gi_loopw [3] (fun _ wr => ∃ (left : Lit → Bool) (cnt : Nat) (ss : List Pl), wr.ranges Tryz.prog 69 R b W.heap.size nn D0 left cnt ∧ ss.length + cnt ≤ Maps.size D0 ∧ CollectedV Tryz.prog 69 vPl wfPl D0 left ss ∧ J ss wr)
    (fun _ wr => wr.rangeLeft b W.heap.size)
  case atStart =>
    exact ⟨_, _, [], hrg0, by simp, CollectedV.start D0, hJ [] W w0 none h0 hg0 (fun r e => by cases e)⟩
  case round =>
    obtain ⟨left, cnt, ss, hrg, hcs, hC, hJs⟩ := hrel
    gi_wp2_with (first
      | (gi_at_next; refine wpListIn_next_ranges _ rfl _ rfl 69 kPl.keyed R vPl id (fun key kl hk => by obtain ⟨x, hx, _⟩ := inv_Pl hk; exact ⟨x, hx⟩) (fun v _ _ => ⟨v, rfl⟩) b W.heap.size nn _ _ _ rfl hrg ?_ ?_)
      | gi_in)
    · intro hc0 hl0
      gi_wp2
      go_end0
      exact ⟨⟨_, rfl⟩, ss, hC.all hl0, hJs⟩
    · intro x c kl yd yp w2 cnt2 hkey hlk hv hat hrg2 hlt hg2 hs2 hen
      obtain ⟨x', ex, hwx⟩ := inv_Pl hkey
      obtain rfl : x = x' := kPl.inj _ _ ex
      obtain rfl : kl = litOf Tryz.prog 69 vPl x := by have := kPl.lit hwx; rw [hkey] at this; simpa using this
      have hJ2 : J ss w2 := hJ ss wr w2 (some W.heap.size) hJs hg2 (fun r e => by cases e; exact ⟨Nat.le_refl _, hrg.iter_walk⟩)
      have hJ3 : J ss (w2.alloc (.cells #[.int .i64 x.a, .int .i64 x.b] 69)) := hJ ss w2 _ none hJ2 (World.grownBy_alloc _ _ none) (fun r e => by cases e)
      obtain ⟨fn, tmps, assign, body, hy, hR⟩ := hY ss x _ hJ3 (by omega)
      have hy' : (Instr.yield l #[.agg #[.int .i64 x.a, .int .i64 x.b]]).run Tryz.prog (w2.alloc (.cells #[.int .i64 x.a, .int .i64 x.b] 69)) = .ok (.round l fn tmps assign body) (w2.alloc (.cells #[.int .i64 x.a, .int .i64 x.b] 69)) := hy
      have hen' : (Instr.entry (.pointer (some ⟨W.heap.size, 0, none⟩))).run Tryz.prog w2 = .ok (.tuple #[.agg #[.int .i64 x.a, .int .i64 x.b], id c]) w2 := hen
      clear hs2 hy hen
      unfold vPl
      gi_wp2
      refine hR.mono ?_
      rintro e W3 ⟨rfl, hJ4, hk3⟩
      gi_wp2
      have hrg3 := (hrg2.alloc (.cells #[.int .i64 x.a, .int .i64 x.b] 69)).of_walks hk3
      go_roundw
      case rel => exact ⟨_, cnt2, ss ++ [x], hrg3, by simp; omega, CollectedV.step kPl hC hwx hlk hat, hJ4⟩
      case measure => rw [hrg3.left_eq, hrg.left_eq]; exact hlt

set_option maxHeartbeats 1000000 in
theorem keys_Pl (F : Fence) (n : Nat) (h7 : F.fn 47) (hro : F.round = none) (mb : Option Nat) (w : World) :
    CallsIn F n Tryz.prog 47 #[.map mb] w fun e w' => e = .returned (.func (.func 67) #[] #[.pointer (some ⟨w.heap.size, 0, none⟩)]) ∧ w' = w.alloc (.cells #[.map mb] 67) := by
  refine callsIn_of_wp Tryz.func47 rfl h7 ?_ hro
  simp only [Tryz.ntmps47, List.size_toArray, List.length_cons, List.length_nil, Nat.reduceAdd, Nat.reduceSub, Array.replicate_succ, Array.replicate_zero, List.push_toArray, List.append_toArray, List.nil_append, List.cons_append]
  gi_wp2
  go_ret
  exact ⟨rfl, rfl⟩

theorem keys_gives_Pl {H : Type} (F : Fence) (n : Nat) (h10 : F.fn 67) (hro : F.round = none) (hn : 1 ≤ n) (Bm b nn : Nat) (D0 : DataW H) {R : Value → Option (DataW H × List MemPlace)} (w : World) (hBm : Bm < w.heap.size)
    (hm : w.cell? ⟨Bm, 0, none⟩ = some (.map (some b))) (hown : w.ownsMap Tryz.prog 69 R b nn D0) :
    SeqGives F n Tryz.prog 67 #[.pointer (some ⟨Bm, 0, none⟩)] vPl (AllKeys Tryz.prog 69 vPl wfPl D0) (Maps.size D0) w := fun l J W hW hJ hY h0 => by
  have hown' : W.ownsMap Tryz.prog 69 R b nn D0 := by
    have hbl := hown.lt
    obtain ⟨es, clock, hb, Ft, hs, hD⟩ := hown
    exact ⟨es, clock, (hW.block b hbl).trans hb, Ft, hs, hD⟩
  exact keys1_Pl F n h10 hro hn l Bm b nn D0 J hY W hJ ((hW.cell (p := ⟨Bm, 0, none⟩) hBm).trans hm) hown' h0

/-! ### slices.AppendSeq(nil, seq) -/
theorem info_Pl : (Tryz.prog.info? 69).map (fun i => (i.zero, i.size, i.bytes)) = some (some (.agg #[.int .i64 0, .int .i64 0]), 2, 16) := by kernel_rfl
def apAssign_Pl : Code := (Code.region 2 #[{ dst := some 5, op := Op.alloc 69, type := 0, pos := "iter.go:51", after := #[], guard := none }, { dst := none, op := Op.store 69 (Operand.tmp 5) (Operand.tmp 7), type := 0, pos := "iter.go:51", after := #[{ on := 0, ground := Ground.data }, { on := 0, ground := Ground.phase }], guard := none }] false)
def apBody_Pl : Code := (Code.block 1 (Code.region 3 #[{ dst := some 8, op := Op.load 71 (Operand.tmp 2), type := 71, pos := "iter.go:52", after := #[], guard := none }, { dst := some 9, op := Op.load 69 (Operand.tmp 5), type := 69, pos := "iter.go:52", after := #[], guard := none }, { dst := some 10, op := Op.buildSlice 71 1 #[(0, Operand.tmp 9)], type := 71, pos := "iter.go:52", after := #[{ on := 1, ground := Ground.data }], guard := none }, { dst := some 11, op := Op.call { callee := Callee.builtin Builtin.append, args := #[Operand.tmp 8, Operand.tmp 10], argTypes := #[71, 71] }, type := 71, pos := "iter.go:52", after := #[{ on := 0, ground := Ground.data }, { on := 2, ground := Ground.data }], guard := none }, { dst := none, op := Op.store 71 (Operand.tmp 2) (Operand.tmp 11), type := 0, pos := "iter.go:52", after := #[{ on := 3, ground := Ground.data }, { on := 3, ground := Ground.chain }, { on := 0, ground := Ground.phase }, { on := 1, ground := Ground.phase }, { on := 2, ground := Ground.phase }, { on := 3, ground := Ground.phase }], guard := none }] false))
def apRec_Pl (fn : FuncId) (sv : Value) (Bs D : Nat) (st : LoopState) (pend : Option Code) : Loop :=
  { state := st, pending := pend, fn, tmps := #[.slice none 0 0, sv, .pointer (some ⟨Bs, 0, none⟩), undef, .slice none 0 0, undef, sv, undef, undef, undef, undef, undef, undef], params := #[7], assign := apAssign_Pl, body := apBody_Pl, defers := D }

structure ApAt_Pl (w0 : World) (fn : FuncId) (sv : Value) (Bs l D : Nat) (ss : List Pl) (W : World) : Prop where
  box : ∃ v, W.heap[Bs]? = some (.cells #[v] 71 (0, 0)) ∧ W.ownsRow w0.heap.size 69 2 v ss.length (ss.flatMap ePl) ∧ (v = .slice none 0 0 ↔ ss = [])
  L : W.heap[l]? = some (.loop (apRec_Pl fn sv Bs D .ready none))
  K : W.heap[D]? = some (.deferred (some []))
  below : Below w0.heap.size w0 W

theorem ap_abides_Pl (w0 : World) (fn : FuncId) (sv : Value) (Bs l D B : Nat) (hB : w0.heap.size ≤ B) : AbidesFrom B (ApAt_Pl w0 fn sv Bs l D) := fun s W W' row h hg hrow => by
  have hrow' : ∀ r, row = some r → ∃ o : Obj, W.heap[r]? = some o ∧ o.isWalk = true := fun r e => (hrow r e).2
  obtain ⟨v, hv, hr, hn⟩ := h.box
  exact ⟨⟨v, (grownBy_keeps hg hrow' hv rfl).trans hv, ownsRow_abides_a hr hg hrow', hn⟩, (grownBy_keeps hg hrow' h.L rfl).trans h.L, (grownBy_keeps hg hrow' h.K rfl).trans h.K,
    h.below.grown hg h.below.size (fun k e => Nat.le_trans hB (hrow k e).1)⟩

set_option maxRecDepth 100000 in
set_option maxHeartbeats 2000000 in
theorem apYield_Pl (F : Fence) (m : Nat) (w0 : World) (fn : FuncId) (hfn : F.fn fn) (sv : Value) (Bs l D : Nat) (hBl : Bs ≠ l) (hDl : D ≠ l) (hDB : D ≠ Bs) (h0B : w0.heap.size ≤ Bs) (h0l : w0.heap.size ≤ l)
    (N : Nat) (hN : N ≤ maxLen) (hNb : N * 16 ≤ 140737488355328) (ss : List Pl) (x : Pl) (W : World) (h : ApAt_Pl w0 fn sv Bs l D ss W) (hlen : ss.length < N) :
    YieldAt F m Tryz.prog l #[vPl x] W fun e W' => e = .returned (.bool true) ∧ ApAt_Pl w0 fn sv Bs l D (ss ++ [x]) W' ∧ KeepsWalks W W' := by
  have hne : (71 : TypeId) ≠ 69 := by decide
  obtain ⟨i0, hi, hz0, hz1, hz2⟩ := info_parts info_Pl
  obtain ⟨v, hv, hrow, _⟩ := h.box
  refine ⟨fn, #[.slice none 0 0, sv, .pointer (some ⟨Bs, 0, none⟩), undef, .slice none 0 0, undef, sv, vPl x, undef, undef, undef, undef, undef], apAssign_Pl, apBody_Pl, by simpa [apRec_Pl] using run_yield (P := Tryz.prog) (args := #[vPl x]) h.L rfl, roundIn_of_wpIn hfn ?_⟩
  have hl : l < W.heap.size := (Array.getElem?_eq_some_iff.1 h.L).1
  -- the loop's variable is boxed
  obtain ⟨W2, hW2⟩ : ∃ W2, W.alloc (.cells #[.int .i64 x.a, .int .i64 x.b] 69) = W2 := ⟨_, rfl⟩
  have hg2 : W.grownBy W2 none := by rw [← hW2]; exact World.grownBy_alloc _ _ none
  have hv2 : W2.heap[Bs]? = some (.cells #[v] 71 (0, 0)) := (hg2.block Bs (Array.getElem?_eq_some_iff.1 hv).1 (by simp)).trans hv
  have hK2 : W2.heap[D]? = some (.deferred (some [])) := (hg2.block D (Array.getElem?_eq_some_iff.1 h.K).1 (by simp)).trans h.K
  have hL2 : W2.heap[l]? = some (.loop (apRec_Pl fn sv Bs D .ready none)) := (hg2.block l hl (by simp)).trans h.L
  have hrow2 : W2.ownsRow w0.heap.size 69 2 v ss.length (ss.flatMap ePl) := hrow.kept hg2 (by cases v.ownBlock <;> simp)
  have hb2 : Below w0.heap.size w0 W2 := by rw [← hW2]; exact h.below.alloc h.below.size _
  have hk2 : KeepsWalks W W2 := by rw [← hW2]; exact KeepsWalks.alloc _ _
  have hx2 : W2.heap[W.heap.size]? = some (.cells #[.int .i64 x.a, .int .i64 x.b] 69 (0, 0)) := by rw [← hW2]; exact World.alloc_heap_new W _
  have hl2 : l < W2.heap.size := (Array.getElem?_eq_some_iff.1 hL2).1
  have hbr := run_beginRound (P := Tryz.prog) hL2 rfl
  obtain ⟨W3, hW3⟩ : ∃ W3, W2.putObj l (.loop { apRec_Pl fn sv Bs D .ready none with state := .busy }) = W3 := ⟨_, rfl⟩
  rw [hW3] at hbr
  have hgX : W2.grownBy W3 (some l) := by rw [← hW3]; exact grownBy_putObj_a _ _ _
  have hk3 : KeepsWalks W W3 := by rw [← hW3]; exact hk2.trans (KeepsWalks.putObj _ hL2 rfl)
  have hv3 : W3.heap[Bs]? = some (.cells #[v] 71 (0, 0)) := by rw [← hW3]; exact (World.putObj_heap_other hBl).trans hv2
  have hK3 : W3.heap[D]? = some (.deferred (some [])) := by rw [← hW3]; exact (World.putObj_heap_other hDl).trans hK2
  have hx3 : W3.heap[W.heap.size]? = some (.cells #[.int .i64 x.a, .int .i64 x.b] 69 (0, 0)) := by rw [← hW3]; exact (World.putObj_heap_other (by omega)).trans hx2
  have hL3 : W3.heap[l]? = some (.loop { apRec_Pl fn sv Bs D .ready none with state := .busy }) := by rw [← hW3]; exact World.putObj_heap_same hl2
  have hrow3 : W3.ownsRow w0.heap.size 69 2 v ss.length (ss.flatMap ePl) := hrow2.kept hgX (ownsRow_ne_a hrow2 hL2 (fun cur e => by cases e))
  have hb3 : Below w0.heap.size w0 W3 := hb2.grown hgX hb2.size (fun k e => by cases e; exact h0l)
  have hbx : ∀ i u, (ePl x)[i]? = some u → W3.cell? ⟨W.heap.size, i, none⟩ = some u := fun i u hu => by
    have e1 : (#[.int .i64 x.a, .int .i64 x.b] : Array Value)[i]? = some u := by simpa [ePl] using hu
    simp [World.cell?, hx3, e1]
  have x0 : W3.cell? ⟨W.heap.size, 0, none⟩ = some (.int .i64 x.a) := hbx 0 _ rfl
  have x1 : W3.cell? ⟨W.heap.size, 1, none⟩ = some (.int .i64 x.b) := hbx 1 _ rfl
  obtain ⟨hc3, hf3⟩ := cell_of_box_a hv3
  have hBlt : Bs < W3.heap.size := (Array.getElem?_eq_some_iff.1 hv3).1
  have hl3 : l < W3.heap.size := (Array.getElem?_eq_some_iff.1 hL3).1
  have hDlt : D < W3.heap.size := (Array.getElem?_eq_some_iff.1 hK3).1
  have ne_of : ∀ {j : Nat} {o : Obj}, W3.heap[j]? = some o → (∀ cur, o ≠ .cells cur 69 (0, 0)) → some j ≠ v.ownBlock := fun hj hno => by
    rcases ownsRow_ne_a hrow3 hj hno with e | e
    · rw [e]; simp
    · exact fun e' => e e'.symm
  clear hbx hv2 hK2 hrow2
  unfold apAssign_Pl vPl
  gi_wp2_with gi_round_op_a
  clear hW2 hW3 hbr
  unfold apBody_Pl
  gi_wp2_with (first
    | (gi_at_builtin; refine wpListIn_append_own _ rfl _ _ 71 rfl w0.heap.size 69 i0 _ 2 16 Tryz.underlying71 hi hz0 hz1 hz2 rfl (by decide) _ _ _ rfl (hrow3.alloc _) ⟨W3.heap.size, 0, none⟩ 1 1 (ePl x) rfl rfl (new_cells rfl rfl) (ePl_one x) (by omega) (by omega) (by have := hb3.size; simp; omega) ?_; intro v' w4 hown' hg4 hnil4
       have hv4 : w4.heap[Bs]? = some (.cells #[v] 71 (0, 0)) := (hg4.block Bs (by simp; omega) (ne_of hv3 (fun cur e => hne (Obj.cells.inj e).2.1))).trans ((Below.heap_alloc _ _ Bs hBlt).trans hv3)
       obtain ⟨hc4, hf4⟩ := cell_of_box_a hv4
       obtain ⟨g', cap', cur', rfl, hbase', hgb', hr1, hr2, hr3, hr4⟩ : ∃ g' cap' cur', v' = .slice (some ⟨g', 0, none⟩) (ss.length + 1) cap' ∧ w0.heap.size ≤ g' ∧ w4.heap[g']? = some (.cells cur' 69 (0, 0)) ∧ ss.length + 1 ≤ cap' ∧ cap' ≤ maxLen ∧ cur'.size = cap' * 2 ∧ cur'.toList.take ((ss.length + 1) * 2) = ss.flatMap ePl ++ ePl x := by
         rcases hown'.2 with ⟨_, h0⟩ | h'
         · exact absurd h0 (by omega)
         · exact h'
       go_frame)
    | gi_round_op_a)
  have hg4' : (W3.alloc (.cells #[.int .i64 x.a, .int .i64 x.b] 69)).grownBy w4 v.ownBlock := hg4
  have hL4 : w4.heap[l]? = some (.loop { apRec_Pl fn sv Bs D .ready none with state := .busy }) := (hg4'.block l (by simp; omega) (ne_of hL3 (fun cur e => by cases e))).trans ((Below.heap_alloc _ _ l hl3).trans hL3)
  have hK4 : w4.heap[D]? = some (.deferred (some [])) := (hg4'.block D (by simp; omega) (ne_of hK3 (fun cur e => by cases e))).trans ((Below.heap_alloc _ _ D hDlt).trans hK3)
  obtain ⟨w5, hw5⟩ : ∃ w5, w4.setCell ⟨Bs, 0, none⟩ (.slice (some ⟨g', 0, none⟩) (ss.length + 1) cap') = w5 := ⟨_, rfl⟩
  rw [hw5]
  have hg5 : w4.grownBy w5 (some Bs) := by rw [← hw5]; exact grownBy_setCell0_a _ _ _
  have hv5 : w5.heap[Bs]? = some (.cells #[.slice (some ⟨g', 0, none⟩) (ss.length + 1) cap'] 71 (0, 0)) := by rw [← hw5]; exact heap_setCell_box_a _ hv4
  have hL5 : w5.heap[l]? = some (.loop { apRec_Pl fn sv Bs D .ready none with state := .busy }) := (hg5.block l (Array.getElem?_eq_some_iff.1 hL4).1 (fun e => hBl (by cases e; rfl))).trans hL4
  have hK5 : w5.heap[D]? = some (.deferred (some [])) := (hg5.block D (Array.getElem?_eq_some_iff.1 hK4).1 (fun e => hDB (by cases e; rfl))).trans hK4
  have hrow5 := hown'.kept hg5 (ownsRow_ne_a hown' hv4 (fun cur e => hne (Obj.cells.inj e).2.1))
  have hl5 : l < w5.heap.size := (Array.getElem?_eq_some_iff.1 hL5).1
  have hb4 : Below w0.heap.size w0 w4 := (hb3.alloc hb3.size _).grown hg4' (by have := hb3.size; simp; omega) (fun k e => (hrow3.lt k e).1)
  have hb5 : Below w0.heap.size w0 w5 := hb4.grown hg5 hb4.size (fun k e => by cases e; exact h0B)
  have hk5 : KeepsWalks W w5 := ((hk3.trans (KeepsWalks.alloc _ _)).trans (KeepsWalks.of_grownBy hg4' (ownsRow_not_walk_a (hrow3.alloc _)))).trans (by rw [← hw5]; exact KeepsWalks.setCell _ _ _)
  clear hw5
  refine ⟨_, _, run_endRound none hL5, rfl, ⟨⟨_, (World.putObj_heap_other hBl).trans hv5, ?_, by simp⟩, World.putObj_heap_same hl5, (World.putObj_heap_other hDl).trans hK5, hb5.grown (grownBy_putObj_a _ _ _) hb5.size (fun k e => by cases e; exact h0l)⟩, hk5.trans (KeepsWalks.putObj _ hL5 rfl)⟩
  have := hrow5.kept (grownBy_putObj_a w5 l (.loop { { apRec_Pl fn sv Bs D .ready none with state := .busy } with state := if (none : Option Code).isNone then .ready else .done, pending := none })) (ownsRow_ne_a hrow5 hL5 (fun cur e => by cases e))
  simpa using this

set_option maxRecDepth 100000 in
set_option maxHeartbeats 2000000 in
theorem appendSeq_Pl (F : Fence) (n : Nat) (h11 : F.fn 82) (hro : F.round = none) (hn : 2 ≤ n) (g : Nat) (lb : Array Value) (hFg : F.fn g) (eg : ∀ args w, (callFunc g args).run Tryz.prog w = .ok (.enter g args) w)
    (S : List Pl → Prop) (N : Nat) (hN : N ≤ maxLen) (hNb : N * 16 ≤ 140737488355328) (w : World) (hseq : SeqGives F (n - 1) Tryz.prog g lb vPl S N w) :
    CallsIn F n Tryz.prog 82 #[.slice none 0 0, .func (.func g) #[] lb] w fun e w' => ∃ (v : Value) (ss : List Pl), e = .returned v ∧ S ss ∧ Own ePl 2 69 w.heap.size w' v ss ∧ Below w.heap.size w w' := by
  have h1 : 1 ≤ n := by omega
  have hne : (71 : TypeId) ≠ 69 := by decide
  refine callsIn_of_wp_marks Tryz.func82 rfl h11 ?_ hro
  simp only [Tryz.ntmps82, List.size_toArray, List.length_cons, List.length_nil, Nat.reduceAdd, Nat.reduceSub, Array.replicate_succ, Array.replicate_zero, List.push_toArray, List.append_toArray, List.nil_append, List.cons_append]
  gi_wp2
  refine wpIn_rangeFunc ?_
  intro fn hfn
  rw [hro]
  obtain ⟨W0, hW0⟩ : ∃ W0, w.alloc (.cells #[.slice none 0 0] 71) = W0 := ⟨_, rfl⟩
  have hs0 : W0.heap.size = w.heap.size + 1 := by rw [← hW0]; simp
  have hv0 : W0.heap[w.heap.size]? = some (.cells #[.slice none 0 0] 71 (0, 0)) := by rw [← hW0]; exact World.alloc_heap_new w _
  have hb0 : Below w.heap.size w W0 := by rw [← hW0]; exact (Below.refl _ w).alloc (Nat.le_refl _) _
  rw [hW0]
  obtain ⟨W1, hW1⟩ : ∃ W1, (W0.alloc (.deferred (some []))).alloc (.loop (apRec_Pl fn (.func (.func g) #[] lb) w.heap.size W0.heap.size .ready none)) = W1 := ⟨_, rfl⟩
  have hold : ∀ k, k < W0.heap.size → W1.heap[k]? = W0.heap[k]? := fun k hk => by
    rw [← hW1]; exact (Below.heap_alloc _ _ k (by simp; omega)).trans (Below.heap_alloc _ _ k hk)
  have hb1 : Below w.heap.size w W1 := by rw [← hW1]; exact (hb0.alloc hb0.size _).alloc (by have := hb0.size; simp; omega) _
  have hs1 : W1.heap.size = W0.heap.size + 2 := by rw [← hW1]; simp
  have hM : ApAt_Pl w fn (.func (.func g) #[] lb) w.heap.size (W0.heap.size + 1) W0.heap.size [] W1 :=
    ⟨⟨_, (hold w.heap.size (by omega)).trans hv0, ⟨rfl, .inl ⟨rfl, rfl⟩⟩, by simp⟩,
     by rw [← hW1]; have := World.alloc_heap_new (W0.alloc (.deferred (some []))) (.loop (apRec_Pl fn (.func (.func g) #[] lb) w.heap.size W0.heap.size .ready none)); rwa [World.size_alloc] at this,
     by rw [← hW1]; exact (Below.heap_alloc _ _ _ (by simp)).trans (World.alloc_heap_new W0 _), hb1⟩
  refine ⟨W0.heap.size + 1, [{ target := .collected W0.heap.size, args := #[] }], W1, { target := .fn (.func g) lb, args := #[.func (.yield (W0.heap.size + 1)) #[] #[]] }, W1, g,
    #[.func (.yield (W0.heap.size + 1)) #[] #[]] ++ lb, W1, ?_, ?_, ?_, ?_, fun _ => h1, ?_⟩
  · rw [← hW1]; exact run_enterLoop_outer _ _ _ _ _
  · simp [resolve, go_sem]
  · intro f' hf'; simp [Target.leads] at hf'; subst hf'; exact hFg
  · simp [invoke, go_sem, eg]
  · refine (hseq (W0.heap.size + 1) (ApAt_Pl w fn (.func (.func g) #[] lb) w.heap.size (W0.heap.size + 1) W0.heap.size) W1 hb1 (ap_abides_Pl _ _ _ _ _ _ _ hb1.size)
      (fun pre x W hJ hl => apYield_Pl F (n - 1 - 1) w fn hfn _ w.heap.size (W0.heap.size + 1) W0.heap.size (by omega) (by omega) (by omega) (Nat.le_refl _) (by omega) N hN hNb pre x W hJ hl) hM).mono ?_
    rintro e W2 ⟨⟨v0, rfl⟩, ss, hS, h2⟩
    obtain ⟨v, hv, hrow, hnil⟩ := h2.box
    have hend := run_endLoop (P := Tryz.prog) h2.L (by simp [apRec_Pl])
    obtain ⟨W3, hW3⟩ : ∃ W3, W2.putObj (W0.heap.size + 1) (.loop { apRec_Pl fn (.func (.func g) #[] lb) w.heap.size W0.heap.size .ready none with state := .exhausted }) = W3 := ⟨_, rfl⟩
    rw [hW3] at hend
    have hg3 : W2.grownBy W3 (some (W0.heap.size + 1)) := by rw [← hW3]; exact grownBy_putObj_a _ _ _
    have hv3 : W3.heap[w.heap.size]? = some (.cells #[v] 71 (0, 0)) := by rw [← hW3]; exact (World.putObj_heap_other (by omega)).trans hv
    have hK3 : W3.heap[W0.heap.size]? = some (.deferred (some [])) := by rw [← hW3]; exact (World.putObj_heap_other (by omega)).trans h2.K
    have hrow3 := hrow.kept hg3 (ownsRow_ne_a hrow h2.L (fun cur e => by cases e))
    have hb3 : Below w.heap.size w W3 := h2.below.grown hg3 h2.below.size (fun k e => by cases e; omega)
    obtain ⟨hc3, hf3⟩ := cell_of_box_a hv3
    clear hW3
    refine ⟨none, W3, hend, ?_⟩
    gi_wp2
    rw [← hs0]
    refine ⟨by simp, .inl ⟨_, _, rfl, run_takeDeferred hK3, ?_⟩⟩
    exact ⟨_, results_tmp rfl _ _ _, v, ss, rfl, hS, hrow3.kept (grownBy_putObj_a _ _ _) (ownsRow_ne_a hrow3 hK3 (fun cur e => by cases e)), hb3.grown (grownBy_putObj_a _ _ _) hb3.size (fun k e => by cases e; omega)⟩

set_option maxHeartbeats 1000000 in
theorem collect_Pl (F : Fence) (n : Nat) (h8 : F.fn 65) (h11 : F.fn 82) (hro : F.round = none) (hn : 3 ≤ n) (g : Nat) (lb : Array Value) (hFg : F.fn g) (eg : ∀ args w, (callFunc g args).run Tryz.prog w = .ok (.enter g args) w)
    (S : List Pl → Prop) (N : Nat) (hN : N ≤ maxLen) (hNb : N * 16 ≤ 140737488355328) (w : World) (hseq : SeqGives F (n - 1 - 1) Tryz.prog g lb vPl S N w) :
    CallsIn F n Tryz.prog 65 #[.func (.func g) #[] lb] w fun e w' => ∃ (v : Value) (ss : List Pl), e = .returned v ∧ S ss ∧ Own ePl 2 69 w.heap.size w' v ss ∧ Below w.heap.size w w' := by
  have h1 : 1 ≤ n := by omega
  have e11 : ∀ args w, (callFunc 82 args).run Tryz.prog w = .ok (.enter 82 args) w := enters_of Tryz.func82 (by kernel_rfl) rfl
  refine callsIn_of_wp Tryz.func65 rfl h8 ?_ hro
  simp only [Tryz.ntmps65, List.size_toArray, List.length_cons, List.length_nil, Nat.reduceAdd, Nat.reduceSub, Array.replicate_succ, Array.replicate_zero, List.push_toArray, List.append_toArray, List.nil_append, List.cons_append]
  gi_wp2_with (gi_at_call 82; refine (appendSeq_Pl F (n - 1) h11 hro (by omega) g lb hFg eg S N hN hNb _ hseq).mono ?_; rintro e w' ⟨v, ss, rfl, hS, hrow, hb⟩)
  go_ret
  exact ⟨v, ss, rfl, hS, hrow, hb⟩

/-- slices.SortedFunc over the keys of a map: they come sorted. -/
theorem sortedFunc_Pl (b nn : Nat) {H : Type} (D0 : DataW H) (R : Value → Option (DataW H × List MemPlace)) (cf : Pl → Pl → Int) (hO : SWO (ltOf cf)) (gc : Nat) (ec : ∀ args w, (callFunc gc args).run Tryz.prog w = .ok (.enter gc args) w)
    (hcmp : ∀ x y W, Calls Tryz.prog gc (#[.agg (ePl x).toArray, .agg (ePl y).toArray]) W fun e w' => e = .returned (.int .i64 (cf x y)) ∧ ∃ q os, w' = grow (W.drewN q) os)
    (Bm : Nat) (w : World) (hBm : Bm < w.heap.size) (hm : w.cell? ⟨Bm, 0, none⟩ = some (.map (some b))) (hown : w.ownsMap Tryz.prog 69 R b nn D0) (hN : Maps.size D0 * 16 ≤ 140737488355328) :
    Calls Tryz.prog 46 #[.func (.func 67) #[] #[.pointer (some ⟨Bm, 0, none⟩)], .func (.func gc) #[] #[]] w fun e w' => ∃ (v : Value) (ss : List Pl), e = .returned v ∧ AllKeys Tryz.prog 69 vPl wfPl D0 ss ∧ ss.Pairwise (fun x y => ltOf cf y x = false) ∧ Own ePl 2 69 w.heap.size w' v ss ∧ Below w.heap.size w w' := by
  have ek : ∀ args w, (callFunc 67 args).run Tryz.prog w = .ok (.enter 67 args) w := enters_of Tryz.func67 (by kernel_rfl) rfl
  have hC : Calls Tryz.prog 65 #[.func (.func 67) #[] #[.pointer (some ⟨Bm, 0, none⟩)]] w fun e w' => ∃ (v : Value) (ss : List Pl), e = .returned v ∧ (AllKeys Tryz.prog 69 vPl wfPl D0 ss ∧ ss.length ≤ Maps.size D0) ∧ Own ePl 2 69 w.heap.size w' v ss ∧ Below w.heap.size w w' :=
    (callsIn_wide (n := 6)).1 (collect_Pl Fence.wide 6 trivial trivial rfl (by omega) 67 _ trivial ek _ (Maps.size D0) (by unfold maxLen; omega) hN w (SeqGives.bounded (keys_gives_Pl Fence.wide _ trivial rfl (by omega) Bm b nn D0 w hBm hm hown)))
  clear hm hown
  go_enter Tryz.func46, Tryz.ntmps46
  go_wp2_with fail
  refine hC.mono ?_
  rintro e w1 ⟨v, ss, rfl, ⟨hA, hl⟩, ho, hb⟩
  have hS : Calls Tryz.prog 66 #[v, .func (.func gc) #[] #[]] w1 fun ex w' => ex = .returned (.tuple #[]) ∧ ∃ ys, ys.Perm ss ∧ ys.Pairwise (fun x y => ltOf cf y x = false) ∧ Own ePl 2 69 w.heap.size w' v ys ∧ w1.grownBy w' v.ownBlock := 
    sort_own Tryz.sortPl Tryz.isAgg69 Tryz.sizeOf69 ePl_len ePl_one cf hO gc #[] v ec (fun x y W => by have := hcmp x y W; simpa using this) ho (by omega)
  have HB := Hid.mk' (And.intro hb ho)
  have HA := Hid.mk' hA
  clear hb ho hA hC
  go_wp2_with fail
  refine hS.mono ?_
  rintro e w2 ⟨rfl, ys, hp, hs, ho2, hg⟩
  go_wp2
  go_ret
  refine ⟨v, ys, rfl, ⟨hp.symm.nodup HA.out.1, fun x hx => HA.out.2.1 x (hp.mem_iff.1 hx), fun x hx => by rw [hp.mem_iff]; exact HA.out.2.2 x hx⟩, hs, ho2, HB.out.1.grown hg HB.out.1.size (fun q hq => (World.ownsRow.lt HB.out.2 q hq).1)⟩
end Go.Proofs.YtpbmcaidkjlokaaGreat
