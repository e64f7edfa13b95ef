/- Or of two errors; Concat of two slices. -/
import Derived.Test.YtpbmcaidkjlokaaGreatCp
import Derived.Test.YtpbmcaidkjlokaaGreatRm
import Derived.Deep.AppendSrc
import Derived.Lib.AppendZeros
namespace Go.Proofs.YtpbmcaidkjlokaaGreat
open Go.RowKit

/-- An append, its run known. -/
theorem wpList_append_run {P : Program} {ops : Array Oper} {rest : List Oper} {o : Oper} {a : Act} {Q : Exit → Act → World → Prop} {w : World} (hgd : o.guard = none) (s x : Operand) (t tx : TypeId)
    (ho : o.op = .call { callee := .builtin .append, args := #[s, x], argTypes := #[t, tx] }) {vs vx v' : Value} {w' : World} (hs : a.eval s = vs) (hx : a.eval x = vx)
    (hrun : (Builtin.append_ #[t, tx] o.type #[vs, vx]).run P w = .ok v' w') (h : wpList P ops Q rest (a.put o.dst v') w') : wpList P ops Q (o :: rest) a w :=
  wpList_plain hgd fun _ hK => by
    unfold Oper.wp execOp
    simp only [ho, resolve, invoke, builtin, Sem.run_bind, Sem.run_pure, Result.andThen_ok, List.map_toArray, List.map_cons, List.map_nil, hs, hx, hrun]
    exact hK _ _ h
theorem run_append_row {P : Program} {α : Type} {enc : α → List Value} {k : Nat} (hk : ∀ x, (enc x).length = k) (hk0 : 0 < k) (hone : ∀ x, ∀ u ∈ enc x, u.oneCell' = true) (w : World) (base : Nat) (t ty e : TypeId) (i : TypeInfo) (z : Value) (bytes : Nat) (ht : P.underlying t = some (.slice e)) (hi : P.info? e = some i) (hz : i.zero = some z)
    (hsize : i.size = k) (hby : i.bytes = bytes) (hzs : z.cells.size = k) (v : Value) (xs ys : List α) (hown : Own enc k e base w v xs) (A : Option Addr) (m c : Nat) (hm : m = ys.length) (hA : RowIn enc k w A ys) (h63 : xs.length + m ≤ maxLen) (hbytes : (xs.length + m) * bytes ≤ 140737488355328) (hbase : base ≤ w.heap.size) :
    ∃ v' w', (Builtin.append_ #[t, t] ty #[v, .slice A m c]).run P w = .ok v' w' ∧ Own enc k e base w' v' (xs ++ ys) ∧ w.grownBy w' v.ownBlock := by
  subst hm
  cases A with
  | some ad =>
    obtain ⟨v', w', hr, h2, h3, _⟩ := run_append_own (P := P) w base t ty e i z k bytes ht hi hz hsize hby hzs hk0 v xs.length (xs.flatMap enc) hown ad ys.length c (ys.flatMap enc) (flatMap_len hk ys) (cells_flat hk hA) (fun u hu => by obtain ⟨x, _, hx⟩ := List.mem_flatMap.1 hu; exact hone x u hx) h63 hbytes hbase
    refine ⟨v', w', hr, ?_, h3⟩
    unfold Own
    rw [List.length_append, List.flatMap_append]
    exact h2
  | none =>
    have hy : ys = [] := by
      rcases hA.2 with e | ⟨b, off, e, _⟩
      · exact e
      · cases e
    subst hy
    rcases hown.2 with ⟨rfl, h0⟩ | ⟨g, cap, cur, rfl, hb, hg, h1, h2, h3, h4⟩
    · refine ⟨.slice none 0 0, w, ?_, ?_, rfl, rfl, rfl, Nat.le_refl _, fun _ _ _ => rfl⟩
      · simp [Builtin.append_, run_underlying ht, sizeOf, typeInfo, hi, Builtin.lenOf, Builtin.firstCells]
      · rw [List.append_nil]; exact hown
    · have hsrc : Src P i.size t (.slice none ([] : List α).length c) 0 [] w := Src.ofNil _ ht c
      have := run_append_room_src (P := P) (w := w) t t ty e i ht hi g 0 xs.length cap _ 0 [] hsrc (by omega) (by simp) (by simp)
      refine ⟨_, w, this, ?_, rfl, rfl, rfl, Nat.le_refl _, fun _ _ _ => rfl⟩
      rw [List.append_nil]; exact hown

theorem below_of_own {α : Type} {enc : α → List Value} {k : Nat} {e : TypeId} {B : Nat} {w w' : World} {v : Value} {xs : List α} (h : Own enc k e B w v xs) (hg : w.grownBy w' v.ownBlock) (hB : B ≤ w.heap.size) : Below B w w' :=
  ⟨hg.os, hg.tape, hg.output, hg.size, fun q hq => hg.block q (by omega) (fun e => by
    rcases h.2 with ⟨rfl, _⟩ | ⟨g, cap, cur, rfl, hb, _⟩
    · simp [Value.ownBlock] at e
    · simp [Value.ownBlock] at e; omega)⟩
theorem cmpOrE (A : Option Addr) (c : Nat) (xs : List Int) (w : World) (h : RowIn eI 1 w A xs) :
    Calls Tryz.prog 31 #[.slice A xs.length c] w fun e w' => e = .returned (.int .i64 (orI xs)) ∧ w' = w := by
  have hl := h.len
  have H := Hid.mk' h
  clear h
  go_enter Tryz.func31, Tryz.ntmps31
  go_wp2_with fail
  go_loopw [8] (fun s8 wr => ∃ k : Nat, k ≤ xs.length ∧ s8 = .int .i64 k ∧ Hid (orI (xs.drop k) = orI xs) ∧ wr = w) (fun s8 _ => xs.length - (intOf s8).toNat)
  case atStart => exact ⟨0, Nat.zero_le _, rfl, Hid.mk' rfl, rfl⟩
  case round =>
    obtain ⟨k, hk, rfl, HR, rfl⟩ := hrel
    by_cases hlt : k < xs.length
    · have hltz : (k : Int) < (xs.length : Int) := by omega
      obtain ⟨x, hx⟩ : ∃ x, xs[k]? = some x := ⟨_, List.getElem?_eq_getElem hlt⟩
      obtain ⟨b, off, rfl, hbl, hcell⟩ := H.out.at_ hlt
      rw [(List.getElem?_eq_some_iff.1 hx).2] at hcell
      have c0 : wr.cell? ⟨b, off + k, none⟩ = some (.int .i64 x) := by have := hcell 0 _ rfl; simpa using this
      have HX := Hid.mk' (orI_drop hx)
      clear hcell hx
      by_cases hz : x = 0
      · subst hz
        go_wp2_with fail
        go_roundw
        case rel => exact ⟨k + 1, by omega, by go_num, Hid.mk' (by rw [← HR.out, HX.out]; rfl), trivial⟩
        case measure => simp [intOf]; omega
      · go_wp2_with fail
        go_ret
        refine ⟨ret_int ?_, rfl⟩
        rw [← HR.out, HX.out, if_neg hz]
    · have hltz : ¬ (k : Int) < (xs.length : Int) := by omega
      have HK : Hid (k = xs.length) := by show _ = _; omega
      go_wp2_with fail
      go_ret
      refine ⟨ret_int ?_, rfl⟩
      rw [← HR.out, HK.out, List.drop_length]; rfl


set_option maxHeartbeats 2000000 in
set_option maxRecDepth 100000 in
theorem grow_Pt (n : Nat) (w : World) (hn : n * 32 ≤ 140737488355328) :
    Calls Tryz.prog 61 #[.slice none 0 0, .int .i64 n] w fun e w' => ∃ v, e = .returned v ∧ Own ePt 3 37 w.heap.size w' v [] ∧ Below w.heap.size w w' := by
  obtain ⟨i0, hi, hz0, hz1, hz2⟩ := info_parts info_Pt
  have hm : n ≤ 4398046511104 := by omega
  rcases Nat.eq_zero_or_pos n with h0 | h0
  · subst h0
    go_enter Tryz.func61, Tryz.ntmps61
    go_wp2_with fail
    go_ret
    exact ⟨_, rfl, Own.nil _ _ _, Below.refl _ _⟩
  · have hpos : (0 : Int) < (n : Int) := by omega
    have hng : ¬ (n : Int) < 0 := by omega
    have hr := Lib.run_append_nil_zeros (P := Tryz.prog) w 22 3 22 37 i0 _ .i64 .i64 Tryz.underlying22 Tryz.underlying3 hi hz0 n h0 (by rw [hz1]; decide) (by omega) (by rw [hz2]; omega)
    obtain ⟨cp, hcp⟩ : ∃ cp, grownCap w n 0 37 = cp := ⟨_, rfl⟩
    have hge := grownCap_ge w n 0 37
    have hle := grownCap_le_maxLen w n 0 37 (by unfold maxLen; omega)
    rw [hcp] at hr hge hle
    have hc0 : ¬ cp = 0 := by omega
    generalize hcs : Builtin.zeroCells _ n ++ Builtin.zeroCells _ (cp - n) = cs at hr
    have hsz : cs.size = cp * 3 := by
      rw [← hcs, Array.size_append, size_zeroCells, size_zeroCells]
      show n * 3 + (cp - n) * 3 = cp * 3
      omega
    have HO : Hid (Own ePt 3 37 w.heap.size (w.drew.alloc (.cells cs 37)) (.slice (some ⟨w.heap.size, 0, none⟩) 0 cp) []) := ⟨rfl, .inr ⟨w.heap.size, cp, cs, rfl, Nat.le_refl _, World.alloc_heap_new _ _, Nat.zero_le _, hle, hsz, by simp⟩⟩
    have HB : Hid (Below w.heap.size w (w.drew.alloc (.cells cs 37))) := (⟨rfl, rfl, rfl, Nat.le_refl _, fun _ _ => rfl⟩ : Below w.heap.size w w.drew).alloc (Nat.le_refl _) _
    clear hcs hcp hsz hle
    go_enter Tryz.func61, Tryz.ntmps61
    go_wp2_with (at_builtin; refine wpList_append_run rfl _ _ 22 3 rfl rfl rfl hr ?_)
    go_ret
    exact ⟨_, rfl, HO.out, HB.out⟩
set_option maxHeartbeats 4000000 in
set_option maxRecDepth 100000 in
theorem concat_Pt (A1 B1 : Option Addr) (c1 d1 sb : Nat) (xs ys : List Pt) (w : World) (hx : RowIn ePt 3 w A1 xs) (hy : RowIn ePt 3 w B1 ys) (h0 : w.cell? ⟨sb, 0, none⟩ = some (.slice A1 xs.length c1)) (h1 : w.cell? ⟨sb, 1, none⟩ = some (.slice B1 ys.length d1)) (hby : (xs.length + ys.length) * 32 ≤ 140737488355328) :
    Calls Tryz.prog 32 #[.slice (some ⟨sb, 0, none⟩) 2 2] w fun e w' => ∃ v, e = .returned v ∧ Own ePt 3 37 w.heap.size w' v (xs ++ ys) ∧ Below w.heap.size w w' := by
  obtain ⟨i0, hi, hz0, hz1, hz2⟩ := info_parts info_Pt
  have HX := Hid.mk' hx
  have HY := Hid.mk' hy
  have hsb : sb < w.heap.size := World.block_lt_of_cell? w _ h0
  have HG := grow_Pt (xs.length + ys.length) w hby
  clear hx hy
  obtain ⟨nx, hnx⟩ : ∃ nx, xs.length = nx := ⟨_, rfl⟩
  obtain ⟨ny, hny⟩ : ∃ ny, ys.length = ny := ⟨_, rfl⟩
  rw [hnx] at h0
  rw [hny] at h1
  rw [hnx, hny] at hby HG
  have HN := Hid.mk' (And.intro hnx hny)
  clear hnx hny
  have hp : ¬ (nx : Int) + (ny : Int) < 0 := by omega
  have hp1 : ¬ (nx : Int) < 0 := by omega
  go_enter Tryz.func32, Tryz.ntmps32
  go_wp2_with fail
  go_loopw [3, 11] (fun s3 s11 wr => ∃ j : Nat, j ≤ 2 ∧ s11 = .int .i64 j ∧ s3 = .int .i64 (if j = 0 then 0 else if j = 1 then (nx : Int) else ((nx + ny : Nat) : Int)) ∧ w = wr) (fun _ s11 _ => 2 - (intOf s11).toNat)
  case atStart => exact ⟨0, by omega, rfl, rfl, rfl⟩
  case round =>
    obtain ⟨j, hj, rfl, rfl, rfl⟩ := hrel
    have hj3 : j = 0 ∨ j = 1 ∨ j = 2 := by omega
    rcases hj3 with rfl | rfl | rfl
    · go_wp2_with fail
      go_roundw
      case rel => exact ⟨1, by omega, by go_num, by simp, trivial⟩
      case measure => simp [intOf]
    · go_wp2_with fail
      go_roundw
      case rel => exact ⟨2, by omega, by go_num, by simp, trivial⟩
      case measure => simp [intOf]
    · go_wp2_with fail
      refine HG.mono ?_
      rintro e w1 ⟨v0, rfl, ho, hb⟩
      have HO := Hid.mk' ho
      have HB := Hid.mk' hb
      clear HG ho hb
      go_wp2_with fail
      go_loopw [6, 27] (fun s6 s27 wr => ∃ (j : Nat) (sv : Value), j ≤ 2 ∧ s27 = .int .i64 j ∧ sv = s6 ∧ Hid (Own ePt 3 37 w.heap.size wr sv (if j = 0 then [] else if j = 1 then xs else xs ++ ys)) ∧ Hid (Below w.heap.size w wr)) (fun _ s27 _ => 2 - (intOf s27).toNat)
      case atStart => exact ⟨0, _, by omega, rfl, rfl, HO, HB⟩
      case round =>
        obtain ⟨j, sv, hj, rfl, rfl, HO, HB⟩ := hrel
        have hj3 : j = 0 ∨ j = 1 ∨ j = 2 := by omega
        have hN1 := HN.out.1
        have hN2 := HN.out.2
        have HJ : Hid (nx = xs.length ∧ ny = ys.length) := ⟨hN1.symm, hN2.symm⟩
        clear hN1 hN2
        rcases hj3 with rfl | rfl | rfl
        · have hs : wr.cell? ⟨sb, 0, none⟩ = some (.slice A1 nx c1) := (HB.out.cell (p := ⟨sb, 0, none⟩) hsb).trans h0
          have ho : Own ePt 3 37 w.heap.size wr sv [] := HO.out
          obtain ⟨v', w', hr, ho', hg'⟩ := run_append_row (P := Tryz.prog) ePt_len (by decide) ePt_one wr w.heap.size 22 22 37 i0 _ 32 Tryz.underlying22 hi hz0 hz1 hz2 rfl sv [] xs ho A1 nx c1 HJ.out.1 ((HX.out).below HB.out (Nat.le_refl _)) (by have := HJ.out; unfold maxLen; first | omega | (simp; omega)) (by have := HJ.out; first | omega | (simp; omega)) HB.out.size
          obtain ⟨A0, n0, cc, rfl⟩ : ∃ A n c, sv = .slice A n c := by
            obtain ⟨A, c, e, _⟩ := ho.shape
            exact ⟨A, _, c, e⟩
          obtain ⟨A9, n9, c9, rfl⟩ : ∃ A n c, v' = .slice A n c := by
            obtain ⟨A, c, e, _⟩ := ho'.shape
            exact ⟨A, _, c, e⟩
          have HB' := Hid.mk' (HB.out.trans (below_of_own ho hg' HB.out.size))
          have HO' := Hid.mk' ho'
          clear ho ho' hg'
          go_wp2_with (at_builtin; refine wpList_append_run rfl _ _ 22 22 rfl rfl rfl hr ?_)
          go_roundw
          case rel => exact ⟨1, _, by omega, by go_num, rfl, HO', HB'⟩
          case measure => simp [intOf]
        · have hs : wr.cell? ⟨sb, 1, none⟩ = some (.slice B1 ny d1) := (HB.out.cell (p := ⟨sb, 1, none⟩) hsb).trans h1
          have ho : Own ePt 3 37 w.heap.size wr sv xs := HO.out
          obtain ⟨v', w', hr, ho', hg'⟩ := run_append_row (P := Tryz.prog) ePt_len (by decide) ePt_one wr w.heap.size 22 22 37 i0 _ 32 Tryz.underlying22 hi hz0 hz1 hz2 rfl sv xs ys ho B1 ny d1 HJ.out.2 ((HY.out).below HB.out (Nat.le_refl _)) (by have := HJ.out; unfold maxLen; first | omega | (simp; omega)) (by have := HJ.out; first | omega | (simp; omega)) HB.out.size
          obtain ⟨A0, n0, cc, rfl⟩ : ∃ A n c, sv = .slice A n c := by
            obtain ⟨A, c, e, _⟩ := ho.shape
            exact ⟨A, _, c, e⟩
          obtain ⟨A9, n9, c9, rfl⟩ : ∃ A n c, v' = .slice A n c := by
            obtain ⟨A, c, e, _⟩ := ho'.shape
            exact ⟨A, _, c, e⟩
          have HB' := Hid.mk' (HB.out.trans (below_of_own ho hg' HB.out.size))
          have HO' := Hid.mk' ho'
          clear ho ho' hg'
          go_wp2_with (at_builtin; refine wpList_append_run rfl _ _ 22 22 rfl rfl rfl hr ?_)
          go_roundw
          case rel => exact ⟨2, _, by omega, by go_num, rfl, HO', HB'⟩
          case measure => simp [intOf]
        · obtain ⟨A0, n0, cc, rfl⟩ : ∃ A n c, sv = .slice A n c := by
            obtain ⟨A, c, e, _⟩ := HO.out.shape
            exact ⟨A, _, c, e⟩
          go_wp2_with fail
          go_ret
          exact ⟨_, rfl, HO.out, HB.out⟩

set_option maxHeartbeats 2000000 in
set_option maxRecDepth 100000 in
theorem grow_Sp (n : Nat) (w : World) (hn : n * 56 ≤ 140737488355328) :
    Calls Tryz.prog 62 #[.slice none 0 0, .int .i64 n] w fun e w' => ∃ v, e = .returned v ∧ Own eSp 5 46 w.heap.size w' v [] ∧ Below w.heap.size w w' := by
  obtain ⟨i0, hi, hz0, hz1, hz2⟩ := info_parts info_Sp
  have hm : n ≤ 4398046511104 := by omega
  rcases Nat.eq_zero_or_pos n with h0 | h0
  · subst h0
    go_enter Tryz.func62, Tryz.ntmps62
    go_wp2_with fail
    go_ret
    exact ⟨_, rfl, Own.nil _ _ _, Below.refl _ _⟩
  · have hpos : (0 : Int) < (n : Int) := by omega
    have hng : ¬ (n : Int) < 0 := by omega
    have hr := Lib.run_append_nil_zeros (P := Tryz.prog) w 23 3 23 46 i0 _ .i64 .i64 Tryz.underlying23 Tryz.underlying3 hi hz0 n h0 (by rw [hz1]; decide) (by omega) (by rw [hz2]; omega)
    obtain ⟨cp, hcp⟩ : ∃ cp, grownCap w n 0 46 = cp := ⟨_, rfl⟩
    have hge := grownCap_ge w n 0 46
    have hle := grownCap_le_maxLen w n 0 46 (by unfold maxLen; omega)
    rw [hcp] at hr hge hle
    have hc0 : ¬ cp = 0 := by omega
    generalize hcs : Builtin.zeroCells _ n ++ Builtin.zeroCells _ (cp - n) = cs at hr
    have hsz : cs.size = cp * 5 := by
      rw [← hcs, Array.size_append, size_zeroCells, size_zeroCells]
      show n * 5 + (cp - n) * 5 = cp * 5
      omega
    have HO : Hid (Own eSp 5 46 w.heap.size (w.drew.alloc (.cells cs 46)) (.slice (some ⟨w.heap.size, 0, none⟩) 0 cp) []) := ⟨rfl, .inr ⟨w.heap.size, cp, cs, rfl, Nat.le_refl _, World.alloc_heap_new _ _, Nat.zero_le _, hle, hsz, by simp⟩⟩
    have HB : Hid (Below w.heap.size w (w.drew.alloc (.cells cs 46))) := (⟨rfl, rfl, rfl, Nat.le_refl _, fun _ _ => rfl⟩ : Below w.heap.size w w.drew).alloc (Nat.le_refl _) _
    clear hcs hcp hsz hle
    go_enter Tryz.func62, Tryz.ntmps62
    go_wp2_with (at_builtin; refine wpList_append_run rfl _ _ 23 3 rfl rfl rfl hr ?_)
    go_ret
    exact ⟨_, rfl, HO.out, HB.out⟩
set_option maxHeartbeats 4000000 in
set_option maxRecDepth 100000 in
theorem concat_Sp (A1 B1 : Option Addr) (c1 d1 sb : Nat) (xs ys : List Sp) (w : World) (hx : RowIn eSp 5 w A1 xs) (hy : RowIn eSp 5 w B1 ys) (h0 : w.cell? ⟨sb, 0, none⟩ = some (.slice A1 xs.length c1)) (h1 : w.cell? ⟨sb, 1, none⟩ = some (.slice B1 ys.length d1)) (hby : (xs.length + ys.length) * 56 ≤ 140737488355328) :
    Calls Tryz.prog 33 #[.slice (some ⟨sb, 0, none⟩) 2 2] w fun e w' => ∃ v, e = .returned v ∧ Own eSp 5 46 w.heap.size w' v (xs ++ ys) ∧ Below w.heap.size w w' := by
  obtain ⟨i0, hi, hz0, hz1, hz2⟩ := info_parts info_Sp
  have HX := Hid.mk' hx
  have HY := Hid.mk' hy
  have hsb : sb < w.heap.size := World.block_lt_of_cell? w _ h0
  have HG := grow_Sp (xs.length + ys.length) w hby
  clear hx hy
  obtain ⟨nx, hnx⟩ : ∃ nx, xs.length = nx := ⟨_, rfl⟩
  obtain ⟨ny, hny⟩ : ∃ ny, ys.length = ny := ⟨_, rfl⟩
  rw [hnx] at h0
  rw [hny] at h1
  rw [hnx, hny] at hby HG
  have HN := Hid.mk' (And.intro hnx hny)
  clear hnx hny
  have hp : ¬ (nx : Int) + (ny : Int) < 0 := by omega
  have hp1 : ¬ (nx : Int) < 0 := by omega
  go_enter Tryz.func33, Tryz.ntmps33
  go_wp2_with fail
  go_loopw [3, 11] (fun s3 s11 wr => ∃ j : Nat, j ≤ 2 ∧ s11 = .int .i64 j ∧ s3 = .int .i64 (if j = 0 then 0 else if j = 1 then (nx : Int) else ((nx + ny : Nat) : Int)) ∧ w = wr) (fun _ s11 _ => 2 - (intOf s11).toNat)
  case atStart => exact ⟨0, by omega, rfl, rfl, rfl⟩
  case round =>
    obtain ⟨j, hj, rfl, rfl, rfl⟩ := hrel
    have hj3 : j = 0 ∨ j = 1 ∨ j = 2 := by omega
    rcases hj3 with rfl | rfl | rfl
    · go_wp2_with fail
      go_roundw
      case rel => exact ⟨1, by omega, by go_num, by simp, trivial⟩
      case measure => simp [intOf]
    · go_wp2_with fail
      go_roundw
      case rel => exact ⟨2, by omega, by go_num, by simp, trivial⟩
      case measure => simp [intOf]
    · go_wp2_with fail
      refine HG.mono ?_
      rintro e w1 ⟨v0, rfl, ho, hb⟩
      have HO := Hid.mk' ho
      have HB := Hid.mk' hb
      clear HG ho hb
      go_wp2_with fail
      go_loopw [6, 27] (fun s6 s27 wr => ∃ (j : Nat) (sv : Value), j ≤ 2 ∧ s27 = .int .i64 j ∧ sv = s6 ∧ Hid (Own eSp 5 46 w.heap.size wr sv (if j = 0 then [] else if j = 1 then xs else xs ++ ys)) ∧ Hid (Below w.heap.size w wr)) (fun _ s27 _ => 2 - (intOf s27).toNat)
      case atStart => exact ⟨0, _, by omega, rfl, rfl, HO, HB⟩
      case round =>
        obtain ⟨j, sv, hj, rfl, rfl, HO, HB⟩ := hrel
        have hj3 : j = 0 ∨ j = 1 ∨ j = 2 := by omega
        have hN1 := HN.out.1
        have hN2 := HN.out.2
        have HJ : Hid (nx = xs.length ∧ ny = ys.length) := ⟨hN1.symm, hN2.symm⟩
        clear hN1 hN2
        rcases hj3 with rfl | rfl | rfl
        · have hs : wr.cell? ⟨sb, 0, none⟩ = some (.slice A1 nx c1) := (HB.out.cell (p := ⟨sb, 0, none⟩) hsb).trans h0
          have ho : Own eSp 5 46 w.heap.size wr sv [] := HO.out
          obtain ⟨v', w', hr, ho', hg'⟩ := run_append_row (P := Tryz.prog) eSp_len (by decide) eSp_one wr w.heap.size 23 23 46 i0 _ 56 Tryz.underlying23 hi hz0 hz1 hz2 rfl sv [] xs ho A1 nx c1 HJ.out.1 ((HX.out).below HB.out (Nat.le_refl _)) (by have := HJ.out; unfold maxLen; first | omega | (simp; omega)) (by have := HJ.out; first | omega | (simp; omega)) HB.out.size
          obtain ⟨A0, n0, cc, rfl⟩ : ∃ A n c, sv = .slice A n c := by
            obtain ⟨A, c, e, _⟩ := ho.shape
            exact ⟨A, _, c, e⟩
          obtain ⟨A9, n9, c9, rfl⟩ : ∃ A n c, v' = .slice A n c := by
            obtain ⟨A, c, e, _⟩ := ho'.shape
            exact ⟨A, _, c, e⟩
          have HB' := Hid.mk' (HB.out.trans (below_of_own ho hg' HB.out.size))
          have HO' := Hid.mk' ho'
          clear ho ho' hg'
          go_wp2_with (at_builtin; refine wpList_append_run rfl _ _ 23 23 rfl rfl rfl hr ?_)
          go_roundw
          case rel => exact ⟨1, _, by omega, by go_num, rfl, HO', HB'⟩
          case measure => simp [intOf]
        · have hs : wr.cell? ⟨sb, 1, none⟩ = some (.slice B1 ny d1) := (HB.out.cell (p := ⟨sb, 1, none⟩) hsb).trans h1
          have ho : Own eSp 5 46 w.heap.size wr sv xs := HO.out
          obtain ⟨v', w', hr, ho', hg'⟩ := run_append_row (P := Tryz.prog) eSp_len (by decide) eSp_one wr w.heap.size 23 23 46 i0 _ 56 Tryz.underlying23 hi hz0 hz1 hz2 rfl sv xs ys ho B1 ny d1 HJ.out.2 ((HY.out).below HB.out (Nat.le_refl _)) (by have := HJ.out; unfold maxLen; first | omega | (simp; omega)) (by have := HJ.out; first | omega | (simp; omega)) HB.out.size
          obtain ⟨A0, n0, cc, rfl⟩ : ∃ A n c, sv = .slice A n c := by
            obtain ⟨A, c, e, _⟩ := ho.shape
            exact ⟨A, _, c, e⟩
          obtain ⟨A9, n9, c9, rfl⟩ : ∃ A n c, v' = .slice A n c := by
            obtain ⟨A, c, e, _⟩ := ho'.shape
            exact ⟨A, _, c, e⟩
          have HB' := Hid.mk' (HB.out.trans (below_of_own ho hg' HB.out.size))
          have HO' := Hid.mk' ho'
          clear ho ho' hg'
          go_wp2_with (at_builtin; refine wpList_append_run rfl _ _ 23 23 rfl rfl rfl hr ?_)
          go_roundw
          case rel => exact ⟨2, _, by omega, by go_num, rfl, HO', HB'⟩
          case measure => simp [intOf]
        · obtain ⟨A0, n0, cc, rfl⟩ : ∃ A n c, sv = .slice A n c := by
            obtain ⟨A, c, e, _⟩ := HO.out.shape
            exact ⟨A, _, c, e⟩
          go_wp2_with fail
          go_ret
          exact ⟨_, rfl, HO.out, HB.out⟩
end Go.Proofs.YtpbmcaidkjlokaaGreat
