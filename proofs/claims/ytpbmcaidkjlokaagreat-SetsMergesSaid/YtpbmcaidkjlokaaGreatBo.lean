/- Copies of feet. -/
import Derived.Test.YtpbmcaidkjlokaaGreatNm
import Derived.Test.YtpbmcaidkjlokaaGreatS3
import Derived.Deep.RegionHeld3
import Derived.Deep.AppendLies
namespace Go.Proofs.YtpbmcaidkjlokaaGreat
open Go.RowKit
set_option linter.unusedSimpArgs false
set_option linter.unusedVariables false

/-- What stands while a foot is put together: two that are read, and the new one's parts. -/
structure Bo (w wr : World) (fa fb : Array Value) (x y z : Value) (P : List Pt) (S : List Sp) (Q : List Pt) : Prop where
  below : Below w.heap.size w wr
  size : w.heap.size + 3 < wr.heap.size
  a : wr.heap[w.heap.size]? = some (.cells fa 25 (0, 0))
  b : wr.heap[w.heap.size + 1]? = some (.cells fb 25 (0, 0))
  t : wr.heap[w.heap.size + 2]? = some (.cells #[.slice none 0 0, .slice none 0 0, .slice none 0 0] 25 (0, 0))
  o : wr.heap[w.heap.size + 3]? = some (.cells #[x, y, z] 25 (0, 0))
  px : Own ePt 3 37 (w.heap.size + 4) wr x P
  py : Own eSp 5 46 (w.heap.size + 4) wr y S
  pz : Own ePt 3 37 (w.heap.size + 4) wr z Q
  ap : (x.ownBlock = none ∨ x.ownBlock ≠ z.ownBlock) ∧ (z.ownBlock = none ∨ z.ownBlock ≠ x.ownBlock)
section
variable {w wr : World} {fa fb : Array Value} {x y z : Value} {P : List Pt} {S : List Sp} {Q : List Pt}
theorem Bo.start (w : World) (fa fb : Array Value) : Bo w ((((w.alloc (.cells fa 25)).alloc (.cells fb 25)).alloc (.cells #[.slice none 0 0, .slice none 0 0, .slice none 0 0] 25)).alloc (.cells #[.slice none 0 0, .slice none 0 0, .slice none 0 0] 25)) fa fb (.slice none 0 0) (.slice none 0 0) (.slice none 0 0) [] [] [] where
  below := ((((Below.refl _ w).alloc (Nat.le_refl _) _).alloc (by simp) _).alloc (by simp <;> omega) _).alloc (by simp <;> omega) _
  size := by simp
  a := by rw [Below.heap_alloc _ _ _ (by simp <;> omega), Below.heap_alloc _ _ _ (by simp <;> omega), Below.heap_alloc _ _ _ (by simp)]; exact World.alloc_heap_new _ _
  b := by
    rw [Below.heap_alloc _ _ _ (by simp <;> omega), Below.heap_alloc _ _ _ (by simp)]
    have := World.alloc_heap_new (w.alloc (.cells fa 25)) (.cells fb 25)
    rwa [World.size_alloc] at this
  t := by
    rw [Below.heap_alloc _ _ _ (by simp)]
    have := World.alloc_heap_new ((w.alloc (.cells fa 25)).alloc (.cells fb 25)) (.cells #[.slice none 0 0, .slice none 0 0, .slice none 0 0] 25)
    rwa [World.size_alloc, World.size_alloc] at this
  o := by
    have := World.alloc_heap_new (((w.alloc (.cells fa 25)).alloc (.cells fb 25)).alloc (.cells #[.slice none 0 0, .slice none 0 0, .slice none 0 0] 25)) (.cells #[.slice none 0 0, .slice none 0 0, .slice none 0 0] 25)
    rwa [World.size_alloc, World.size_alloc, World.size_alloc] at this
  px := Own.nil _ _ _
  py := Own.nil _ _ _
  pz := Own.nil _ _ _
  ap := ⟨.inl rfl, .inl rfl⟩
/-- Nothing that counts was written. -/
theorem Bo.kept (h : Bo w wr fa fb x y z P S Q) {w' : World} (hg : wr.grownBy w' none) : Bo w w' fa fb x y z P S Q where
  below := h.below.grown hg (by have := h.size; omega) (fun k e => by cases e)
  size := Nat.lt_of_lt_of_le h.size hg.size
  a := (hg.block _ (by have := h.size; omega) (by simp)).trans h.a
  b := (hg.block _ (by have := h.size; omega) (by simp)).trans h.b
  t := (hg.block _ (by have := h.size; omega) (by simp)).trans h.t
  o := (hg.block _ (by have := h.size; omega) (by simp)).trans h.o
  px := h.px.kept hg (by cases x.ownBlock <;> simp)
  py := h.py.kept hg (by cases y.ownBlock <;> simp)
  pz := h.pz.kept hg (by cases z.ownBlock <;> simp)
  ap := h.ap
/-- A store of a part. -/
theorem stored_o {w4 : World} {t : TypeId} {cs : Array Value} {B i : Nat} (h : w4.heap[B]? = some (.cells cs t (0, 0))) (v : Value) : (w4.setCell ⟨B, i, none⟩ v).heap[B]? = some (.cells (cs.setIfInBounds i v) t (0, 0)) ∧ w4.grownBy (w4.setCell ⟨B, i, none⟩ v) (some B) := ⟨heap_setCell_at v h, grownBy_setCell_at _ _ _ _⟩
theorem Bo.putX (h : Bo w wr fa fb x y z P S Q) {w4 : World} {p : Pt} {v' : Value} (hown : w4.ownsRow (w.heap.size + 4) 37 3 v' (P.length + 1) (P.flatMap ePt ++ ePt p)) (hg : wr.grownBy w4 x.ownBlock) (hl : v'.ownBlock = x.ownBlock ∨ ∃ k, v'.ownBlock = some k ∧ wr.heap.size ≤ k) :
    Bo w (w4.setCell ⟨w.heap.size + 3, 0, none⟩ v') fa fb v' y z (P ++ [p]) S Q := by
  have hs := h.size
  have hx : ∀ r, r < w.heap.size + 4 → some r ≠ x.ownBlock := fun r hr e => by
    rcases own_ne_lit h.px hr with e' | e'
    · rw [e'] at e; cases e
    · exact e' e.symm
  have ho4 := (hg.block _ (by omega) (hx _ (by omega))).trans h.o
  obtain ⟨k1, k2⟩ := stored_o (i := 0) ho4 v'
  have hz := hg.size
  have pz4 := h.pz.kept hg h.ap.2
  have py4 := h.py.kept hg (own_blk_ne (by decide) h.py h.px)
  have px4 : Own ePt 3 37 (w.heap.size + 4) w4 v' (P ++ [p]) := own_snoc hown
  refine ⟨?_, Nat.lt_of_lt_of_le (Nat.lt_of_lt_of_le hs hz) k2.size, ?_, ?_, ?_, ?_, ?_, ?_, ?_, ?_⟩
  · exact (h.below.grown hg (by omega) (fun k e => by have := (World.ownsRow.lt h.px k e).1; omega)).grown k2 (by omega) (fun k e => by cases e; omega)
  · exact (k2.block _ (by omega) (by simp)).trans ((hg.block _ (by omega) (hx _ (by omega))).trans h.a)
  · exact (k2.block _ (by omega) (by simp)).trans ((hg.block _ (by omega) (hx _ (by omega))).trans h.b)
  · exact (k2.block _ (by omega) (by simp)).trans ((hg.block _ (by omega) (hx _ (by omega))).trans h.t)
  · exact k1
  · exact px4.kept k2 (own_ne_lit px4 (by omega))
  · exact py4.kept k2 (own_ne_lit py4 (by omega))
  · exact pz4.kept k2 (own_ne_lit pz4 (by omega))
  · rcases hl with e | ⟨k, e, hk⟩
    · rw [e]; exact h.ap
    · have : z.ownBlock = none ∨ z.ownBlock ≠ some k := by
        cases hq : z.ownBlock with
        | none => exact .inl rfl
        | some q => right; intro e'; cases e'; have := (World.ownsRow.lt h.pz k hq).2; omega
      rw [e]
      refine ⟨.inr fun e' => ?_, this⟩
      rcases this with e2 | e2
      · rw [e2] at e'; cases e'
      · exact e2 e'.symm
theorem Bo.putY (h : Bo w wr fa fb x y z P S Q) {w4 : World} {p : Sp} {v' : Value} (hown : w4.ownsRow (w.heap.size + 4) 46 5 v' (S.length + 1) (S.flatMap eSp ++ eSp p)) (hg : wr.grownBy w4 y.ownBlock) :
    Bo w (w4.setCell ⟨w.heap.size + 3, 1, none⟩ v') fa fb x v' z P (S ++ [p]) Q := by
  have hs := h.size
  have hx : ∀ r, r < w.heap.size + 4 → some r ≠ y.ownBlock := fun r hr e => by
    rcases own_ne_lit h.py hr with e' | e'
    · rw [e'] at e; cases e
    · exact e' e.symm
  have ho4 := (hg.block _ (by omega) (hx _ (by omega))).trans h.o
  obtain ⟨k1, k2⟩ := stored_o (i := 1) ho4 v'
  have hz := hg.size
  have pz4 := h.pz.kept hg (own_blk_ne (by decide) h.pz h.py)
  have px4 := h.px.kept hg (own_blk_ne (by decide) h.px h.py)
  have py4 : Own eSp 5 46 (w.heap.size + 4) w4 v' (S ++ [p]) := own_snoc hown
  refine ⟨?_, Nat.lt_of_lt_of_le (Nat.lt_of_lt_of_le hs hz) k2.size, ?_, ?_, ?_, ?_, ?_, ?_, ?_, h.ap⟩
  · exact (h.below.grown hg (by omega) (fun k e => by have := (World.ownsRow.lt h.py k e).1; omega)).grown k2 (by omega) (fun k e => by cases e; omega)
  · exact (k2.block _ (by omega) (by simp)).trans ((hg.block _ (by omega) (hx _ (by omega))).trans h.a)
  · exact (k2.block _ (by omega) (by simp)).trans ((hg.block _ (by omega) (hx _ (by omega))).trans h.b)
  · exact (k2.block _ (by omega) (by simp)).trans ((hg.block _ (by omega) (hx _ (by omega))).trans h.t)
  · exact k1
  · exact px4.kept k2 (own_ne_lit px4 (by omega))
  · exact py4.kept k2 (own_ne_lit py4 (by omega))
  · exact pz4.kept k2 (own_ne_lit pz4 (by omega))
theorem Bo.putZ (h : Bo w wr fa fb x y z P S Q) {w4 : World} {p : Pt} {v' : Value} (hown : w4.ownsRow (w.heap.size + 4) 37 3 v' (Q.length + 1) (Q.flatMap ePt ++ ePt p)) (hg : wr.grownBy w4 z.ownBlock) (hl : v'.ownBlock = z.ownBlock ∨ ∃ k, v'.ownBlock = some k ∧ wr.heap.size ≤ k) :
    Bo w (w4.setCell ⟨w.heap.size + 3, 2, none⟩ v') fa fb x y v' P S (Q ++ [p]) := by
  have hs := h.size
  have hx : ∀ r, r < w.heap.size + 4 → some r ≠ z.ownBlock := fun r hr e => by
    rcases own_ne_lit h.pz hr with e' | e'
    · rw [e'] at e; cases e
    · exact e' e.symm
  have ho4 := (hg.block _ (by omega) (hx _ (by omega))).trans h.o
  obtain ⟨k1, k2⟩ := stored_o (i := 2) ho4 v'
  have hz := hg.size
  have px4 := h.px.kept hg h.ap.1
  have py4 := h.py.kept hg (own_blk_ne (by decide) h.py h.pz)
  have pz4 : Own ePt 3 37 (w.heap.size + 4) w4 v' (Q ++ [p]) := own_snoc hown
  refine ⟨?_, Nat.lt_of_lt_of_le (Nat.lt_of_lt_of_le hs hz) k2.size, ?_, ?_, ?_, ?_, ?_, ?_, ?_, ?_⟩
  · exact (h.below.grown hg (by omega) (fun k e => by have := (World.ownsRow.lt h.pz k e).1; omega)).grown k2 (by omega) (fun k e => by cases e; omega)
  · exact (k2.block _ (by omega) (by simp)).trans ((hg.block _ (by omega) (hx _ (by omega))).trans h.a)
  · exact (k2.block _ (by omega) (by simp)).trans ((hg.block _ (by omega) (hx _ (by omega))).trans h.b)
  · exact (k2.block _ (by omega) (by simp)).trans ((hg.block _ (by omega) (hx _ (by omega))).trans h.t)
  · exact k1
  · exact px4.kept k2 (own_ne_lit px4 (by omega))
  · exact py4.kept k2 (own_ne_lit py4 (by omega))
  · exact pz4.kept k2 (own_ne_lit pz4 (by omega))
  · rcases hl with e | ⟨k, e, hk⟩
    · rw [e]; exact h.ap
    · have : x.ownBlock = none ∨ x.ownBlock ≠ some k := by
        cases hq : x.ownBlock with
        | none => exact .inl rfl
        | some q => right; intro e'; cases e'; have := (World.ownsRow.lt h.px k hq).2; omega
      rw [e]
      refine ⟨this, .inr fun e' => ?_⟩
      rcases this with e2 | e2
      · rw [e2] at e'; cases e'
      · exact e2 e'.symm
end
theorem Own.shape' {α : Type} {enc : α → List Value} {k : Nat} {e : TypeId} {base : Nat} {w : World} {v : Value} {xs : List α} (h : Own enc k e base w v xs) : ∃ A n c, v = .slice A n c := by
  obtain ⟨A, c, e, _⟩ := h.shape
  exact ⟨A, _, c, e⟩
theorem Bo.fin {w wr : World} {fa fb : Array Value} {x y z : Value} {P : List Pt} {S : List Sp} {Q : List Pt} (h : Bo w wr fa fb x y z P S Q) {w' : World} (hg : wr.grownBy w' (some (w.heap.size + 2))) : FootOwn w.heap.size w' (.agg #[x, y, z]) (P, S, Q) ∧ Below w.heap.size w w' :=
  ⟨⟨x, y, z, rfl, (h.px.kept hg (own_ne_lit h.px (by omega))).lower (by omega), (h.py.kept hg (own_ne_lit h.py (by omega))).lower (by omega), (h.pz.kept hg (own_ne_lit h.pz (by omega))).lower (by omega)⟩, h.below.grown hg (by have := h.size; omega) (fun k e => by cases e; omega)⟩
set_option maxHeartbeats 4000000 in
set_option maxRecDepth 100000 in
theorem both_calls (A1 A2 A3 B1 B2 B3 : Option Addr) (c1 c2 c3 d1 d2 d3 : Nat) (f g : Foot) (w : World) (h : FootIn w A1 A2 A3 f) (h' : FootIn w B1 B2 B3 g)
    (q1 : (f.1.length + g.1.length) * 32 ≤ 140737488355328) (q2 : (f.2.1.length + g.2.1.length) * 56 ≤ 140737488355328) (q3 : (f.2.2.length + g.2.2.length) * 32 ≤ 140737488355328) :
    Calls Tryz.prog 21 #[FootV A1 A2 A3 c1 c2 c3 f, FootV B1 B2 B3 d1 d2 d3 g] w fun e w' => ∃ v, e = .returned v ∧ FootOwn w.heap.size w' v (VP.both f g) ∧ Below w.heap.size w w' := by
  have HF := Hid.mk' h
  have HG := Hid.mk' h'
  obtain ⟨i2, hi2, z0, z1, z2⟩ := info_parts info_Pt
  obtain ⟨i1, hi1, y0, y1, y2⟩ := info_parts info_Sp
  clear h h'
  unfold FootV
  go_enter Tryz.func21, Tryz.ntmps21
  go_wp2_with fail
  have HBO := Bo.start w #[.slice A1 f.1.length c1, .slice A2 f.2.1.length c2, .slice A3 f.2.2.length c3] #[.slice B1 g.1.length d1, .slice B2 g.2.1.length d2, .slice B3 g.2.2.length d3]
  obtain ⟨W, hW⟩ : ∃ W, (((w.alloc (.cells #[.slice A1 f.1.length c1, .slice A2 f.2.1.length c2, .slice A3 f.2.2.length c3] 25)).alloc (.cells #[.slice B1 g.1.length d1, .slice B2 g.2.1.length d2, .slice B3 g.2.2.length d3] 25)).alloc (.cells #[.slice none 0 0, .slice none 0 0, .slice none 0 0] 25)).alloc (.cells #[.slice none 0 0, .slice none 0 0, .slice none 0 0] 25) = W := ⟨_, rfl⟩
  rw [hW] at HBO ⊢
  have HBW := Hid.mk' HBO
  clear hW HBO
  go_loopw [6] (fun s6 wr => ∃ (k : Nat) (x : Value), k ≤ f.1.length ∧ s6 = .int .i64 k ∧ Hid (Bo w wr #[.slice A1 f.1.length c1, .slice A2 f.2.1.length c2, .slice A3 f.2.2.length c3] #[.slice B1 g.1.length d1, .slice B2 g.2.1.length d2, .slice B3 g.2.2.length d3] x (.slice none 0 0) (.slice none 0 0) (f.1.take k) [] [])) (fun s6 _ => f.1.length - (intOf s6).toNat)
  case atStart => exact ⟨0, .slice none 0 0, Nat.zero_le _, rfl, HBW.out⟩
  case round =>
    obtain ⟨k, x, hk, rfl, HB⟩ := hrel
    have ka : wr.cell? ⟨w.heap.size, 0, none⟩ = some (.slice A1 f.1.length c1) := cell_at HB.out.a rfl
    by_cases hlt : k < f.1.length
    · have hltz : (k : Int) < (f.1.length : Int) := by omega
      obtain ⟨p, hp⟩ : ∃ p, f.1[k]? = some p := ⟨_, List.getElem?_eq_getElem hlt⟩
      obtain ⟨b, off, rfl, hbl, hcell⟩ := HF.out.pts.at_ hlt
      have es : f.1[k] = p := (List.getElem?_eq_some_iff.1 hp).2
      rw [es] at hcell
      have hcw : ∀ q v, (ePt p)[q]? = some v → wr.cell? ⟨b, off + k * 3 + q, none⟩ = some v := fun q v hv => (HB.out.below.cell (p := ⟨b, _, none⟩) hbl).trans (hcell q v hv)
      have e0 : wr.cell? ⟨b, off + k * 3, none⟩ = some (.int .i64 p.t) := hcw 0 _ rfl
      have e1 : wr.cell? ⟨b, off + k * 3 + 1, none⟩ = some (.int .i64 p.i) := hcw 1 _ rfl
      have e2 : wr.cell? ⟨b, off + k * 3 + 2, none⟩ = some (.string p.key) := hcw 2 _ rfl
      have ko : wr.cell? ⟨w.heap.size + 3, 0, none⟩ = some x := cell_at HB.out.o rfl
      have hszw := HB.out.size
      have HTK : Hid ((f.1.take k) ++ [p] = f.1.take (k + 1)) := by show _ = _; rw [List.take_succ_eq_append_getElem hlt, es]
      obtain ⟨Ax, cx, rfl, hcx⟩ := HB.out.px.shape
      have hln : (f.1.take k).length = k := by exact List.length_take_of_le (Nat.le_of_lt hlt)
      have hown : wr.ownsRow (w.heap.size + 4) 37 3 (.slice Ax (f.1.take k).length cx) (f.1.take k).length ((f.1.take k).flatMap ePt) := HB.out.px
      have HLN := Hid.mk' hln
      rw [hln] at hown ko
      have hfar : ∀ w4 : World, (wr.alloc (.cells #[.int .i64 p.t, .int .i64 p.i, .string p.key] 37)).drew.grownBy w4 (Value.slice Ax (k) cx).ownBlock → ∀ a : Addr, a.block < w.heap.size + 4 → w4.cell? a = wr.cell? a ∧ w4.frozen? a = wr.frozen? a := fun w4 hg a ha => far_cell hown (by omega) hg a ha
      have HFR := Hid.mk' hfar
      have fo : wr.frozen? ⟨w.heap.size + 3, 0, none⟩ = false := free_at _ HB.out.o
      have hbne : b ≠ w.heap.size + 1 + 1 + 1 := by omega
      clear hcell hcw hp es hcx hln hfar
      go_wp2_with fail
      refine wp_region_noPanic ?_
      refine wp_region_held_drew (S := (fun w' => w'.cell? ⟨w.heap.size, 0, none⟩ = some (.slice (some ⟨b, off, none⟩) f.1.length c1) ∧ w'.cell? ⟨b, off + k * 3, none⟩ = some (.int .i64 p.t) ∧ w'.cell? ⟨b, off + k * 3 + 1, none⟩ = some (.int .i64 p.i) ∧ w'.cell? ⟨b, off + k * 3 + 2, none⟩ = some (.string p.key))) (by kernel_rfl) ?_ (fun hHeld => ?_)
      · (first | (refine ⟨?_, ?_, ?_, ?_⟩ <;> (refine (World.cell?_setCell_far _ _ _ _ (by simp only [ne_eq]; omega)).trans ?_; assumption)) | go_keep)
      refine wpAnyH_take (i := 0) (v := ?_) rfl (by kernel_rfl) (by kernel_rfl) (by kernel_rfl) (fun _ _ _ h => h) (Or.inl ⟨by rfl, ?_⟩) (by assumption) ?_
      rotate_left
      · intro w hSw
        (try dsimp only at hSw)
        first | (go_simp; with_reducible rfl) | go_simp
      (try simp only [Act.put, List.setIfInBounds_toArray, List.set_cons_zero, List.set_cons_succ])
      refine wpAnyH_take (i := 2) (v := ?_) rfl (by kernel_rfl) (by kernel_rfl) (by kernel_rfl) (fun _ _ _ h => h) (Or.inl ⟨by rfl, ?_⟩) (by assumption) ?_
      rotate_left
      · intro w hSw
        (try dsimp only at hSw)
        first | (go_simp; with_reducible rfl) | go_simp
      (try simp only [Act.put, List.setIfInBounds_toArray, List.set_cons_zero, List.set_cons_succ])
      refine wpAnyH_take (i := 3) (v := ?_) rfl (by kernel_rfl) (by kernel_rfl) (by kernel_rfl) (fun _ _ _ h => h) (Or.inl ⟨by rfl, ?_⟩) (by assumption) ?_
      rotate_left
      · intro w hSw
        (try dsimp only at hSw)
        first | (go_simp; with_reducible rfl) | go_simp
      (try simp only [Act.put, List.setIfInBounds_toArray, List.set_cons_zero, List.set_cons_succ])
      refine wpAnyH_take (i := 4) (v := ?_) rfl (by kernel_rfl) (by kernel_rfl) (by kernel_rfl) (fun _ _ _ h => h) (Or.inl ⟨by rfl, ?_⟩) (by assumption) ?_
      rotate_left
      · intro w hSw
        (try dsimp only at hSw)
        first | (go_simp; with_reducible rfl) | go_simp
      (try simp only [Act.put, List.setIfInBounds_toArray, List.set_cons_zero, List.set_cons_succ])
      refine wpAnyH_take (i := 5) (v := ?_) rfl (by kernel_rfl) (by kernel_rfl) (by kernel_rfl) (fun _ _ _ h => h) (Or.inl ⟨by rfl, ?_⟩) (by assumption) ?_
      rotate_left
      · intro w hSw
        (try dsimp only at hSw)
        first | (go_simp; with_reducible rfl) | go_simp
      (try simp only [Act.put, List.setIfInBounds_toArray, List.set_cons_zero, List.set_cons_succ])
      refine wpAnyH_take (i := 6) (v := ?_) rfl (by kernel_rfl) (by kernel_rfl) (by kernel_rfl) (fun _ _ _ h => h) (Or.inl ⟨by rfl, ?_⟩) (by assumption) ?_
      rotate_left
      · intro w hSw
        (try dsimp only at hSw)
        first | (go_simp; with_reducible rfl) | go_simp
      (try simp only [Act.put, List.setIfInBounds_toArray, List.set_cons_zero, List.set_cons_succ])
      refine wpAnyH_ready (rs := [1, 7]) (by kernel_rfl) (by simp) ?_
      refine AllReadyH.cons (i := 1) rfl (fun K hK => ?_) ?_
      · go_simp
        refine hK.out _ _ ?_ (fun hHeld => ?_)
        · (first | (refine ⟨?_, ?_, ?_, ?_⟩ <;> (refine (World.cell?_setCell_far _ _ _ _ (by simp only [ne_eq]; omega)).trans ?_; assumption)) | go_keep)
        clear hK K
        (try simp only [Act.put, List.setIfInBounds_toArray, List.set_cons_zero, List.set_cons_succ])
        refine wpAnyH_ready (rs := [7]) (by kernel_rfl) (by simp) ?_
        refine AllReadyH.cons (i := 7) rfl (fun K hK => ?_) ?_
        · go_simp
          refine hK.out _ _ ?_ (fun hHeld => ?_)
          · (first | (refine ⟨?_, ?_, ?_, ?_⟩ <;> (refine (World.cell?_setCell_far _ _ _ _ (by simp only [ne_eq]; omega)).trans ?_; assumption)) | go_keep)
          clear hK K
          (try simp only [Act.put, List.setIfInBounds_toArray, List.set_cons_zero, List.set_cons_succ])
          refine wpAnyH_ready (rs := [8]) (by kernel_rfl) (by simp) ?_
          refine AllReadyH.cons (i := 8) rfl (fun K hK => ?_) ?_
          · refine step_append_lies _ rfl _ _ 22 rfl (w.heap.size + 4) 37 i2 _ 3 32 Tryz.underlying22 hi2 z0 z1 z2 rfl (by decide) (.slice Ax (k) cx) (k) _ rfl (own_drew (World.ownsRow.alloc hown _)) _ _ _ (ePt p) rfl rfl ?_ (ePt_one _) (by decide) ?_ ?_ ?_ (wr.heap.size + 1) ?_ ?_
            case refine_1 => exact new_cells rfl rfl
            case refine_2 => unfold maxLen; omega
            case refine_3 => omega
            case refine_4 => simp; omega
            case refine_5 => simp
            intro gg cap w4 hown4 hgr4 hli hlt4
            have HST := Hid.mk' (And.intro hown4 (And.intro hgr4 hli))
            have f4 : w4.frozen? ⟨w.heap.size + 3, 0, none⟩ = false := (HFR.out w4 hgr4 _ (by simp)).2.trans fo
            have g0 : w4.cell? ⟨w.heap.size + 3, 0, none⟩ = some (.slice Ax (k) cx) := (HFR.out w4 hgr4 _ (by simp)).1.trans ko
            have g1 : w4.cell? ⟨w.heap.size, 0, none⟩ = some (.slice (some ⟨b, off, none⟩) f.1.length c1) := (HFR.out w4 hgr4 _ (by simp)).1.trans ka
            have g2 : w4.cell? ⟨b, off + k * 3, none⟩ = some (.int .i64 p.t) := (HFR.out w4 hgr4 _ (by simp; omega)).1.trans e0
            have g3 : w4.cell? ⟨b, off + k * 3 + 1, none⟩ = some (.int .i64 p.i) := (HFR.out w4 hgr4 _ (by simp; omega)).1.trans e1
            have g4 : w4.cell? ⟨b, off + k * 3 + 2, none⟩ = some (.string p.key) := (HFR.out w4 hgr4 _ (by simp; omega)).1.trans e2
            clear hown4 hgr4 hli
            refine hK.out _ _ ?_ (fun hHeld => ?_)
            · (first | (refine ⟨?_, ?_, ?_, ?_⟩ <;> (refine (World.cell?_setCell_far _ _ _ _ (by simp only [ne_eq]; omega)).trans ?_; assumption)) | go_keep)
            clear hK K
            (try simp only [Act.put, List.setIfInBounds_toArray, List.set_cons_zero, List.set_cons_succ])
            refine wpAnyH_take (i := 9) (v := ?_) rfl (by kernel_rfl) (by kernel_rfl) (by kernel_rfl) (fun _ _ _ h => h) (Or.inl ⟨by rfl, ?_⟩) (by assumption) ?_
            rotate_left
            · intro w hSw
              (try dsimp only at hSw)
              first | (go_simp; with_reducible rfl) | go_simp
            (try simp only [Act.put, List.setIfInBounds_toArray, List.set_cons_zero, List.set_cons_succ])
            refine wpAnyH_ready (rs := [10]) (by kernel_rfl) (by simp) ?_
            refine AllReadyH.cons (i := 10) rfl (fun K hK => ?_) ?_
            · go_simp
              refine hK.out _ _ ?_ (fun hHeld => ?_)
              · (first | (refine ⟨?_, ?_, ?_, ?_⟩ <;> (refine (World.cell?_setCell_far _ _ _ _ (by simp only [ne_eq]; omega)).trans ?_; assumption)) | go_keep)
              clear hK K
              (try simp only [Act.put, List.setIfInBounds_toArray, List.set_cons_zero, List.set_cons_succ])
              refine wpAnyH_done (by kernel_rfl) ?_ _
              refine NoPanic.normal ?_
              go_wp2_with fail
              go_roundw
              case rel =>
                obtain ⟨ho4, hg4, hl4⟩ := HST.out
                have hkp : wr.grownBy (wr.alloc (.cells #[.int .i64 p.t, .int .i64 p.i, .string p.key] 37)).drew none := ⟨rfl, rfl, rfl, by simp, fun j hj _ => Below.heap_alloc _ _ _ hj⟩
                refine ⟨k + 1, .slice (some ⟨gg, 0, none⟩) (k + 1) cap, by omega, by go_num, ?_⟩
                refine Hid.mk' ?_
                have hg4' : (wr.alloc (.cells #[.int .i64 p.t, .int .i64 p.i, .string p.key] 37)).drew.grownBy w4 (Value.slice Ax (f.1.take k).length cx).ownBlock := by rw [HLN.out]; exact hg4
                have hl4' : (Value.slice Ax (f.1.take k).length cx).ownBlock = some gg ∨ gg = wr.heap.size + 1 := by rw [HLN.out]; exact hl4
                rw [← HTK.out]
                exact (HB.out.kept hkp).putX (p := p) (by rw [HLN.out]; exact ho4) hg4' (hl4'.imp (fun e => e.symm) (fun e => ⟨_, rfl, by rw [e]; simp⟩))
              case measure => simp [intOf]; omega
            exact AllReadyH.nil
          exact AllReadyH.nil
        exact AllReadyH.nil
      refine AllReadyH.cons (i := 7) rfl (fun K hK => ?_) ?_
      · go_simp
        refine hK.out _ _ ?_ (fun hHeld => ?_)
        · (first | (refine ⟨?_, ?_, ?_, ?_⟩ <;> (refine (World.cell?_setCell_far _ _ _ _ (by simp only [ne_eq]; omega)).trans ?_; assumption)) | go_keep)
        clear hK K
        (try simp only [Act.put, List.setIfInBounds_toArray, List.set_cons_zero, List.set_cons_succ])
        refine wpAnyH_ready (rs := [1]) (by kernel_rfl) (by simp) ?_
        refine AllReadyH.cons (i := 1) rfl (fun K hK => ?_) ?_
        · go_simp
          refine hK.out _ _ ?_ (fun hHeld => ?_)
          · (first | (refine ⟨?_, ?_, ?_, ?_⟩ <;> (refine (World.cell?_setCell_far _ _ _ _ (by simp only [ne_eq]; omega)).trans ?_; assumption)) | go_keep)
          clear hK K
          (try simp only [Act.put, List.setIfInBounds_toArray, List.set_cons_zero, List.set_cons_succ])
          refine wpAnyH_ready (rs := [8]) (by kernel_rfl) (by simp) ?_
          refine AllReadyH.cons (i := 8) rfl (fun K hK => ?_) ?_
          · refine step_append_lies _ rfl _ _ 22 rfl (w.heap.size + 4) 37 i2 _ 3 32 Tryz.underlying22 hi2 z0 z1 z2 rfl (by decide) (.slice Ax (k) cx) (k) _ rfl (own_drew (World.ownsRow.alloc hown _)) _ _ _ (ePt p) rfl rfl ?_ (ePt_one _) (by decide) ?_ ?_ ?_ (wr.heap.size + 1) ?_ ?_
            case refine_1 => exact new_cells rfl rfl
            case refine_2 => unfold maxLen; omega
            case refine_3 => omega
            case refine_4 => simp; omega
            case refine_5 => simp
            intro gg cap w4 hown4 hgr4 hli hlt4
            have HST := Hid.mk' (And.intro hown4 (And.intro hgr4 hli))
            have f4 : w4.frozen? ⟨w.heap.size + 3, 0, none⟩ = false := (HFR.out w4 hgr4 _ (by simp)).2.trans fo
            have g0 : w4.cell? ⟨w.heap.size + 3, 0, none⟩ = some (.slice Ax (k) cx) := (HFR.out w4 hgr4 _ (by simp)).1.trans ko
            have g1 : w4.cell? ⟨w.heap.size, 0, none⟩ = some (.slice (some ⟨b, off, none⟩) f.1.length c1) := (HFR.out w4 hgr4 _ (by simp)).1.trans ka
            have g2 : w4.cell? ⟨b, off + k * 3, none⟩ = some (.int .i64 p.t) := (HFR.out w4 hgr4 _ (by simp; omega)).1.trans e0
            have g3 : w4.cell? ⟨b, off + k * 3 + 1, none⟩ = some (.int .i64 p.i) := (HFR.out w4 hgr4 _ (by simp; omega)).1.trans e1
            have g4 : w4.cell? ⟨b, off + k * 3 + 2, none⟩ = some (.string p.key) := (HFR.out w4 hgr4 _ (by simp; omega)).1.trans e2
            clear hown4 hgr4 hli
            refine hK.out _ _ ?_ (fun hHeld => ?_)
            · (first | (refine ⟨?_, ?_, ?_, ?_⟩ <;> (refine (World.cell?_setCell_far _ _ _ _ (by simp only [ne_eq]; omega)).trans ?_; assumption)) | go_keep)
            clear hK K
            (try simp only [Act.put, List.setIfInBounds_toArray, List.set_cons_zero, List.set_cons_succ])
            refine wpAnyH_take (i := 9) (v := ?_) rfl (by kernel_rfl) (by kernel_rfl) (by kernel_rfl) (fun _ _ _ h => h) (Or.inl ⟨by rfl, ?_⟩) (by assumption) ?_
            rotate_left
            · intro w hSw
              (try dsimp only at hSw)
              first | (go_simp; with_reducible rfl) | go_simp
            (try simp only [Act.put, List.setIfInBounds_toArray, List.set_cons_zero, List.set_cons_succ])
            refine wpAnyH_ready (rs := [10]) (by kernel_rfl) (by simp) ?_
            refine AllReadyH.cons (i := 10) rfl (fun K hK => ?_) ?_
            · go_simp
              refine hK.out _ _ ?_ (fun hHeld => ?_)
              · (first | (refine ⟨?_, ?_, ?_, ?_⟩ <;> (refine (World.cell?_setCell_far _ _ _ _ (by simp only [ne_eq]; omega)).trans ?_; assumption)) | go_keep)
              clear hK K
              (try simp only [Act.put, List.setIfInBounds_toArray, List.set_cons_zero, List.set_cons_succ])
              refine wpAnyH_done (by kernel_rfl) ?_ _
              refine NoPanic.normal ?_
              go_wp2_with fail
              go_roundw
              case rel =>
                obtain ⟨ho4, hg4, hl4⟩ := HST.out
                have hkp : wr.grownBy (wr.alloc (.cells #[.int .i64 p.t, .int .i64 p.i, .string p.key] 37)).drew none := ⟨rfl, rfl, rfl, by simp, fun j hj _ => Below.heap_alloc _ _ _ hj⟩
                refine ⟨k + 1, .slice (some ⟨gg, 0, none⟩) (k + 1) cap, by omega, by go_num, ?_⟩
                refine Hid.mk' ?_
                have hg4' : (wr.alloc (.cells #[.int .i64 p.t, .int .i64 p.i, .string p.key] 37)).drew.grownBy w4 (Value.slice Ax (f.1.take k).length cx).ownBlock := by rw [HLN.out]; exact hg4
                have hl4' : (Value.slice Ax (f.1.take k).length cx).ownBlock = some gg ∨ gg = wr.heap.size + 1 := by rw [HLN.out]; exact hl4
                rw [← HTK.out]
                exact (HB.out.kept hkp).putX (p := p) (by rw [HLN.out]; exact ho4) hg4' (hl4'.imp (fun e => e.symm) (fun e => ⟨_, rfl, by rw [e]; simp⟩))
              case measure => simp [intOf]; omega
            exact AllReadyH.nil
          exact AllReadyH.nil
        exact AllReadyH.nil
      exact AllReadyH.nil
    · have hltz : ¬ (k : Int) < (f.1.length : Int) := by omega
      have hke : f.1.take k = f.1 := List.take_of_length_le (by omega)
      rw [hke] at HB
      have HBW := HB
      clear HB hke
      obtain ⟨x0, hx0⟩ : ∃ y, y = x := ⟨_, rfl⟩
      subst hx0
      go_wp2_with fail
      clear ka
      go_loopw [7] (fun s7 wr => ∃ (k : Nat) (x : Value), k ≤ g.1.length ∧ s7 = .int .i64 k ∧ Hid (Bo w wr #[.slice A1 f.1.length c1, .slice A2 f.2.1.length c2, .slice A3 f.2.2.length c3] #[.slice B1 g.1.length d1, .slice B2 g.2.1.length d2, .slice B3 g.2.2.length d3] x (.slice none 0 0) (.slice none 0 0) (f.1 ++ (g.1.take k)) [] [])) (fun s7 _ => g.1.length - (intOf s7).toNat)
      case atStart => exact ⟨0, x0, Nat.zero_le _, rfl, by show Bo _ _ _ _ _ _ _ _ _ _; rw [List.take_zero, List.append_nil]; exact HBW.out⟩
      case round =>
        obtain ⟨k, x, hk, rfl, HB⟩ := hrel
        have ka : wr.cell? ⟨w.heap.size + 1, 0, none⟩ = some (.slice B1 g.1.length d1) := cell_at HB.out.b rfl
        by_cases hlt : k < g.1.length
        · have hltz : (k : Int) < (g.1.length : Int) := by omega
          obtain ⟨p, hp⟩ : ∃ p, g.1[k]? = some p := ⟨_, List.getElem?_eq_getElem hlt⟩
          obtain ⟨b, off, rfl, hbl, hcell⟩ := HG.out.pts.at_ hlt
          have es : g.1[k] = p := (List.getElem?_eq_some_iff.1 hp).2
          rw [es] at hcell
          have hcw : ∀ q v, (ePt p)[q]? = some v → wr.cell? ⟨b, off + k * 3 + q, none⟩ = some v := fun q v hv => (HB.out.below.cell (p := ⟨b, _, none⟩) hbl).trans (hcell q v hv)
          have e0 : wr.cell? ⟨b, off + k * 3, none⟩ = some (.int .i64 p.t) := hcw 0 _ rfl
          have e1 : wr.cell? ⟨b, off + k * 3 + 1, none⟩ = some (.int .i64 p.i) := hcw 1 _ rfl
          have e2 : wr.cell? ⟨b, off + k * 3 + 2, none⟩ = some (.string p.key) := hcw 2 _ rfl
          have ko : wr.cell? ⟨w.heap.size + 3, 0, none⟩ = some x := cell_at HB.out.o rfl
          have hszw := HB.out.size
          have HTK : Hid ((f.1 ++ g.1.take k) ++ [p] = f.1 ++ g.1.take (k + 1)) := by show _ = _; rw [List.take_succ_eq_append_getElem hlt, es, List.append_assoc]
          obtain ⟨Ax, cx, rfl, hcx⟩ := HB.out.px.shape
          have hln : (f.1 ++ g.1.take k).length = f.1.length + k := by rw [List.length_append, List.length_take_of_le (Nat.le_of_lt hlt)]
          have hown : wr.ownsRow (w.heap.size + 4) 37 3 (.slice Ax (f.1 ++ g.1.take k).length cx) (f.1 ++ g.1.take k).length ((f.1 ++ g.1.take k).flatMap ePt) := HB.out.px
          have HLN := Hid.mk' hln
          rw [hln] at hown ko
          have hfar : ∀ w4 : World, (wr.alloc (.cells #[.int .i64 p.t, .int .i64 p.i, .string p.key] 37)).drew.grownBy w4 (Value.slice Ax (f.1.length + k) cx).ownBlock → ∀ a : Addr, a.block < w.heap.size + 4 → w4.cell? a = wr.cell? a ∧ w4.frozen? a = wr.frozen? a := fun w4 hg a ha => far_cell hown (by omega) hg a ha
          have HFR := Hid.mk' hfar
          have fo : wr.frozen? ⟨w.heap.size + 3, 0, none⟩ = false := free_at _ HB.out.o
          have hbne : b ≠ w.heap.size + 1 + 1 + 1 := by omega
          clear hcell hcw hp es hcx hln hfar
          go_wp2_with fail
          refine wp_region_noPanic ?_
          refine wp_region_held_drew (S := (fun w' => w'.cell? ⟨w.heap.size + 1, 0, none⟩ = some (.slice (some ⟨b, off, none⟩) g.1.length d1) ∧ w'.cell? ⟨b, off + k * 3, none⟩ = some (.int .i64 p.t) ∧ w'.cell? ⟨b, off + k * 3 + 1, none⟩ = some (.int .i64 p.i) ∧ w'.cell? ⟨b, off + k * 3 + 2, none⟩ = some (.string p.key))) (by kernel_rfl) ?_ (fun hHeld => ?_)
          · (first | (refine ⟨?_, ?_, ?_, ?_⟩ <;> (refine (World.cell?_setCell_far _ _ _ _ (by simp only [ne_eq]; omega)).trans ?_; assumption)) | go_keep)
          refine wpAnyH_take (i := 0) (v := ?_) rfl (by kernel_rfl) (by kernel_rfl) (by kernel_rfl) (fun _ _ _ h => h) (Or.inl ⟨by rfl, ?_⟩) (by assumption) ?_
          rotate_left
          · intro w hSw
            (try dsimp only at hSw)
            first | (go_simp; with_reducible rfl) | go_simp
          (try simp only [Act.put, List.setIfInBounds_toArray, List.set_cons_zero, List.set_cons_succ])
          refine wpAnyH_take (i := 2) (v := ?_) rfl (by kernel_rfl) (by kernel_rfl) (by kernel_rfl) (fun _ _ _ h => h) (Or.inl ⟨by rfl, ?_⟩) (by assumption) ?_
          rotate_left
          · intro w hSw
            (try dsimp only at hSw)
            first | (go_simp; with_reducible rfl) | go_simp
          (try simp only [Act.put, List.setIfInBounds_toArray, List.set_cons_zero, List.set_cons_succ])
          refine wpAnyH_take (i := 3) (v := ?_) rfl (by kernel_rfl) (by kernel_rfl) (by kernel_rfl) (fun _ _ _ h => h) (Or.inl ⟨by rfl, ?_⟩) (by assumption) ?_
          rotate_left
          · intro w hSw
            (try dsimp only at hSw)
            first | (go_simp; with_reducible rfl) | go_simp
          (try simp only [Act.put, List.setIfInBounds_toArray, List.set_cons_zero, List.set_cons_succ])
          refine wpAnyH_take (i := 4) (v := ?_) rfl (by kernel_rfl) (by kernel_rfl) (by kernel_rfl) (fun _ _ _ h => h) (Or.inl ⟨by rfl, ?_⟩) (by assumption) ?_
          rotate_left
          · intro w hSw
            (try dsimp only at hSw)
            first | (go_simp; with_reducible rfl) | go_simp
          (try simp only [Act.put, List.setIfInBounds_toArray, List.set_cons_zero, List.set_cons_succ])
          refine wpAnyH_take (i := 5) (v := ?_) rfl (by kernel_rfl) (by kernel_rfl) (by kernel_rfl) (fun _ _ _ h => h) (Or.inl ⟨by rfl, ?_⟩) (by assumption) ?_
          rotate_left
          · intro w hSw
            (try dsimp only at hSw)
            first | (go_simp; with_reducible rfl) | go_simp
          (try simp only [Act.put, List.setIfInBounds_toArray, List.set_cons_zero, List.set_cons_succ])
          refine wpAnyH_take (i := 6) (v := ?_) rfl (by kernel_rfl) (by kernel_rfl) (by kernel_rfl) (fun _ _ _ h => h) (Or.inl ⟨by rfl, ?_⟩) (by assumption) ?_
          rotate_left
          · intro w hSw
            (try dsimp only at hSw)
            first | (go_simp; with_reducible rfl) | go_simp
          (try simp only [Act.put, List.setIfInBounds_toArray, List.set_cons_zero, List.set_cons_succ])
          refine wpAnyH_ready (rs := [1, 7]) (by kernel_rfl) (by simp) ?_
          refine AllReadyH.cons (i := 1) rfl (fun K hK => ?_) ?_
          · go_simp
            refine hK.out _ _ ?_ (fun hHeld => ?_)
            · (first | (refine ⟨?_, ?_, ?_, ?_⟩ <;> (refine (World.cell?_setCell_far _ _ _ _ (by simp only [ne_eq]; omega)).trans ?_; assumption)) | go_keep)
            clear hK K
            (try simp only [Act.put, List.setIfInBounds_toArray, List.set_cons_zero, List.set_cons_succ])
            refine wpAnyH_ready (rs := [7]) (by kernel_rfl) (by simp) ?_
            refine AllReadyH.cons (i := 7) rfl (fun K hK => ?_) ?_
            · go_simp
              refine hK.out _ _ ?_ (fun hHeld => ?_)
              · (first | (refine ⟨?_, ?_, ?_, ?_⟩ <;> (refine (World.cell?_setCell_far _ _ _ _ (by simp only [ne_eq]; omega)).trans ?_; assumption)) | go_keep)
              clear hK K
              (try simp only [Act.put, List.setIfInBounds_toArray, List.set_cons_zero, List.set_cons_succ])
              refine wpAnyH_ready (rs := [8]) (by kernel_rfl) (by simp) ?_
              refine AllReadyH.cons (i := 8) rfl (fun K hK => ?_) ?_
              · refine step_append_lies _ rfl _ _ 22 rfl (w.heap.size + 4) 37 i2 _ 3 32 Tryz.underlying22 hi2 z0 z1 z2 rfl (by decide) (.slice Ax (f.1.length + k) cx) (f.1.length + k) _ rfl (own_drew (World.ownsRow.alloc hown _)) _ _ _ (ePt p) rfl rfl ?_ (ePt_one _) (by decide) ?_ ?_ ?_ (wr.heap.size + 1) ?_ ?_
                case refine_1 => exact new_cells rfl rfl
                case refine_2 => unfold maxLen; omega
                case refine_3 => omega
                case refine_4 => simp; omega
                case refine_5 => simp
                intro gg cap w4 hown4 hgr4 hli hlt4
                have HST := Hid.mk' (And.intro hown4 (And.intro hgr4 hli))
                have f4 : w4.frozen? ⟨w.heap.size + 3, 0, none⟩ = false := (HFR.out w4 hgr4 _ (by simp)).2.trans fo
                have g0 : w4.cell? ⟨w.heap.size + 3, 0, none⟩ = some (.slice Ax (f.1.length + k) cx) := (HFR.out w4 hgr4 _ (by simp)).1.trans ko
                have g1 : w4.cell? ⟨w.heap.size + 1, 0, none⟩ = some (.slice (some ⟨b, off, none⟩) g.1.length d1) := (HFR.out w4 hgr4 _ (by simp)).1.trans ka
                have g2 : w4.cell? ⟨b, off + k * 3, none⟩ = some (.int .i64 p.t) := (HFR.out w4 hgr4 _ (by simp; omega)).1.trans e0
                have g3 : w4.cell? ⟨b, off + k * 3 + 1, none⟩ = some (.int .i64 p.i) := (HFR.out w4 hgr4 _ (by simp; omega)).1.trans e1
                have g4 : w4.cell? ⟨b, off + k * 3 + 2, none⟩ = some (.string p.key) := (HFR.out w4 hgr4 _ (by simp; omega)).1.trans e2
                clear hown4 hgr4 hli
                refine hK.out _ _ ?_ (fun hHeld => ?_)
                · (first | (refine ⟨?_, ?_, ?_, ?_⟩ <;> (refine (World.cell?_setCell_far _ _ _ _ (by simp only [ne_eq]; omega)).trans ?_; assumption)) | go_keep)
                clear hK K
                (try simp only [Act.put, List.setIfInBounds_toArray, List.set_cons_zero, List.set_cons_succ])
                refine wpAnyH_take (i := 9) (v := ?_) rfl (by kernel_rfl) (by kernel_rfl) (by kernel_rfl) (fun _ _ _ h => h) (Or.inl ⟨by rfl, ?_⟩) (by assumption) ?_
                rotate_left
                · intro w hSw
                  (try dsimp only at hSw)
                  first | (go_simp; with_reducible rfl) | go_simp
                (try simp only [Act.put, List.setIfInBounds_toArray, List.set_cons_zero, List.set_cons_succ])
                refine wpAnyH_ready (rs := [10]) (by kernel_rfl) (by simp) ?_
                refine AllReadyH.cons (i := 10) rfl (fun K hK => ?_) ?_
                · go_simp
                  refine hK.out _ _ ?_ (fun hHeld => ?_)
                  · (first | (refine ⟨?_, ?_, ?_, ?_⟩ <;> (refine (World.cell?_setCell_far _ _ _ _ (by simp only [ne_eq]; omega)).trans ?_; assumption)) | go_keep)
                  clear hK K
                  (try simp only [Act.put, List.setIfInBounds_toArray, List.set_cons_zero, List.set_cons_succ])
                  refine wpAnyH_done (by kernel_rfl) ?_ _
                  refine NoPanic.normal ?_
                  go_wp2_with fail
                  go_roundw
                  case rel =>
                    obtain ⟨ho4, hg4, hl4⟩ := HST.out
                    have hkp : wr.grownBy (wr.alloc (.cells #[.int .i64 p.t, .int .i64 p.i, .string p.key] 37)).drew none := ⟨rfl, rfl, rfl, by simp, fun j hj _ => Below.heap_alloc _ _ _ hj⟩
                    refine ⟨k + 1, .slice (some ⟨gg, 0, none⟩) (f.1.length + k + 1) cap, by omega, by go_num, ?_⟩
                    refine Hid.mk' ?_
                    have hg4' : (wr.alloc (.cells #[.int .i64 p.t, .int .i64 p.i, .string p.key] 37)).drew.grownBy w4 (Value.slice Ax (f.1 ++ g.1.take k).length cx).ownBlock := by rw [HLN.out]; exact hg4
                    have hl4' : (Value.slice Ax (f.1 ++ g.1.take k).length cx).ownBlock = some gg ∨ gg = wr.heap.size + 1 := by rw [HLN.out]; exact hl4
                    rw [← HTK.out]
                    exact (HB.out.kept hkp).putX (p := p) (by rw [HLN.out]; exact ho4) hg4' (hl4'.imp (fun e => e.symm) (fun e => ⟨_, rfl, by rw [e]; simp⟩))
                  case measure => simp [intOf]; omega
                exact AllReadyH.nil
              exact AllReadyH.nil
            exact AllReadyH.nil
          refine AllReadyH.cons (i := 7) rfl (fun K hK => ?_) ?_
          · go_simp
            refine hK.out _ _ ?_ (fun hHeld => ?_)
            · (first | (refine ⟨?_, ?_, ?_, ?_⟩ <;> (refine (World.cell?_setCell_far _ _ _ _ (by simp only [ne_eq]; omega)).trans ?_; assumption)) | go_keep)
            clear hK K
            (try simp only [Act.put, List.setIfInBounds_toArray, List.set_cons_zero, List.set_cons_succ])
            refine wpAnyH_ready (rs := [1]) (by kernel_rfl) (by simp) ?_
            refine AllReadyH.cons (i := 1) rfl (fun K hK => ?_) ?_
            · go_simp
              refine hK.out _ _ ?_ (fun hHeld => ?_)
              · (first | (refine ⟨?_, ?_, ?_, ?_⟩ <;> (refine (World.cell?_setCell_far _ _ _ _ (by simp only [ne_eq]; omega)).trans ?_; assumption)) | go_keep)
              clear hK K
              (try simp only [Act.put, List.setIfInBounds_toArray, List.set_cons_zero, List.set_cons_succ])
              refine wpAnyH_ready (rs := [8]) (by kernel_rfl) (by simp) ?_
              refine AllReadyH.cons (i := 8) rfl (fun K hK => ?_) ?_
              · refine step_append_lies _ rfl _ _ 22 rfl (w.heap.size + 4) 37 i2 _ 3 32 Tryz.underlying22 hi2 z0 z1 z2 rfl (by decide) (.slice Ax (f.1.length + k) cx) (f.1.length + k) _ rfl (own_drew (World.ownsRow.alloc hown _)) _ _ _ (ePt p) rfl rfl ?_ (ePt_one _) (by decide) ?_ ?_ ?_ (wr.heap.size + 1) ?_ ?_
                case refine_1 => exact new_cells rfl rfl
                case refine_2 => unfold maxLen; omega
                case refine_3 => omega
                case refine_4 => simp; omega
                case refine_5 => simp
                intro gg cap w4 hown4 hgr4 hli hlt4
                have HST := Hid.mk' (And.intro hown4 (And.intro hgr4 hli))
                have f4 : w4.frozen? ⟨w.heap.size + 3, 0, none⟩ = false := (HFR.out w4 hgr4 _ (by simp)).2.trans fo
                have g0 : w4.cell? ⟨w.heap.size + 3, 0, none⟩ = some (.slice Ax (f.1.length + k) cx) := (HFR.out w4 hgr4 _ (by simp)).1.trans ko
                have g1 : w4.cell? ⟨w.heap.size + 1, 0, none⟩ = some (.slice (some ⟨b, off, none⟩) g.1.length d1) := (HFR.out w4 hgr4 _ (by simp)).1.trans ka
                have g2 : w4.cell? ⟨b, off + k * 3, none⟩ = some (.int .i64 p.t) := (HFR.out w4 hgr4 _ (by simp; omega)).1.trans e0
                have g3 : w4.cell? ⟨b, off + k * 3 + 1, none⟩ = some (.int .i64 p.i) := (HFR.out w4 hgr4 _ (by simp; omega)).1.trans e1
                have g4 : w4.cell? ⟨b, off + k * 3 + 2, none⟩ = some (.string p.key) := (HFR.out w4 hgr4 _ (by simp; omega)).1.trans e2
                clear hown4 hgr4 hli
                refine hK.out _ _ ?_ (fun hHeld => ?_)
                · (first | (refine ⟨?_, ?_, ?_, ?_⟩ <;> (refine (World.cell?_setCell_far _ _ _ _ (by simp only [ne_eq]; omega)).trans ?_; assumption)) | go_keep)
                clear hK K
                (try simp only [Act.put, List.setIfInBounds_toArray, List.set_cons_zero, List.set_cons_succ])
                refine wpAnyH_take (i := 9) (v := ?_) rfl (by kernel_rfl) (by kernel_rfl) (by kernel_rfl) (fun _ _ _ h => h) (Or.inl ⟨by rfl, ?_⟩) (by assumption) ?_
                rotate_left
                · intro w hSw
                  (try dsimp only at hSw)
                  first | (go_simp; with_reducible rfl) | go_simp
                (try simp only [Act.put, List.setIfInBounds_toArray, List.set_cons_zero, List.set_cons_succ])
                refine wpAnyH_ready (rs := [10]) (by kernel_rfl) (by simp) ?_
                refine AllReadyH.cons (i := 10) rfl (fun K hK => ?_) ?_
                · go_simp
                  refine hK.out _ _ ?_ (fun hHeld => ?_)
                  · (first | (refine ⟨?_, ?_, ?_, ?_⟩ <;> (refine (World.cell?_setCell_far _ _ _ _ (by simp only [ne_eq]; omega)).trans ?_; assumption)) | go_keep)
                  clear hK K
                  (try simp only [Act.put, List.setIfInBounds_toArray, List.set_cons_zero, List.set_cons_succ])
                  refine wpAnyH_done (by kernel_rfl) ?_ _
                  refine NoPanic.normal ?_
                  go_wp2_with fail
                  go_roundw
                  case rel =>
                    obtain ⟨ho4, hg4, hl4⟩ := HST.out
                    have hkp : wr.grownBy (wr.alloc (.cells #[.int .i64 p.t, .int .i64 p.i, .string p.key] 37)).drew none := ⟨rfl, rfl, rfl, by simp, fun j hj _ => Below.heap_alloc _ _ _ hj⟩
                    refine ⟨k + 1, .slice (some ⟨gg, 0, none⟩) (f.1.length + k + 1) cap, by omega, by go_num, ?_⟩
                    refine Hid.mk' ?_
                    have hg4' : (wr.alloc (.cells #[.int .i64 p.t, .int .i64 p.i, .string p.key] 37)).drew.grownBy w4 (Value.slice Ax (f.1 ++ g.1.take k).length cx).ownBlock := by rw [HLN.out]; exact hg4
                    have hl4' : (Value.slice Ax (f.1 ++ g.1.take k).length cx).ownBlock = some gg ∨ gg = wr.heap.size + 1 := by rw [HLN.out]; exact hl4
                    rw [← HTK.out]
                    exact (HB.out.kept hkp).putX (p := p) (by rw [HLN.out]; exact ho4) hg4' (hl4'.imp (fun e => e.symm) (fun e => ⟨_, rfl, by rw [e]; simp⟩))
                  case measure => simp [intOf]; omega
                exact AllReadyH.nil
              exact AllReadyH.nil
            exact AllReadyH.nil
          exact AllReadyH.nil
        · have hltz : ¬ (k : Int) < (g.1.length : Int) := by omega
          have hke : g.1.take k = g.1 := List.take_of_length_le (by omega)
          rw [hke] at HB
          have HBW := HB
          clear HB hke
          obtain ⟨x0, hx0⟩ : ∃ y, y = x := ⟨_, rfl⟩
          subst hx0
          go_wp2_with fail
          clear ka
          go_loopw [8] (fun s8 wr => ∃ (k : Nat) (x : Value), k ≤ f.2.1.length ∧ s8 = .int .i64 k ∧ Hid (Bo w wr #[.slice A1 f.1.length c1, .slice A2 f.2.1.length c2, .slice A3 f.2.2.length c3] #[.slice B1 g.1.length d1, .slice B2 g.2.1.length d2, .slice B3 g.2.2.length d3] x0 x (.slice none 0 0) (f.1 ++ g.1) (f.2.1.take k) [])) (fun s8 _ => f.2.1.length - (intOf s8).toNat)
          case atStart => exact ⟨0, .slice none 0 0, Nat.zero_le _, rfl, HBW.out⟩
          case round =>
            obtain ⟨k, x, hk, rfl, HB⟩ := hrel
            have ka : wr.cell? ⟨w.heap.size, 1, none⟩ = some (.slice A2 f.2.1.length c2) := cell_at HB.out.a rfl
            by_cases hlt : k < f.2.1.length
            · have hltz : (k : Int) < (f.2.1.length : Int) := by omega
              obtain ⟨p, hp⟩ : ∃ p, f.2.1[k]? = some p := ⟨_, List.getElem?_eq_getElem hlt⟩
              obtain ⟨b, off, rfl, hbl, hcell⟩ := HF.out.sps.at_ hlt
              have es : f.2.1[k] = p := (List.getElem?_eq_some_iff.1 hp).2
              rw [es] at hcell
              have hcw : ∀ q v, (eSp p)[q]? = some v → wr.cell? ⟨b, off + k * 5 + q, none⟩ = some v := fun q v hv => (HB.out.below.cell (p := ⟨b, _, none⟩) hbl).trans (hcell q v hv)
              have e0 : wr.cell? ⟨b, off + k * 5, none⟩ = some (.int .i64 p.t) := hcw 0 _ rfl
              have e1 : wr.cell? ⟨b, off + k * 5 + 1, none⟩ = some (.int .i64 p.i) := hcw 1 _ rfl
              have e2 : wr.cell? ⟨b, off + k * 5 + 2, none⟩ = some (.string p.r.lo) := hcw 2 _ rfl
              have e3 : wr.cell? ⟨b, off + k * 5 + 3, none⟩ = some (.string p.r.hi) := hcw 3 _ rfl
              have e4 : wr.cell? ⟨b, off + k * 5 + 4, none⟩ = some (.bool p.r.op) := hcw 4 _ rfl
              have ko : wr.cell? ⟨w.heap.size + 3, 1, none⟩ = some x := cell_at HB.out.o rfl
              have hszw := HB.out.size
              have HTK : Hid ((f.2.1.take k) ++ [p] = f.2.1.take (k + 1)) := by show _ = _; rw [List.take_succ_eq_append_getElem hlt, es]
              obtain ⟨Ax, cx, rfl, hcx⟩ := HB.out.py.shape
              have hln : (f.2.1.take k).length = k := by exact List.length_take_of_le (Nat.le_of_lt hlt)
              have hown : wr.ownsRow (w.heap.size + 4) 46 5 (.slice Ax (f.2.1.take k).length cx) (f.2.1.take k).length ((f.2.1.take k).flatMap eSp) := HB.out.py
              have HLN := Hid.mk' hln
              rw [hln] at hown ko
              have hfar : ∀ w4 : World, (wr.alloc (.cells #[.int .i64 p.t, .int .i64 p.i, .string p.r.lo, .string p.r.hi, .bool p.r.op] 46)).drew.grownBy w4 (Value.slice Ax (k) cx).ownBlock → ∀ a : Addr, a.block < w.heap.size + 4 → w4.cell? a = wr.cell? a ∧ w4.frozen? a = wr.frozen? a := fun w4 hg a ha => far_cell hown (by omega) hg a ha
              have HFR := Hid.mk' hfar
              have fo : wr.frozen? ⟨w.heap.size + 3, 1, none⟩ = false := free_at _ HB.out.o
              have hbne : b ≠ w.heap.size + 1 + 1 + 1 := by omega
              clear hcell hcw hp es hcx hln hfar
              go_wp2_with fail
              refine wp_region_noPanic ?_
              refine wp_region_held_drew (S := (fun w' => w'.cell? ⟨w.heap.size, 1, none⟩ = some (.slice (some ⟨b, off, none⟩) f.2.1.length c2) ∧ w'.cell? ⟨b, off + k * 5, none⟩ = some (.int .i64 p.t) ∧ w'.cell? ⟨b, off + k * 5 + 1, none⟩ = some (.int .i64 p.i) ∧ w'.cell? ⟨b, off + k * 5 + 2, none⟩ = some (.string p.r.lo) ∧ w'.cell? ⟨b, off + k * 5 + 3, none⟩ = some (.string p.r.hi) ∧ w'.cell? ⟨b, off + k * 5 + 4, none⟩ = some (.bool p.r.op))) (by kernel_rfl) ?_ (fun hHeld => ?_)
              · (first | (refine ⟨?_, ?_, ?_, ?_, ?_, ?_⟩ <;> (refine (World.cell?_setCell_far _ _ _ _ (by simp only [ne_eq]; omega)).trans ?_; assumption)) | go_keep)
              refine wpAnyH_take (i := 0) (v := ?_) rfl (by kernel_rfl) (by kernel_rfl) (by kernel_rfl) (fun _ _ _ h => h) (Or.inl ⟨by rfl, ?_⟩) (by assumption) ?_
              rotate_left
              · intro w hSw
                (try dsimp only at hSw)
                first | (go_simp; with_reducible rfl) | go_simp
              (try simp only [Act.put, List.setIfInBounds_toArray, List.set_cons_zero, List.set_cons_succ])
              refine wpAnyH_take (i := 2) (v := ?_) rfl (by kernel_rfl) (by kernel_rfl) (by kernel_rfl) (fun _ _ _ h => h) (Or.inl ⟨by rfl, ?_⟩) (by assumption) ?_
              rotate_left
              · intro w hSw
                (try dsimp only at hSw)
                first | (go_simp; with_reducible rfl) | go_simp
              (try simp only [Act.put, List.setIfInBounds_toArray, List.set_cons_zero, List.set_cons_succ])
              refine wpAnyH_take (i := 3) (v := ?_) rfl (by kernel_rfl) (by kernel_rfl) (by kernel_rfl) (fun _ _ _ h => h) (Or.inl ⟨by rfl, ?_⟩) (by assumption) ?_
              rotate_left
              · intro w hSw
                (try dsimp only at hSw)
                first | (go_simp; with_reducible rfl) | go_simp
              (try simp only [Act.put, List.setIfInBounds_toArray, List.set_cons_zero, List.set_cons_succ])
              refine wpAnyH_take (i := 4) (v := ?_) rfl (by kernel_rfl) (by kernel_rfl) (by kernel_rfl) (fun _ _ _ h => h) (Or.inl ⟨by rfl, ?_⟩) (by assumption) ?_
              rotate_left
              · intro w hSw
                (try dsimp only at hSw)
                first | (go_simp; with_reducible rfl) | go_simp
              (try simp only [Act.put, List.setIfInBounds_toArray, List.set_cons_zero, List.set_cons_succ])
              refine wpAnyH_take (i := 5) (v := ?_) rfl (by kernel_rfl) (by kernel_rfl) (by kernel_rfl) (fun _ _ _ h => h) (Or.inl ⟨by rfl, ?_⟩) (by assumption) ?_
              rotate_left
              · intro w hSw
                (try dsimp only at hSw)
                first | (go_simp; with_reducible rfl) | go_simp
              (try simp only [Act.put, List.setIfInBounds_toArray, List.set_cons_zero, List.set_cons_succ])
              refine wpAnyH_take (i := 6) (v := ?_) rfl (by kernel_rfl) (by kernel_rfl) (by kernel_rfl) (fun _ _ _ h => h) (Or.inl ⟨by rfl, ?_⟩) (by assumption) ?_
              rotate_left
              · intro w hSw
                (try dsimp only at hSw)
                first | (go_simp; with_reducible rfl) | go_simp
              (try simp only [Act.put, List.setIfInBounds_toArray, List.set_cons_zero, List.set_cons_succ])
              refine wpAnyH_ready (rs := [1, 7]) (by kernel_rfl) (by simp) ?_
              refine AllReadyH.cons (i := 1) rfl (fun K hK => ?_) ?_
              · go_simp
                refine hK.out _ _ ?_ (fun hHeld => ?_)
                · (first | (refine ⟨?_, ?_, ?_, ?_, ?_, ?_⟩ <;> (refine (World.cell?_setCell_far _ _ _ _ (by simp only [ne_eq]; omega)).trans ?_; assumption)) | go_keep)
                clear hK K
                (try simp only [Act.put, List.setIfInBounds_toArray, List.set_cons_zero, List.set_cons_succ])
                refine wpAnyH_ready (rs := [7]) (by kernel_rfl) (by simp) ?_
                refine AllReadyH.cons (i := 7) rfl (fun K hK => ?_) ?_
                · go_simp
                  refine hK.out _ _ ?_ (fun hHeld => ?_)
                  · (first | (refine ⟨?_, ?_, ?_, ?_, ?_, ?_⟩ <;> (refine (World.cell?_setCell_far _ _ _ _ (by simp only [ne_eq]; omega)).trans ?_; assumption)) | go_keep)
                  clear hK K
                  (try simp only [Act.put, List.setIfInBounds_toArray, List.set_cons_zero, List.set_cons_succ])
                  refine wpAnyH_ready (rs := [8]) (by kernel_rfl) (by simp) ?_
                  refine AllReadyH.cons (i := 8) rfl (fun K hK => ?_) ?_
                  · refine step_append_lies _ rfl _ _ 23 rfl (w.heap.size + 4) 46 i1 _ 5 56 Tryz.underlying23 hi1 y0 y1 y2 rfl (by decide) (.slice Ax (k) cx) (k) _ rfl (own_drew (World.ownsRow.alloc hown _)) _ _ _ (eSp p) rfl rfl ?_ (eSp_one _) (by decide) ?_ ?_ ?_ (wr.heap.size + 1) ?_ ?_
                    case refine_1 => exact new_cells rfl rfl
                    case refine_2 => unfold maxLen; omega
                    case refine_3 => omega
                    case refine_4 => simp; omega
                    case refine_5 => simp
                    intro gg cap w4 hown4 hgr4 hli hlt4
                    have HST := Hid.mk' (And.intro hown4 (And.intro hgr4 hli))
                    have f4 : w4.frozen? ⟨w.heap.size + 3, 1, none⟩ = false := (HFR.out w4 hgr4 _ (by simp)).2.trans fo
                    have g0 : w4.cell? ⟨w.heap.size + 3, 1, none⟩ = some (.slice Ax (k) cx) := (HFR.out w4 hgr4 _ (by simp)).1.trans ko
                    have g1 : w4.cell? ⟨w.heap.size, 1, none⟩ = some (.slice (some ⟨b, off, none⟩) f.2.1.length c2) := (HFR.out w4 hgr4 _ (by simp)).1.trans ka
                    have g2 : w4.cell? ⟨b, off + k * 5, none⟩ = some (.int .i64 p.t) := (HFR.out w4 hgr4 _ (by simp; omega)).1.trans e0
                    have g3 : w4.cell? ⟨b, off + k * 5 + 1, none⟩ = some (.int .i64 p.i) := (HFR.out w4 hgr4 _ (by simp; omega)).1.trans e1
                    have g4 : w4.cell? ⟨b, off + k * 5 + 2, none⟩ = some (.string p.r.lo) := (HFR.out w4 hgr4 _ (by simp; omega)).1.trans e2
                    have g5 : w4.cell? ⟨b, off + k * 5 + 3, none⟩ = some (.string p.r.hi) := (HFR.out w4 hgr4 _ (by simp; omega)).1.trans e3
                    have g6 : w4.cell? ⟨b, off + k * 5 + 4, none⟩ = some (.bool p.r.op) := (HFR.out w4 hgr4 _ (by simp; omega)).1.trans e4
                    clear hown4 hgr4 hli
                    refine hK.out _ _ ?_ (fun hHeld => ?_)
                    · (first | (refine ⟨?_, ?_, ?_, ?_, ?_, ?_⟩ <;> (refine (World.cell?_setCell_far _ _ _ _ (by simp only [ne_eq]; omega)).trans ?_; assumption)) | go_keep)
                    clear hK K
                    (try simp only [Act.put, List.setIfInBounds_toArray, List.set_cons_zero, List.set_cons_succ])
                    refine wpAnyH_take (i := 9) (v := ?_) rfl (by kernel_rfl) (by kernel_rfl) (by kernel_rfl) (fun _ _ _ h => h) (Or.inl ⟨by rfl, ?_⟩) (by assumption) ?_
                    rotate_left
                    · intro w hSw
                      (try dsimp only at hSw)
                      first | (go_simp; with_reducible rfl) | go_simp
                    (try simp only [Act.put, List.setIfInBounds_toArray, List.set_cons_zero, List.set_cons_succ])
                    refine wpAnyH_ready (rs := [10]) (by kernel_rfl) (by simp) ?_
                    refine AllReadyH.cons (i := 10) rfl (fun K hK => ?_) ?_
                    · go_simp
                      refine hK.out _ _ ?_ (fun hHeld => ?_)
                      · (first | (refine ⟨?_, ?_, ?_, ?_, ?_, ?_⟩ <;> (refine (World.cell?_setCell_far _ _ _ _ (by simp only [ne_eq]; omega)).trans ?_; assumption)) | go_keep)
                      clear hK K
                      (try simp only [Act.put, List.setIfInBounds_toArray, List.set_cons_zero, List.set_cons_succ])
                      refine wpAnyH_done (by kernel_rfl) ?_ _
                      refine NoPanic.normal ?_
                      go_wp2_with fail
                      go_roundw
                      case rel =>
                        obtain ⟨ho4, hg4, hl4⟩ := HST.out
                        have hkp : wr.grownBy (wr.alloc (.cells #[.int .i64 p.t, .int .i64 p.i, .string p.r.lo, .string p.r.hi, .bool p.r.op] 46)).drew none := ⟨rfl, rfl, rfl, by simp, fun j hj _ => Below.heap_alloc _ _ _ hj⟩
                        refine ⟨k + 1, .slice (some ⟨gg, 0, none⟩) (k + 1) cap, by omega, by go_num, ?_⟩
                        refine Hid.mk' ?_
                        have hg4' : (wr.alloc (.cells #[.int .i64 p.t, .int .i64 p.i, .string p.r.lo, .string p.r.hi, .bool p.r.op] 46)).drew.grownBy w4 (Value.slice Ax (f.2.1.take k).length cx).ownBlock := by rw [HLN.out]; exact hg4
                        have hl4' : (Value.slice Ax (f.2.1.take k).length cx).ownBlock = some gg ∨ gg = wr.heap.size + 1 := by rw [HLN.out]; exact hl4
                        rw [← HTK.out]
                        exact (HB.out.kept hkp).putY (p := p) (by rw [HLN.out]; exact ho4) hg4'
                      case measure => simp [intOf]; omega
                    exact AllReadyH.nil
                  exact AllReadyH.nil
                exact AllReadyH.nil
              refine AllReadyH.cons (i := 7) rfl (fun K hK => ?_) ?_
              · go_simp
                refine hK.out _ _ ?_ (fun hHeld => ?_)
                · (first | (refine ⟨?_, ?_, ?_, ?_, ?_, ?_⟩ <;> (refine (World.cell?_setCell_far _ _ _ _ (by simp only [ne_eq]; omega)).trans ?_; assumption)) | go_keep)
                clear hK K
                (try simp only [Act.put, List.setIfInBounds_toArray, List.set_cons_zero, List.set_cons_succ])
                refine wpAnyH_ready (rs := [1]) (by kernel_rfl) (by simp) ?_
                refine AllReadyH.cons (i := 1) rfl (fun K hK => ?_) ?_
                · go_simp
                  refine hK.out _ _ ?_ (fun hHeld => ?_)
                  · (first | (refine ⟨?_, ?_, ?_, ?_, ?_, ?_⟩ <;> (refine (World.cell?_setCell_far _ _ _ _ (by simp only [ne_eq]; omega)).trans ?_; assumption)) | go_keep)
                  clear hK K
                  (try simp only [Act.put, List.setIfInBounds_toArray, List.set_cons_zero, List.set_cons_succ])
                  refine wpAnyH_ready (rs := [8]) (by kernel_rfl) (by simp) ?_
                  refine AllReadyH.cons (i := 8) rfl (fun K hK => ?_) ?_
                  · refine step_append_lies _ rfl _ _ 23 rfl (w.heap.size + 4) 46 i1 _ 5 56 Tryz.underlying23 hi1 y0 y1 y2 rfl (by decide) (.slice Ax (k) cx) (k) _ rfl (own_drew (World.ownsRow.alloc hown _)) _ _ _ (eSp p) rfl rfl ?_ (eSp_one _) (by decide) ?_ ?_ ?_ (wr.heap.size + 1) ?_ ?_
                    case refine_1 => exact new_cells rfl rfl
                    case refine_2 => unfold maxLen; omega
                    case refine_3 => omega
                    case refine_4 => simp; omega
                    case refine_5 => simp
                    intro gg cap w4 hown4 hgr4 hli hlt4
                    have HST := Hid.mk' (And.intro hown4 (And.intro hgr4 hli))
                    have f4 : w4.frozen? ⟨w.heap.size + 3, 1, none⟩ = false := (HFR.out w4 hgr4 _ (by simp)).2.trans fo
                    have g0 : w4.cell? ⟨w.heap.size + 3, 1, none⟩ = some (.slice Ax (k) cx) := (HFR.out w4 hgr4 _ (by simp)).1.trans ko
                    have g1 : w4.cell? ⟨w.heap.size, 1, none⟩ = some (.slice (some ⟨b, off, none⟩) f.2.1.length c2) := (HFR.out w4 hgr4 _ (by simp)).1.trans ka
                    have g2 : w4.cell? ⟨b, off + k * 5, none⟩ = some (.int .i64 p.t) := (HFR.out w4 hgr4 _ (by simp; omega)).1.trans e0
                    have g3 : w4.cell? ⟨b, off + k * 5 + 1, none⟩ = some (.int .i64 p.i) := (HFR.out w4 hgr4 _ (by simp; omega)).1.trans e1
                    have g4 : w4.cell? ⟨b, off + k * 5 + 2, none⟩ = some (.string p.r.lo) := (HFR.out w4 hgr4 _ (by simp; omega)).1.trans e2
                    have g5 : w4.cell? ⟨b, off + k * 5 + 3, none⟩ = some (.string p.r.hi) := (HFR.out w4 hgr4 _ (by simp; omega)).1.trans e3
                    have g6 : w4.cell? ⟨b, off + k * 5 + 4, none⟩ = some (.bool p.r.op) := (HFR.out w4 hgr4 _ (by simp; omega)).1.trans e4
                    clear hown4 hgr4 hli
                    refine hK.out _ _ ?_ (fun hHeld => ?_)
                    · (first | (refine ⟨?_, ?_, ?_, ?_, ?_, ?_⟩ <;> (refine (World.cell?_setCell_far _ _ _ _ (by simp only [ne_eq]; omega)).trans ?_; assumption)) | go_keep)
                    clear hK K
                    (try simp only [Act.put, List.setIfInBounds_toArray, List.set_cons_zero, List.set_cons_succ])
                    refine wpAnyH_take (i := 9) (v := ?_) rfl (by kernel_rfl) (by kernel_rfl) (by kernel_rfl) (fun _ _ _ h => h) (Or.inl ⟨by rfl, ?_⟩) (by assumption) ?_
                    rotate_left
                    · intro w hSw
                      (try dsimp only at hSw)
                      first | (go_simp; with_reducible rfl) | go_simp
                    (try simp only [Act.put, List.setIfInBounds_toArray, List.set_cons_zero, List.set_cons_succ])
                    refine wpAnyH_ready (rs := [10]) (by kernel_rfl) (by simp) ?_
                    refine AllReadyH.cons (i := 10) rfl (fun K hK => ?_) ?_
                    · go_simp
                      refine hK.out _ _ ?_ (fun hHeld => ?_)
                      · (first | (refine ⟨?_, ?_, ?_, ?_, ?_, ?_⟩ <;> (refine (World.cell?_setCell_far _ _ _ _ (by simp only [ne_eq]; omega)).trans ?_; assumption)) | go_keep)
                      clear hK K
                      (try simp only [Act.put, List.setIfInBounds_toArray, List.set_cons_zero, List.set_cons_succ])
                      refine wpAnyH_done (by kernel_rfl) ?_ _
                      refine NoPanic.normal ?_
                      go_wp2_with fail
                      go_roundw
                      case rel =>
                        obtain ⟨ho4, hg4, hl4⟩ := HST.out
                        have hkp : wr.grownBy (wr.alloc (.cells #[.int .i64 p.t, .int .i64 p.i, .string p.r.lo, .string p.r.hi, .bool p.r.op] 46)).drew none := ⟨rfl, rfl, rfl, by simp, fun j hj _ => Below.heap_alloc _ _ _ hj⟩
                        refine ⟨k + 1, .slice (some ⟨gg, 0, none⟩) (k + 1) cap, by omega, by go_num, ?_⟩
                        refine Hid.mk' ?_
                        have hg4' : (wr.alloc (.cells #[.int .i64 p.t, .int .i64 p.i, .string p.r.lo, .string p.r.hi, .bool p.r.op] 46)).drew.grownBy w4 (Value.slice Ax (f.2.1.take k).length cx).ownBlock := by rw [HLN.out]; exact hg4
                        have hl4' : (Value.slice Ax (f.2.1.take k).length cx).ownBlock = some gg ∨ gg = wr.heap.size + 1 := by rw [HLN.out]; exact hl4
                        rw [← HTK.out]
                        exact (HB.out.kept hkp).putY (p := p) (by rw [HLN.out]; exact ho4) hg4'
                      case measure => simp [intOf]; omega
                    exact AllReadyH.nil
                  exact AllReadyH.nil
                exact AllReadyH.nil
              exact AllReadyH.nil
            · have hltz : ¬ (k : Int) < (f.2.1.length : Int) := by omega
              have hke : f.2.1.take k = f.2.1 := List.take_of_length_le (by omega)
              rw [hke] at HB
              have HBW := HB
              clear HB hke
              obtain ⟨x1, hx1⟩ : ∃ y, y = x := ⟨_, rfl⟩
              subst hx1
              go_wp2_with fail
              clear ka
              go_loopw [9] (fun s9 wr => ∃ (k : Nat) (x : Value), k ≤ g.2.1.length ∧ s9 = .int .i64 k ∧ Hid (Bo w wr #[.slice A1 f.1.length c1, .slice A2 f.2.1.length c2, .slice A3 f.2.2.length c3] #[.slice B1 g.1.length d1, .slice B2 g.2.1.length d2, .slice B3 g.2.2.length d3] x0 x (.slice none 0 0) (f.1 ++ g.1) (f.2.1 ++ (g.2.1.take k)) [])) (fun s9 _ => g.2.1.length - (intOf s9).toNat)
              case atStart => exact ⟨0, x1, Nat.zero_le _, rfl, by show Bo _ _ _ _ _ _ _ _ _ _; rw [List.take_zero, List.append_nil]; exact HBW.out⟩
              case round =>
                obtain ⟨k, x, hk, rfl, HB⟩ := hrel
                have ka : wr.cell? ⟨w.heap.size + 1, 1, none⟩ = some (.slice B2 g.2.1.length d2) := cell_at HB.out.b rfl
                by_cases hlt : k < g.2.1.length
                · have hltz : (k : Int) < (g.2.1.length : Int) := by omega
                  obtain ⟨p, hp⟩ : ∃ p, g.2.1[k]? = some p := ⟨_, List.getElem?_eq_getElem hlt⟩
                  obtain ⟨b, off, rfl, hbl, hcell⟩ := HG.out.sps.at_ hlt
                  have es : g.2.1[k] = p := (List.getElem?_eq_some_iff.1 hp).2
                  rw [es] at hcell
                  have hcw : ∀ q v, (eSp p)[q]? = some v → wr.cell? ⟨b, off + k * 5 + q, none⟩ = some v := fun q v hv => (HB.out.below.cell (p := ⟨b, _, none⟩) hbl).trans (hcell q v hv)
                  have e0 : wr.cell? ⟨b, off + k * 5, none⟩ = some (.int .i64 p.t) := hcw 0 _ rfl
                  have e1 : wr.cell? ⟨b, off + k * 5 + 1, none⟩ = some (.int .i64 p.i) := hcw 1 _ rfl
                  have e2 : wr.cell? ⟨b, off + k * 5 + 2, none⟩ = some (.string p.r.lo) := hcw 2 _ rfl
                  have e3 : wr.cell? ⟨b, off + k * 5 + 3, none⟩ = some (.string p.r.hi) := hcw 3 _ rfl
                  have e4 : wr.cell? ⟨b, off + k * 5 + 4, none⟩ = some (.bool p.r.op) := hcw 4 _ rfl
                  have ko : wr.cell? ⟨w.heap.size + 3, 1, none⟩ = some x := cell_at HB.out.o rfl
                  have hszw := HB.out.size
                  have HTK : Hid ((f.2.1 ++ g.2.1.take k) ++ [p] = f.2.1 ++ g.2.1.take (k + 1)) := by show _ = _; rw [List.take_succ_eq_append_getElem hlt, es, List.append_assoc]
                  obtain ⟨Ax, cx, rfl, hcx⟩ := HB.out.py.shape
                  have hln : (f.2.1 ++ g.2.1.take k).length = f.2.1.length + k := by rw [List.length_append, List.length_take_of_le (Nat.le_of_lt hlt)]
                  have hown : wr.ownsRow (w.heap.size + 4) 46 5 (.slice Ax (f.2.1 ++ g.2.1.take k).length cx) (f.2.1 ++ g.2.1.take k).length ((f.2.1 ++ g.2.1.take k).flatMap eSp) := HB.out.py
                  have HLN := Hid.mk' hln
                  rw [hln] at hown ko
                  have hfar : ∀ w4 : World, (wr.alloc (.cells #[.int .i64 p.t, .int .i64 p.i, .string p.r.lo, .string p.r.hi, .bool p.r.op] 46)).drew.grownBy w4 (Value.slice Ax (f.2.1.length + k) cx).ownBlock → ∀ a : Addr, a.block < w.heap.size + 4 → w4.cell? a = wr.cell? a ∧ w4.frozen? a = wr.frozen? a := fun w4 hg a ha => far_cell hown (by omega) hg a ha
                  have HFR := Hid.mk' hfar
                  have fo : wr.frozen? ⟨w.heap.size + 3, 1, none⟩ = false := free_at _ HB.out.o
                  have hbne : b ≠ w.heap.size + 1 + 1 + 1 := by omega
                  clear hcell hcw hp es hcx hln hfar
                  go_wp2_with fail
                  refine wp_region_noPanic ?_
                  refine wp_region_held_drew (S := (fun w' => w'.cell? ⟨w.heap.size + 1, 1, none⟩ = some (.slice (some ⟨b, off, none⟩) g.2.1.length d2) ∧ w'.cell? ⟨b, off + k * 5, none⟩ = some (.int .i64 p.t) ∧ w'.cell? ⟨b, off + k * 5 + 1, none⟩ = some (.int .i64 p.i) ∧ w'.cell? ⟨b, off + k * 5 + 2, none⟩ = some (.string p.r.lo) ∧ w'.cell? ⟨b, off + k * 5 + 3, none⟩ = some (.string p.r.hi) ∧ w'.cell? ⟨b, off + k * 5 + 4, none⟩ = some (.bool p.r.op))) (by kernel_rfl) ?_ (fun hHeld => ?_)
                  · (first | (refine ⟨?_, ?_, ?_, ?_, ?_, ?_⟩ <;> (refine (World.cell?_setCell_far _ _ _ _ (by simp only [ne_eq]; omega)).trans ?_; assumption)) | go_keep)
                  refine wpAnyH_take (i := 0) (v := ?_) rfl (by kernel_rfl) (by kernel_rfl) (by kernel_rfl) (fun _ _ _ h => h) (Or.inl ⟨by rfl, ?_⟩) (by assumption) ?_
                  rotate_left
                  · intro w hSw
                    (try dsimp only at hSw)
                    first | (go_simp; with_reducible rfl) | go_simp
                  (try simp only [Act.put, List.setIfInBounds_toArray, List.set_cons_zero, List.set_cons_succ])
                  refine wpAnyH_take (i := 2) (v := ?_) rfl (by kernel_rfl) (by kernel_rfl) (by kernel_rfl) (fun _ _ _ h => h) (Or.inl ⟨by rfl, ?_⟩) (by assumption) ?_
                  rotate_left
                  · intro w hSw
                    (try dsimp only at hSw)
                    first | (go_simp; with_reducible rfl) | go_simp
                  (try simp only [Act.put, List.setIfInBounds_toArray, List.set_cons_zero, List.set_cons_succ])
                  refine wpAnyH_take (i := 3) (v := ?_) rfl (by kernel_rfl) (by kernel_rfl) (by kernel_rfl) (fun _ _ _ h => h) (Or.inl ⟨by rfl, ?_⟩) (by assumption) ?_
                  rotate_left
                  · intro w hSw
                    (try dsimp only at hSw)
                    first | (go_simp; with_reducible rfl) | go_simp
                  (try simp only [Act.put, List.setIfInBounds_toArray, List.set_cons_zero, List.set_cons_succ])
                  refine wpAnyH_take (i := 4) (v := ?_) rfl (by kernel_rfl) (by kernel_rfl) (by kernel_rfl) (fun _ _ _ h => h) (Or.inl ⟨by rfl, ?_⟩) (by assumption) ?_
                  rotate_left
                  · intro w hSw
                    (try dsimp only at hSw)
                    first | (go_simp; with_reducible rfl) | go_simp
                  (try simp only [Act.put, List.setIfInBounds_toArray, List.set_cons_zero, List.set_cons_succ])
                  refine wpAnyH_take (i := 5) (v := ?_) rfl (by kernel_rfl) (by kernel_rfl) (by kernel_rfl) (fun _ _ _ h => h) (Or.inl ⟨by rfl, ?_⟩) (by assumption) ?_
                  rotate_left
                  · intro w hSw
                    (try dsimp only at hSw)
                    first | (go_simp; with_reducible rfl) | go_simp
                  (try simp only [Act.put, List.setIfInBounds_toArray, List.set_cons_zero, List.set_cons_succ])
                  refine wpAnyH_take (i := 6) (v := ?_) rfl (by kernel_rfl) (by kernel_rfl) (by kernel_rfl) (fun _ _ _ h => h) (Or.inl ⟨by rfl, ?_⟩) (by assumption) ?_
                  rotate_left
                  · intro w hSw
                    (try dsimp only at hSw)
                    first | (go_simp; with_reducible rfl) | go_simp
                  (try simp only [Act.put, List.setIfInBounds_toArray, List.set_cons_zero, List.set_cons_succ])
                  refine wpAnyH_ready (rs := [1, 7]) (by kernel_rfl) (by simp) ?_
                  refine AllReadyH.cons (i := 1) rfl (fun K hK => ?_) ?_
                  · go_simp
                    refine hK.out _ _ ?_ (fun hHeld => ?_)
                    · (first | (refine ⟨?_, ?_, ?_, ?_, ?_, ?_⟩ <;> (refine (World.cell?_setCell_far _ _ _ _ (by simp only [ne_eq]; omega)).trans ?_; assumption)) | go_keep)
                    clear hK K
                    (try simp only [Act.put, List.setIfInBounds_toArray, List.set_cons_zero, List.set_cons_succ])
                    refine wpAnyH_ready (rs := [7]) (by kernel_rfl) (by simp) ?_
                    refine AllReadyH.cons (i := 7) rfl (fun K hK => ?_) ?_
                    · go_simp
                      refine hK.out _ _ ?_ (fun hHeld => ?_)
                      · (first | (refine ⟨?_, ?_, ?_, ?_, ?_, ?_⟩ <;> (refine (World.cell?_setCell_far _ _ _ _ (by simp only [ne_eq]; omega)).trans ?_; assumption)) | go_keep)
                      clear hK K
                      (try simp only [Act.put, List.setIfInBounds_toArray, List.set_cons_zero, List.set_cons_succ])
                      refine wpAnyH_ready (rs := [8]) (by kernel_rfl) (by simp) ?_
                      refine AllReadyH.cons (i := 8) rfl (fun K hK => ?_) ?_
                      · refine step_append_lies _ rfl _ _ 23 rfl (w.heap.size + 4) 46 i1 _ 5 56 Tryz.underlying23 hi1 y0 y1 y2 rfl (by decide) (.slice Ax (f.2.1.length + k) cx) (f.2.1.length + k) _ rfl (own_drew (World.ownsRow.alloc hown _)) _ _ _ (eSp p) rfl rfl ?_ (eSp_one _) (by decide) ?_ ?_ ?_ (wr.heap.size + 1) ?_ ?_
                        case refine_1 => exact new_cells rfl rfl
                        case refine_2 => unfold maxLen; omega
                        case refine_3 => omega
                        case refine_4 => simp; omega
                        case refine_5 => simp
                        intro gg cap w4 hown4 hgr4 hli hlt4
                        have HST := Hid.mk' (And.intro hown4 (And.intro hgr4 hli))
                        have f4 : w4.frozen? ⟨w.heap.size + 3, 1, none⟩ = false := (HFR.out w4 hgr4 _ (by simp)).2.trans fo
                        have g0 : w4.cell? ⟨w.heap.size + 3, 1, none⟩ = some (.slice Ax (f.2.1.length + k) cx) := (HFR.out w4 hgr4 _ (by simp)).1.trans ko
                        have g1 : w4.cell? ⟨w.heap.size + 1, 1, none⟩ = some (.slice (some ⟨b, off, none⟩) g.2.1.length d2) := (HFR.out w4 hgr4 _ (by simp)).1.trans ka
                        have g2 : w4.cell? ⟨b, off + k * 5, none⟩ = some (.int .i64 p.t) := (HFR.out w4 hgr4 _ (by simp; omega)).1.trans e0
                        have g3 : w4.cell? ⟨b, off + k * 5 + 1, none⟩ = some (.int .i64 p.i) := (HFR.out w4 hgr4 _ (by simp; omega)).1.trans e1
                        have g4 : w4.cell? ⟨b, off + k * 5 + 2, none⟩ = some (.string p.r.lo) := (HFR.out w4 hgr4 _ (by simp; omega)).1.trans e2
                        have g5 : w4.cell? ⟨b, off + k * 5 + 3, none⟩ = some (.string p.r.hi) := (HFR.out w4 hgr4 _ (by simp; omega)).1.trans e3
                        have g6 : w4.cell? ⟨b, off + k * 5 + 4, none⟩ = some (.bool p.r.op) := (HFR.out w4 hgr4 _ (by simp; omega)).1.trans e4
                        clear hown4 hgr4 hli
                        refine hK.out _ _ ?_ (fun hHeld => ?_)
                        · (first | (refine ⟨?_, ?_, ?_, ?_, ?_, ?_⟩ <;> (refine (World.cell?_setCell_far _ _ _ _ (by simp only [ne_eq]; omega)).trans ?_; assumption)) | go_keep)
                        clear hK K
                        (try simp only [Act.put, List.setIfInBounds_toArray, List.set_cons_zero, List.set_cons_succ])
                        refine wpAnyH_take (i := 9) (v := ?_) rfl (by kernel_rfl) (by kernel_rfl) (by kernel_rfl) (fun _ _ _ h => h) (Or.inl ⟨by rfl, ?_⟩) (by assumption) ?_
                        rotate_left
                        · intro w hSw
                          (try dsimp only at hSw)
                          first | (go_simp; with_reducible rfl) | go_simp
                        (try simp only [Act.put, List.setIfInBounds_toArray, List.set_cons_zero, List.set_cons_succ])
                        refine wpAnyH_ready (rs := [10]) (by kernel_rfl) (by simp) ?_
                        refine AllReadyH.cons (i := 10) rfl (fun K hK => ?_) ?_
                        · go_simp
                          refine hK.out _ _ ?_ (fun hHeld => ?_)
                          · (first | (refine ⟨?_, ?_, ?_, ?_, ?_, ?_⟩ <;> (refine (World.cell?_setCell_far _ _ _ _ (by simp only [ne_eq]; omega)).trans ?_; assumption)) | go_keep)
                          clear hK K
                          (try simp only [Act.put, List.setIfInBounds_toArray, List.set_cons_zero, List.set_cons_succ])
                          refine wpAnyH_done (by kernel_rfl) ?_ _
                          refine NoPanic.normal ?_
                          go_wp2_with fail
                          go_roundw
                          case rel =>
                            obtain ⟨ho4, hg4, hl4⟩ := HST.out
                            have hkp : wr.grownBy (wr.alloc (.cells #[.int .i64 p.t, .int .i64 p.i, .string p.r.lo, .string p.r.hi, .bool p.r.op] 46)).drew none := ⟨rfl, rfl, rfl, by simp, fun j hj _ => Below.heap_alloc _ _ _ hj⟩
                            refine ⟨k + 1, .slice (some ⟨gg, 0, none⟩) (f.2.1.length + k + 1) cap, by omega, by go_num, ?_⟩
                            refine Hid.mk' ?_
                            have hg4' : (wr.alloc (.cells #[.int .i64 p.t, .int .i64 p.i, .string p.r.lo, .string p.r.hi, .bool p.r.op] 46)).drew.grownBy w4 (Value.slice Ax (f.2.1 ++ g.2.1.take k).length cx).ownBlock := by rw [HLN.out]; exact hg4
                            have hl4' : (Value.slice Ax (f.2.1 ++ g.2.1.take k).length cx).ownBlock = some gg ∨ gg = wr.heap.size + 1 := by rw [HLN.out]; exact hl4
                            rw [← HTK.out]
                            exact (HB.out.kept hkp).putY (p := p) (by rw [HLN.out]; exact ho4) hg4'
                          case measure => simp [intOf]; omega
                        exact AllReadyH.nil
                      exact AllReadyH.nil
                    exact AllReadyH.nil
                  refine AllReadyH.cons (i := 7) rfl (fun K hK => ?_) ?_
                  · go_simp
                    refine hK.out _ _ ?_ (fun hHeld => ?_)
                    · (first | (refine ⟨?_, ?_, ?_, ?_, ?_, ?_⟩ <;> (refine (World.cell?_setCell_far _ _ _ _ (by simp only [ne_eq]; omega)).trans ?_; assumption)) | go_keep)
                    clear hK K
                    (try simp only [Act.put, List.setIfInBounds_toArray, List.set_cons_zero, List.set_cons_succ])
                    refine wpAnyH_ready (rs := [1]) (by kernel_rfl) (by simp) ?_
                    refine AllReadyH.cons (i := 1) rfl (fun K hK => ?_) ?_
                    · go_simp
                      refine hK.out _ _ ?_ (fun hHeld => ?_)
                      · (first | (refine ⟨?_, ?_, ?_, ?_, ?_, ?_⟩ <;> (refine (World.cell?_setCell_far _ _ _ _ (by simp only [ne_eq]; omega)).trans ?_; assumption)) | go_keep)
                      clear hK K
                      (try simp only [Act.put, List.setIfInBounds_toArray, List.set_cons_zero, List.set_cons_succ])
                      refine wpAnyH_ready (rs := [8]) (by kernel_rfl) (by simp) ?_
                      refine AllReadyH.cons (i := 8) rfl (fun K hK => ?_) ?_
                      · refine step_append_lies _ rfl _ _ 23 rfl (w.heap.size + 4) 46 i1 _ 5 56 Tryz.underlying23 hi1 y0 y1 y2 rfl (by decide) (.slice Ax (f.2.1.length + k) cx) (f.2.1.length + k) _ rfl (own_drew (World.ownsRow.alloc hown _)) _ _ _ (eSp p) rfl rfl ?_ (eSp_one _) (by decide) ?_ ?_ ?_ (wr.heap.size + 1) ?_ ?_
                        case refine_1 => exact new_cells rfl rfl
                        case refine_2 => unfold maxLen; omega
                        case refine_3 => omega
                        case refine_4 => simp; omega
                        case refine_5 => simp
                        intro gg cap w4 hown4 hgr4 hli hlt4
                        have HST := Hid.mk' (And.intro hown4 (And.intro hgr4 hli))
                        have f4 : w4.frozen? ⟨w.heap.size + 3, 1, none⟩ = false := (HFR.out w4 hgr4 _ (by simp)).2.trans fo
                        have g0 : w4.cell? ⟨w.heap.size + 3, 1, none⟩ = some (.slice Ax (f.2.1.length + k) cx) := (HFR.out w4 hgr4 _ (by simp)).1.trans ko
                        have g1 : w4.cell? ⟨w.heap.size + 1, 1, none⟩ = some (.slice (some ⟨b, off, none⟩) g.2.1.length d2) := (HFR.out w4 hgr4 _ (by simp)).1.trans ka
                        have g2 : w4.cell? ⟨b, off + k * 5, none⟩ = some (.int .i64 p.t) := (HFR.out w4 hgr4 _ (by simp; omega)).1.trans e0
                        have g3 : w4.cell? ⟨b, off + k * 5 + 1, none⟩ = some (.int .i64 p.i) := (HFR.out w4 hgr4 _ (by simp; omega)).1.trans e1
                        have g4 : w4.cell? ⟨b, off + k * 5 + 2, none⟩ = some (.string p.r.lo) := (HFR.out w4 hgr4 _ (by simp; omega)).1.trans e2
                        have g5 : w4.cell? ⟨b, off + k * 5 + 3, none⟩ = some (.string p.r.hi) := (HFR.out w4 hgr4 _ (by simp; omega)).1.trans e3
                        have g6 : w4.cell? ⟨b, off + k * 5 + 4, none⟩ = some (.bool p.r.op) := (HFR.out w4 hgr4 _ (by simp; omega)).1.trans e4
                        clear hown4 hgr4 hli
                        refine hK.out _ _ ?_ (fun hHeld => ?_)
                        · (first | (refine ⟨?_, ?_, ?_, ?_, ?_, ?_⟩ <;> (refine (World.cell?_setCell_far _ _ _ _ (by simp only [ne_eq]; omega)).trans ?_; assumption)) | go_keep)
                        clear hK K
                        (try simp only [Act.put, List.setIfInBounds_toArray, List.set_cons_zero, List.set_cons_succ])
                        refine wpAnyH_take (i := 9) (v := ?_) rfl (by kernel_rfl) (by kernel_rfl) (by kernel_rfl) (fun _ _ _ h => h) (Or.inl ⟨by rfl, ?_⟩) (by assumption) ?_
                        rotate_left
                        · intro w hSw
                          (try dsimp only at hSw)
                          first | (go_simp; with_reducible rfl) | go_simp
                        (try simp only [Act.put, List.setIfInBounds_toArray, List.set_cons_zero, List.set_cons_succ])
                        refine wpAnyH_ready (rs := [10]) (by kernel_rfl) (by simp) ?_
                        refine AllReadyH.cons (i := 10) rfl (fun K hK => ?_) ?_
                        · go_simp
                          refine hK.out _ _ ?_ (fun hHeld => ?_)
                          · (first | (refine ⟨?_, ?_, ?_, ?_, ?_, ?_⟩ <;> (refine (World.cell?_setCell_far _ _ _ _ (by simp only [ne_eq]; omega)).trans ?_; assumption)) | go_keep)
                          clear hK K
                          (try simp only [Act.put, List.setIfInBounds_toArray, List.set_cons_zero, List.set_cons_succ])
                          refine wpAnyH_done (by kernel_rfl) ?_ _
                          refine NoPanic.normal ?_
                          go_wp2_with fail
                          go_roundw
                          case rel =>
                            obtain ⟨ho4, hg4, hl4⟩ := HST.out
                            have hkp : wr.grownBy (wr.alloc (.cells #[.int .i64 p.t, .int .i64 p.i, .string p.r.lo, .string p.r.hi, .bool p.r.op] 46)).drew none := ⟨rfl, rfl, rfl, by simp, fun j hj _ => Below.heap_alloc _ _ _ hj⟩
                            refine ⟨k + 1, .slice (some ⟨gg, 0, none⟩) (f.2.1.length + k + 1) cap, by omega, by go_num, ?_⟩
                            refine Hid.mk' ?_
                            have hg4' : (wr.alloc (.cells #[.int .i64 p.t, .int .i64 p.i, .string p.r.lo, .string p.r.hi, .bool p.r.op] 46)).drew.grownBy w4 (Value.slice Ax (f.2.1 ++ g.2.1.take k).length cx).ownBlock := by rw [HLN.out]; exact hg4
                            have hl4' : (Value.slice Ax (f.2.1 ++ g.2.1.take k).length cx).ownBlock = some gg ∨ gg = wr.heap.size + 1 := by rw [HLN.out]; exact hl4
                            rw [← HTK.out]
                            exact (HB.out.kept hkp).putY (p := p) (by rw [HLN.out]; exact ho4) hg4'
                          case measure => simp [intOf]; omega
                        exact AllReadyH.nil
                      exact AllReadyH.nil
                    exact AllReadyH.nil
                  exact AllReadyH.nil
                · have hltz : ¬ (k : Int) < (g.2.1.length : Int) := by omega
                  have hke : g.2.1.take k = g.2.1 := List.take_of_length_le (by omega)
                  rw [hke] at HB
                  have HBW := HB
                  clear HB hke
                  obtain ⟨x1, hx1⟩ : ∃ y, y = x := ⟨_, rfl⟩
                  subst hx1
                  go_wp2_with fail
                  clear ka
                  go_loopw [10] (fun s10 wr => ∃ (k : Nat) (x : Value), k ≤ f.2.2.length ∧ s10 = .int .i64 k ∧ Hid (Bo w wr #[.slice A1 f.1.length c1, .slice A2 f.2.1.length c2, .slice A3 f.2.2.length c3] #[.slice B1 g.1.length d1, .slice B2 g.2.1.length d2, .slice B3 g.2.2.length d3] x0 x1 x (f.1 ++ g.1) (f.2.1 ++ g.2.1) (f.2.2.take k))) (fun s10 _ => f.2.2.length - (intOf s10).toNat)
                  case atStart => exact ⟨0, .slice none 0 0, Nat.zero_le _, rfl, HBW.out⟩
                  case round =>
                    obtain ⟨k, x, hk, rfl, HB⟩ := hrel
                    have ka : wr.cell? ⟨w.heap.size, 2, none⟩ = some (.slice A3 f.2.2.length c3) := cell_at HB.out.a rfl
                    by_cases hlt : k < f.2.2.length
                    · have hltz : (k : Int) < (f.2.2.length : Int) := by omega
                      obtain ⟨p, hp⟩ : ∃ p, f.2.2[k]? = some p := ⟨_, List.getElem?_eq_getElem hlt⟩
                      obtain ⟨b, off, rfl, hbl, hcell⟩ := HF.out.wrs.at_ hlt
                      have es : f.2.2[k] = p := (List.getElem?_eq_some_iff.1 hp).2
                      rw [es] at hcell
                      have hcw : ∀ q v, (ePt p)[q]? = some v → wr.cell? ⟨b, off + k * 3 + q, none⟩ = some v := fun q v hv => (HB.out.below.cell (p := ⟨b, _, none⟩) hbl).trans (hcell q v hv)
                      have e0 : wr.cell? ⟨b, off + k * 3, none⟩ = some (.int .i64 p.t) := hcw 0 _ rfl
                      have e1 : wr.cell? ⟨b, off + k * 3 + 1, none⟩ = some (.int .i64 p.i) := hcw 1 _ rfl
                      have e2 : wr.cell? ⟨b, off + k * 3 + 2, none⟩ = some (.string p.key) := hcw 2 _ rfl
                      have ko : wr.cell? ⟨w.heap.size + 3, 2, none⟩ = some x := cell_at HB.out.o rfl
                      have hszw := HB.out.size
                      have HTK : Hid ((f.2.2.take k) ++ [p] = f.2.2.take (k + 1)) := by show _ = _; rw [List.take_succ_eq_append_getElem hlt, es]
                      obtain ⟨Ax, cx, rfl, hcx⟩ := HB.out.pz.shape
                      have hln : (f.2.2.take k).length = k := by exact List.length_take_of_le (Nat.le_of_lt hlt)
                      have hown : wr.ownsRow (w.heap.size + 4) 37 3 (.slice Ax (f.2.2.take k).length cx) (f.2.2.take k).length ((f.2.2.take k).flatMap ePt) := HB.out.pz
                      have HLN := Hid.mk' hln
                      rw [hln] at hown ko
                      have hfar : ∀ w4 : World, (wr.alloc (.cells #[.int .i64 p.t, .int .i64 p.i, .string p.key] 37)).drew.grownBy w4 (Value.slice Ax (k) cx).ownBlock → ∀ a : Addr, a.block < w.heap.size + 4 → w4.cell? a = wr.cell? a ∧ w4.frozen? a = wr.frozen? a := fun w4 hg a ha => far_cell hown (by omega) hg a ha
                      have HFR := Hid.mk' hfar
                      have fo : wr.frozen? ⟨w.heap.size + 3, 2, none⟩ = false := free_at _ HB.out.o
                      have hbne : b ≠ w.heap.size + 1 + 1 + 1 := by omega
                      clear hcell hcw hp es hcx hln hfar
                      go_wp2_with fail
                      refine wp_region_noPanic ?_
                      refine wp_region_held_drew (S := (fun w' => w'.cell? ⟨w.heap.size, 2, none⟩ = some (.slice (some ⟨b, off, none⟩) f.2.2.length c3) ∧ w'.cell? ⟨b, off + k * 3, none⟩ = some (.int .i64 p.t) ∧ w'.cell? ⟨b, off + k * 3 + 1, none⟩ = some (.int .i64 p.i) ∧ w'.cell? ⟨b, off + k * 3 + 2, none⟩ = some (.string p.key))) (by kernel_rfl) ?_ (fun hHeld => ?_)
                      · (first | (refine ⟨?_, ?_, ?_, ?_⟩ <;> (refine (World.cell?_setCell_far _ _ _ _ (by simp only [ne_eq]; omega)).trans ?_; assumption)) | go_keep)
                      refine wpAnyH_take (i := 0) (v := ?_) rfl (by kernel_rfl) (by kernel_rfl) (by kernel_rfl) (fun _ _ _ h => h) (Or.inl ⟨by rfl, ?_⟩) (by assumption) ?_
                      rotate_left
                      · intro w hSw
                        (try dsimp only at hSw)
                        first | (go_simp; with_reducible rfl) | go_simp
                      (try simp only [Act.put, List.setIfInBounds_toArray, List.set_cons_zero, List.set_cons_succ])
                      refine wpAnyH_take (i := 2) (v := ?_) rfl (by kernel_rfl) (by kernel_rfl) (by kernel_rfl) (fun _ _ _ h => h) (Or.inl ⟨by rfl, ?_⟩) (by assumption) ?_
                      rotate_left
                      · intro w hSw
                        (try dsimp only at hSw)
                        first | (go_simp; with_reducible rfl) | go_simp
                      (try simp only [Act.put, List.setIfInBounds_toArray, List.set_cons_zero, List.set_cons_succ])
                      refine wpAnyH_take (i := 3) (v := ?_) rfl (by kernel_rfl) (by kernel_rfl) (by kernel_rfl) (fun _ _ _ h => h) (Or.inl ⟨by rfl, ?_⟩) (by assumption) ?_
                      rotate_left
                      · intro w hSw
                        (try dsimp only at hSw)
                        first | (go_simp; with_reducible rfl) | go_simp
                      (try simp only [Act.put, List.setIfInBounds_toArray, List.set_cons_zero, List.set_cons_succ])
                      refine wpAnyH_take (i := 4) (v := ?_) rfl (by kernel_rfl) (by kernel_rfl) (by kernel_rfl) (fun _ _ _ h => h) (Or.inl ⟨by rfl, ?_⟩) (by assumption) ?_
                      rotate_left
                      · intro w hSw
                        (try dsimp only at hSw)
                        first | (go_simp; with_reducible rfl) | go_simp
                      (try simp only [Act.put, List.setIfInBounds_toArray, List.set_cons_zero, List.set_cons_succ])
                      refine wpAnyH_take (i := 5) (v := ?_) rfl (by kernel_rfl) (by kernel_rfl) (by kernel_rfl) (fun _ _ _ h => h) (Or.inl ⟨by rfl, ?_⟩) (by assumption) ?_
                      rotate_left
                      · intro w hSw
                        (try dsimp only at hSw)
                        first | (go_simp; with_reducible rfl) | go_simp
                      (try simp only [Act.put, List.setIfInBounds_toArray, List.set_cons_zero, List.set_cons_succ])
                      refine wpAnyH_take (i := 6) (v := ?_) rfl (by kernel_rfl) (by kernel_rfl) (by kernel_rfl) (fun _ _ _ h => h) (Or.inl ⟨by rfl, ?_⟩) (by assumption) ?_
                      rotate_left
                      · intro w hSw
                        (try dsimp only at hSw)
                        first | (go_simp; with_reducible rfl) | go_simp
                      (try simp only [Act.put, List.setIfInBounds_toArray, List.set_cons_zero, List.set_cons_succ])
                      refine wpAnyH_ready (rs := [1, 7]) (by kernel_rfl) (by simp) ?_
                      refine AllReadyH.cons (i := 1) rfl (fun K hK => ?_) ?_
                      · go_simp
                        refine hK.out _ _ ?_ (fun hHeld => ?_)
                        · (first | (refine ⟨?_, ?_, ?_, ?_⟩ <;> (refine (World.cell?_setCell_far _ _ _ _ (by simp only [ne_eq]; omega)).trans ?_; assumption)) | go_keep)
                        clear hK K
                        (try simp only [Act.put, List.setIfInBounds_toArray, List.set_cons_zero, List.set_cons_succ])
                        refine wpAnyH_ready (rs := [7]) (by kernel_rfl) (by simp) ?_
                        refine AllReadyH.cons (i := 7) rfl (fun K hK => ?_) ?_
                        · go_simp
                          refine hK.out _ _ ?_ (fun hHeld => ?_)
                          · (first | (refine ⟨?_, ?_, ?_, ?_⟩ <;> (refine (World.cell?_setCell_far _ _ _ _ (by simp only [ne_eq]; omega)).trans ?_; assumption)) | go_keep)
                          clear hK K
                          (try simp only [Act.put, List.setIfInBounds_toArray, List.set_cons_zero, List.set_cons_succ])
                          refine wpAnyH_ready (rs := [8]) (by kernel_rfl) (by simp) ?_
                          refine AllReadyH.cons (i := 8) rfl (fun K hK => ?_) ?_
                          · refine step_append_lies _ rfl _ _ 22 rfl (w.heap.size + 4) 37 i2 _ 3 32 Tryz.underlying22 hi2 z0 z1 z2 rfl (by decide) (.slice Ax (k) cx) (k) _ rfl (own_drew (World.ownsRow.alloc hown _)) _ _ _ (ePt p) rfl rfl ?_ (ePt_one _) (by decide) ?_ ?_ ?_ (wr.heap.size + 1) ?_ ?_
                            case refine_1 => exact new_cells rfl rfl
                            case refine_2 => unfold maxLen; omega
                            case refine_3 => omega
                            case refine_4 => simp; omega
                            case refine_5 => simp
                            intro gg cap w4 hown4 hgr4 hli hlt4
                            have HST := Hid.mk' (And.intro hown4 (And.intro hgr4 hli))
                            have f4 : w4.frozen? ⟨w.heap.size + 3, 2, none⟩ = false := (HFR.out w4 hgr4 _ (by simp)).2.trans fo
                            have g0 : w4.cell? ⟨w.heap.size + 3, 2, none⟩ = some (.slice Ax (k) cx) := (HFR.out w4 hgr4 _ (by simp)).1.trans ko
                            have g1 : w4.cell? ⟨w.heap.size, 2, none⟩ = some (.slice (some ⟨b, off, none⟩) f.2.2.length c3) := (HFR.out w4 hgr4 _ (by simp)).1.trans ka
                            have g2 : w4.cell? ⟨b, off + k * 3, none⟩ = some (.int .i64 p.t) := (HFR.out w4 hgr4 _ (by simp; omega)).1.trans e0
                            have g3 : w4.cell? ⟨b, off + k * 3 + 1, none⟩ = some (.int .i64 p.i) := (HFR.out w4 hgr4 _ (by simp; omega)).1.trans e1
                            have g4 : w4.cell? ⟨b, off + k * 3 + 2, none⟩ = some (.string p.key) := (HFR.out w4 hgr4 _ (by simp; omega)).1.trans e2
                            clear hown4 hgr4 hli
                            refine hK.out _ _ ?_ (fun hHeld => ?_)
                            · (first | (refine ⟨?_, ?_, ?_, ?_⟩ <;> (refine (World.cell?_setCell_far _ _ _ _ (by simp only [ne_eq]; omega)).trans ?_; assumption)) | go_keep)
                            clear hK K
                            (try simp only [Act.put, List.setIfInBounds_toArray, List.set_cons_zero, List.set_cons_succ])
                            refine wpAnyH_take (i := 9) (v := ?_) rfl (by kernel_rfl) (by kernel_rfl) (by kernel_rfl) (fun _ _ _ h => h) (Or.inl ⟨by rfl, ?_⟩) (by assumption) ?_
                            rotate_left
                            · intro w hSw
                              (try dsimp only at hSw)
                              first | (go_simp; with_reducible rfl) | go_simp
                            (try simp only [Act.put, List.setIfInBounds_toArray, List.set_cons_zero, List.set_cons_succ])
                            refine wpAnyH_ready (rs := [10]) (by kernel_rfl) (by simp) ?_
                            refine AllReadyH.cons (i := 10) rfl (fun K hK => ?_) ?_
                            · go_simp
                              refine hK.out _ _ ?_ (fun hHeld => ?_)
                              · (first | (refine ⟨?_, ?_, ?_, ?_⟩ <;> (refine (World.cell?_setCell_far _ _ _ _ (by simp only [ne_eq]; omega)).trans ?_; assumption)) | go_keep)
                              clear hK K
                              (try simp only [Act.put, List.setIfInBounds_toArray, List.set_cons_zero, List.set_cons_succ])
                              refine wpAnyH_done (by kernel_rfl) ?_ _
                              refine NoPanic.normal ?_
                              go_wp2_with fail
                              go_roundw
                              case rel =>
                                obtain ⟨ho4, hg4, hl4⟩ := HST.out
                                have hkp : wr.grownBy (wr.alloc (.cells #[.int .i64 p.t, .int .i64 p.i, .string p.key] 37)).drew none := ⟨rfl, rfl, rfl, by simp, fun j hj _ => Below.heap_alloc _ _ _ hj⟩
                                refine ⟨k + 1, .slice (some ⟨gg, 0, none⟩) (k + 1) cap, by omega, by go_num, ?_⟩
                                refine Hid.mk' ?_
                                have hg4' : (wr.alloc (.cells #[.int .i64 p.t, .int .i64 p.i, .string p.key] 37)).drew.grownBy w4 (Value.slice Ax (f.2.2.take k).length cx).ownBlock := by rw [HLN.out]; exact hg4
                                have hl4' : (Value.slice Ax (f.2.2.take k).length cx).ownBlock = some gg ∨ gg = wr.heap.size + 1 := by rw [HLN.out]; exact hl4
                                rw [← HTK.out]
                                exact (HB.out.kept hkp).putZ (p := p) (by rw [HLN.out]; exact ho4) hg4' (hl4'.imp (fun e => e.symm) (fun e => ⟨_, rfl, by rw [e]; simp⟩))
                              case measure => simp [intOf]; omega
                            exact AllReadyH.nil
                          exact AllReadyH.nil
                        exact AllReadyH.nil
                      refine AllReadyH.cons (i := 7) rfl (fun K hK => ?_) ?_
                      · go_simp
                        refine hK.out _ _ ?_ (fun hHeld => ?_)
                        · (first | (refine ⟨?_, ?_, ?_, ?_⟩ <;> (refine (World.cell?_setCell_far _ _ _ _ (by simp only [ne_eq]; omega)).trans ?_; assumption)) | go_keep)
                        clear hK K
                        (try simp only [Act.put, List.setIfInBounds_toArray, List.set_cons_zero, List.set_cons_succ])
                        refine wpAnyH_ready (rs := [1]) (by kernel_rfl) (by simp) ?_
                        refine AllReadyH.cons (i := 1) rfl (fun K hK => ?_) ?_
                        · go_simp
                          refine hK.out _ _ ?_ (fun hHeld => ?_)
                          · (first | (refine ⟨?_, ?_, ?_, ?_⟩ <;> (refine (World.cell?_setCell_far _ _ _ _ (by simp only [ne_eq]; omega)).trans ?_; assumption)) | go_keep)
                          clear hK K
                          (try simp only [Act.put, List.setIfInBounds_toArray, List.set_cons_zero, List.set_cons_succ])
                          refine wpAnyH_ready (rs := [8]) (by kernel_rfl) (by simp) ?_
                          refine AllReadyH.cons (i := 8) rfl (fun K hK => ?_) ?_
                          · refine step_append_lies _ rfl _ _ 22 rfl (w.heap.size + 4) 37 i2 _ 3 32 Tryz.underlying22 hi2 z0 z1 z2 rfl (by decide) (.slice Ax (k) cx) (k) _ rfl (own_drew (World.ownsRow.alloc hown _)) _ _ _ (ePt p) rfl rfl ?_ (ePt_one _) (by decide) ?_ ?_ ?_ (wr.heap.size + 1) ?_ ?_
                            case refine_1 => exact new_cells rfl rfl
                            case refine_2 => unfold maxLen; omega
                            case refine_3 => omega
                            case refine_4 => simp; omega
                            case refine_5 => simp
                            intro gg cap w4 hown4 hgr4 hli hlt4
                            have HST := Hid.mk' (And.intro hown4 (And.intro hgr4 hli))
                            have f4 : w4.frozen? ⟨w.heap.size + 3, 2, none⟩ = false := (HFR.out w4 hgr4 _ (by simp)).2.trans fo
                            have g0 : w4.cell? ⟨w.heap.size + 3, 2, none⟩ = some (.slice Ax (k) cx) := (HFR.out w4 hgr4 _ (by simp)).1.trans ko
                            have g1 : w4.cell? ⟨w.heap.size, 2, none⟩ = some (.slice (some ⟨b, off, none⟩) f.2.2.length c3) := (HFR.out w4 hgr4 _ (by simp)).1.trans ka
                            have g2 : w4.cell? ⟨b, off + k * 3, none⟩ = some (.int .i64 p.t) := (HFR.out w4 hgr4 _ (by simp; omega)).1.trans e0
                            have g3 : w4.cell? ⟨b, off + k * 3 + 1, none⟩ = some (.int .i64 p.i) := (HFR.out w4 hgr4 _ (by simp; omega)).1.trans e1
                            have g4 : w4.cell? ⟨b, off + k * 3 + 2, none⟩ = some (.string p.key) := (HFR.out w4 hgr4 _ (by simp; omega)).1.trans e2
                            clear hown4 hgr4 hli
                            refine hK.out _ _ ?_ (fun hHeld => ?_)
                            · (first | (refine ⟨?_, ?_, ?_, ?_⟩ <;> (refine (World.cell?_setCell_far _ _ _ _ (by simp only [ne_eq]; omega)).trans ?_; assumption)) | go_keep)
                            clear hK K
                            (try simp only [Act.put, List.setIfInBounds_toArray, List.set_cons_zero, List.set_cons_succ])
                            refine wpAnyH_take (i := 9) (v := ?_) rfl (by kernel_rfl) (by kernel_rfl) (by kernel_rfl) (fun _ _ _ h => h) (Or.inl ⟨by rfl, ?_⟩) (by assumption) ?_
                            rotate_left
                            · intro w hSw
                              (try dsimp only at hSw)
                              first | (go_simp; with_reducible rfl) | go_simp
                            (try simp only [Act.put, List.setIfInBounds_toArray, List.set_cons_zero, List.set_cons_succ])
                            refine wpAnyH_ready (rs := [10]) (by kernel_rfl) (by simp) ?_
                            refine AllReadyH.cons (i := 10) rfl (fun K hK => ?_) ?_
                            · go_simp
                              refine hK.out _ _ ?_ (fun hHeld => ?_)
                              · (first | (refine ⟨?_, ?_, ?_, ?_⟩ <;> (refine (World.cell?_setCell_far _ _ _ _ (by simp only [ne_eq]; omega)).trans ?_; assumption)) | go_keep)
                              clear hK K
                              (try simp only [Act.put, List.setIfInBounds_toArray, List.set_cons_zero, List.set_cons_succ])
                              refine wpAnyH_done (by kernel_rfl) ?_ _
                              refine NoPanic.normal ?_
                              go_wp2_with fail
                              go_roundw
                              case rel =>
                                obtain ⟨ho4, hg4, hl4⟩ := HST.out
                                have hkp : wr.grownBy (wr.alloc (.cells #[.int .i64 p.t, .int .i64 p.i, .string p.key] 37)).drew none := ⟨rfl, rfl, rfl, by simp, fun j hj _ => Below.heap_alloc _ _ _ hj⟩
                                refine ⟨k + 1, .slice (some ⟨gg, 0, none⟩) (k + 1) cap, by omega, by go_num, ?_⟩
                                refine Hid.mk' ?_
                                have hg4' : (wr.alloc (.cells #[.int .i64 p.t, .int .i64 p.i, .string p.key] 37)).drew.grownBy w4 (Value.slice Ax (f.2.2.take k).length cx).ownBlock := by rw [HLN.out]; exact hg4
                                have hl4' : (Value.slice Ax (f.2.2.take k).length cx).ownBlock = some gg ∨ gg = wr.heap.size + 1 := by rw [HLN.out]; exact hl4
                                rw [← HTK.out]
                                exact (HB.out.kept hkp).putZ (p := p) (by rw [HLN.out]; exact ho4) hg4' (hl4'.imp (fun e => e.symm) (fun e => ⟨_, rfl, by rw [e]; simp⟩))
                              case measure => simp [intOf]; omega
                            exact AllReadyH.nil
                          exact AllReadyH.nil
                        exact AllReadyH.nil
                      exact AllReadyH.nil
                    · have hltz : ¬ (k : Int) < (f.2.2.length : Int) := by omega
                      have hke : f.2.2.take k = f.2.2 := List.take_of_length_le (by omega)
                      rw [hke] at HB
                      have HBW := HB
                      clear HB hke
                      obtain ⟨x2, hx2⟩ : ∃ y, y = x := ⟨_, rfl⟩
                      subst hx2
                      go_wp2_with fail
                      clear ka
                      go_loopw [11] (fun s11 wr => ∃ (k : Nat) (x : Value), k ≤ g.2.2.length ∧ s11 = .int .i64 k ∧ Hid (Bo w wr #[.slice A1 f.1.length c1, .slice A2 f.2.1.length c2, .slice A3 f.2.2.length c3] #[.slice B1 g.1.length d1, .slice B2 g.2.1.length d2, .slice B3 g.2.2.length d3] x0 x1 x (f.1 ++ g.1) (f.2.1 ++ g.2.1) (f.2.2 ++ (g.2.2.take k)))) (fun s11 _ => g.2.2.length - (intOf s11).toNat)
                      case atStart => exact ⟨0, x2, Nat.zero_le _, rfl, by show Bo _ _ _ _ _ _ _ _ _ _; rw [List.take_zero, List.append_nil]; exact HBW.out⟩
                      case round =>
                        obtain ⟨k, x, hk, rfl, HB⟩ := hrel
                        have ka : wr.cell? ⟨w.heap.size + 1, 2, none⟩ = some (.slice B3 g.2.2.length d3) := cell_at HB.out.b rfl
                        by_cases hlt : k < g.2.2.length
                        · have hltz : (k : Int) < (g.2.2.length : Int) := by omega
                          obtain ⟨p, hp⟩ : ∃ p, g.2.2[k]? = some p := ⟨_, List.getElem?_eq_getElem hlt⟩
                          obtain ⟨b, off, rfl, hbl, hcell⟩ := HG.out.wrs.at_ hlt
                          have es : g.2.2[k] = p := (List.getElem?_eq_some_iff.1 hp).2
                          rw [es] at hcell
                          have hcw : ∀ q v, (ePt p)[q]? = some v → wr.cell? ⟨b, off + k * 3 + q, none⟩ = some v := fun q v hv => (HB.out.below.cell (p := ⟨b, _, none⟩) hbl).trans (hcell q v hv)
                          have e0 : wr.cell? ⟨b, off + k * 3, none⟩ = some (.int .i64 p.t) := hcw 0 _ rfl
                          have e1 : wr.cell? ⟨b, off + k * 3 + 1, none⟩ = some (.int .i64 p.i) := hcw 1 _ rfl
                          have e2 : wr.cell? ⟨b, off + k * 3 + 2, none⟩ = some (.string p.key) := hcw 2 _ rfl
                          have ko : wr.cell? ⟨w.heap.size + 3, 2, none⟩ = some x := cell_at HB.out.o rfl
                          have hszw := HB.out.size
                          have HTK : Hid ((f.2.2 ++ g.2.2.take k) ++ [p] = f.2.2 ++ g.2.2.take (k + 1)) := by show _ = _; rw [List.take_succ_eq_append_getElem hlt, es, List.append_assoc]
                          obtain ⟨Ax, cx, rfl, hcx⟩ := HB.out.pz.shape
                          have hln : (f.2.2 ++ g.2.2.take k).length = f.2.2.length + k := by rw [List.length_append, List.length_take_of_le (Nat.le_of_lt hlt)]
                          have hown : wr.ownsRow (w.heap.size + 4) 37 3 (.slice Ax (f.2.2 ++ g.2.2.take k).length cx) (f.2.2 ++ g.2.2.take k).length ((f.2.2 ++ g.2.2.take k).flatMap ePt) := HB.out.pz
                          have HLN := Hid.mk' hln
                          rw [hln] at hown ko
                          have hfar : ∀ w4 : World, (wr.alloc (.cells #[.int .i64 p.t, .int .i64 p.i, .string p.key] 37)).drew.grownBy w4 (Value.slice Ax (f.2.2.length + k) cx).ownBlock → ∀ a : Addr, a.block < w.heap.size + 4 → w4.cell? a = wr.cell? a ∧ w4.frozen? a = wr.frozen? a := fun w4 hg a ha => far_cell hown (by omega) hg a ha
                          have HFR := Hid.mk' hfar
                          have fo : wr.frozen? ⟨w.heap.size + 3, 2, none⟩ = false := free_at _ HB.out.o
                          have hbne : b ≠ w.heap.size + 1 + 1 + 1 := by omega
                          clear hcell hcw hp es hcx hln hfar
                          go_wp2_with fail
                          refine wp_region_noPanic ?_
                          refine wp_region_held_drew (S := (fun w' => w'.cell? ⟨w.heap.size + 1, 2, none⟩ = some (.slice (some ⟨b, off, none⟩) g.2.2.length d3) ∧ w'.cell? ⟨b, off + k * 3, none⟩ = some (.int .i64 p.t) ∧ w'.cell? ⟨b, off + k * 3 + 1, none⟩ = some (.int .i64 p.i) ∧ w'.cell? ⟨b, off + k * 3 + 2, none⟩ = some (.string p.key))) (by kernel_rfl) ?_ (fun hHeld => ?_)
                          · (first | (refine ⟨?_, ?_, ?_, ?_⟩ <;> (refine (World.cell?_setCell_far _ _ _ _ (by simp only [ne_eq]; omega)).trans ?_; assumption)) | go_keep)
                          refine wpAnyH_take (i := 0) (v := ?_) rfl (by kernel_rfl) (by kernel_rfl) (by kernel_rfl) (fun _ _ _ h => h) (Or.inl ⟨by rfl, ?_⟩) (by assumption) ?_
                          rotate_left
                          · intro w hSw
                            (try dsimp only at hSw)
                            first | (go_simp; with_reducible rfl) | go_simp
                          (try simp only [Act.put, List.setIfInBounds_toArray, List.set_cons_zero, List.set_cons_succ])
                          refine wpAnyH_take (i := 2) (v := ?_) rfl (by kernel_rfl) (by kernel_rfl) (by kernel_rfl) (fun _ _ _ h => h) (Or.inl ⟨by rfl, ?_⟩) (by assumption) ?_
                          rotate_left
                          · intro w hSw
                            (try dsimp only at hSw)
                            first | (go_simp; with_reducible rfl) | go_simp
                          (try simp only [Act.put, List.setIfInBounds_toArray, List.set_cons_zero, List.set_cons_succ])
                          refine wpAnyH_take (i := 3) (v := ?_) rfl (by kernel_rfl) (by kernel_rfl) (by kernel_rfl) (fun _ _ _ h => h) (Or.inl ⟨by rfl, ?_⟩) (by assumption) ?_
                          rotate_left
                          · intro w hSw
                            (try dsimp only at hSw)
                            first | (go_simp; with_reducible rfl) | go_simp
                          (try simp only [Act.put, List.setIfInBounds_toArray, List.set_cons_zero, List.set_cons_succ])
                          refine wpAnyH_take (i := 4) (v := ?_) rfl (by kernel_rfl) (by kernel_rfl) (by kernel_rfl) (fun _ _ _ h => h) (Or.inl ⟨by rfl, ?_⟩) (by assumption) ?_
                          rotate_left
                          · intro w hSw
                            (try dsimp only at hSw)
                            first | (go_simp; with_reducible rfl) | go_simp
                          (try simp only [Act.put, List.setIfInBounds_toArray, List.set_cons_zero, List.set_cons_succ])
                          refine wpAnyH_take (i := 5) (v := ?_) rfl (by kernel_rfl) (by kernel_rfl) (by kernel_rfl) (fun _ _ _ h => h) (Or.inl ⟨by rfl, ?_⟩) (by assumption) ?_
                          rotate_left
                          · intro w hSw
                            (try dsimp only at hSw)
                            first | (go_simp; with_reducible rfl) | go_simp
                          (try simp only [Act.put, List.setIfInBounds_toArray, List.set_cons_zero, List.set_cons_succ])
                          refine wpAnyH_take (i := 6) (v := ?_) rfl (by kernel_rfl) (by kernel_rfl) (by kernel_rfl) (fun _ _ _ h => h) (Or.inl ⟨by rfl, ?_⟩) (by assumption) ?_
                          rotate_left
                          · intro w hSw
                            (try dsimp only at hSw)
                            first | (go_simp; with_reducible rfl) | go_simp
                          (try simp only [Act.put, List.setIfInBounds_toArray, List.set_cons_zero, List.set_cons_succ])
                          refine wpAnyH_ready (rs := [1, 7]) (by kernel_rfl) (by simp) ?_
                          refine AllReadyH.cons (i := 1) rfl (fun K hK => ?_) ?_
                          · go_simp
                            refine hK.out _ _ ?_ (fun hHeld => ?_)
                            · (first | (refine ⟨?_, ?_, ?_, ?_⟩ <;> (refine (World.cell?_setCell_far _ _ _ _ (by simp only [ne_eq]; omega)).trans ?_; assumption)) | go_keep)
                            clear hK K
                            (try simp only [Act.put, List.setIfInBounds_toArray, List.set_cons_zero, List.set_cons_succ])
                            refine wpAnyH_ready (rs := [7]) (by kernel_rfl) (by simp) ?_
                            refine AllReadyH.cons (i := 7) rfl (fun K hK => ?_) ?_
                            · go_simp
                              refine hK.out _ _ ?_ (fun hHeld => ?_)
                              · (first | (refine ⟨?_, ?_, ?_, ?_⟩ <;> (refine (World.cell?_setCell_far _ _ _ _ (by simp only [ne_eq]; omega)).trans ?_; assumption)) | go_keep)
                              clear hK K
                              (try simp only [Act.put, List.setIfInBounds_toArray, List.set_cons_zero, List.set_cons_succ])
                              refine wpAnyH_ready (rs := [8]) (by kernel_rfl) (by simp) ?_
                              refine AllReadyH.cons (i := 8) rfl (fun K hK => ?_) ?_
                              · refine step_append_lies _ rfl _ _ 22 rfl (w.heap.size + 4) 37 i2 _ 3 32 Tryz.underlying22 hi2 z0 z1 z2 rfl (by decide) (.slice Ax (f.2.2.length + k) cx) (f.2.2.length + k) _ rfl (own_drew (World.ownsRow.alloc hown _)) _ _ _ (ePt p) rfl rfl ?_ (ePt_one _) (by decide) ?_ ?_ ?_ (wr.heap.size + 1) ?_ ?_
                                case refine_1 => exact new_cells rfl rfl
                                case refine_2 => unfold maxLen; omega
                                case refine_3 => omega
                                case refine_4 => simp; omega
                                case refine_5 => simp
                                intro gg cap w4 hown4 hgr4 hli hlt4
                                have HST := Hid.mk' (And.intro hown4 (And.intro hgr4 hli))
                                have f4 : w4.frozen? ⟨w.heap.size + 3, 2, none⟩ = false := (HFR.out w4 hgr4 _ (by simp)).2.trans fo
                                have g0 : w4.cell? ⟨w.heap.size + 3, 2, none⟩ = some (.slice Ax (f.2.2.length + k) cx) := (HFR.out w4 hgr4 _ (by simp)).1.trans ko
                                have g1 : w4.cell? ⟨w.heap.size + 1, 2, none⟩ = some (.slice (some ⟨b, off, none⟩) g.2.2.length d3) := (HFR.out w4 hgr4 _ (by simp)).1.trans ka
                                have g2 : w4.cell? ⟨b, off + k * 3, none⟩ = some (.int .i64 p.t) := (HFR.out w4 hgr4 _ (by simp; omega)).1.trans e0
                                have g3 : w4.cell? ⟨b, off + k * 3 + 1, none⟩ = some (.int .i64 p.i) := (HFR.out w4 hgr4 _ (by simp; omega)).1.trans e1
                                have g4 : w4.cell? ⟨b, off + k * 3 + 2, none⟩ = some (.string p.key) := (HFR.out w4 hgr4 _ (by simp; omega)).1.trans e2
                                clear hown4 hgr4 hli
                                refine hK.out _ _ ?_ (fun hHeld => ?_)
                                · (first | (refine ⟨?_, ?_, ?_, ?_⟩ <;> (refine (World.cell?_setCell_far _ _ _ _ (by simp only [ne_eq]; omega)).trans ?_; assumption)) | go_keep)
                                clear hK K
                                (try simp only [Act.put, List.setIfInBounds_toArray, List.set_cons_zero, List.set_cons_succ])
                                refine wpAnyH_take (i := 9) (v := ?_) rfl (by kernel_rfl) (by kernel_rfl) (by kernel_rfl) (fun _ _ _ h => h) (Or.inl ⟨by rfl, ?_⟩) (by assumption) ?_
                                rotate_left
                                · intro w hSw
                                  (try dsimp only at hSw)
                                  first | (go_simp; with_reducible rfl) | go_simp
                                (try simp only [Act.put, List.setIfInBounds_toArray, List.set_cons_zero, List.set_cons_succ])
                                refine wpAnyH_ready (rs := [10]) (by kernel_rfl) (by simp) ?_
                                refine AllReadyH.cons (i := 10) rfl (fun K hK => ?_) ?_
                                · go_simp
                                  refine hK.out _ _ ?_ (fun hHeld => ?_)
                                  · (first | (refine ⟨?_, ?_, ?_, ?_⟩ <;> (refine (World.cell?_setCell_far _ _ _ _ (by simp only [ne_eq]; omega)).trans ?_; assumption)) | go_keep)
                                  clear hK K
                                  (try simp only [Act.put, List.setIfInBounds_toArray, List.set_cons_zero, List.set_cons_succ])
                                  refine wpAnyH_done (by kernel_rfl) ?_ _
                                  refine NoPanic.normal ?_
                                  go_wp2_with fail
                                  go_roundw
                                  case rel =>
                                    obtain ⟨ho4, hg4, hl4⟩ := HST.out
                                    have hkp : wr.grownBy (wr.alloc (.cells #[.int .i64 p.t, .int .i64 p.i, .string p.key] 37)).drew none := ⟨rfl, rfl, rfl, by simp, fun j hj _ => Below.heap_alloc _ _ _ hj⟩
                                    refine ⟨k + 1, .slice (some ⟨gg, 0, none⟩) (f.2.2.length + k + 1) cap, by omega, by go_num, ?_⟩
                                    refine Hid.mk' ?_
                                    have hg4' : (wr.alloc (.cells #[.int .i64 p.t, .int .i64 p.i, .string p.key] 37)).drew.grownBy w4 (Value.slice Ax (f.2.2 ++ g.2.2.take k).length cx).ownBlock := by rw [HLN.out]; exact hg4
                                    have hl4' : (Value.slice Ax (f.2.2 ++ g.2.2.take k).length cx).ownBlock = some gg ∨ gg = wr.heap.size + 1 := by rw [HLN.out]; exact hl4
                                    rw [← HTK.out]
                                    exact (HB.out.kept hkp).putZ (p := p) (by rw [HLN.out]; exact ho4) hg4' (hl4'.imp (fun e => e.symm) (fun e => ⟨_, rfl, by rw [e]; simp⟩))
                                  case measure => simp [intOf]; omega
                                exact AllReadyH.nil
                              exact AllReadyH.nil
                            exact AllReadyH.nil
                          refine AllReadyH.cons (i := 7) rfl (fun K hK => ?_) ?_
                          · go_simp
                            refine hK.out _ _ ?_ (fun hHeld => ?_)
                            · (first | (refine ⟨?_, ?_, ?_, ?_⟩ <;> (refine (World.cell?_setCell_far _ _ _ _ (by simp only [ne_eq]; omega)).trans ?_; assumption)) | go_keep)
                            clear hK K
                            (try simp only [Act.put, List.setIfInBounds_toArray, List.set_cons_zero, List.set_cons_succ])
                            refine wpAnyH_ready (rs := [1]) (by kernel_rfl) (by simp) ?_
                            refine AllReadyH.cons (i := 1) rfl (fun K hK => ?_) ?_
                            · go_simp
                              refine hK.out _ _ ?_ (fun hHeld => ?_)
                              · (first | (refine ⟨?_, ?_, ?_, ?_⟩ <;> (refine (World.cell?_setCell_far _ _ _ _ (by simp only [ne_eq]; omega)).trans ?_; assumption)) | go_keep)
                              clear hK K
                              (try simp only [Act.put, List.setIfInBounds_toArray, List.set_cons_zero, List.set_cons_succ])
                              refine wpAnyH_ready (rs := [8]) (by kernel_rfl) (by simp) ?_
                              refine AllReadyH.cons (i := 8) rfl (fun K hK => ?_) ?_
                              · refine step_append_lies _ rfl _ _ 22 rfl (w.heap.size + 4) 37 i2 _ 3 32 Tryz.underlying22 hi2 z0 z1 z2 rfl (by decide) (.slice Ax (f.2.2.length + k) cx) (f.2.2.length + k) _ rfl (own_drew (World.ownsRow.alloc hown _)) _ _ _ (ePt p) rfl rfl ?_ (ePt_one _) (by decide) ?_ ?_ ?_ (wr.heap.size + 1) ?_ ?_
                                case refine_1 => exact new_cells rfl rfl
                                case refine_2 => unfold maxLen; omega
                                case refine_3 => omega
                                case refine_4 => simp; omega
                                case refine_5 => simp
                                intro gg cap w4 hown4 hgr4 hli hlt4
                                have HST := Hid.mk' (And.intro hown4 (And.intro hgr4 hli))
                                have f4 : w4.frozen? ⟨w.heap.size + 3, 2, none⟩ = false := (HFR.out w4 hgr4 _ (by simp)).2.trans fo
                                have g0 : w4.cell? ⟨w.heap.size + 3, 2, none⟩ = some (.slice Ax (f.2.2.length + k) cx) := (HFR.out w4 hgr4 _ (by simp)).1.trans ko
                                have g1 : w4.cell? ⟨w.heap.size + 1, 2, none⟩ = some (.slice (some ⟨b, off, none⟩) g.2.2.length d3) := (HFR.out w4 hgr4 _ (by simp)).1.trans ka
                                have g2 : w4.cell? ⟨b, off + k * 3, none⟩ = some (.int .i64 p.t) := (HFR.out w4 hgr4 _ (by simp; omega)).1.trans e0
                                have g3 : w4.cell? ⟨b, off + k * 3 + 1, none⟩ = some (.int .i64 p.i) := (HFR.out w4 hgr4 _ (by simp; omega)).1.trans e1
                                have g4 : w4.cell? ⟨b, off + k * 3 + 2, none⟩ = some (.string p.key) := (HFR.out w4 hgr4 _ (by simp; omega)).1.trans e2
                                clear hown4 hgr4 hli
                                refine hK.out _ _ ?_ (fun hHeld => ?_)
                                · (first | (refine ⟨?_, ?_, ?_, ?_⟩ <;> (refine (World.cell?_setCell_far _ _ _ _ (by simp only [ne_eq]; omega)).trans ?_; assumption)) | go_keep)
                                clear hK K
                                (try simp only [Act.put, List.setIfInBounds_toArray, List.set_cons_zero, List.set_cons_succ])
                                refine wpAnyH_take (i := 9) (v := ?_) rfl (by kernel_rfl) (by kernel_rfl) (by kernel_rfl) (fun _ _ _ h => h) (Or.inl ⟨by rfl, ?_⟩) (by assumption) ?_
                                rotate_left
                                · intro w hSw
                                  (try dsimp only at hSw)
                                  first | (go_simp; with_reducible rfl) | go_simp
                                (try simp only [Act.put, List.setIfInBounds_toArray, List.set_cons_zero, List.set_cons_succ])
                                refine wpAnyH_ready (rs := [10]) (by kernel_rfl) (by simp) ?_
                                refine AllReadyH.cons (i := 10) rfl (fun K hK => ?_) ?_
                                · go_simp
                                  refine hK.out _ _ ?_ (fun hHeld => ?_)
                                  · (first | (refine ⟨?_, ?_, ?_, ?_⟩ <;> (refine (World.cell?_setCell_far _ _ _ _ (by simp only [ne_eq]; omega)).trans ?_; assumption)) | go_keep)
                                  clear hK K
                                  (try simp only [Act.put, List.setIfInBounds_toArray, List.set_cons_zero, List.set_cons_succ])
                                  refine wpAnyH_done (by kernel_rfl) ?_ _
                                  refine NoPanic.normal ?_
                                  go_wp2_with fail
                                  go_roundw
                                  case rel =>
                                    obtain ⟨ho4, hg4, hl4⟩ := HST.out
                                    have hkp : wr.grownBy (wr.alloc (.cells #[.int .i64 p.t, .int .i64 p.i, .string p.key] 37)).drew none := ⟨rfl, rfl, rfl, by simp, fun j hj _ => Below.heap_alloc _ _ _ hj⟩
                                    refine ⟨k + 1, .slice (some ⟨gg, 0, none⟩) (f.2.2.length + k + 1) cap, by omega, by go_num, ?_⟩
                                    refine Hid.mk' ?_
                                    have hg4' : (wr.alloc (.cells #[.int .i64 p.t, .int .i64 p.i, .string p.key] 37)).drew.grownBy w4 (Value.slice Ax (f.2.2 ++ g.2.2.take k).length cx).ownBlock := by rw [HLN.out]; exact hg4
                                    have hl4' : (Value.slice Ax (f.2.2 ++ g.2.2.take k).length cx).ownBlock = some gg ∨ gg = wr.heap.size + 1 := by rw [HLN.out]; exact hl4
                                    rw [← HTK.out]
                                    exact (HB.out.kept hkp).putZ (p := p) (by rw [HLN.out]; exact ho4) hg4' (hl4'.imp (fun e => e.symm) (fun e => ⟨_, rfl, by rw [e]; simp⟩))
                                  case measure => simp [intOf]; omega
                                exact AllReadyH.nil
                              exact AllReadyH.nil
                            exact AllReadyH.nil
                          exact AllReadyH.nil
                        · have hltz : ¬ (k : Int) < (g.2.2.length : Int) := by omega
                          have hke : g.2.2.take k = g.2.2 := List.take_of_length_le (by omega)
                          rw [hke] at HB
                          have HBW := HB
                          clear HB hke
                          obtain ⟨x2, hx2⟩ : ∃ y, y = x := ⟨_, rfl⟩
                          subst hx2
                          obtain ⟨X0, n0, k0, rfl⟩ := HBW.out.px.shape'
                          obtain ⟨X1, n1, k1, rfl⟩ := HBW.out.py.shape'
                          obtain ⟨X2, n2, k2, rfl⟩ := HBW.out.pz.shape'
                          have o0 : wr.cell? ⟨w.heap.size + 3, 0, none⟩ = some (.slice X0 n0 k0) := cell_at HBW.out.o rfl
                          have t0 : wr.cell? ⟨w.heap.size + 2, 0, none⟩ = some (.slice none 0 0) := cell_at HBW.out.t rfl
                          have ft0 : wr.frozen? ⟨w.heap.size + 2, 0, none⟩ = false := free_at _ HBW.out.t
                          have o1 : wr.cell? ⟨w.heap.size + 3, 1, none⟩ = some (.slice X1 n1 k1) := cell_at HBW.out.o rfl
                          have t1 : wr.cell? ⟨w.heap.size + 2, 1, none⟩ = some (.slice none 0 0) := cell_at HBW.out.t rfl
                          have ft1 : wr.frozen? ⟨w.heap.size + 2, 1, none⟩ = false := free_at _ HBW.out.t
                          have o2 : wr.cell? ⟨w.heap.size + 3, 2, none⟩ = some (.slice X2 n2 k2) := cell_at HBW.out.o rfl
                          have t2 : wr.cell? ⟨w.heap.size + 2, 2, none⟩ = some (.slice none 0 0) := cell_at HBW.out.t rfl
                          have ft2 : wr.frozen? ⟨w.heap.size + 2, 2, none⟩ = false := free_at _ HBW.out.t
                          go_wp2_with fail
                          have hst := set3 wr (w.heap.size + 2) (.slice X0 n0 k0) (.slice X1 n1 k1) (.slice X2 n2 k2) _ _ _ _ HBW.out.t
                          (try simp only [Exit.inBlock, Exit.then])
                          refine bodyPost_ret (results_cell_row rfl _ _ (w.heap.size + 2) 25 _ (0, 0) _ rfl hst.1 Tryz.underlying25 rfl (by kernel_rfl)) rfl ?_
                          have hfin := HBW.out.fin hst.2
                          exact ⟨_, rfl, hfin.1, hfin.2⟩
end Go.Proofs.YtpbmcaidkjlokaaGreat
