/- The reference's normal foot. -/
import Derived.Test.YtpbmcaidkjlokaaGreatPc
import Derived.Test.YtpbmcaidkjlokaaGreatRU
import Derived.Test.YtpbmcaidkjlokaaGreatNm
namespace Go.Proofs.YtpbmcaidkjlokaaGreat
open Go.RowKit

/-! ### Plain -/
theorem rangesOf_snoc' (l : List Sp) (s : Sp) (q : Pl) : rangesOf (l ++ [s]) q = rangesOf l q ++ (if splS s = q then [s.r] else []) := by
  unfold rangesOf VP.rangesAt
  rw [List.filter_append, List.map_append]
  by_cases h : splS s = q <;> simp [h, rgS]
theorem toPt_lt_place (a b : Sp) : toPt.lt (placeP a) (placeP b) = toPl.lt (splS a) (splS b) := by
  show (VP.TO.int.lt a.t b.t || (decide (a.t = b.t) && (VP.TO.int.lt a.i b.i || (decide (a.i = b.i) && VP.TO.bytes.lt ⟨#[]⟩ ⟨#[]⟩)))) = (VP.TO.int.lt a.t b.t || (decide (a.t = b.t) && VP.TO.int.lt a.i b.i))
  rw [VP.TO.bytes.irr]; simp
theorem places_eq (X : List Sp) : (VP.ssort toPt (X.map placeP)).map plP = VP.ssort toPl (X.map splS) := by
  refine VP.ss_eq_ssort toPl ?_ (fun q => ?_)
  · have hs := VP.ss_ssort toPt (X.map placeP)
    unfold VP.SS at *
    rw [List.pairwise_map]
    refine hs.imp_of_mem ?_
    intro a b ha hb h
    rw [VP.mem_ssort] at ha hb
    obtain ⟨x, _, rfl⟩ := List.mem_map.1 ha
    obtain ⟨y, _, rfl⟩ := List.mem_map.1 hb
    rw [toPt_lt_place] at h
    exact h
  · constructor
    · intro h
      obtain ⟨p, hp, rfl⟩ := List.mem_map.1 h
      rw [VP.mem_ssort] at hp
      obtain ⟨x, hx, rfl⟩ := List.mem_map.1 hp
      exact List.mem_map.2 ⟨x, hx, rfl⟩
    · intro h
      obtain ⟨x, hx, rfl⟩ := List.mem_map.1 h
      exact List.mem_map.2 ⟨placeP x, by rw [VP.mem_ssort]; exact List.mem_map.2 ⟨x, hx, rfl⟩, rfl⟩

/-! ### Memory -/
theorem RowIn.via {α : Type} {enc : α → List Value} {k : Nat} {w w' : World} {A : Option Addr} {xs : List α} (h : RowIn enc k w A xs) (hs : w.heap.size ≤ w'.heap.size) (hb : ∀ a, A = some a → a.block < w.heap.size → w'.heap[a.block]? = w.heap[a.block]?) : RowIn enc k w' A xs := by
  refine ⟨h.1, h.2.imp id ?_⟩
  rintro ⟨b, off, e, hlt, hc⟩
  refine ⟨b, off, e, Nat.lt_of_lt_of_le hlt hs, fun j x hx i v hv => ?_⟩
  exact (World.cell?_of_block (a := ⟨b, off + j * k + i, none⟩) (hb ⟨b, off, none⟩ e hlt)).trans (hc j x hx i v hv)
/-- A foot that lies anywhere. -/
def FootAt (w : World) (v : Value) (g : Foot) : Prop := ∃ B1 B2 B3 d1 d2 d3, v = FootV B1 B2 B3 d1 d2 d3 g ∧ FootIn w B1 B2 B3 g ∧ g.1.length ≤ d1 ∧ g.2.1.length ≤ d2 ∧ g.2.2.length ≤ d3
theorem FootOwn.at {base : Nat} {w : World} {v : Value} {g : Foot} (h : FootOwn base w v g) : FootAt w v g := by
  obtain ⟨p, s, q, rfl, h1, h2, h3⟩ := h.shape
  obtain ⟨A1, c1, rfl, l1⟩ := h1.shape
  obtain ⟨A2, c2, rfl, l2⟩ := h2.shape
  obtain ⟨A3, c3, rfl, l3⟩ := h3.shape
  exact ⟨A1, A2, A3, c1, c2, c3, rfl, ⟨(h1.row ePt_len).2, (h2.row eSp_len).2, (h3.row ePt_len).2⟩, l1, l2, l3⟩
theorem FootIn.below {w w' : World} {A1 A2 A3 : Option Addr} {f : Foot} (h : FootIn w A1 A2 A3 f) {B : Nat} (hb : Below B w w') (hB : w.heap.size ≤ B) : FootIn w' A1 A2 A3 f := ⟨h.pts.below hb hB, h.sps.below hb hB, h.wrs.below hb hB⟩
theorem FootAt.below {w w' : World} {v : Value} {f : Foot} (h : FootAt w v f) (hb : Below w.heap.size w w') : FootAt w' v f := by
  obtain ⟨B1, B2, B3, d1, d2, d3, e, h, r⟩ := h
  exact ⟨B1, B2, B3, d1, d2, d3, e, h.below hb (Nat.le_refl _), r⟩
theorem FootAt.nil (w : World) : FootAt w (.agg #[.slice none 0 0, .slice none 0 0, .slice none 0 0]) ([], [], []) := ⟨none, none, none, 0, 0, 0, rfl, ⟨RowIn.nil _, RowIn.nil _, RowIn.nil _⟩, Nat.le_refl _, Nat.le_refl _, Nat.le_refl _⟩
/-- What stands while a normal foot is put together: wp is where it began, M the new foot's block. -/
structure RN (bx by_ : Nat) (w wp wr : World) (M : Nat) (fa : Array Value) (x y z : Value) (P : List Pt) (S : List Sp) : Prop where
  st : Below w.heap.size w wp
  a : wp.heap[w.heap.size]? = some (.cells fa 25 (0, 0))
  t : wp.heap[w.heap.size + 1]? = some (.cells #[.slice none 0 0, .slice none 0 0, .slice none 0 0] 25 (0, 0))
  m1 : w.heap.size + 1 < M
  m2 : M < wp.heap.size
  gr : wp.grownBy wr (some M)
  o : wr.heap[M]? = some (.cells #[x, y, z] 25 (0, 0))
  hbx : M < bx
  hby : M < by_
  px : Own ePt 3 37 bx wr x P
  py : Own eSp 5 46 by_ wr y S
section
variable {bx by_ : Nat} {w wp wr : World} {M : Nat} {fa : Array Value} {x y z : Value} {P : List Pt} {S : List Sp}
theorem RN.arg (h : RN bx by_ w wp wr M fa x y z P S) : wr.heap[w.heap.size]? = some (.cells fa 25 (0, 0)) := (h.gr.block _ (by have := h.m1; have := h.m2; omega) (by have := h.m1; simp; omega)).trans h.a
theorem RN.res (h : RN bx by_ w wp wr M fa x y z P S) : wr.heap[w.heap.size + 1]? = some (.cells #[.slice none 0 0, .slice none 0 0, .slice none 0 0] 25 (0, 0)) := (h.gr.block _ (by have := h.m1; have := h.m2; omega) (by have := h.m1; simp; omega)).trans h.t
theorem RN.below (h : RN bx by_ w wp wr M fa x y z P S) : Below w.heap.size w wr := h.st.grown h.gr (by have := h.m1; have := h.m2; omega) (fun k e => by cases e; have := h.m1; omega)
theorem RN.cell (h : RN bx by_ w wp wr M fa x y z P S) {a : Addr} (ha : a.block < wp.heap.size) (hm : a.block ≠ M) : wr.cell? a = wp.cell? a := World.cell?_of_block (h.gr.block a.block ha (by simpa using hm))
theorem RN.later (h : RN bx by_ w wp wr M fa x y z P S) {w' : World} (hg : wr.grownBy w' none) : RN bx by_ w wp w' M fa x y z P S :=
  ⟨h.st, h.a, h.t, h.m1, h.m2, h.gr.andThen hg (fun j e => by cases e), (hg.block M (Nat.lt_of_lt_of_le h.m2 h.gr.size) (by simp)).trans h.o, h.hbx, h.hby, h.px.kept hg (by cases x.ownBlock <;> simp), h.py.kept hg (by cases y.ownBlock <;> simp)⟩
/-- The beginning is taken anew. -/
theorem RN.anew (h : RN bx by_ w wp wr M fa x y z P S) {w5 : World} (hb : Below wr.heap.size wr w5) : RN bx by_ w w5 w5 M fa x y z P S := by
  have hg : wr.grownBy w5 none := ⟨hb.os, hb.tape, hb.output, hb.size, fun i hi _ => hb.block i hi⟩
  have h' := h.later hg
  exact ⟨h'.below, h'.arg, h'.res, h.m1, Nat.lt_of_lt_of_le h.m2 (Nat.le_trans h.gr.size hb.size), ⟨rfl, rfl, rfl, Nat.le_refl _, fun _ _ _ => rfl⟩, h'.o, h.hbx, h.hby, h'.px, h'.py⟩
theorem RN.putY (h : RN bx by_ w wp wr M fa x y z P S) {w4 : World} {p : Sp} {v' : Value} (hown : w4.ownsRow by_ 46 5 v' (S.length + 1) (S.flatMap eSp ++ eSp p)) (hg : wr.grownBy w4 y.ownBlock) (hle : wp.heap.size ≤ by_) :
    RN bx by_ w wp (w4.setCell ⟨M, 1, none⟩ v') M fa x v' z P (S ++ [p]) := by
  have hlow : ∀ k, y.ownBlock = some k → wp.heap.size ≤ k := fun k e => Nat.le_trans hle (World.ownsRow.lt h.py k e).1
  have hMr : M < wr.heap.size := Nat.lt_of_lt_of_le h.m2 h.gr.size
  have hxM : some M ≠ y.ownBlock := fun e => by have := hlow M e.symm; have := h.m2; omega
  have ho4 := (hg.block M hMr hxM).trans h.o
  have k1 := heap_setCell_at (i := 1) v' ho4
  have k2 := grownBy_setCell_at w4 M 1 v'
  have px4 := h.px.kept hg (own_blk_ne (by decide) h.px h.py)
  have py4 : Own eSp 5 46 by_ w4 v' (S ++ [p]) := own_snoc hown
  exact ⟨h.st, h.a, h.t, h.m1, h.m2, (h.gr.andThen hg (fun j e => .inl (hlow j e))).andThen k2 (fun j e => .inr e), k1, h.hbx, h.hby, px4.kept k2 (own_ne_lit px4 h.hbx), py4.kept k2 (own_ne_lit py4 h.hby)⟩
theorem RN.putX (h : RN bx by_ w wp wr M fa x y z P S) {w4 : World} {p : Pt} {v' : Value} (hown : w4.ownsRow bx 37 3 v' (P.length + 1) (P.flatMap ePt ++ ePt p)) (hg : wr.grownBy w4 x.ownBlock) (hle : wp.heap.size ≤ bx) :
    RN bx by_ w wp (w4.setCell ⟨M, 0, none⟩ v') M fa v' y z (P ++ [p]) S := by
  have hlow : ∀ k, x.ownBlock = some k → wp.heap.size ≤ k := fun k e => Nat.le_trans hle (World.ownsRow.lt h.px k e).1
  have hMr : M < wr.heap.size := Nat.lt_of_lt_of_le h.m2 h.gr.size
  have hxM : some M ≠ x.ownBlock := fun e => by have := hlow M e.symm; have := h.m2; omega
  have ho4 := (hg.block M hMr hxM).trans h.o
  have k1 := heap_setCell_at (i := 0) v' ho4
  have k2 := grownBy_setCell_at w4 M 0 v'
  have py4 := h.py.kept hg (own_blk_ne (by decide) h.py h.px)
  have px4 : Own ePt 3 37 bx w4 v' (P ++ [p]) := own_snoc hown
  exact ⟨h.st, h.a, h.t, h.m1, h.m2, (h.gr.andThen hg (fun j e => .inl (hlow j e))).andThen k2 (fun j e => .inr e), k1, h.hbx, h.hby, px4.kept k2 (own_ne_lit px4 h.hbx), py4.kept k2 (own_ne_lit py4 h.hby)⟩
end
end Go.Proofs.YtpbmcaidkjlokaaGreat
