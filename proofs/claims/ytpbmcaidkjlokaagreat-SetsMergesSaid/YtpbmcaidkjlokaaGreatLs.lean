/- The least of some points. -/
import Derived.Test.YtpbmcaidkjlokaaGreatRd
import Derived.Test.YtpbmcaidkjlokaaGreatS3
import Derived.Lib.AppendIntMem
namespace Go.Proofs.YtpbmcaidkjlokaaGreat
open Go.RowKit Go.Maps Go.Sort

def ptZ : Pt := ⟨0, 0, ⟨#[]⟩⟩
def leastStep (is : Pt → Bool) (s : Pt × Bool) (p : Pt) : Pt × Bool := if ((!s.2 || decide (cmpPt p s.1 < 0)) && is p) = true then (p, true) else s
def leastF (is : Pt → Bool) (l : List Pt) : Pt × Bool := l.foldl (leastStep is) (ptZ, false)
theorem leastF_snoc (is : Pt → Bool) (l : List Pt) (p : Pt) : leastF is (l ++ [p]) = leastStep is (leastF is l) p := by
  unfold leastF; rw [List.foldl_append]; rfl
/-- What stands while the least is sought. -/
structure Lst (w wr : World) (q : Pt) : Prop where
  below : Below w.heap.size w wr
  size : w.heap.size + 1 < wr.heap.size
  zero : wr.heap[w.heap.size]? = some (.cells #[.int .i64 0, .int .i64 0, .string ⟨#[]⟩] 37 (0, 0))
  out : wr.heap[w.heap.size + 1]? = some (.cells #[.int .i64 q.t, .int .i64 q.i, .string q.key] 37 (0, 0))
theorem Lst.start (w : World) : Lst w ((w.alloc (.cells #[.int .i64 0, .int .i64 0, .string ⟨#[]⟩] 37)).alloc (.cells #[.int .i64 0, .int .i64 0, .string ⟨#[]⟩] 37)) ptZ where
  below := ((Below.refl _ w).alloc (Nat.le_refl _) _).alloc (by simp) _
  size := by simp
  zero := by rw [Below.heap_alloc _ _ _ (by simp)]; exact World.alloc_heap_new _ _
  out := by
    have := World.alloc_heap_new (w.alloc (.cells #[.int .i64 0, .int .i64 0, .string ⟨#[]⟩] 37)) (.cells #[.int .i64 0, .int .i64 0, .string ⟨#[]⟩] 37)
    rwa [World.size_alloc] at this
theorem Lst.later {w wr w' : World} {q : Pt} (h : Lst w wr q) (hb : Below wr.heap.size wr w') : Lst w w' q where
  below := h.below.trans (hb.mono h.below.size)
  size := Nat.lt_of_lt_of_le h.size hb.size
  zero := (hb.block _ (by have := h.size; omega)).trans h.zero
  out := (hb.block _ (by have := h.size; omega)).trans h.out
theorem Lst.put {w wr : World} {q : Pt} (h : Lst w wr q) (p : Pt) : Lst w (((wr.setCell ⟨w.heap.size + 1, 0, none⟩ (.int .i64 p.t)).setCell ⟨w.heap.size + 1, 1, none⟩ (.int .i64 p.i)).setCell ⟨w.heap.size + 1, 2, none⟩ (.string p.key)) p := by
  obtain ⟨h1, h2⟩ := set3 wr (w.heap.size + 1) (.int .i64 p.t) (.int .i64 p.i) (.string p.key) _ _ _ _ h.out
  exact ⟨h.below.grown h2 (by have := h.size; omega) (fun k e => by cases e; omega), Nat.lt_of_lt_of_le h.size h2.size, (h2.block _ (by have := h.size; omega) (by simp)).trans h.zero, h1⟩
set_option maxHeartbeats 4000000 in
set_option maxRecDepth 100000 in
theorem least_calls (is : Pt → Bool) (g : Nat) (lb : Array Value) (eg : ∀ args w, (callFunc g args).run Tryz.prog w = .ok (.enter g args) w) (A : Option Addr) (c : Nat) (xs : List Pt) (w : World) (h : RowIn ePt 3 w A xs)
    (hp : ∀ (W : World) (x : Pt), x ∈ xs → Below w.heap.size w W → Calls Tryz.prog g (#[.agg #[.int .i64 x.t, .int .i64 x.i, .string x.key]] ++ lb) W fun e w' => e = .returned (.bool (is x)) ∧ Below W.heap.size W w') :
    Calls Tryz.prog 37 #[.slice A xs.length c, .func (.func g) #[] lb] w fun e w' => e = .returned (.tuple #[.agg #[.int .i64 (leastF is xs).1.t, .int .i64 (leastF is xs).1.i, .string (leastF is xs).1.key], .bool (leastF is xs).2]) ∧ Below w.heap.size w w' := by
  have H := Hid.mk' h
  have hl := h.len
  have HP := Hid.mk' hp
  clear h hp
  go_enter Tryz.func37, Tryz.ntmps37
  go_wp2_with fail
  go_loopw [7, 12] (fun s7 s12 wr => ∃ (k : Nat) (q : Pt) (sb : Bool), k ≤ xs.length ∧ s7 = .bool sb ∧ s12 = .int .i64 k ∧ Hid (Lst w wr q) ∧ Hid ((q, sb) = leastF is (xs.take k))) (fun _ s12 _ => xs.length - (intOf s12).toNat)
  case atStart => exact ⟨0, ptZ, false, Nat.zero_le _, rfl, rfl, Hid.mk' (Lst.start w), Hid.mk' rfl⟩
  case round =>
    obtain ⟨k, q, sb, hk, rfl, rfl, HB, HL⟩ := hrel
    have z1 := HB.out.size
    by_cases hlt : k < xs.length
    · have hltz : (k : Int) < (xs.length : Int) := by omega
      obtain ⟨x, hx⟩ : ∃ x, xs[k]? = some x := ⟨_, List.getElem?_eq_getElem hlt⟩
      obtain ⟨b, off, rfl, hbl, hcell⟩ := H.out.at_ hlt
      have es : xs[k] = x := (List.getElem?_eq_some_iff.1 hx).2
      rw [es] at hcell
      have hcw : ∀ j u, (ePt x)[j]? = some u → wr.cell? ⟨b, off + k * 3 + j, none⟩ = some u := fun j u hu => (HB.out.below.cell (p := ⟨b, _, none⟩) hbl).trans (hcell j u hu)
      have d0 : wr.cell? ⟨b, off + k * 3, none⟩ = some (.int .i64 x.t) := hcw 0 _ rfl
      have d1 : wr.cell? ⟨b, off + k * 3 + 1, none⟩ = some (.int .i64 x.i) := hcw 1 _ rfl
      have d2 : wr.cell? ⟨b, off + k * 3 + 2, none⟩ = some (.string x.key) := hcw 2 _ rfl
      have HTK : Hid (leastF is (xs.take (k + 1)) = leastStep is (q, sb) x) := by show _ = _; rw [List.take_succ_eq_append_getElem hlt, es, leastF_snoc, HL.out]
      have hmem : x ∈ xs := by rw [← es]; exact List.getElem_mem hlt
      have HPX := fun W (hW : Below w.heap.size w W) => HP.out W x hmem hW
      clear hcell hcw hx es hmem
      -- the point's own block
      have HBN : Hid (Lst w (wr.alloc (.cells #[.int .i64 x.t, .int .i64 x.i, .string x.key] 37)) q) := HB.out.later ((Below.refl _ _).alloc (Nat.le_refl _) _)
      have p0 : (wr.alloc (.cells #[.int .i64 x.t, .int .i64 x.i, .string x.key] 37)).cell? ⟨wr.heap.size, 0, none⟩ = some (.int .i64 x.t) := by simp
      have p1 : (wr.alloc (.cells #[.int .i64 x.t, .int .i64 x.i, .string x.key] 37)).cell? ⟨wr.heap.size, 1, none⟩ = some (.int .i64 x.i) := by simp
      have p2 : (wr.alloc (.cells #[.int .i64 x.t, .int .i64 x.i, .string x.key] 37)).cell? ⟨wr.heap.size, 2, none⟩ = some (.string x.key) := by simp
      have hwz : wr.heap.size < (wr.alloc (.cells #[.int .i64 x.t, .int .i64 x.i, .string x.key] 37)).heap.size := by simp
      obtain ⟨W, hW⟩ : ∃ W, wr.alloc (.cells #[.int .i64 x.t, .int .i64 x.i, .string x.key] 37) = W := ⟨_, rfl⟩
      rw [hW] at HBN p0 p1 p2 hwz
      have o0 : W.cell? ⟨w.heap.size + 1, 0, none⟩ = some (.int .i64 q.t) := cell_at HBN.out.out rfl
      have o1 : W.cell? ⟨w.heap.size + 1, 1, none⟩ = some (.int .i64 q.i) := cell_at HBN.out.out rfl
      have o2 : W.cell? ⟨w.heap.size + 1, 2, none⟩ = some (.string q.key) := cell_at HBN.out.out rfl
      have hne : w.heap.size + 1 ≠ wr.heap.size := by omega
      have HHD : Hid (wr.heap.size < W.heap.size) := hwz
      have HPW : Hid (∀ w', Below W.heap.size W w' → Lst w w' q ∧ w'.cell? ⟨wr.heap.size, 0, none⟩ = some (.int .i64 x.t) ∧ w'.cell? ⟨wr.heap.size, 1, none⟩ = some (.int .i64 x.i) ∧ w'.cell? ⟨wr.heap.size, 2, none⟩ = some (.string x.key)) := fun w' hb =>
        ⟨HBN.out.later hb, (hb.cell (p := ⟨wr.heap.size, 0, none⟩) HHD.out).trans p0, (hb.cell (p := ⟨wr.heap.size, 1, none⟩) HHD.out).trans p1, (hb.cell (p := ⟨wr.heap.size, 2, none⟩) HHD.out).trans p2⟩
      cases sb
      · -- nothing yet
        have hb0 := HBN.out.below
        cases hi : is x
        · have HC := HPX W hb0
          rw [hi] at HC
          have HI := Hid.mk' hi
          clear HPX hi hb0
          go_wp2_with fail
          refine HC.mono ?_
          rintro e w1 ⟨rfl, hb1⟩
          clear HC
          have HB1 := Hid.mk' hb1
          clear hb1
          go_wp2_with fail
          go_roundw
          case rel =>
            refine ⟨k + 1, q, false, by omega, rfl, by go_num, Hid.mk' (HPW.out _ HB1.out).1, ?_⟩
            refine Hid.mk' ?_
            rw [HTK.out]; simp [leastStep, HI.out]
          case measure => simp [intOf]; omega
        · have HC := HPX W hb0
          rw [hi] at HC
          have HI := Hid.mk' hi
          clear HPX hi hb0
          go_wp2_with fail
          refine HC.mono ?_
          rintro e w1 ⟨rfl, hb1⟩
          clear HC
          obtain ⟨hL1, r0, r1, r2⟩ := HPW.out w1 hb1
          have v0 : w1.cell? ⟨w.heap.size + 1, 0, none⟩ = some (.int .i64 q.t) := cell_at hL1.out rfl
          have v1 : w1.cell? ⟨w.heap.size + 1, 1, none⟩ = some (.int .i64 q.i) := cell_at hL1.out rfl
          have v2 : w1.cell? ⟨w.heap.size + 1, 2, none⟩ = some (.string q.key) := cell_at hL1.out rfl
          have y0 : w1.frozen? ⟨w.heap.size + 1, 0, none⟩ = false := free_at _ hL1.out
          have y1 : w1.frozen? ⟨w.heap.size + 1, 1, none⟩ = false := free_at _ hL1.out
          have y2 : w1.frozen? ⟨w.heap.size + 1, 2, none⟩ = false := free_at _ hL1.out
          have HL1 := Hid.mk' hL1
          clear hb1 hL1 o0 o1 o2 p0 p1 p2
          go_wp2_with fail
          go_roundw
          case rel =>
            refine ⟨k + 1, x, true, by omega, rfl, by go_num, Hid.mk' (HL1.out.put x), ?_⟩
            refine Hid.mk' ?_
            rw [HTK.out]; simp [leastStep, HI.out]
          case measure => simp [intOf]; omega
      · -- some
        have HBF := (before_calls x q W).mono (fun e w' (h : e = .returned (.int .i64 (cmpPt x q)) ∧ ∃ m os, w' = grow (W.drewN m) os) => (⟨h.1, by obtain ⟨m, os, e⟩ := h.2; rw [e]; exact Lib.below_grow _ _ (Nat.le_refl _) _ _⟩ : e = .returned (.int .i64 (cmpPt x q)) ∧ Below W.heap.size W w'))
        obtain ⟨cp, HCP⟩ : ∃ cp, Hid (cmpPt x q = cp) := ⟨_, rfl⟩
        rw [HCP.out] at HBF
        by_cases hcp : cp < 0
        · cases hi : is x
          all_goals
            rw [hi] at HPX
            have HI := Hid.mk' hi
            clear hi
            go_wp2_with fail
            refine HBF.mono ?_
            rintro e w0 ⟨rfl, hb0⟩
            clear HBF
            obtain ⟨hL0, q0, q1, q2⟩ := HPW.out w0 hb0
            have HC := HPX w0 hL0.below
            have HL0 := Hid.mk' hL0
            have HB0 := Hid.mk' hb0
            clear HPX hL0 hb0 o0 o1 o2 p0 p1 p2
            go_wp2_with fail
            refine HC.mono ?_
            rintro e w1 ⟨rfl, hb1⟩
            clear HC
            have hb1' : Below W.heap.size W w1 := HB0.out.trans (hb1.mono HB0.out.size)
            obtain ⟨hL1, r0, r1, r2⟩ := HPW.out w1 hb1'
            have v0 : w1.cell? ⟨w.heap.size + 1, 0, none⟩ = some (.int .i64 q.t) := cell_at hL1.out rfl
            have v1 : w1.cell? ⟨w.heap.size + 1, 1, none⟩ = some (.int .i64 q.i) := cell_at hL1.out rfl
            have v2 : w1.cell? ⟨w.heap.size + 1, 2, none⟩ = some (.string q.key) := cell_at hL1.out rfl
            have y0 : w1.frozen? ⟨w.heap.size + 1, 0, none⟩ = false := free_at _ hL1.out
            have y1 : w1.frozen? ⟨w.heap.size + 1, 1, none⟩ = false := free_at _ hL1.out
            have y2 : w1.frozen? ⟨w.heap.size + 1, 2, none⟩ = false := free_at _ hL1.out
            have HL1 := Hid.mk' hL1
            clear hb1 hb1' hL1 q0 q1 q2
            go_wp2_with fail
            go_roundw
            case rel =>
              first
                | exact ⟨k + 1, q, true, by omega, rfl, by go_num, HL1, Hid.mk' (by rw [HTK.out]; simp [leastStep, HI.out])⟩
                | exact ⟨k + 1, x, true, by omega, rfl, by go_num, Hid.mk' (HL1.out.put x), Hid.mk' (by rw [HTK.out]; have h5 : decide (cp < 0) = true := (by simp; omega); simp [leastStep, HI.out, HCP.out, h5])⟩
            case measure => simp [intOf]; omega
        · clear HPX
          go_wp2_with fail
          refine HBF.mono ?_
          rintro e w0 ⟨rfl, hb0⟩
          clear HBF
          have HL0 := Hid.mk' (HPW.out w0 hb0).1
          clear hb0 o0 o1 o2 p0 p1 p2
          go_wp2_with fail
          go_roundw
          case rel =>
            refine ⟨k + 1, q, true, by omega, rfl, by go_num, HL0, ?_⟩
            refine Hid.mk' ?_
            rw [HTK.out]
            have h5 : decide (cp < 0) = false := by simp; omega
            simp only [leastStep, HCP.out, h5]; simp
          case measure => simp [intOf]; omega
    · have hltz : ¬ (k : Int) < (xs.length : Int) := by omega
      have HFL : Hid (leastF is xs = (q, sb)) := by
        have := HL.out
        rw [List.take_of_length_le (by omega)] at this
        exact this.symm
      have v0 : wr.cell? ⟨w.heap.size + 1, 0, none⟩ = some (.int .i64 q.t) := cell_at HB.out.out rfl
      have v1 : wr.cell? ⟨w.heap.size + 1, 1, none⟩ = some (.int .i64 q.i) := cell_at HB.out.out rfl
      have v2 : wr.cell? ⟨w.heap.size + 1, 2, none⟩ = some (.string q.key) := cell_at HB.out.out rfl
      have u0 : wr.cell? ⟨w.heap.size, 0, none⟩ = some (.int .i64 0) := cell_at HB.out.zero rfl
      have u1 : wr.cell? ⟨w.heap.size, 1, none⟩ = some (.int .i64 0) := cell_at HB.out.zero rfl
      have u2 : wr.cell? ⟨w.heap.size, 2, none⟩ = some (.string ⟨#[]⟩) := cell_at HB.out.zero rfl
      have y0 : wr.frozen? ⟨w.heap.size, 0, none⟩ = false := free_at _ HB.out.zero
      have y1 : wr.frozen? ⟨w.heap.size, 1, none⟩ = false := free_at _ HB.out.zero
      have y2 : wr.frozen? ⟨w.heap.size, 2, none⟩ = false := free_at _ HB.out.zero
      go_wp2_with fail
      have hst := set3 wr w.heap.size (.int .i64 q.t) (.int .i64 q.i) (.string q.key) _ _ _ _ HB.out.zero
      (try simp only [Exit.inBlock, Exit.then])
      refine bodyPost_ret (results_cell_row_tmp rfl _ _ w.heap.size 37 _ (0, 0) _ rfl hst.1 Tryz.underlying37 rfl (by kernel_rfl) rfl) rfl ?_
      refine ⟨by rw [HFL.out]; rfl, ?_⟩
      exact HB.out.below.grown (set3 wr w.heap.size (.int .i64 q.t) (.int .i64 q.i) (.string q.key) _ _ _ _ HB.out.zero).2 (by omega) (fun k e => by cases e; omega)
end Go.Proofs.YtpbmcaidkjlokaaGreat
