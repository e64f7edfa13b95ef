/- How a foot is read out of a row's data. -/
import Derived.Test.YtpbmcaidkjlokaaGreatNc
import Derived.ProofKit
import Derived.Carry
import Derived.Lib.SmallJoins
import Derived.Deep.Slices
import Derived.Deep.Strs
import Derived.SizedLaws
import Derived.OpenShut
namespace Go.Proofs.YtpbmcaidkjlokaaGreat
open Go.RowKit Go.ChangeShapes Go.WideShapes Go.ChangeAt Go.Deep Go.Joins

section
variable {H : Type} {enc : TypeId × Value → H} {w : World} {base : Nat} {spare : Nat → Bool} {held : Bool}
set_option maxRecDepth 100000 in
theorem read_Pt {n : Nat} {cs : List Value} {y : DataW H × List MemPlace} (h : DataW.trod enc Tryz.prog w base spare held n 37 cs = some y) : ∃ x : Pt, cs = ePt x ∧ wfPt x := by
  obtain ⟨y0, y1, y2, m, -, hl, h0, h1, h2⟩ := trod_struct3 Tryz.underlying37 h
  have hc : cs.length = 3 := hl.trans (by kernel_rfl)
  match cs, hc with
  | [v0, v1, v2], _ =>
    rw [show Tryz.prog.cellsOf 3 = 1 from by kernel_rfl] at h0 h1
    rw [show Tryz.prog.cellsOf 9 = 1 from by kernel_rfl] at h2
    simp only [List.drop_zero, List.drop_succ_cons, List.take_succ_cons, List.take_zero] at h0 h1 h2
    obtain ⟨a, ea, _, wa⟩ := DataW.trod_int Tryz.underlying3 h0
    obtain ⟨b, eb, _, wb⟩ := DataW.trod_int Tryz.underlying3 h1
    obtain ⟨c, ec, _, wc⟩ := DataW.trod_string Tryz.underlying9 h2
    simp at ea eb ec
    subst ea eb ec
    exact ⟨⟨a, b, c⟩, rfl, wa, wb, wc⟩
set_option maxRecDepth 100000 in
theorem read_Rn {n : Nat} {cs : List Value} {y : DataW H × List MemPlace} (h : DataW.trod enc Tryz.prog w base spare held n 44 cs = some y) : ∃ x : Rn, cs = eRn x := by
  obtain ⟨y0, y1, y2, m, -, hl, h0, h1, h2⟩ := trod_struct3 Tryz.underlying44 h
  have hc : cs.length = 3 := hl.trans (by kernel_rfl)
  match cs, hc with
  | [v0, v1, v2], _ =>
    rw [show Tryz.prog.cellsOf 9 = 1 from by kernel_rfl] at h0 h1
    rw [show Tryz.prog.cellsOf 4 = 1 from by kernel_rfl] at h2
    simp only [List.drop_zero, List.drop_succ_cons, List.take_succ_cons, List.take_zero] at h0 h1 h2
    obtain ⟨a, ea, _, wa⟩ := DataW.trod_string Tryz.underlying9 h0
    obtain ⟨b, eb, _, wb⟩ := DataW.trod_string Tryz.underlying9 h1
    obtain ⟨c, ec, _⟩ := DataW.trod_bool Tryz.underlying4 h2
    simp at ea eb ec
    subst ea eb ec
    exact ⟨⟨a, b, c⟩, rfl⟩
set_option maxRecDepth 100000 in
theorem read_Sp {n : Nat} {cs : List Value} {y : DataW H × List MemPlace} (h : DataW.trod enc Tryz.prog w base spare held n 46 cs = some y) : ∃ x : Sp, cs = eSp x ∧ wfSp x := by
  obtain ⟨y0, y1, y2, m, -, hl, h0, h1, h2⟩ := trod_struct3 Tryz.underlying46 h
  have hc : cs.length = 5 := hl.trans (by kernel_rfl)
  match cs, hc with
  | [v0, v1, v2, v3, v4], _ =>
    rw [show Tryz.prog.cellsOf 3 = 1 from by kernel_rfl] at h0 h1
    rw [show Tryz.prog.cellsOf 44 = 3 from by kernel_rfl] at h2
    simp only [List.drop_zero, List.drop_succ_cons, List.take_succ_cons, List.take_zero] at h0 h1 h2
    obtain ⟨a, ea, _, wa⟩ := DataW.trod_int Tryz.underlying3 h0
    obtain ⟨b, eb, _, wb⟩ := DataW.trod_int Tryz.underlying3 h1
    obtain ⟨r, er⟩ := read_Rn h2
    simp [eRn] at ea eb er
    obtain ⟨rfl, rfl, rfl⟩ := er
    subst ea eb
    exact ⟨⟨a, b, r⟩, rfl, wa, wb⟩
/-- A slice of structs is read. -/
theorem row_open {α : Type} [Inhabited α] {enc' : α → List Value} {k : Nat} {wf : α → Prop} {t e : TypeId} {fuel : Nat} {v : Value} {y : DataW H × List MemPlace} (hk : ∀ x, (enc' x).length = k) (hk0 : 0 < k) (_hone : ∀ x, ∀ u ∈ enc' x, u.oneCell' = true) (ht : Tryz.prog.underlying t = some (.slice e)) (he : Tryz.prog.cellsOf e = k)
    (read : ∀ {n : Nat} {cs : List Value} {y : DataW H × List MemPlace}, DataW.trod enc Tryz.prog w base spare held n e cs = some y → ∃ x : α, cs = enc' x ∧ wf x)
    (h : DataW.trod enc Tryz.prog w base spare held fuel t [v] = some y) :
    ∃ (A : Option Addr) (n c : Nat) (xs : List α), v = .slice A n c ∧ xs.length = n ∧ n ≤ c ∧ RowIn enc' k w A xs ∧ (∀ x ∈ xs, wf x) ∧ (n = 0 ∨ ∃ el sp, y.1 = .slice el sp ∧ el.length = n) := by
  rcases open_slice ht h with ⟨hcs, rfl⟩ | ⟨a, len, cap, m, n, D, Pl, hcs, hb, hl, hm, hmm, rfl, hx⟩
  · simp at hcs
    subst hcs
    exact ⟨none, 0, 0, [], rfl, rfl, Nat.le_refl _, RowIn.nil _, by simp, .inl rfl⟩
  · simp at hcs
    subst hcs
    have hlm : len ≤ m := by rw [hmm]; split <;> omega
    have each : ∀ i, i < len → ∃ x : α, (∀ j u, (enc' x)[j]? = some u → w.cell? (a.add (i * k + j)) = some u) ∧ wf x := by
      intro i hi
      obtain ⟨cs', h1, h2⟩ := hx i (by omega)
      rw [he] at h1
      obtain ⟨_, hlen, hcell⟩ := World.cells?_some h1
      obtain ⟨x, rfl, hw⟩ := read h2
      refine ⟨x, fun j u hj => ?_, hw⟩
      have hjl := (List.getElem?_eq_some_iff.1 hj).1
      have := hcell j (by omega)
      rw [add_add] at this
      rw [this]; simpa using hj
    obtain ⟨F, hF⟩ := choose_lt each
    have hcells : ∀ j x, ((List.range len).map F)[j]? = some x → ∀ i u, (enc' x)[i]? = some u → w.cell? (a.add (j * k + i)) = some u := by
      intro j x hj i u hu
      have hjl : j < len := by have := (List.getElem?_eq_some_iff.1 hj).1; simpa using this
      have : x = F j := by rw [List.getElem?_map, List.getElem?_range hjl] at hj; exact (Option.some.inj hj).symm
      subst this
      exact (hF j hjl).1 i u hu
    refine ⟨some a, len, cap, (List.range len).map F, rfl, by simp, hl, ⟨?_, ?_⟩, ?_, .inr ⟨_, _, rfl, by simp⟩⟩
    · simp; have : maxLen = 9223372036854775807 := rfl; omega
    · rcases Nat.eq_zero_or_pos len with h0 | hp
      · left; subst h0; rfl
      · right
        obtain ⟨u0, hu0⟩ : ∃ u, (enc' (F 0))[0]? = some u := ⟨_, List.getElem?_eq_getElem (by rw [hk]; exact hk0)⟩
        have h00 := (hF 0 hp).1 0 u0 hu0
        obtain ⟨b, off, spot⟩ := a
        have hspot : spot = none := by simpa [Addr.add] using World.cell?_spot h00
        subst hspot
        refine ⟨b, off, rfl, ?_, fun j x hj i u hu => ?_⟩
        · have := World.block_lt_of_cell? w _ h00
          simpa [Addr.add] using this
        · have := hcells j x hj i u hu
          rw [Addr.add_lit] at this
          rw [Nat.add_assoc]; exact this
    · intro x hx
      obtain ⟨i, hi, rfl⟩ := List.mem_map.1 hx
      exact (hF i (by simpa using hi)).2
set_option maxRecDepth 100000 in
/-- A foot is read. -/
theorem foot_open {v : Value} {d : DataW H} {p : List MemPlace} {r : Reach} {b0 : Nat} (hv : Value.okWide Tryz.prog w r b0 25 v) (h : DataW.Trod enc Tryz.prog w base spare held 25 v d p) :
    ∃ (A1 A2 A3 : Option Addr) (c1 c2 c3 : Nat) (f : Foot), v = FootV A1 A2 A3 c1 c2 c3 f ∧ FootIn w A1 A2 A3 f ∧ Wfs f ∧ f.1.length ≤ c1 ∧ f.2.1.length ≤ c2 ∧ f.2.2.length ≤ c3 ∧
      ((d.weights Tryz.prog 25).all (· ≤ reachBytes) = true → Fit f) := by
  obtain ⟨v1, v2, v3, y1, y2, y3, n, rfl, rfl, rfl, h1, h2, h3⟩ := open_agg3 Tryz.underlying25 (by kernel_rfl) (by kernel_rfl) hv h
  obtain ⟨A1, n1, c1, P, rfl, e1, l1, r1, w1, z1⟩ := row_open (wf := wfPt) ePt_len (by decide) ePt_one Tryz.underlying22 (by kernel_rfl) read_Pt h1
  obtain ⟨A2, n2, c2, S, rfl, e2, l2, r2, w2, z2⟩ := row_open (wf := wfSp) eSp_len (by decide) eSp_one Tryz.underlying23 (by kernel_rfl) read_Sp h2
  obtain ⟨A3, n3, c3, Q, rfl, e3, l3, r3, w3, z3⟩ := row_open (wf := wfPt) ePt_len (by decide) ePt_one Tryz.underlying22 (by kernel_rfl) read_Pt h3
  subst e1 e2 e3
  refine ⟨A1, A2, A3, c1, c2, c3, (P, S, Q), rfl, ⟨r1, r2, r3⟩, ⟨w1, w2, w3⟩, l1, l2, l3, fun hw => ?_⟩
  have hmem : ∀ m ∈ (y1.1.weights Tryz.prog 22 ++ (y2.1.weights Tryz.prog 23 ++ (y3.1.weights Tryz.prog 22 ++ []))), m ≤ reachBytes := by
    intro m hm
    have := List.all_eq_true.1 hw m (by
      unfold DataW.weights
      rw [Tryz.underlying25]
      exact hm)
    simpa using this
  have one : ∀ {t e : TypeId} {B : Nat} {y : DataW H} {l : Nat}, Tryz.prog.underlying t = some (.slice e) → Tryz.prog.bytesOf e = B → (∀ m ∈ y.weights Tryz.prog t, m ≤ reachBytes) → (l = 0 ∨ ∃ el sp, y = .slice el sp ∧ el.length = l) → l * B ≤ 140737488355328 := by
    intro t e B y l ht hB hm hz
    rcases hz with h0 | ⟨el, sp, rfl, rfl⟩
    · subst h0; simp
    · have := hm ((el.length + sp.length) * Tryz.prog.bytesOf e) (by simp [DataW.weights, ht])
      rw [hB] at this
      have h2 : reachBytes = 140737488351232 := rfl
      have h3 := Nat.mul_le_mul_right B (Nat.le_add_right el.length sp.length)
      omega
  exact ⟨one Tryz.underlying22 (by kernel_rfl) (fun m hm => hmem m (by simp [hm])) z1, one Tryz.underlying23 (by kernel_rfl) (fun m hm => hmem m (by simp [hm])) z2, one Tryz.underlying22 (by kernel_rfl) (fun m hm => hmem m (by simp [hm])) z3⟩
end
end Go.Proofs.YtpbmcaidkjlokaaGreat
