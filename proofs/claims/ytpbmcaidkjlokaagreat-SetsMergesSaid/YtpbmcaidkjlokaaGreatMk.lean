/- Structs as keys of maps: how they read, that they are told apart. -/
import Derived.Test.YtpbmcaidkjlokaaGreatCp
import Derived.DeepKeys4
import Derived.Maps.Keyed
import Derived.Maps.OwnSet
import Derived.Maps.Range
import Derived.Sort.KeysCollected
namespace Go.Proofs.YtpbmcaidkjlokaaGreat
open Go.RowKit Go.Maps
theorem laidOut : laidOutB Tryz.prog = true := by kernel_rfl
theorem keyLits_i {P : Program} {t : TypeId} (ht : P.underlying t = some (.int .i64)) (d : Nat) (x : Int) (hw : (Lit.int .i64 x).wf = true) : P.keyLits (d + 1) t [.int .i64 x] = some [.int .i64 x] := by
  unfold Program.keyLits; rw [ht]; simp [hw]
theorem keyLits_s {P : Program} {t : TypeId} (ht : P.underlying t = some .string) (d : Nat) (x : ByteArray) (hw : x.size ≤ maxLen) : P.keyLits (d + 1) t [.string x] = some [.string x.data.toList] := by
  unfold Program.keyLits; rw [ht]; simp [hw]
theorem keyLits_i' {P : Program} {t : TypeId} (ht : P.underlying t = some (.int .i64)) {d : Nat} {v : Value} {l : List Lit} (h : P.keyLits d t [v] = some l) : ∃ x : Int, v = .int .i64 x ∧ (Lit.int .i64 x).wf = true ∧ l = [.int .i64 x] := by
  cases d with
  | zero => simp [Program.keyLits] at h
  | succ d =>
    unfold Program.keyLits at h; rw [ht] at h
    cases v <;> simp at h
    obtain ⟨⟨rfl, hw⟩, rfl⟩ := h
    exact ⟨_, rfl, hw, rfl⟩
theorem keyLits_s' {P : Program} {t : TypeId} (ht : P.underlying t = some .string) {d : Nat} {v : Value} {l : List Lit} (h : P.keyLits d t [v] = some l) : ∃ x : ByteArray, v = .string x ∧ x.size ≤ maxLen ∧ l = [.string x.data.toList] := by
  cases d with
  | zero => simp [Program.keyLits] at h
  | succ d =>
    unfold Program.keyLits at h; rw [ht] at h
    cases v <;> simp at h
    obtain ⟨hw, rfl⟩ := h
    exact ⟨_, rfl, hw, rfl⟩
/-- vellum/api.Point. -/
theorem cOfI : Tryz.prog.cellsOf 3 = 1 := by kernel_rfl
theorem cOfS : Tryz.prog.cellsOf 9 = 1 := by kernel_rfl
def vPt (x : Pt) : Value := .agg #[.int .i64 x.t, .int .i64 x.i, .string x.key]
def wfPt (x : Pt) : Prop := (Lit.int .i64 x.t).wf = true ∧ (Lit.int .i64 x.i).wf = true ∧ x.key.size ≤ maxLen
theorem rowPt : (37 : TypeId) < Tryz.prog.types.size := of_decide_eq_true (by kernel_rfl)
theorem cellsOfPt : Tryz.prog.cellsOf 37 = 3 := by kernel_rfl
theorem widePt : (match Tryz.prog.underlying 37 with | some (.array _ _) | some (.struct _) => true | _ => false) = true := by rw [Tryz.underlying37]
set_option maxRecDepth 100000 in
theorem keyedPt : Keyed Tryz.prog 37 := Keyed.of_law (deep_law_laid laidOut (m := 2) (by omega) rowPt (by kernel_rfl) widePt)
theorem keyTypePt : Tryz.prog.keyType 37 = true := by kernel_rfl
set_option maxRecDepth 100000 in
theorem key_Pt (x : Pt) (h : wfPt x) : ∃ l, keyOf Tryz.prog 37 (vPt x) = some l := by
  obtain ⟨h0, h1, h2⟩ := h
  obtain ⟨d, hd⟩ : ∃ d, Tryz.prog.types.size = d + 1 := ⟨Tryz.prog.types.size - 1, by have h : (0 : Nat) < Tryz.prog.types.size := Nat.lt_of_le_of_lt (Nat.zero_le _) rowPt; omega⟩
  unfold keyOf
  rw [Tryz.underlying37]
  simp only [keyTypePt, vPt, Value.formed, Tryz.underlying37, cellsOfPt]
  rw [hd]
  unfold Program.keyLits
  rw [Tryz.underlying37]
  simp [cellsOfPt, Value.cells, cOfI, cOfS, keyLits_i Tryz.underlying3 d _ h0, keyLits_i Tryz.underlying3 d _ h1, keyLits_s Tryz.underlying9 d _ h2]
set_option maxRecDepth 100000 in
theorem inv_Pt {key : Value} {l : Lit} (h : keyOf Tryz.prog 37 key = some l) : ∃ x : Pt, key = vPt x ∧ wfPt x := by
  obtain ⟨xs, L, rfl, hl, -⟩ := keyOf_top widePt h
  unfold Program.keyLits at hl
  rw [Tryz.underlying37] at hl
  simp only [cellsOfPt] at hl
  obtain ⟨xs⟩ := xs
  split at hl
  · rename_i hc
    match xs, hc with
    | [v0, v1, v2], _ =>
      simp only [List.mapM_cons, List.mapM_nil, bind, Option.bind_eq_some_iff, pure, Option.map_eq_some_iff, cOfI, cOfS, List.drop_succ_cons, List.drop_zero, List.take_succ_cons, List.take_zero] at hl
      obtain ⟨_, ⟨l0, h0, _, ⟨l1, h1, _, ⟨l2, h2, _, -⟩, -⟩, -⟩, -⟩ := hl
      obtain ⟨x0, rfl, w0, -⟩ := keyLits_i' Tryz.underlying3 h0
      obtain ⟨x1, rfl, w1, -⟩ := keyLits_i' Tryz.underlying3 h1
      obtain ⟨x2, rfl, w2, -⟩ := keyLits_s' Tryz.underlying9 h2
      exact ⟨⟨x0, x1, x2⟩, rfl, w0, w1, w2⟩
  · cases hl
/-- vellum/sets.place. -/
def vPl (x : Pl) : Value := .agg #[.int .i64 x.a, .int .i64 x.b]
def wfPl (x : Pl) : Prop := (Lit.int .i64 x.a).wf = true ∧ (Lit.int .i64 x.b).wf = true
theorem rowPl : (69 : TypeId) < Tryz.prog.types.size := of_decide_eq_true (by kernel_rfl)
theorem cellsOfPl : Tryz.prog.cellsOf 69 = 2 := by kernel_rfl
theorem widePl : (match Tryz.prog.underlying 69 with | some (.array _ _) | some (.struct _) => true | _ => false) = true := by rw [Tryz.underlying69]
set_option maxRecDepth 100000 in
theorem keyedPl : Keyed Tryz.prog 69 := Keyed.of_law (deep_law_laid laidOut (m := 2) (by omega) rowPl (by kernel_rfl) widePl)
theorem keyTypePl : Tryz.prog.keyType 69 = true := by kernel_rfl
set_option maxRecDepth 100000 in
theorem key_Pl (x : Pl) (h : wfPl x) : ∃ l, keyOf Tryz.prog 69 (vPl x) = some l := by
  obtain ⟨h0, h1⟩ := h
  obtain ⟨d, hd⟩ : ∃ d, Tryz.prog.types.size = d + 1 := ⟨Tryz.prog.types.size - 1, by have h : (0 : Nat) < Tryz.prog.types.size := Nat.lt_of_le_of_lt (Nat.zero_le _) rowPl; omega⟩
  unfold keyOf
  rw [Tryz.underlying69]
  simp only [keyTypePl, vPl, Value.formed, Tryz.underlying69, cellsOfPl]
  rw [hd]
  unfold Program.keyLits
  rw [Tryz.underlying69]
  simp [cellsOfPl, Value.cells, cOfI, cOfS, keyLits_i Tryz.underlying3 d _ h0, keyLits_i Tryz.underlying3 d _ h1]
set_option maxRecDepth 100000 in
theorem inv_Pl {key : Value} {l : Lit} (h : keyOf Tryz.prog 69 key = some l) : ∃ x : Pl, key = vPl x ∧ wfPl x := by
  obtain ⟨xs, L, rfl, hl, -⟩ := keyOf_top widePl h
  unfold Program.keyLits at hl
  rw [Tryz.underlying69] at hl
  simp only [cellsOfPl] at hl
  obtain ⟨xs⟩ := xs
  split at hl
  · rename_i hc
    match xs, hc with
    | [v0, v1], _ =>
      simp only [List.mapM_cons, List.mapM_nil, bind, Option.bind_eq_some_iff, pure, Option.map_eq_some_iff, cOfI, cOfS, List.drop_succ_cons, List.drop_zero, List.take_succ_cons, List.take_zero] at hl
      obtain ⟨_, ⟨l0, h0, _, ⟨l1, h1, _, -⟩, -⟩, -⟩ := hl
      obtain ⟨x0, rfl, w0, -⟩ := keyLits_i' Tryz.underlying3 h0
      obtain ⟨x1, rfl, w1, -⟩ := keyLits_i' Tryz.underlying3 h1
      exact ⟨⟨x0, x1⟩, rfl, w0, w1⟩
  · cases hl
end Go.Proofs.YtpbmcaidkjlokaaGreat
