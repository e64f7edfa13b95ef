/- Points, ranges and spans compared whole. -/
import Derived.Test.YtpbmcaidkjlokaaGreatFt
import Derived.Laws.StructEq
namespace Go.Proofs.YtpbmcaidkjlokaaGreat
open Go.RowKit
instance : DecidableEq Pt := fun a b => decidable_of_iff (a.t = b.t ∧ a.i = b.i ∧ a.key = b.key) ⟨fun h => by cases a; cases b; simp at h; simp [h], fun h => by subst h; exact ⟨rfl, rfl, rfl⟩⟩
instance : DecidableEq Rn := fun a b => decidable_of_iff (a.lo = b.lo ∧ a.hi = b.hi ∧ a.op = b.op) ⟨fun h => by cases a; cases b; simp at h; simp [h], fun h => by subst h; exact ⟨rfl, rfl, rfl⟩⟩
instance : DecidableEq Sp := fun a b => decidable_of_iff (a.t = b.t ∧ a.i = b.i ∧ a.r = b.r) ⟨fun h => by cases a; cases b; simp at h; simp [h], fun h => by subst h; exact ⟨rfl, rfl, rfl⟩⟩
theorem bytesEq (a b : ByteArray) : (a.toList == b.toList) = decide (a = b) := by
  by_cases h : a = b
  · subst h; simp
  · rw [beq_eq_false_iff_ne.2 (fun e => h (VP.toList_inj _ _ e))]; simp [h]
theorem eqRn_run' (x y : Rn) (w : World) : (Op.equalIn 9999 44 (.agg #[.string x.lo, .string x.hi, .bool x.op]) (.agg #[.string y.lo, .string y.hi, .bool y.op])).run Tryz.prog w = .ok (decide (x = y)) w := by
  rw [run_equalIn_struct w 9998 44 _ _ (by kernel_rfl) (by kernel_rfl)]
  unfold Program.fieldsOf
  rw [Tryz.underlying44]
  obtain ⟨a, b, c⟩ := x
  obtain ⟨a', b', c'⟩ := y
  by_cases h0 : a = a'
  · by_cases h1 : b = b'
    · by_cases h2 : c = c'
      · subst h0 h1 h2
        simp [Op.eqFields, part, run_equalIn_bool' _ _ _ _ _ Tryz.underlying4, run_equalIn_string _ _ _ _ _ Tryz.underlying9]
      · have g2 : (c == c') = false := beq_eq_false_iff_ne.2 h2
        subst h0 h1
        simp [Op.eqFields, part, run_equalIn_bool' _ _ _ _ _ Tryz.underlying4, run_equalIn_string _ _ _ _ _ Tryz.underlying9, g2, h2]
    · have g1 : (b.toList == b'.toList) = false := beq_eq_false_iff_ne.2 (fun e => h1 (VP.toList_inj _ _ e))
      subst h0
      simp [Op.eqFields, part, run_equalIn_bool' _ _ _ _ _ Tryz.underlying4, run_equalIn_string _ _ _ _ _ Tryz.underlying9, g1, h1]
  · have g0 : (a.toList == a'.toList) = false := beq_eq_false_iff_ne.2 (fun e => h0 (VP.toList_inj _ _ e))
    simp [Op.eqFields, part, run_equalIn_bool' _ _ _ _ _ Tryz.underlying4, run_equalIn_string _ _ _ _ _ Tryz.underlying9, g0, h0]
theorem eqPt_run' (x y : Pt) (w : World) : (Op.equalIn 10000 37 (.agg #[.int .i64 x.t, .int .i64 x.i, .string x.key]) (.agg #[.int .i64 y.t, .int .i64 y.i, .string y.key])).run Tryz.prog w = .ok (decide (x = y)) w := by
  rw [run_equalIn_struct w 9999 37 _ _ (by kernel_rfl) (by kernel_rfl)]
  unfold Program.fieldsOf
  rw [Tryz.underlying37]
  obtain ⟨a, b, c⟩ := x
  obtain ⟨a', b', c'⟩ := y
  by_cases h0 : a = a'
  · by_cases h1 : b = b'
    · by_cases h2 : c = c'
      · subst h0 h1 h2
        simp [Op.eqFields, part, run_equalIn_int _ _ _ _ _ _ _ Tryz.underlying3, run_equalIn_string _ _ _ _ _ Tryz.underlying9]
      · have g2 : (c.toList == c'.toList) = false := beq_eq_false_iff_ne.2 (fun e => h2 (VP.toList_inj _ _ e))
        subst h0 h1
        simp [Op.eqFields, part, run_equalIn_int _ _ _ _ _ _ _ Tryz.underlying3, run_equalIn_string _ _ _ _ _ Tryz.underlying9, g2, h2]
    · have g1 : (b == b') = false := beq_eq_false_iff_ne.2 h1
      subst h0
      simp [Op.eqFields, part, run_equalIn_int _ _ _ _ _ _ _ Tryz.underlying3, run_equalIn_string _ _ _ _ _ Tryz.underlying9, g1, h1]
  · have g0 : (a == a') = false := beq_eq_false_iff_ne.2 h0
    simp [Op.eqFields, part, run_equalIn_int _ _ _ _ _ _ _ Tryz.underlying3, run_equalIn_string _ _ _ _ _ Tryz.underlying9, g0, h0]
theorem eqSp_run' (x y : Sp) (w : World) : (Op.equalIn 10000 46 (.agg #[.int .i64 x.t, .int .i64 x.i, .string x.r.lo, .string x.r.hi, .bool x.r.op]) (.agg #[.int .i64 y.t, .int .i64 y.i, .string y.r.lo, .string y.r.hi, .bool y.r.op])).run Tryz.prog w = .ok (decide (x = y)) w := by
  rw [run_equalIn_struct w 9999 46 _ _ (by kernel_rfl) (by kernel_rfl)]
  unfold Program.fieldsOf
  rw [Tryz.underlying46]
  have hr := eqRn_run' x.r y.r w
  obtain ⟨a, b, c⟩ := x
  obtain ⟨a', b', c'⟩ := y
  obtain ⟨c0, c1, c2⟩ := c
  obtain ⟨d0, d1, d2⟩ := c'
  simp only at hr
  by_cases h0 : a = a'
  · by_cases h1 : b = b'
    · subst h0 h1
      rw [show (decide ((⟨a, b, ⟨c0, c1, c2⟩⟩ : Sp) = ⟨a, b, ⟨d0, d1, d2⟩⟩)) = decide ((⟨c0, c1, c2⟩ : Rn) = ⟨d0, d1, d2⟩) from by simp]
      generalize decide ((⟨c0, c1, c2⟩ : Rn) = ⟨d0, d1, d2⟩) = q at hr ⊢
      simp [Op.eqFields, part, run_equalIn_int _ _ _ _ _ _ _ Tryz.underlying3, hr]
      cases q <;> rfl
    · have g1 : (b == b') = false := beq_eq_false_iff_ne.2 h1
      subst h0
      simp [Op.eqFields, part, run_equalIn_int _ _ _ _ _ _ _ Tryz.underlying3, g1, h1]
  · have g0 : (a == a') = false := beq_eq_false_iff_ne.2 h0
    simp [Op.eqFields, part, run_equalIn_int _ _ _ _ _ _ _ Tryz.underlying3, g0, h0]
theorem eqlPt (x y : Pt) (w : World) : (binOp .eql 37 (.agg #[.int .i64 x.t, .int .i64 x.i, .string x.key]) (.agg #[.int .i64 y.t, .int .i64 y.i, .string y.key])).run Tryz.prog w = .ok (.bool (decide (x = y))) w := by
  rw [run_eql_struct, eqPt_run' x y w]; rfl
theorem neqPt (x y : Pt) (w : World) : (binOp .neq 37 (.agg #[.int .i64 x.t, .int .i64 x.i, .string x.key]) (.agg #[.int .i64 y.t, .int .i64 y.i, .string y.key])).run Tryz.prog w = .ok (.bool (!decide (x = y))) w := by
  rw [run_neq_struct, eqPt_run' x y w]; rfl
theorem eqlSp (x y : Sp) (w : World) : (binOp .eql 46 (.agg #[.int .i64 x.t, .int .i64 x.i, .string x.r.lo, .string x.r.hi, .bool x.r.op]) (.agg #[.int .i64 y.t, .int .i64 y.i, .string y.r.lo, .string y.r.hi, .bool y.r.op])).run Tryz.prog w = .ok (.bool (decide (x = y))) w := by
  rw [run_eql_struct, eqSp_run' x y w]; rfl
theorem neqSp (x y : Sp) (w : World) : (binOp .neq 46 (.agg #[.int .i64 x.t, .int .i64 x.i, .string x.r.lo, .string x.r.hi, .bool x.r.op]) (.agg #[.int .i64 y.t, .int .i64 y.i, .string y.r.lo, .string y.r.hi, .bool y.r.op])).run Tryz.prog w = .ok (.bool (!decide (x = y))) w := by
  rw [run_neq_struct, eqSp_run' x y w]; rfl
theorem guardPt : Tryz.prog.eqGuardType Tryz.prog.depth 37 = false := by kernel_rfl
theorem guardSp : Tryz.prog.eqGuardType Tryz.prog.depth 46 = false := by kernel_rfl
end Go.Proofs.YtpbmcaidkjlokaaGreat
