/- Ranges: the walks of Empty and of the order by Lo; strings.Compare. -/
import Derived.Test.YtpbmcaidkjlokaaGreatTy
import Derived.Lib.Bytealg
namespace Go.Proofs.YtpbmcaidkjlokaaGreat
open Go.RowKit

set_option maxHeartbeats 1000000 in
set_option maxRecDepth 100000 in
theorem cmpstr (a b : ByteArray) (w : World) :
    Calls Tryz.prog 86 #[.string a, .string b] w fun e w' => e = .returned (.int .i64 (Lib.compareBytes a.data.toList b.data.toList)) ∧ w = w' := by
  go_enter Tryz.func86, Tryz.ntmps86
  go_wp2
  rw [run_callFunc_extern Tryz.func109 (by kernel_rfl) (by kernel_rfl) (by kernel_rfl) (e := Extern.BytealgCompare.compare) (by kernel_rfl), Lib.run_compareString]
  simp only [Result.andThen]
  rw [Oper.upon_value]
  go_wp2
  go_ret
  exact ⟨rfl, rfl⟩

theorem strcmp (a b : ByteArray) (w : World) :
    Calls Tryz.prog 74 #[.string a, .string b] w fun e w' => e = .returned (.int .i64 (Lib.compareBytes a.data.toList b.data.toList)) ∧ w = w' := by
  go_enter Tryz.func74, Tryz.ntmps74
  go_wp2_with (go_at_call 86; refine (cmpstr _ _ _).mono ?_; rintro e w' ⟨rfl, rfl⟩)
  go_ret
  exact ⟨rfl, rfl⟩

/-- The order by Lo. -/
theorem byLo (x y : Rn) (w : World) :
    Calls Tryz.prog 73 #[.agg #[.string x.lo, .string x.hi, .bool x.op], .agg #[.string y.lo, .string y.hi, .bool y.op]] w fun e w' => e = .returned (.int .i64 (Lib.compareBytes x.lo.data.toList y.lo.data.toList)) ∧ ∃ o1 o2, w' = (w.alloc o1).alloc o2 := by
  go_enter Tryz.func73, Tryz.ntmps73
  go_wp2_with (go_at_call 74; refine (strcmp _ _ _).mono ?_; rintro e w' ⟨rfl, rfl⟩)
  go_ret
  exact ⟨rfl, _, _, rfl⟩

def empB (r : Rn) : Bool := !r.op && !Op.bytesLess r.lo.toList r.hi.toList

/-- Empty. -/
theorem empty_calls (r : Rn) (w : World) :
    Calls Tryz.prog 71 #[.agg #[.string r.lo, .string r.hi, .bool r.op]] w fun e w' => e = .returned (.bool (empB r)) ∧ ∃ o, w' = w.alloc o := by
  obtain ⟨lo, hi, op⟩ := r
  cases op
  · go_enter Tryz.func71, Tryz.ntmps71
    go_wp2
    go_ret
    exact ⟨by simp [empB], _, rfl⟩
  · go_enter Tryz.func71, Tryz.ntmps71
    go_wp2
    go_ret
    exact ⟨by simp [empB], _, rfl⟩
end Go.Proofs.YtpbmcaidkjlokaaGreat
