/- Small functions of the references on ranges and points. -/
import Derived.Test.YtpbmcaidkjlokaaGreatUn
namespace Go.Proofs.YtpbmcaidkjlokaaGreat
open Go.RowKit Go.Sort

theorem leq_str (a b : ByteArray) : (Op.bytesLess a.toList b.toList || a.toList == b.toList) = !Op.bytesLess b.toList a.toList := by
  cases h : Op.bytesLess a.toList b.toList
  · cases h2 : Op.bytesLess b.toList a.toList
    · have := VP.TO.bytes.tri (a := a) (b := b) h h2
      simp [this]
    · rw [Bool.false_or, beq_eq_false_iff_ne.2]
      · rfl
      · intro e
        rw [e] at h2
        have := VP.TO.list.irr b.toList
        rw [show VP.TO.list.lt b.toList b.toList = Op.bytesLess b.toList b.toList from rfl] at this
        rw [this] at h2; cases h2
  · have := VP.TO.bytes.asym (a := a) (b := b) h
    rw [VP.TO.bytes_lt] at this
    rw [this]; rfl
theorem bytes_eq (a b : ByteArray) : (a.toList == b.toList) = decide (a = b) := by
  by_cases h : a = b
  · subst h; simp
  · rw [beq_eq_false_iff_ne.2 (fun e => h (VP.toList_inj _ _ e))]; simp [h]

theorem rempty_calls (r : Rn) (w : World) :
    Calls Tryz.prog 79 #[.agg #[.string r.lo, .string r.hi, .bool r.op]] w fun e w' => e = .returned (.bool (empB r)) ∧ ∃ o, w' = w.alloc o := by
  obtain ⟨lo, hi, op⟩ := r
  have h := leq_str hi lo
  cases op
  · go_enter Tryz.func79, Tryz.ntmps79
    go_wp2
    go_ret
    exact ⟨by simp [empB, h], _, rfl⟩
  · go_enter Tryz.func79, Tryz.ntmps79
    go_wp2
    go_ret
    exact ⟨by simp [empB], _, rfl⟩

def joinsB (a b : Rn) : Bool := a.op || !VP.TO.bytes.lt a.hi b.lo
theorem joins_calls (a b : Rn) (w : World) :
    Calls Tryz.prog 80 #[.agg #[.string a.lo, .string a.hi, .bool a.op], .agg #[.string b.lo, .string b.hi, .bool b.op]] w fun e w' => e = .returned (.bool (joinsB a b)) ∧ ∃ o1 o2, w' = (w.alloc o1).alloc o2 := by
  obtain ⟨lo, hi, op⟩ := a
  have h := leq_str b.lo hi
  cases op
  · go_enter Tryz.func80, Tryz.ntmps80
    go_wp2
    go_ret
    exact ⟨by simp [joinsB, h, VP.TO.bytes_lt], _, _, rfl⟩
  · go_enter Tryz.func80, Tryz.ntmps80
    go_wp2
    go_ret
    exact ⟨by simp [joinsB], _, _, rfl⟩

def hasB (r : Rn) (k : ByteArray) : Bool := VP.has VP.TO.bytes r k
theorem rhas_calls (r : Rn) (k : ByteArray) (w : World) :
    Calls Tryz.prog 81 #[.agg #[.string r.lo, .string r.hi, .bool r.op], .string k] w fun e w' => e = .returned (.bool (hasB r k)) ∧ ∃ o, w' = w.alloc o := by
  obtain ⟨lo, hi, op⟩ := r
  cases h : Op.bytesLess k.toList lo.toList
  · cases op
    · go_enter Tryz.func81, Tryz.ntmps81
      go_wp2
      go_ret
      exact ⟨by simp [hasB, VP.has, VP.TO.bytes_lt, h], _, rfl⟩
    · go_enter Tryz.func81, Tryz.ntmps81
      go_wp2
      go_ret
      exact ⟨by simp [hasB, VP.has, VP.TO.bytes_lt, h], _, rfl⟩
  · go_enter Tryz.func81, Tryz.ntmps81
    go_wp2
    go_ret
    exact ⟨by simp [hasB, VP.has, VP.TO.bytes_lt, h], _, rfl⟩
theorem has_calls (r : Rn) (k : ByteArray) (w : World) :
    Calls Tryz.prog 36 #[.agg #[.string r.lo, .string r.hi, .bool r.op], .string k] w fun e w' => e = .returned (.bool (hasB r k)) ∧ ∃ o, w' = w.alloc o := by
  obtain ⟨lo, hi, op⟩ := r
  have h := leq_str lo k
  have h2 : hasB ⟨lo, hi, op⟩ k = (!Op.bytesLess k.toList lo.toList && (op || Op.bytesLess k.toList hi.toList)) := rfl
  cases h3 : Op.bytesLess k.toList lo.toList
  · cases op
    · go_enter Tryz.func36, Tryz.ntmps36
      go_wp2
      go_ret
      exact ⟨by simp_all, _, rfl⟩
    · go_enter Tryz.func36, Tryz.ntmps36
      go_wp2
      go_ret
      exact ⟨by simp_all, _, rfl⟩
  · go_enter Tryz.func36, Tryz.ntmps36
    go_wp2
    go_ret
    exact ⟨by simp_all, _, rfl⟩

theorem strings_calls (a b : ByteArray) (w : World) :
    Calls Tryz.prog 90 #[.string a, .string b] w fun e w' => e = .returned (.int .i64 (Lib.compareBytes a.data.toList b.data.toList)) ∧ w' = w := by
  rw [cmp_str]
  cases h : VP.TO.bytes.lt a b <;> cases h2 : VP.TO.bytes.lt b a
  all_goals rw [VP.TO.bytes_lt] at h h2
  all_goals have h3 := leq_str a b
  all_goals rw [h, h2] at h3
  all_goals
    go_enter Tryz.func90, Tryz.ntmps90
    go_wp2
    try go_ret
    try exact ⟨rfl, rfl⟩
end Go.Proofs.YtpbmcaidkjlokaaGreat
