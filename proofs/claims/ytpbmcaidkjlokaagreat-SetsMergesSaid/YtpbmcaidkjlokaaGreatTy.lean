/- The structs that the walks speak of, and their cells. -/
import Derived.Test.YtpbmcaidkjlokaaGreatB
import Derived.Test.YtpbmcaidkjlokaaGreatUF
namespace Go.Proofs.YtpbmcaidkjlokaaGreat
open Go.RowKit
abbrev Rn := VP.Rg ByteArray
instance : Inhabited Rn := ⟨⟨ByteArray.empty, ByteArray.empty, false⟩⟩
def eRn (x : Rn) : List Value := [.string x.lo, .string x.hi, .bool x.op]
theorem eRn_len (x : Rn) : (eRn x).length = 3 := rfl
theorem eRn_one (x : Rn) : ∀ v ∈ eRn x, v.oneCell' = true := by intro v hv; simp [eRn] at hv; rcases hv with rfl | rfl | rfl <;> rfl
theorem eRn_inj {x y : Rn} (h : eRn x = eRn y) : x = y := by
  cases x; cases y; simp [eRn] at h; simp [h]
structure Pt where
  t : Int
  i : Int
  key : ByteArray
instance : Inhabited Pt := ⟨⟨0, 0, ByteArray.empty⟩⟩
def ePt (x : Pt) : List Value := [.int .i64 x.t, .int .i64 x.i, .string x.key]
theorem ePt_len (x : Pt) : (ePt x).length = 3 := rfl
theorem ePt_one (x : Pt) : ∀ v ∈ ePt x, v.oneCell' = true := by intro v hv; simp [ePt] at hv; rcases hv with rfl | rfl | rfl <;> rfl
theorem ePt_inj {x y : Pt} (h : ePt x = ePt y) : x = y := by
  cases x; cases y; simp [ePt] at h; simp [h]
structure Sp where
  t : Int
  i : Int
  r : Rn
instance : Inhabited Sp := ⟨⟨0, 0, default⟩⟩
def eSp (x : Sp) : List Value := [.int .i64 x.t, .int .i64 x.i, .string x.r.lo, .string x.r.hi, .bool x.r.op]
theorem eSp_len (x : Sp) : (eSp x).length = 5 := rfl
theorem eSp_one (x : Sp) : ∀ v ∈ eSp x, v.oneCell' = true := by intro v hv; simp [eSp] at hv; rcases hv with rfl | rfl | rfl | rfl | rfl <;> rfl
theorem eSp_inj {x y : Sp} (h : eSp x = eSp y) : x = y := by
  obtain ⟨a, b, ⟨c, d, f⟩⟩ := x; obtain ⟨a', b', ⟨c', d', f'⟩⟩ := y; simp [eSp] at h; obtain ⟨rfl, rfl, rfl, rfl, rfl⟩ := h; rfl
structure Pl where
  a : Int
  b : Int
instance : Inhabited Pl := ⟨⟨0, 0⟩⟩
def ePl (x : Pl) : List Value := [.int .i64 x.a, .int .i64 x.b]
theorem ePl_len (x : Pl) : (ePl x).length = 2 := rfl
theorem ePl_one (x : Pl) : ∀ v ∈ ePl x, v.oneCell' = true := by intro v hv; simp [ePl] at hv; rcases hv with rfl | rfl <;> rfl
theorem ePl_inj {x y : Pl} (h : ePl x = ePl y) : x = y := by
  cases x; cases y; simp [ePl] at h; simp [h]
structure Ed where
  fr : Int
  to : Int
  kind : Int
  item : ByteArray
instance : Inhabited Ed := ⟨⟨0, 0, 0, ByteArray.empty⟩⟩
def eEd (x : Ed) : List Value := [.int .i64 x.fr, .int .i64 x.to, .int .i64 x.kind, .string x.item]
theorem eEd_len (x : Ed) : (eEd x).length = 4 := rfl
theorem eEd_one (x : Ed) : ∀ v ∈ eEd x, v.oneCell' = true := by intro v hv; simp [eEd] at hv; rcases hv with rfl | rfl | rfl | rfl <;> rfl
theorem eEd_inj {x y : Ed} (h : eEd x = eEd y) : x = y := by
  cases x; cases y; simp [eEd] at h; simp [h]
structure Sw where
  item : ByteArray
  fr : Int
  nth : Int
instance : Inhabited Sw := ⟨⟨ByteArray.empty, 0, 0⟩⟩
def eSw (x : Sw) : List Value := [.string x.item, .int .i64 x.fr, .int .i64 x.nth]
theorem eSw_len (x : Sw) : (eSw x).length = 3 := rfl
theorem eSw_one (x : Sw) : ∀ v ∈ eSw x, v.oneCell' = true := by intro v hv; simp [eSw] at hv; rcases hv with rfl | rfl | rfl <;> rfl
theorem eSw_inj {x y : Sw} (h : eSw x = eSw y) : x = y := by
  cases x; cases y; simp [eSw] at h; simp [h]
end Go.Proofs.YtpbmcaidkjlokaaGreat
