/- Feet: their values and how they are read. -/
import Derived.Test.YtpbmcaidkjlokaaGreatLPt
import Derived.Test.YtpbmcaidkjlokaaGreatLSp
namespace Go.Proofs.YtpbmcaidkjlokaaGreat
open Go.RowKit
/-! ### Feet -/
abbrev Foot := List Pt × List Sp × List Pt
def plP (p : Pt) : Pl := ⟨p.t, p.i⟩
def splS (s : Sp) : Pl := ⟨s.t, s.i⟩
def rgS (s : Sp) : Rn := s.r
def mkS (q : Pl) (r : Rn) : Sp := ⟨q.a, q.b, r⟩
def FootV (A1 A2 A3 : Option Addr) (c1 c2 c3 : Nat) (f : Foot) : Value := .agg #[.slice A1 f.1.length c1, .slice A2 f.2.1.length c2, .slice A3 f.2.2.length c3]
/-- A foot that is read. -/
structure FootIn (w : World) (A1 A2 A3 : Option Addr) (f : Foot) : Prop where
  pts : RowIn ePt 3 w A1 f.1
  sps : RowIn eSp 5 w A2 f.2.1
  wrs : RowIn ePt 3 w A3 f.2.2
/-- A foot of the call's own. -/
structure FootOwn (base : Nat) (w : World) (v : Value) (f : Foot) : Prop where
  shape : ∃ p s q, v = .agg #[p, s, q] ∧ Own ePt 3 37 base w p f.1 ∧ Own eSp 5 46 base w s f.2.1 ∧ Own ePt 3 37 base w q f.2.2
end Go.Proofs.YtpbmcaidkjlokaaGreat
