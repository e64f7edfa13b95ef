/- Three stores into one block. -/
import Derived.Test.YtpbmcaidkjlokaaGreatNo
import Derived.Test.YtpbmcaidkjlokaaGreatBd
namespace Go.Proofs.YtpbmcaidkjlokaaGreat
open Go.RowKit
theorem set3 (w : World) (b : Nat) (x y z u1 u2 u3 : Value) (t : TypeId) (h : w.heap[b]? = some (.cells #[u1, u2, u3] t (0, 0))) :
    (((w.setCell ⟨b, 0, none⟩ x).setCell ⟨b, 1, none⟩ y).setCell ⟨b, 2, none⟩ z).heap[b]? = some (.cells #[x, y, z] t (0, 0)) ∧ w.grownBy (((w.setCell ⟨b, 0, none⟩ x).setCell ⟨b, 1, none⟩ y).setCell ⟨b, 2, none⟩ z) (some b) := by
  have k1 := heap_setCell_at (i := 0) x h
  have k2 := heap_setCell_at (i := 1) y k1
  have k3 := heap_setCell_at (i := 2) z k2
  have h1 := grownBy_setCell_at w b 0 x
  have h2 := grownBy_setCell_at (w.setCell ⟨b, 0, none⟩ x) b 1 y
  have h3 := grownBy_setCell_at ((w.setCell ⟨b, 0, none⟩ x).setCell ⟨b, 1, none⟩ y) b 2 z
  exact ⟨k3, h3.os.trans (h2.os.trans h1.os), h3.tape.trans (h2.tape.trans h1.tape), h3.output.trans (h2.output.trans h1.output), Nat.le_trans h1.size (Nat.le_trans h2.size h3.size), fun j hj hne => (h3.block j (Nat.lt_of_lt_of_le hj (Nat.le_trans h1.size h2.size)) hne).trans ((h2.block j (Nat.lt_of_lt_of_le hj h1.size) hne).trans (h1.block j hj hne))⟩
theorem own_drew {w : World} {base : Nat} {e : TypeId} {k n : Nat} {v : Value} {cs : List Value} (h : w.ownsRow base e k v n cs) : w.drew.ownsRow base e k v n cs := h
theorem far_cell {w w4 : World} {o : Obj} {base : Nat} {e : TypeId} {k n : Nat} {v : Value} {cs : List Value} (h : w.ownsRow base e k v n cs) (hb : base ≤ w.heap.size) (hg : (w.alloc o).drew.grownBy w4 v.ownBlock) (a : Addr) (ha : a.block < base) : w4.cell? a = w.cell? a ∧ w4.frozen? a = w.frozen? a := by
  have h1 : w4.heap[a.block]? = w.heap[a.block]? := (hg.block _ (by show a.block < (w.alloc o).heap.size; simp; omega) (fun e => by have := (World.ownsRow.lt h _ e.symm).1; omega)).trans (Below.heap_alloc _ _ _ (by omega))
  exact ⟨World.cell?_of_block h1, World.frozen?_of_block h1⟩
theorem own_ne_lit {α : Type} {enc : α → List Value} {k : Nat} {e : TypeId} {base : Nat} {w : World} {v : Value} {xs : List α} (h : Own enc k e base w v xs) {r : Nat} (hr : r < base) : v.ownBlock = none ∨ v.ownBlock ≠ some r := by
  cases hv : v.ownBlock with
  | none => exact .inl rfl
  | some q => right; intro e; cases e; have := (World.ownsRow.lt h r hv).1; omega
theorem own_blk_ne {α β : Type} {enc : α → List Value} {enc' : β → List Value} {k k' : Nat} {e e' : TypeId} (hne : e ≠ e') {base base' : Nat} {w : World} {v v' : Value} {xs : List α} {ys : List β} (h : Own enc k e base w v xs) (h' : Own enc' k' e' base' w v' ys) : v.ownBlock = none ∨ v.ownBlock ≠ v'.ownBlock := by
  cases hv : v.ownBlock with
  | none => exact .inl rfl
  | some q =>
    right; intro e2
    obtain ⟨_, c1, h1⟩ := own_blk h q hv
    obtain ⟨_, c2, h2⟩ := own_blk h' q e2.symm
    rw [h1] at h2
    simp at h2
    exact hne h2.2
end Go.Proofs.YtpbmcaidkjlokaaGreat
