/- Is the layer awake? It is. -/
import Derived.Test.YtpbmcaidkjlokaaGreatCl
namespace Go.Proofs.YtpbmcaidkjlokaaGreat
open Go.RowKit Go.Maps Go.Sort

def pa : Pt := ⟨0, -1, ⟨#[97]⟩⟩
theorem pa_wf : wfPt pa := ⟨by decide, by decide, by decide⟩
theorem pa_reads : readsF ([pa], [], []) pa = true := by simp [readsF, VP.readsB]
theorem pa_least : leastF (readsF ([pa], [], [])) [pa] = (pa, true) := by simp [leastF, leastStep, pa_reads]
theorem row_new {α : Type} {enc : α → List Value} {k : Nat} {w : World} {cs : Array Value} {t : TypeId} {b : Nat} {x : α} (_hk : (enc x).length = k) (h : w.heap[b]? = some (.cells cs t (0, 0))) (hc : cs.toList = enc x) : RowIn enc k w (some ⟨b, 0, none⟩) [x] := by
  refine ⟨by simp, .inr ⟨b, 0, rfl, (Array.getElem?_eq_some_iff.1 h).1, fun j y hj i v hv => ?_⟩⟩
  have hj0 : j = 0 := by have := (List.getElem?_eq_some_iff.1 hj).1; simp at this; omega
  subst hj0
  simp at hj; subst hj
  have : cs[i]? = some v := by rw [← hc] at hv; simpa using hv
  have e : 0 + 0 * k + i = i := by omega
  rw [e]
  exact cell_at h this
set_option maxHeartbeats 2000000 in
set_option maxRecDepth 100000 in
theorem awake_calls (w : World) : Calls Tryz.prog 13 #[] w fun e w' => e = .returned (.bool true) ∧ Below w.heap.size w w' := by
  obtain ⟨n, hn⟩ : ∃ n, w.heap.size = n := ⟨_, rfl⟩
  have h1 := World.alloc_heap_new w (.cells #[.int .i64 0, .int .i64 (-1), .string ⟨#[97]⟩] 37)
  obtain ⟨W1, hW1⟩ : ∃ W1, w.alloc (.cells #[.int .i64 0, .int .i64 (-1), .string ⟨#[97]⟩] 37) = W1 := ⟨_, rfl⟩
  have hs1 : W1.heap.size = w.heap.size + 1 := by rw [← hW1]; simp
  have hb1 : Below w.heap.size w W1 := by rw [← hW1]; exact (Below.refl _ w).alloc (Nat.le_refl _) _
  rw [hW1] at h1
  have h2 := World.alloc_heap_new W1 (.cells #[.slice (some ⟨w.heap.size, 0, none⟩) 1 1, .slice none 0 0, .slice none 0 0] 25)
  obtain ⟨W2, hW2⟩ : ∃ W2, W1.alloc (.cells #[.slice (some ⟨w.heap.size, 0, none⟩) 1 1, .slice none 0 0, .slice none 0 0] 25) = W2 := ⟨_, rfl⟩
  have hs2 : W2.heap.size = w.heap.size + 2 := by rw [← hW2]; simp [hs1]
  have hb2 : Below W1.heap.size W1 W2 := by rw [← hW2]; exact (Below.refl _ _).alloc (Nat.le_refl _) _
  rw [hW2, hs1] at h2
  have h3 := World.alloc_heap_new W2 (.cells #[.int .i64 0, .int .i64 (-1), .string ⟨#[97]⟩] 37)
  obtain ⟨W3, hW3⟩ : ∃ W3, W2.alloc (.cells #[.int .i64 0, .int .i64 (-1), .string ⟨#[97]⟩] 37) = W3 := ⟨_, rfl⟩
  have hs3 : W3.heap.size = w.heap.size + 3 := by rw [← hW3]; simp [hs2]
  have hb3 : Below W2.heap.size W2 W3 := by rw [← hW3]; exact (Below.refl _ _).alloc (Nat.le_refl _) _
  rw [hW3, hs2] at h3
  have h4 := World.alloc_heap_new W3 (.cells #[.slice none 0 0, .slice none 0 0, .slice (some ⟨w.heap.size + 2, 0, none⟩) 1 1] 25)
  obtain ⟨W4, hW4⟩ : ∃ W4, W3.alloc (.cells #[.slice none 0 0, .slice none 0 0, .slice (some ⟨w.heap.size + 2, 0, none⟩) 1 1] 25) = W4 := ⟨_, rfl⟩
  have hs4 : W4.heap.size = w.heap.size + 4 := by rw [← hW4]; simp [hs3]
  have hb4 : Below W3.heap.size W3 W4 := by rw [← hW4]; exact (Below.refl _ _).alloc (Nat.le_refl _) _
  rw [hW4, hs3] at h4
  have i1 : W4.heap[w.heap.size]? = _ := (hb4.block _ (by omega)).trans ((hb3.block _ (by omega)).trans ((hb2.block _ (by omega)).trans h1))
  have i2 : W4.heap[w.heap.size + 1]? = _ := (hb4.block _ (by omega)).trans ((hb3.block _ (by omega)).trans h2)
  have i3 : W4.heap[w.heap.size + 2]? = _ := (hb4.block _ (by omega)).trans h3
  have hb : Below w.heap.size w W4 := ((hb1.trans (hb2.mono (by omega))).trans (hb3.mono (by omega))).trans (hb4.mono (by omega))
  have HC := clash_calls (some ⟨w.heap.size, 0, none⟩) none none none none (some ⟨w.heap.size + 2, 0, none⟩) 1 0 0 0 0 1 ([pa], [], []) ([], [], [pa]) W4 (row_new (ePt_len pa) i1 rfl) (RowIn.nil _) (row_new (ePt_len pa) i3 rfl) (by intro p hp; simp at hp; subst hp; exact pa_wf) (by intro p hp; simp at hp; subst hp; exact pa_wf) (by decide)
  rw [pa_least] at HC
  have HR := fun W (hW : Below W4.heap.size W4 W) => reads_calls (some ⟨w.heap.size, 0, none⟩) none none 1 0 0 ([pa], [], []) pa W ((row_new (ePt_len pa) i1 rfl).below hW (Nat.le_refl _)) (RowIn.nil _)
  rw [pa_reads] at HR
  have HI := Hid.mk' (And.intro i2 (And.intro h4 hs4))
  have HB := Hid.mk' hb
  clear h1 h2 h3 h4 i1 i2 i3 hb1 hb2 hb3 hb4 hs1 hs2 hs3 hs4 hb hn
  subst hW4 hW3 hW2 hW1
  unfold FootV pa at HC HR
  go_enter Tryz.func13, Tryz.ntmps13
  go_wp2_with fail
  refine HC.mono ?_
  rintro e w5 ⟨rfl, hb5⟩
  obtain ⟨i2, i4, hs4⟩ := HI.out
  have j2 := (hb5.block _ (by omega)).trans i2
  have k0 : w5.cell? ⟨w.heap.size + 1, 0, none⟩ = some (.slice (some ⟨w.heap.size, 0, none⟩) 1 1) := cell_at j2 rfl
  have k1 : w5.cell? ⟨w.heap.size + 1, 1, none⟩ = some (.slice none 0 0) := cell_at j2 rfl
  have k2 : w5.cell? ⟨w.heap.size + 1, 2, none⟩ = some (.slice none 0 0) := cell_at j2 rfl
  have hz5 : w.heap.size + 4 ≤ w5.heap.size := by have := hb5.size; omega
  have m0 : (w5.alloc (.cells #[.int .i64 0, .int .i64 (-1), .string ⟨#[97]⟩] 37)).cell? ⟨w.heap.size + 1, 0, none⟩ = some (.slice (some ⟨w.heap.size, 0, none⟩) 1 1) := (((Below.refl _ w5).alloc (Nat.le_refl _) _).cell (p := ⟨w.heap.size + 1, 0, none⟩) (by show w.heap.size + 1 < _; omega)).trans k0
  have m1 : (w5.alloc (.cells #[.int .i64 0, .int .i64 (-1), .string ⟨#[97]⟩] 37)).cell? ⟨w.heap.size + 1, 1, none⟩ = some (.slice none 0 0) := (((Below.refl _ w5).alloc (Nat.le_refl _) _).cell (p := ⟨w.heap.size + 1, 1, none⟩) (by show w.heap.size + 1 < _; omega)).trans k1
  have m2 : (w5.alloc (.cells #[.int .i64 0, .int .i64 (-1), .string ⟨#[97]⟩] 37)).cell? ⟨w.heap.size + 1, 2, none⟩ = some (.slice none 0 0) := (((Below.refl _ w5).alloc (Nat.le_refl _) _).cell (p := ⟨w.heap.size + 1, 2, none⟩) (by show w.heap.size + 1 < _; omega)).trans k2
  have HB5 := Hid.mk' (HB.out.trans (hb5.mono (by omega)))
  have HR5 := HR (w5.alloc (.cells #[.int .i64 0, .int .i64 (-1), .string ⟨#[97]⟩] 37)) (hb5.alloc (by omega) _)
  clear HR HC j2 k0 k1 k2 i2 i4 hs4 hb5 HI HB
  go_wp2_with fail
  refine HR5.mono ?_
  rintro e w6 ⟨rfl, hb6⟩
  clear HR5 m0 m1 m2
  go_wp2_with fail
  go_ret
  exact ⟨rfl, (HB5.out.alloc (by omega) _).trans (hb6.mono (by simp; omega))⟩
end Go.Proofs.YtpbmcaidkjlokaaGreat
