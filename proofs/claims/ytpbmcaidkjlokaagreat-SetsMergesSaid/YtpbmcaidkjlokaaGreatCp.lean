/- Comparisons of points and places. -/
import Derived.Test.YtpbmcaidkjlokaaGreatRU
namespace Go.Proofs.YtpbmcaidkjlokaaGreat
open Go.RowKit Go.Sort

def cmpI (x y : Int) : Int := if x < y then -1 else if y < x then 1 else 0
def orI : List Int → Int
  | [] => 0
  | a :: l => if a = 0 then orI l else a

theorem isNaN_int (x : Int) (w : World) :
    Calls Tryz.prog 68 #[.int .i64 x] w fun e w' => e = .returned (.bool false) ∧ w' = w := by
  go_enter Tryz.func68, Tryz.ntmps68
  go_wp2
  go_ret
  exact ⟨by simp, rfl⟩
theorem cmpInt (x y : Int) (w : World) :
    Calls Tryz.prog 50 #[.int .i64 x, .int .i64 y] w fun e w' => e = .returned (.int .i64 (cmpI x y)) ∧ w' = w := by
  have hx := isNaN_int x
  have hy := isNaN_int y
  by_cases h1 : x < y
  · go_enter Tryz.func50, Tryz.ntmps50
    go_wp2_with (go_at_call 68; refine (isNaN_int _ _).mono ?_; rintro e w' ⟨rfl, rfl⟩)
    go_ret
    exact ⟨by simp [cmpI, h1], rfl⟩
  · by_cases h2 : y < x
    · go_enter Tryz.func50, Tryz.ntmps50
      go_wp2_with (go_at_call 68; refine (isNaN_int _ _).mono ?_; rintro e w' ⟨rfl, rfl⟩)
      go_ret
      exact ⟨by simp [cmpI, h1, h2], rfl⟩
    · go_enter Tryz.func50, Tryz.ntmps50
      go_wp2_with (go_at_call 68; refine (isNaN_int _ _).mono ?_; rintro e w' ⟨rfl, rfl⟩)
      go_ret
      exact ⟨ret_int (by unfold cmpI; rw [if_neg (by omega), if_neg (by omega)]), rfl⟩

def eI (x : Int) : List Value := [.int .i64 x]
theorem orI_drop {l : List Int} {k : Nat} {x : Int} (h : l[k]? = some x) : orI (l.drop k) = if x = 0 then orI (l.drop (k + 1)) else x := by
  have hk : k < l.length := (List.getElem?_eq_some_iff.1 h).1
  have e : l[k] = x := (List.getElem?_eq_some_iff.1 h).2
  rw [List.drop_eq_getElem_cons hk, e]; rfl
theorem cmpOr (A : Option Addr) (c : Nat) (xs : List Int) (w : World) (h : RowIn eI 1 w A xs) :
    Calls Tryz.prog 49 #[.slice A xs.length c] w fun e w' => e = .returned (.int .i64 (orI xs)) ∧ w' = w := by
  have hl := h.len
  have H := Hid.mk' h
  clear h
  go_enter Tryz.func49, Tryz.ntmps49
  go_wp2_with fail
  go_loopw [8] (fun s8 wr => ∃ k : Nat, k ≤ xs.length ∧ s8 = .int .i64 k ∧ Hid (orI (xs.drop k) = orI xs) ∧ wr = w) (fun s8 _ => xs.length - (intOf s8).toNat)
  case atStart => exact ⟨0, Nat.zero_le _, rfl, Hid.mk' rfl, rfl⟩
  case round =>
    obtain ⟨k, hk, rfl, HR, rfl⟩ := hrel
    by_cases hlt : k < xs.length
    · have hltz : (k : Int) < (xs.length : Int) := by omega
      obtain ⟨x, hx⟩ : ∃ x, xs[k]? = some x := ⟨_, List.getElem?_eq_getElem hlt⟩
      obtain ⟨b, off, rfl, hbl, hcell⟩ := H.out.at_ hlt
      rw [(List.getElem?_eq_some_iff.1 hx).2] at hcell
      have c0 : wr.cell? ⟨b, off + k, none⟩ = some (.int .i64 x) := by have := hcell 0 _ rfl; simpa using this
      have HX := Hid.mk' (orI_drop hx)
      clear hcell hx
      by_cases hz : x = 0
      · subst hz
        go_wp2_with fail
        go_roundw
        case rel => exact ⟨k + 1, by omega, by go_num, Hid.mk' (by rw [← HR.out, HX.out]; rfl), trivial⟩
        case measure => simp [intOf]; omega
      · go_wp2_with fail
        go_ret
        refine ⟨ret_int ?_, rfl⟩
        rw [← HR.out, HX.out, if_neg hz]
    · have hltz : ¬ (k : Int) < (xs.length : Int) := by omega
      have HK : Hid (k = xs.length) := by show _ = _; omega
      go_wp2_with fail
      go_ret
      refine ⟨ret_int ?_, rfl⟩
      rw [← HR.out, HK.out, List.drop_length]; rfl

/-- How points stand. -/
def cmpPt (a b : Pt) : Int := orI [cmpI a.t b.t, cmpI a.i b.i, Lib.compareBytes a.key.data.toList b.key.data.toList]
def cmpPl (a b : Pl) : Int := orI [cmpI a.a b.a, cmpI a.b b.b]
theorem grow3 (w : World) (o1 o2 o3 : Obj) : (((w.alloc o1).alloc o2).alloc o3).drew = grow (w.drewN 1) (#[o1] ++ #[o2] ++ #[o3]) := by
  rw [alloc_eq_grow, alloc_eq_grow, alloc_eq_grow, grow_grow, grow_grow]; rfl
set_option maxRecDepth 100000 in
set_option maxHeartbeats 1000000 in
theorem before_calls (a b : Pt) (w : World) :
    Calls Tryz.prog 64 #[.agg #[.int .i64 a.t, .int .i64 a.i, .string a.key], .agg #[.int .i64 b.t, .int .i64 b.i, .string b.key]] w fun e w' => e = .returned (.int .i64 (cmpPt a b)) ∧ ∃ q os, w' = grow (w.drewN q) os := by
  unfold cmpPt
  generalize hr0 : cmpI a.t b.t = r0
  have h0 := fun W => cmpInt a.t b.t W
  rw [hr0] at h0
  clear hr0
  generalize hr1 : cmpI a.i b.i = r1
  have h1 := fun W => cmpInt a.i b.i W
  rw [hr1] at h1
  clear hr1
  generalize hr2 : Lib.compareBytes a.key.data.toList b.key.data.toList = r2
  have h2' := fun W => strcmp a.key b.key W
  rw [hr2] at h2'
  have h2 : ∀ W, Calls Tryz.prog 74 #[.string a.key, .string b.key] W fun e w' => e = .returned (.int .i64 r2) ∧ w' = W := fun W => (h2' W).mono fun e w' ⟨x, y⟩ => ⟨x, y.symm⟩
  clear h2'
  clear hr2
  go_enter Tryz.func64, Tryz.ntmps64
  go_wp2_with fail
  obtain ⟨W, hW⟩ : ∃ W, W = (w.alloc (.cells #[.int .i64 a.t, .int .i64 a.i, .string a.key] 37)).alloc (.cells #[.int .i64 b.t, .int .i64 b.i, .string b.key] 37) := ⟨_, rfl⟩
  have a0 : W.cell? ⟨w.heap.size, 0, none⟩ = some (.int .i64 a.t) := by rw [hW]; go_simp
  have a1 : W.cell? ⟨w.heap.size, 1, none⟩ = some (.int .i64 a.i) := by rw [hW]; go_simp
  have a2 : W.cell? ⟨w.heap.size, 2, none⟩ = some (.string a.key) := by rw [hW]; go_simp
  have b0 : W.cell? ⟨w.heap.size + 1, 0, none⟩ = some (.int .i64 b.t) := by rw [hW]; go_simp
  have b1 : W.cell? ⟨w.heap.size + 1, 1, none⟩ = some (.int .i64 b.i) := by rw [hW]; go_simp
  have b2 : W.cell? ⟨w.heap.size + 1, 2, none⟩ = some (.string b.key) := by rw [hW]; go_simp
  rw [← hW]
  have HW := Hid.mk' hW
  clear hW
  go_still_tail 15, (by kernel_rfl)
  still_call (h0 _)
  repeat still_step
  still_call (h1 _)
  repeat still_step
  still_call (h2 _)
  refine wpStill_nil ?_
  change wpList _ _ _ _ _ W.drew
  go_wp2_with fail
  have HO := cmpOr (some ⟨W.heap.size, 0, none⟩) 3 [r0, r1, r2] (W.alloc (.cells #[.int .i64 r0, .int .i64 r1, .int .i64 r2] 3)).drew ⟨by simp, .inr ⟨_, _, rfl, by simp, fun j x hj i v hv => by
    match j, hj with
    | 0, hj =>
      match i, hv with
      | 0, hv => simp [eI] at hv hj; subst hj; subst hv; go_simp
      | i + 1, hv => simp [eI] at hv
    | 1, hj =>
      match i, hv with
      | 0, hv => simp [eI] at hv hj; subst hj; subst hv; go_simp
      | i + 1, hv => simp [eI] at hv
    | 2, hj =>
      match i, hv with
      | 0, hv => simp [eI] at hv hj; subst hj; subst hv; go_simp
      | i + 1, hv => simp [eI] at hv
    | k + 3, hj => simp at hj⟩⟩
  refine Calls.mono HO ?_
  rintro e w' ⟨rfl, rfl⟩
  go_wp2
  go_ret
  rw [HW.out, grow3]
  exact ⟨rfl, 1, _, rfl⟩
set_option maxRecDepth 100000 in
set_option maxHeartbeats 1000000 in
theorem bplace_calls (a b : Pl) (w : World) :
    Calls Tryz.prog 48 #[.agg #[.int .i64 a.a, .int .i64 a.b], .agg #[.int .i64 b.a, .int .i64 b.b]] w fun e w' => e = .returned (.int .i64 (cmpPl a b)) ∧ ∃ q os, w' = grow (w.drewN q) os := by
  unfold cmpPl
  generalize hr0 : cmpI a.a b.a = r0
  have h0 := fun W => cmpInt a.a b.a W
  rw [hr0] at h0
  clear hr0
  generalize hr1 : cmpI a.b b.b = r1
  have h1 := fun W => cmpInt a.b b.b W
  rw [hr1] at h1
  clear hr1
  go_enter Tryz.func48, Tryz.ntmps48
  go_wp2_with fail
  obtain ⟨W, hW⟩ : ∃ W, W = (w.alloc (.cells #[.int .i64 a.a, .int .i64 a.b] 69)).alloc (.cells #[.int .i64 b.a, .int .i64 b.b] 69) := ⟨_, rfl⟩
  have a0 : W.cell? ⟨w.heap.size, 0, none⟩ = some (.int .i64 a.a) := by rw [hW]; go_simp
  have a1 : W.cell? ⟨w.heap.size, 1, none⟩ = some (.int .i64 a.b) := by rw [hW]; go_simp
  have b0 : W.cell? ⟨w.heap.size + 1, 0, none⟩ = some (.int .i64 b.a) := by rw [hW]; go_simp
  have b1 : W.cell? ⟨w.heap.size + 1, 1, none⟩ = some (.int .i64 b.b) := by rw [hW]; go_simp
  rw [← hW]
  have HW := Hid.mk' hW
  clear hW
  go_still_tail 10, (by kernel_rfl)
  still_call (h0 _)
  repeat still_step
  still_call (h1 _)
  refine wpStill_nil ?_
  change wpList _ _ _ _ _ W.drew
  go_wp2_with fail
  have HO := cmpOr (some ⟨W.heap.size, 0, none⟩) 2 [r0, r1] (W.alloc (.cells #[.int .i64 r0, .int .i64 r1] 3)).drew ⟨by simp, .inr ⟨_, _, rfl, by simp, fun j x hj i v hv => by
    match j, hj with
    | 0, hj =>
      match i, hv with
      | 0, hv => simp [eI] at hv hj; subst hj; subst hv; go_simp
      | i + 1, hv => simp [eI] at hv
    | 1, hj =>
      match i, hv with
      | 0, hv => simp [eI] at hv hj; subst hj; subst hv; go_simp
      | i + 1, hv => simp [eI] at hv
    | k + 2, hj => simp at hj⟩⟩
  refine Calls.mono HO ?_
  rintro e w' ⟨rfl, rfl⟩
  go_wp2
  go_ret
  rw [HW.out, grow3]
  exact ⟨rfl, 1, _, rfl⟩
/-- Points in order; places in order. -/
def toPt : VP.TO Pt := (VP.TO.lex VP.TO.int (VP.TO.lex VP.TO.int VP.TO.bytes)).map (fun p : Pt => (p.t, p.i, p.key)) (by
  intro a b h; cases a; cases b; simp at h; simp [h])
def toPl : VP.TO Pl := (VP.TO.lex VP.TO.int VP.TO.int).map (fun p : Pl => (p.a, p.b)) (by
  intro a b h; cases a; cases b; simp at h; simp [h])
theorem cmpI_cases (x y : Int) : (x < y ∧ cmpI x y = -1) ∨ (x = y ∧ cmpI x y = 0) ∨ (y < x ∧ cmpI x y = 1) := by
  unfold cmpI
  rcases Int.lt_trichotomy x y with h | h | h
  · left; exact ⟨h, if_pos h⟩
  · right; left; subst h; simp
  · right; right; exact ⟨h, by rw [if_neg (by omega), if_pos h]⟩
theorem cmpB_cases (x y : ByteArray) : (VP.TO.bytes.lt x y = true ∧ Lib.compareBytes x.data.toList y.data.toList = -1) ∨ (x = y ∧ Lib.compareBytes x.data.toList y.data.toList = 0) ∨ (VP.TO.bytes.lt y x = true ∧ Lib.compareBytes x.data.toList y.data.toList = 1) := by
  rw [cmp_str]
  cases h : VP.TO.bytes.lt x y
  · cases h2 : VP.TO.bytes.lt y x
    · right; left; exact ⟨VP.TO.bytes.tri h h2, by simp⟩
    · right; right; simp
  · left; simp
theorem cmpPt_cases (x y : Pt) : (toPt.lt x y = true ∧ cmpPt x y = -1) ∨ (x = y ∧ cmpPt x y = 0) ∨ (toPt.lt y x = true ∧ cmpPt x y = 1) := by
  obtain ⟨a, b, c⟩ := x
  obtain ⟨d, e, f⟩ := y
  simp only [toPt, VP.TO.map, VP.TO.lex, VP.TO.int, cmpPt]
  rcases cmpI_cases a d with ⟨h, e1⟩ | ⟨h, e1⟩ | ⟨h, e1⟩ <;> rw [e1]
  · left; simp [orI, h]
  · subst h
    rcases cmpI_cases b e with ⟨h, e2⟩ | ⟨h, e2⟩ | ⟨h, e2⟩ <;> rw [e2]
    · left; simp [orI, h]
    · subst h
      rcases cmpB_cases c f with ⟨h, e3⟩ | ⟨h, e3⟩ | ⟨h, e3⟩ <;> rw [e3]
      · left; simp [orI, h]
      · right; left; subst h; simp [orI]
      · right; right; simp [orI, h]
    · right; right; simp [orI, h]
  · right; right; simp [orI, h]
theorem cmpPl_cases (x y : Pl) : (toPl.lt x y = true ∧ cmpPl x y = -1) ∨ (x = y ∧ cmpPl x y = 0) ∨ (toPl.lt y x = true ∧ cmpPl x y = 1) := by
  obtain ⟨a, b⟩ := x
  obtain ⟨d, e⟩ := y
  simp only [toPl, VP.TO.map, VP.TO.lex, VP.TO.int, cmpPl]
  rcases cmpI_cases a d with ⟨h, e1⟩ | ⟨h, e1⟩ | ⟨h, e1⟩ <;> rw [e1]
  · left; simp [orI, h]
  · subst h
    rcases cmpI_cases b e with ⟨h, e2⟩ | ⟨h, e2⟩ | ⟨h, e2⟩ <;> rw [e2]
    · left; simp [orI, h]
    · right; left; subst h; simp [orI]
    · right; right; simp [orI, h]
  · right; right; simp [orI, h]
theorem cmpPt_lt (x y : Pt) : ltOf cmpPt x y = toPt.lt x y := by
  unfold ltOf
  rcases cmpPt_cases x y with ⟨h, e⟩ | ⟨h, e⟩ | ⟨h, e⟩ <;> rw [e]
  · simp [h]
  · subst h; simp [toPt.irr]
  · simp [toPt.asym h]
theorem cmpPl_lt (x y : Pl) : ltOf cmpPl x y = toPl.lt x y := by
  unfold ltOf
  rcases cmpPl_cases x y with ⟨h, e⟩ | ⟨h, e⟩ | ⟨h, e⟩ <;> rw [e]
  · simp [h]
  · subst h; simp [toPl.irr]
  · simp [toPl.asym h]
theorem swo_of {α : Type} {cf : α → α → Int} {T : VP.TO α} (h : ∀ x y, ltOf cf x y = T.lt x y) : SWO (ltOf cf) where
  irrefl x := by rw [h]; exact T.irr _
  trans x y z h1 h2 := by rw [h] at *; exact T.tr h1 h2
  ntrans x y z h1 h2 := by rw [h] at *; exact T.le_trans h2 h1

theorem Strings_calls (a b : ByteArray) (w : World) :
    Calls Tryz.prog 90 #[.string a, .string b] w fun e w' => e = .returned (.int .i64 (Lib.compareBytes a.data.toList b.data.toList)) ∧ w' = w := strings_calls a b w
set_option maxHeartbeats 1000000 in
/-- The reference's order of points. -/
theorem rcmp_calls (a b : Pt) (w : World) :
    Calls Tryz.prog 78 #[.agg #[.int .i64 a.t, .int .i64 a.i, .string a.key], .agg #[.int .i64 b.t, .int .i64 b.i, .string b.key]] w fun e w' => e = .returned (.int .i64 (cmpPt a b)) ∧ Below w.heap.size w w' := by
  have hb : ∀ o1 o2, Below w.heap.size w ((w.alloc o1).alloc o2) := fun o1 o2 => ((Below.refl _ _).alloc (Nat.le_refl _) _).alloc (by simp) _
  have HB := Hid.mk' hb
  have HS := fun W => strings_calls a.key b.key W
  obtain ⟨at_, ai, ak⟩ := a
  obtain ⟨bt, bi, bk⟩ := b
  simp only at HS ⊢
  unfold cmpPt
  simp only
  generalize hr : Lib.compareBytes ak.data.toList bk.data.toList = r at HS ⊢
  clear hr hb
  rcases cmpI_cases at_ bt with ⟨h, e1⟩ | ⟨h, e1⟩ | ⟨h, e1⟩ <;> rw [e1]
  · have h1 : (at_ == bt) = false := beq_eq_false_iff_ne.2 (by omega)
    go_enter Tryz.func78, Tryz.ntmps78
    go_wp2
    go_ret
    exact ⟨rfl, HB.out _ _⟩
  · subst h
    rcases cmpI_cases ai bi with ⟨h, e2⟩ | ⟨h, e2⟩ | ⟨h, e2⟩ <;> rw [e2]
    · have h1 : (ai == bi) = false := beq_eq_false_iff_ne.2 (by omega)
      go_enter Tryz.func78, Tryz.ntmps78
      go_wp2
      go_ret
      exact ⟨rfl, HB.out _ _⟩
    · subst h
      go_enter Tryz.func78, Tryz.ntmps78
      go_wp2_with (go_at_call 90; refine (HS _).mono ?_; rintro e w' ⟨rfl, rfl⟩)
      go_ret
      exact ⟨ret_int (by simp only [orI]; simp), HB.out _ _⟩
    · have h1 : (ai == bi) = false := beq_eq_false_iff_ne.2 (by omega)
      go_enter Tryz.func78, Tryz.ntmps78
      go_wp2
      go_ret
      exact ⟨rfl, HB.out _ _⟩
  · have h1 : (at_ == bt) = false := beq_eq_false_iff_ne.2 (by omega)
    go_enter Tryz.func78, Tryz.ntmps78
    go_wp2
    go_ret
    exact ⟨rfl, HB.out _ _⟩
end Go.Proofs.YtpbmcaidkjlokaaGreat
