import Derived.Test.YtolikaginhjbhaaGreatDoorGa
/- ExprTurns: the walk. -/
namespace Go.Proofs.YtolikaginhjbhaaGreatDoor
open Go.RowKit Go.Pen Go.Shelf
attribute [local go_sem] Oper.semAt_some

theorem keepB {W W' : World} {g : Nat} {y : Obj} (h : W.heap[g]? = some y) (hb : Below W.heap.size W W') : W'.heap[g]? = some y := (hb.block _ (lt_of_heap h)).trans h
theorem keepAt' {W : World} {g : Nat} {y : Obj} (h : W.heap[g]? = some y) (A : Obj) : (W.alloc A).heap[g]? = some y := (Below.heap_alloc _ _ _ (lt_of_heap h)).trans h
theorem stepB {w W W' : World} (h : Below w.heap.size w W) (hb : Below W.heap.size W W') : Below w.heap.size w W' := h.trans (hb.mono h.size)
theorem stepA {W W' : World} {A : Obj} (hb : Below (W.alloc A).heap.size (W.alloc A) W') : Below W.heap.size W W' := (one_below _ _).trans (hb.mono (by simp))

mutual
theorem ET.turn_size (cols : List Int) : ∀ e : ET, (e.turn cols).size = e.size
  | .mk o c d ks => by simp only [ET.turn, ET.size, ET.turns_size cols ks]
theorem ET.turns_size (cols : List Int) : ∀ ks : List ET, ET.sizes (ET.turns cols ks) = ET.sizes ks
  | [] => rfl
  | k :: ks => by simp only [ET.turns, ET.sizes, ET.turn_size cols k, ET.turns_size cols ks]
end
theorem rTurn_size (cols : List Int) (e : ET) (h : e.size ≤ 12000) : (rTurn cols e).size ≤ 12000 := by
  by_cases hy : e.may okD = true ∧ e.within cols.length = true ∧ e.tok cols = true
  · rw [(rTurn_yes hy).1, ET.turn_size]; exact h
  · rw [(rTurn_no hy).1]; simp [ET.size, ET.sizes]
theorem rTurnN_or (cols : List Int) (e : ET) : rTurnN cols e = 0 ∨ rTurnN cols e = 30 := by
  by_cases hy : e.may okD = true ∧ e.within cols.length = true ∧ e.tok cols = true
  · exact .inl (rTurn_yes hy).2
  · exact .inr (rTurn_no hy).2

set_option maxRecDepth 100000 in
set_option maxHeartbeats 4000000 in
theorem turns_4 (cols : List Int) (e : ET) (a : Option Addr) (cc : Nat) (va : Option Addr) (vcc : Nat) (w : World) (hat : e.At w (.slice a e.kids.length cc)) (hints : IntsAt w (.slice va cols.length vcc) cols) (hfit : e.fits) (hcl : cols.length ≤ 17592186043904) (hT : Lib.Utf8Tabs 1 2 w) (h11 : 3 ≤ w.heap.size)
    (hkn : ∀ W, Below w.heap.size w W → Calls Tryz.prog 14 #[] W fun ev W' => ev = .returned (.bool true) ∧ Below W.heap.size W W') :
    Calls Tryz.prog 4 #[e.agg (.slice a e.kids.length cc), .slice va cols.length vcc] w fun ev w' => ev = .returned (.bool true) ∧ Below w.heap.size w w' := by
  have HAT := Lib.hid hat
  have HI := Lib.hid hints
  have HT := Lib.hid hT
  have HKN := Lib.hid hkn
  have HFIT := Lib.hid hfit
  have hfar := far_8 e a e.kids.length cc (w.alloc (.cells #[.int .u8 e.op, .slice a e.kids.length cc, .int .i64 e.col, .int .u8 e.lit.kind, .bool e.lit.bool, .int .i64 e.lit.int, .string e.lit.text] 27)) (hat.below (one_below _ _)) hfit
  unfold ET.agg at hfar
  have HFAR := Lib.hid hfar
  clear hfar hat hints hT hkn hfit
  unfold ET.agg
  go_enter Tryz.func4, Tryz.ntmps4
  go_wp2_with fail
  refine HFAR.out.mono ?_
  rintro ev w1 ⟨rfl, hb1⟩
  have k2 := one_at hb1
  have HB1 := Lib.hid (stepA hb1)
  have y0 := cell_of_heap (o := 0) k2 rfl
  have y1 := cell_of_heap (o := 1) k2 rfl
  have y2 := cell_of_heap (o := 2) k2 rfl
  have y3 := cell_of_heap (o := 3) k2 rfl
  have y4 := cell_of_heap (o := 4) k2 rfl
  have y5 := cell_of_heap (o := 5) k2 rfl
  have y6 := cell_of_heap (o := 6) k2 rfl
  have K2 := Lib.hid k2
  clear hb1 k2 HFAR
  by_cases hf : 12000 < e.weight
  · rw [decide_eq_true hf]
    clear hf
    go_wp2
    go_ret
    exact ⟨rfl, HB1.out⟩
  rw [decide_eq_false hf]
  have hsz : e.size ≤ 12000 := by have := e.size_le_weight; omega
  have HSZ := Lib.hid hsz
  have h10 := lent_10 e hsz _ w1 (HAT.out.below HB1.out)
  unfold ET.agg at h10
  have H10 := Lib.hid h10
  clear hf hsz h10
  go_wp2_with fail
  refine H10.out.mono ?_
  rintro ev w2 ⟨kv', rfl, hon2, hb2⟩
  obtain ⟨a5, c5, rfl⟩ := hon2.slice
  have HON2 := Lib.hid hon2
  have K22 := Lib.hid (keepB K2.out hb2)
  have HB2 := Lib.hid (stepB HB1.out hb2)
  clear y0 y1 y2 y3 y4 y5 y6 hb2 hon2 H10 K2
  go_wp2_with fail
  refine (lent_17 _ cols _ (HI.out.below (HB2.out.alloc HB2.out.size _)) hcl).mono ?_
  rintro ev w3 ⟨rfl, hown, hb3⟩
  have k5 := one_at hb3
  have K5 := Lib.hid k5
  rw [show ∀ A, (w2.alloc A).heap.size = w2.heap.size + 1 from fun A => by simp] at hown
  have HOWN := Lib.hid hown
  have HB23 := Lib.hid (stepA hb3)
  have HB3 := Lib.hid (stepB HB2.out (stepA hb3))
  have K23 := Lib.hid (keepB K22.out (stepA hb3))
  have y0 := cell_of_heap (o := 0) k5 rfl
  have y1 := cell_of_heap (o := 1) k5 rfl
  have y2 := cell_of_heap (o := 2) k5 rfl
  have y3 := cell_of_heap (o := 3) k5 rfl
  have y4 := cell_of_heap (o := 4) k5 rfl
  have y5 := cell_of_heap (o := 5) k5 rfl
  have y6 := cell_of_heap (o := 6) k5 rfl
  have hlent : LentI w3 _ _ cols := hown
  have h18 := turn_18 cols e a5 c5 _ _ w3 HFIT.out (HON2.out.at.below HB23.out) hlent.at.on (tabs_below HT.out HB3.out h11) (Nat.le_trans h11 HB3.out.size)
  unfold ET.agg at h18
  have H18 := Lib.hid h18
  clear k5 hown hb3 K22 h18 hlent
  go_wp2_with fail
  refine H18.out.mono ?_
  rintro ev w4 ⟨sa, sn, sc, rfl, hon4, hb4⟩
  have hs4 : sn = (rTurn cols e).kids.length := by
    obtain ⟨a9, c9, h9⟩ := hon4.slice
    cases h9
    rfl
  subst hs4
  have HON4 := Lib.hid hon4
  have HB34 := Lib.hid hb4
  have HB4 := Lib.hid (stepB HB3.out hb4)
  have K24 := Lib.hid (keepB K23.out hb4)
  have K54 := Lib.hid (keepB K5.out hb4)
  clear y0 y1 y2 y3 y4 y5 y6 hon4 hb4 K23 K5 H18
  have k24 := K24.out
  have y0 := fun A => cell_of_heap (o := 0) (keepAt' k24 A) rfl
  have y1 := fun A => cell_of_heap (o := 1) (keepAt' k24 A) rfl
  have y2 := fun A => cell_of_heap (o := 2) (keepAt' k24 A) rfl
  have y3 := fun A => cell_of_heap (o := 3) (keepAt' k24 A) rfl
  have y4 := fun A => cell_of_heap (o := 4) (keepAt' k24 A) rfl
  have y5 := fun A => cell_of_heap (o := 5) (keepAt' k24 A) rfl
  have y6 := fun A => cell_of_heap (o := 6) (keepAt' k24 A) rfl
  have h19 := fun (W : World) (hb : Below w.heap.size w W) => rturn_19 cols e a cc va vcc W HFIT.out (HAT.out.below hb) (HI.out.below hb).on
  unfold ET.agg at h19
  have H19 := Lib.hid h19
  clear k24 h19
  unfold ET.agg
  go_wp2_with fail
  refine (H19.out _ (HB4.out.alloc HB4.out.size _)).mono ?_
  rintro ev w5 ⟨sb, sm, sd, rfl, hon5, hb5⟩
  have hs5 : sm = (rTurn cols e).kids.length := by
    obtain ⟨a9, c9, h9⟩ := hon5.slice
    cases h9
    rfl
  subst hs5
  have K7 := Lib.hid (one_at hb5)
  have HB45 := Lib.hid (stepA hb5)
  have HB5 := Lib.hid (stepB HB4.out (stepA hb5))
  have K25 := Lib.hid (keepB K24.out (stepA hb5))
  have K55 := Lib.hid (keepB K54.out (stepA hb5))
  have HON5 := Lib.hid hon5
  clear y0 y1 y2 y3 y4 y5 y6 hb5 hon5 K24 K54 H19
  unfold ET.agg
  go_wp2_with fail
  refine (HKN.out _ (HB5.out.alloc HB5.out.size _)).mono ?_
  rintro ev w6 ⟨rfl, hb6⟩
  have k9 := one_at hb6
  have hb56 := stepA hb6
  have k7 := keepB K7.out hb56
  have K26 := Lib.hid (keepB K25.out hb56)
  have K56 := Lib.hid (keepB K55.out hb56)
  have HB6 := Lib.hid (stepB HB5.out hb56)
  have HB56 := Lib.hid hb56
  have y0 := cell_of_heap (o := 0) k7 rfl
  have y1 := cell_of_heap (o := 1) k7 rfl
  have y2 := cell_of_heap (o := 2) k7 rfl
  have y3 := cell_of_heap (o := 3) k7 rfl
  have y4 := cell_of_heap (o := 4) k7 rfl
  have y5 := cell_of_heap (o := 5) k7 rfl
  have y6 := cell_of_heap (o := 6) k7 rfl
  have z0 := cell_of_heap (o := 0) k9 rfl
  have z1 := cell_of_heap (o := 1) k9 rfl
  have z2 := cell_of_heap (o := 2) k9 rfl
  have z3 := cell_of_heap (o := 3) k9 rfl
  have z4 := cell_of_heap (o := 4) k9 rfl
  have z5 := cell_of_heap (o := 5) k9 rfl
  have z6 := cell_of_heap (o := 6) k9 rfl
  have h15 := same_15 (rTurn cols e) (rTurn_size cols e HSZ.out) _ _ w6 ((HON4.out.at.below HB45.out).below hb56) (HON5.out.at.below hb56)
  unfold ET.agg at h15
  have H15 := Lib.hid h15
  clear k9 k7 hb6 hb56 K7 K25 K55 h15
  have hN := rTurnN_or cols e
  generalize rTurnN cols e = N at *
  rcases hN with rfl | rfl
  all_goals
    go_wp2_with fail
    refine H15.out.mono ?_
    rintro ev w7 ⟨rfl, hb7⟩
    have k2 := keepB K26.out hb7
    have k5 := keepB K56.out hb7
    have HB7 := Lib.hid (stepB HB6.out hb7)
    have HB67 := Lib.hid hb7
    clear y0 y1 y2 y3 y4 y5 y6 z0 z1 z2 z3 z4 z5 z6 hb7
    have y0 := cell_of_heap (o := 0) k2 rfl
    have y1 := cell_of_heap (o := 1) k2 rfl
    have y2 := cell_of_heap (o := 2) k2 rfl
    have y3 := cell_of_heap (o := 3) k2 rfl
    have y4 := cell_of_heap (o := 4) k2 rfl
    have y5 := cell_of_heap (o := 5) k2 rfl
    have y6 := cell_of_heap (o := 6) k2 rfl
    have z0 := cell_of_heap (o := 0) k5 rfl
    have z1 := cell_of_heap (o := 1) k5 rfl
    have z2 := cell_of_heap (o := 2) k5 rfl
    have z3 := cell_of_heap (o := 3) k5 rfl
    have z4 := cell_of_heap (o := 4) k5 rfl
    have z5 := cell_of_heap (o := 5) k5 rfl
    have z6 := cell_of_heap (o := 6) k5 rfl
    have h15 := same_15 e HSZ.out _ _ w7 (((((HON2.out.at.below HB23.out).below HB34.out).below HB45.out).below HB56.out).below HB67.out) (HAT.out.below HB7.out)
    unfold ET.agg at h15
    have H152 := Lib.hid h15
    clear k2 k5 h15
    go_wp2_with fail
    refine H152.out.mono ?_
    rintro ev w8 ⟨rfl, hb8⟩
    have HB8 := Lib.hid (stepB HB7.out hb8)
    have hl8 : LentI w8 _ _ cols := Below.ownsRow' hb8 (Below.ownsRow' HB67.out (Below.ownsRow' HB56.out (Below.ownsRow' HB45.out (Below.ownsRow' HB34.out HOWN.out))))
    have h20 := whole_20 _ _ _ cols w8 hl8 (HI.out.below HB8.out) hcl
    have H20 := Lib.hid h20
    clear y0 y1 y2 y3 y4 y5 y6 z0 z1 z2 z3 z4 z5 z6 hb8 hl8 h20
    go_wp2_with fail
    refine H20.out.mono ?_
    rintro ev w9 ⟨rfl, q, rfl⟩
    go_wp2
    go_ret
    exact ⟨rfl, Go.Pen.below_drewN HB8.out⟩
end Go.Proofs.YtolikaginhjbhaaGreatDoor
