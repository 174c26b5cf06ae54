import Derived.Test.YtolikaginhjbhaaDoorJb
/- ExprPicked's walk. -/
namespace Go.Proofs.YtolikaginhjbhaaDoor
open Go.RowKit Go.Pen Go.Shelf
attribute [local go_sem] Oper.semAt_some

theorem keepB {W W' : World} {g : Nat} {y : Obj} (h : W.heap[g]? = some y) (hb : Below W.heap.size W W') : W'.heap[g]? = some y := (hb.block _ (lt_of_heap h)).trans h
theorem keepAt' {W : World} {g : Nat} {y : Obj} (h : W.heap[g]? = some y) (A : Obj) : (W.alloc A).heap[g]? = some y := (Below.heap_alloc _ _ _ (lt_of_heap h)).trans h
theorem stepB {w W W' : World} (h : Below w.heap.size w W) (hb : Below W.heap.size W W') : Below w.heap.size w W' := h.trans (hb.mono h.size)
theorem stepA {W W' : World} {A : Obj} (hb : Below (W.alloc A).heap.size (W.alloc A) W') : Below W.heap.size W W' := (one_below _ _).trans (hb.mono (by simp))
theorem below_any {B : Nat} {w w1 w' : World} (h : Below B w1 w') (e : w1.os = w.os := by rfl) (e2 : w1.tape = w.tape := by rfl) (e3 : w1.output = w.output := by rfl) (e4 : w1.heap = w.heap := by rfl) : Below B w w' :=
  ⟨h.os.trans e, h.tape.trans e2, h.output.trans e3, by rw [← e4]; exact h.size, fun k hk => (h.block k hk).trans (by rw [e4])⟩
theorem below_drew1 {B : Nat} {w w' : World} (h : Below B w w') : Below B w w'.drew := ⟨h.os, h.tape, h.output, h.size, h.block⟩
theorem evalR_le (r : List Dat) (e : ET) (hrf : ∀ d ∈ r, d.fits) (hf : e.fits) : (evalR r e).2 ≤ 65535 := by
  by_cases h : e.may okD = true ∧ e.within r.length = true
  · have hv := val_ok r hrf e 1 hf (ET.may_good h.1)
    unfold evalR
    rw [if_pos h]
    split
    · exact hv.2
    · exact hv.2
  · unfold evalR
    rw [if_neg h]
    show 30 ≤ 65535
    decide
theorem rTurnN_or (cols : List Int) (e : ET) : rTurnN cols e = 0 ∨ rTurnN cols e = 30 := by
  by_cases hy : e.may okD = true ∧ e.within cols.length = true ∧ e.tok cols = true
  · exact .inl (rTurn_yes hy).2
  · exact .inr (rTurn_no hy).2
/-- whose columns are others fits, too -/
theorem fits_turn {cols : List Int} : ∀ e : ET, e.fits → e.tok cols = true → (e.turn cols).fits := by
  refine ET.ind fun o c d ks ih hf ht => ?_
  simp only [ET.fits, ET.fitss_iff] at hf
  simp only [ET.tok, Bool.and_eq_true, ET.toks_iff, Bool.or_eq_true, Bool.not_eq_true', decide_eq_false_iff_not, decide_eq_true_eq] at ht
  simp only [ET.turn, ET.fits, ET.fitss_iff, ET.turns_len]
  refine ⟨hf.1, ?_, hf.2.2.1, hf.2.2.2.1, fun k hk => ?_⟩
  · by_cases e : o = 1
    · rw [if_pos e]
      rcases ht.1 with h | h
      · exact absurd e h
      · omega
    · rw [if_neg e]; exact hf.2.1
  · rw [ET.turns_map] at hk
    obtain ⟨k', hk', rfl⟩ := List.mem_map.1 hk
    exact ih k' hk' (hf.2.2.2.2 k' hk') (ht.2 k' hk')
theorem pick_fits {r : List Dat} {cols : List Int} (hrf : ∀ d ∈ r, d.fits) (hp : pickOk r.length cols = true) : ∀ d ∈ pick r cols, d.fits := by
  intro d hd
  obtain ⟨c, hc, rfl⟩ := List.mem_map.1 hd
  simp only [pickOk, Bool.and_eq_true] at hp
  have h := List.all_eq_true.1 hp.2 c hc
  simp only [inRow, Bool.and_eq_true, decide_eq_true_eq] at h
  obtain ⟨x, hx⟩ : ∃ x, r[c.toNat]? = some x := ⟨r[c.toNat]'(by omega), List.getElem?_eq_getElem _⟩
  have : pickD r c = x := by simp only [pickD, List.getD_eq_getElem?_getD, hx]; rfl
  rw [this]
  exact hrf x (List.mem_of_getElem? hx)

set_option maxRecDepth 100000 in
set_option maxHeartbeats 8000000 in
theorem picked_3 (r : List Dat) (cols : List Int) (e : ET) (a : Option Addr) (cc : Nat) (ra : Option Addr) (rc : Nat) (va : Option Addr) (vcc : Nat) (w : World) (hat : e.At w (.slice a e.kids.length cc)) (hr : RowAt w (.slice ra r.length rc) r) (hints : IntsAt w (.slice va cols.length vcc) cols) (hfit : e.fits) (hrf : ∀ d ∈ r, d.fits) (hrl : r.length ≤ 17592186043904) (hcl : cols.length ≤ 17592186043904) (hT : Lib.Utf8Tabs 1 2 w) (hE : ErrTy w) (h11 : 3 ≤ w.heap.size)
    (hkn : ∀ W, Below w.heap.size w W → Calls Tryd.prog 9 #[] W fun ev W' => ev = .returned (.bool true) ∧ Below W.heap.size W W') :
    Calls Tryd.prog 3 #[e.agg (.slice a e.kids.length cc), .slice ra r.length rc, .slice va cols.length vcc] w fun ev w' => ev = .returned (.bool true) ∧ Below w.heap.size w w' := by
  have HAT := Lib.hid hat
  have HR := Lib.hid hr
  have HI := Lib.hid hints
  have HT := Lib.hid hT
  have HE := Lib.hid hE
  have HKN := Lib.hid hkn
  have HFIT := Lib.hid hfit
  have HRF := Lib.hid hrf
  have hfar := far_8 e a e.kids.length cc (w.alloc (.cells #[.int .u8 e.op, .slice a e.kids.length cc, .int .i64 e.col, .int .u8 e.lit.kind, .bool e.lit.bool, .int .i64 e.lit.int, .string e.lit.text] 27)) (hat.below (one_below _ _)) hfit
  unfold ET.agg at hfar
  have HFAR := Lib.hid hfar
  have hfr := fun (W : World) (hb : Below w.heap.size w W) => far_9 _ r W (hr.below hb) hrl hrf
  have HFR := Lib.hid hfr
  have hrow : ¬ 12000 < rowW r → r.length ≤ 1000000 := fun h => by unfold rowW at h; omega
  have HROW := Lib.hid hrow
  clear hfar hat hr hints hT hE hkn hfit hrf hfr hrow
  unfold ET.agg
  go_enter Tryd.func3, Tryd.ntmps3
  go_wp2_with fail
  refine HFAR.out.mono ?_
  rintro ev w1 ⟨rfl, hb1⟩
  have k2 := one_at hb1
  have HB1 := Lib.hid (stepA hb1)
  have y0 := cell_of_heap (o := 0) k2 rfl
  have y1 := cell_of_heap (o := 1) k2 rfl
  have y2 := cell_of_heap (o := 2) k2 rfl
  have y3 := cell_of_heap (o := 3) k2 rfl
  have y4 := cell_of_heap (o := 4) k2 rfl
  have y5 := cell_of_heap (o := 5) k2 rfl
  have y6 := cell_of_heap (o := 6) k2 rfl
  have K2 := Lib.hid k2
  clear hb1 k2 HFAR
  by_cases hf : 12000 < e.weight
  · rw [decide_eq_true hf]
    clear hf
    go_wp2
    go_ret
    exact ⟨rfl, HB1.out⟩
  rw [decide_eq_false hf]
  have hsz : e.size ≤ 12000 := by have := e.size_le_weight; omega
  have HSZ := Lib.hid hsz
  have hfr := HFR.out w1 HB1.out
  clear hf hsz HFR
  by_cases hf : 12000 < rowW r
  · rw [decide_eq_true hf] at hfr
    have HFR := Lib.hid hfr
    clear hf hfr
    go_wp2_with (go_at_call 6; refine HFR.out.mono ?_; rintro ev w2 ⟨rfl, rfl⟩)
    go_ret
    exact ⟨rfl, HB1.out⟩
  rw [decide_eq_false hf] at hfr
  have HFR := Lib.hid hfr
  have HRL := Lib.hid (HROW.out hf)
  have hpk := pick_7 r cols _ _ w1 (HR.out.below HB1.out) (HI.out.below HB1.out).on hcl
  have HPK := Lib.hid hpk
  clear hf hfr HROW hpk
  go_wp2_with (go_at_call 6; refine HFR.out.mono ?_; rintro ev w2 ⟨rfl, rfl⟩)
  refine HPK.out.mono ?_
  rintro ev w3 ⟨pa, pn, pc, rfl, hpp, hb3⟩
  obtain ⟨P, hP⟩ : ∃ P : Int, P = (if pickOk r.length cols = true then 0 else 20) := ⟨_, rfl⟩
  rw [← hP]
  have HP := Lib.hid hP
  have k2 := keepB K2.out hb3
  have HB3 := Lib.hid (stepB HB1.out hb3)
  have HPP := Lib.hid hpp
  clear y0 y1 y2 y3 y4 y5 y6 hb3 hpp hP HPK HFR K2
  have y0 := cell_of_heap (o := 0) k2 rfl
  have y1 := cell_of_heap (o := 1) k2 rfl
  have y2 := cell_of_heap (o := 2) k2 rfl
  have y3 := cell_of_heap (o := 3) k2 rfl
  have y4 := cell_of_heap (o := 4) k2 rfl
  have y5 := cell_of_heap (o := 5) k2 rfl
  have y6 := cell_of_heap (o := 6) k2 rfl
  have K23 := Lib.hid k2
  have h18 := turn_18 cols e a cc _ _ w3 HFIT.out (HAT.out.below HB3.out) (HI.out.below HB3.out).on (tabs_below HT.out HB3.out h11) (Nat.le_trans h11 HB3.out.size)
  unfold ET.agg at h18
  have H18 := Lib.hid h18
  clear k2 h18
  go_wp2_with fail
  refine H18.out.mono ?_
  rintro ev w4 ⟨sa, sn, sc, rfl, hon4, hb4⟩
  have hs4 : sn = (rTurn cols e).kids.length := by
    obtain ⟨a9, c9, h9⟩ := hon4.slice
    cases h9
    rfl
  subst hs4
  have HON4 := Lib.hid hon4
  have HB34 := Lib.hid hb4
  have HB4 := Lib.hid (stepB HB3.out hb4)
  have K24 := Lib.hid (keepB K23.out hb4)
  clear y0 y1 y2 y3 y4 y5 y6 hon4 hb4 K23 H18
  unfold ET.agg
  by_cases hok : pickOk r.length cols = true ∧ rTurnN cols e = 0
  rotate_left
  · have q : P = 20 ∨ ((rTurnN cols e : Int) = 30 ∧ P = 0) := by
      rw [HP.out]
      by_cases h1 : pickOk r.length cols = true
      · right
        rcases rTurnN_or cols e with h2 | h2
        · exact absurd ⟨h1, h2⟩ hok
        · exact ⟨by rw [h2]; rfl, by rw [if_pos h1]⟩
      · left; rw [if_neg h1]
    generalize (rTurnN cols e : Int) = N at *
    clear hok HPP HP
    rcases q with rfl | ⟨rfl, rfl⟩
    · go_wp2_with fail
      refine (HKN.out _ (HB4.out.alloc HB4.out.size _)).mono ?_
      rintro ev w5 ⟨rfl, hb5⟩
      have HB5 := Lib.hid (stepB HB4.out (stepA hb5))
      clear hb5
      go_wp2
      go_ret
      exact ⟨rfl, HB5.out⟩
    · go_wp2_with fail
      refine (HKN.out _ (HB4.out.alloc HB4.out.size _)).mono ?_
      rintro ev w5 ⟨rfl, hb5⟩
      have HB5 := Lib.hid (stepB HB4.out (stepA hb5))
      clear hb5
      go_wp2
      go_ret
      exact ⟨rfl, HB5.out⟩
  have hlaw := picked_law hok.1 hok.2
  have htok : e.tok cols = true := by
    by_cases h : e.may okD = true ∧ e.within cols.length = true ∧ e.tok cols = true
    · exact h.2.2
    · rw [(rTurn_no h).2] at hok; exact absurd hok.2 (by decide)
  have hft := fits_turn e HFIT.out htok
  have hts : (e.turn cols).size ≤ 12000 := by rw [ET.turn_size]; exact HSZ.out
  have hpp := HPP.out hok.1
  have hpf := pick_fits HRF.out hok.1
  have hxn := evalR_le (pick r cols) e hpf HFIT.out
  have hpn := hpp.1
  subst hpn
  have HPR := Lib.hid hpp.2
  have HPF := Lib.hid hpf
  rw [hlaw.1] at HON4 ⊢
  have hp0 : P = 0 := by rw [HP.out, if_pos hok.1]
  subst hp0
  rw [hok.2]
  obtain ⟨t, ht⟩ : ∃ t, t = e.turn cols := ⟨_, rfl⟩
  rw [← ht] at hlaw hft hts HON4 ⊢
  have HL2 := Lib.hid hlaw.2.1
  have HL3 := Lib.hid hlaw.2.2
  have HFT := Lib.hid hft
  have HTS := Lib.hid hts
  clear hok hlaw htok hft hts hpp hpf HPP HP ht
  -- Eval of the turned one, over the row
  have h12 := fun (W : World) (hb : Below w4.heap.size w4 W) => eval12_all r t sa sc _ _ W HFT.out HRF.out (HON4.out.at.below hb) (HR.out.below (stepB HB4.out hb)) (tabs_below HT.out (stepB HB4.out hb) h11) (cell_keep (stepB HB4.out hb) HE.out) (Nat.le_trans h11 (stepB HB4.out hb).size)
  unfold ET.agg at h12
  rw [HL2.out] at h12
  have H12 := Lib.hid h12
  have k24 := K24.out
  have k4 := heap_alloc_new w4 (.cells #[.int .u8 t.op, .slice sa t.kids.length sc, .int .i64 t.col, .int .u8 t.lit.kind, .bool t.lit.bool, .int .i64 t.lit.int, .string t.lit.text] 27)
  clear h12
  go_wp2_with fail
  refine (H12.out _ (one_below _ _)).mono ?_
  rintro ev w5 ⟨rfl, hb5⟩
  have HB45 := Lib.hid (stepA hb5)
  have HB5 := Lib.hid (stepB HB4.out (stepA hb5))
  have K25 := Lib.hid (keepB K24.out (stepA hb5))
  have K45 := Lib.hid (one_at hb5)
  have h12 := fun (W : World) (hb : Below w3.heap.size w3 W) => eval12_all (pick r cols) e a cc _ _ W HFIT.out HPF.out (HAT.out.below (stepB HB3.out hb)) (HPR.out.below hb) (tabs_below HT.out (stepB HB3.out hb) h11) (cell_keep (stepB HB3.out hb) HE.out) (Nat.le_trans h11 (stepB HB3.out hb).size)
  unfold ET.agg at h12
  have H12b := Lib.hid h12
  clear hb5 k24 k4 h12 H12
  generalize evalR (pick r cols) e = X at *
  have k25 := K25.out
  have y0 := fun A => cell_of_heap (o := 0) (keepAt' k25 A) rfl
  have y1 := fun A => cell_of_heap (o := 1) (keepAt' k25 A) rfl
  have y2 := fun A => cell_of_heap (o := 2) (keepAt' k25 A) rfl
  have y3 := fun A => cell_of_heap (o := 3) (keepAt' k25 A) rfl
  have y4 := fun A => cell_of_heap (o := 4) (keepAt' k25 A) rfl
  have y5 := fun A => cell_of_heap (o := 5) (keepAt' k25 A) rfl
  have y6 := fun A => cell_of_heap (o := 6) (keepAt' k25 A) rfl
  unfold resT Dat.agg
  go_wp2_with fail
  refine (H12b.out _ (((HB34.out.trans (HB45.out.mono HB34.out.size))).alloc (stepB HB34.out HB45.out).size _)).mono ?_
  rintro ev w6 ⟨rfl, hb6⟩
  have K56 := Lib.hid (one_at hb6)
  have HB56 := Lib.hid (stepA hb6)
  have HB6 := Lib.hid (stepB HB5.out (stepA hb6))
  have K26 := Lib.hid (keepB K25.out (stepA hb6))
  have K46 := Lib.hid (keepB K45.out (stepA hb6))
  clear y0 y1 y2 y3 y4 y5 y6 k25 hb6 K25 K45 H12b
  unfold resT Dat.agg
  obtain ⟨⟨xk, xb, xi, xt⟩, xn⟩ := X
  simp only at K56 ⊢
  obtain ⟨w7, hw7⟩ : ∃ w7, w7 = w6.alloc (.cells #[.int .u8 xk, .bool xb, .int .i64 xi, .string xt] 25) := ⟨_, rfl⟩
  have hb67 : Below w6.heap.size w6 w7 := by rw [hw7]; exact one_below _ _
  have k67 : w7.heap[w6.heap.size]? = some (.cells #[.int .u8 xk, .bool xb, .int .i64 xi, .string xt] 25 (0, 0)) := by rw [hw7]; exact heap_alloc_new _ _
  have HW7 := Lib.hid hw7
  have HB7 := Lib.hid (stepB HB6.out hb67)
  have HB47 := Lib.hid (stepB (stepB HB45.out HB56.out) hb67)
  have K67 := Lib.hid k67
  have K57 := Lib.hid (keepB K56.out hb67)
  have K27 := Lib.hid (keepB K26.out hb67)
  have k47 := keepB K46.out hb67
  have K47 := Lib.hid k47
  have hs7 : w7.cell? ⟨w4.heap.size, 0, none⟩ = some (.int .u8 t.op) ∧ w7.cell? ⟨w4.heap.size, 1, none⟩ = some (.slice sa t.kids.length sc) ∧ w7.cell? ⟨w4.heap.size, 2, none⟩ = some (.int .i64 t.col) ∧ w7.cell? ⟨w4.heap.size, 3, none⟩ = some (.int .u8 t.lit.kind) ∧ w7.cell? ⟨w4.heap.size, 4, none⟩ = some (.bool t.lit.bool) ∧ w7.cell? ⟨w4.heap.size, 5, none⟩ = some (.int .i64 t.lit.int) ∧ w7.cell? ⟨w4.heap.size, 6, none⟩ = some (.string t.lit.text) := ⟨cell_of_heap k47 rfl, cell_of_heap k47 rfl, cell_of_heap k47 rfl, cell_of_heap k47 rfl, cell_of_heap k47 rfl, cell_of_heap k47 rfl, cell_of_heap k47 rfl⟩
  have hkeep : ∀ (w' : World), Below w7.heap.size w7 w' → w'.cell? ⟨w4.heap.size, 0, none⟩ = some (.int .u8 t.op) ∧ w'.cell? ⟨w4.heap.size, 1, none⟩ = some (.slice sa t.kids.length sc) ∧ w'.cell? ⟨w4.heap.size, 2, none⟩ = some (.int .i64 t.col) ∧ w'.cell? ⟨w4.heap.size, 3, none⟩ = some (.int .u8 t.lit.kind) ∧ w'.cell? ⟨w4.heap.size, 4, none⟩ = some (.bool t.lit.bool) ∧ w'.cell? ⟨w4.heap.size, 5, none⟩ = some (.int .i64 t.lit.int) ∧ w'.cell? ⟨w4.heap.size, 6, none⟩ = some (.string t.lit.text) := fun w' hb => ⟨cell_keep hb hs7.1, cell_keep hb hs7.2.1, cell_keep hb hs7.2.2.1, cell_keep hb hs7.2.2.2.1, cell_keep hb hs7.2.2.2.2.1, cell_keep hb hs7.2.2.2.2.2.1, cell_keep hb hs7.2.2.2.2.2.2⟩
  have S7 := Lib.hid hs7
  have HKEEP := Lib.hid hkeep
  have h11' := fun (W : World) => all_11 r.length W HRL.out
  have H11 := Lib.hid h11'
  have h18 := fun (W : World) (hb : Below w7.heap.size w7 W) (aa : Option Addr) (ac : Nat) (hi : IntsAt W (.slice aa (allBelow r.length).length ac) (allBelow r.length)) => turn_18 (allBelow r.length) t sa sc aa ac W HFT.out (HON4.out.at.below (stepB HB47.out hb)) hi.on (tabs_below HT.out (stepB HB7.out hb) h11) (Nat.le_trans h11 (stepB HB7.out hb).size)
  unfold T18 at h18
  rw [HL3.out.1, HL3.out.2] at h18
  unfold ET.agg at h18
  rw [allBelow_len] at h18
  have H18 := Lib.hid h18
  clear hw7 hb67 k67 k47 hs7 hkeep h11' h18 K56 K26 K46
  go_wp2_with fail
  rw [← HW7.out]
  obtain ⟨s0, s1, s2, s3, s4, s5, s6⟩ := S7.out
  have hbS : Hid (Below w7.heap.size w7 w7) := Lib.hid (Below.refl _ _)
  have nA : w7.heap.size ≠ w4.heap.size := by have := lt_of_heap K47.out; omega
  have hlt4 : w4.heap.size < w7.heap.size := lt_of_heap K47.out
  have HLT4 := Lib.hid hlt4
  have TN : Hid True := Lib.hid trivial
  clear hlt4
  go_region_held3 (fun w' => w'.cell? ⟨w4.heap.size, 0, none⟩ = some (.int .u8 t.op) ∧ w'.cell? ⟨w4.heap.size, 1, none⟩ = some (.slice sa t.kids.length sc) ∧ w'.cell? ⟨w4.heap.size, 2, none⟩ = some (.int .i64 t.col) ∧ w'.cell? ⟨w4.heap.size, 3, none⟩ = some (.int .u8 t.lit.kind) ∧ w'.cell? ⟨w4.heap.size, 4, none⟩ = some (.bool t.lit.bool) ∧ w'.cell? ⟨w4.heap.size, 5, none⟩ = some (.int .i64 t.lit.int) ∧ w'.cell? ⟨w4.heap.size, 6, none⟩ = some (.string t.lit.text))
    (first | go_keep | exact HKEEP.out _ hbS.out | exact HKEEP.out _ (stepB hbS.out (one_below _ _)) | (simp only [cell_set_ne nA]; exact HKEEP.out _ hbS.out) | (simp only [cell_set_ne nB]; exact HKEEP.out _ hbS.out) | fail)
    (first
    | (go_at_call 11; refine (H11.out _).mono ?_; rintro ev w8 ⟨aa, ac, rfl, hia, hb8⟩; have HIA := Lib.hid hia; have hq : Hid (Below w7.heap.size w7 w8) := Lib.hid (by first | exact below_any hb8 | exact stepA (W := w7) (A := .cells #[.int .u8 0, .slice none 0 0, .int .i64 0, .int .u8 0, .bool false, .int .i64 0, .string ⟨#[]⟩] 27) (below_any hb8) | fail); have nB : w8.heap.size ≠ w4.heap.size := (by have := hq.out.size; have := HLT4.out; omega); have HLE8 := Lib.hid hq.out.size; have hbS := hq; (try (have ta := (hb8.block w7.heap.size (by show w7.heap.size < (w7.heap.push _).size; rw [Array.size_push]; omega)).trans (heap_alloc_new w7 (.cells #[.int .u8 0, .slice none 0 0, .int .i64 0, .int .u8 0, .bool false, .int .i64 0, .string ⟨#[]⟩] 27)); have TN := Lib.hid ta; clear ta)); clear hb8 hia)
    | (go_at_call 8; refine (H18.out _ (by first | exact hbS.out | exact stepB hbS.out (one_below _ _) | exact below_drew1 hbS.out | exact below_drew1 (stepB hbS.out (one_below _ _)) | fail) aa ac (by first | exact HIA.out | exact HIA.out.below (one_below _ _) | fail)).mono ?_; rintro ev w9 ⟨ta, tn, tc, rfl, hon9, hb9⟩; have HON9 := Lib.hid hon9; have hq : Hid (Below w7.heap.size w7 w9) := Lib.hid (by first | exact stepB hbS.out (below_any hb9) | exact stepB hbS.out (stepA (A := .cells #[.int .u8 0, .slice none 0 0, .int .i64 0, .int .u8 0, .bool false, .int .i64 0, .string ⟨#[]⟩] 27) (below_any hb9)) | fail); (try (have tz := (hb9.block w8.heap.size (by show w8.heap.size < (w8.heap.push _).size; rw [Array.size_push]; omega)).trans (heap_alloc_new w8 (.cells #[.int .u8 0, .slice none 0 0, .int .i64 0, .int .u8 0, .bool false, .int .i64 0, .string ⟨#[]⟩] 27)); have z0 := cell_of_heap (o := 0) tz rfl; have g0 := frozen_of_heap (o := 0) tz; have z1 := cell_of_heap (o := 1) tz rfl; have g1 := frozen_of_heap (o := 1) tz; have z2 := cell_of_heap (o := 2) tz rfl; have g2 := frozen_of_heap (o := 2) tz; have z3 := cell_of_heap (o := 3) tz rfl; have g3 := frozen_of_heap (o := 3) tz; have z4 := cell_of_heap (o := 4) tz rfl; have g4 := frozen_of_heap (o := 4) tz; have z5 := cell_of_heap (o := 5) tz rfl; have g5 := frozen_of_heap (o := 5) tz; have z6 := cell_of_heap (o := 6) tz rfl; have g6 := frozen_of_heap (o := 6) tz; have TZ := Lib.hid tz; clear tz)); (try (have tz := (hb9.block w7.heap.size (lt_of_heap TN.out)).trans TN.out; have z0 := cell_of_heap (o := 0) tz rfl; have g0 := frozen_of_heap (o := 0) tz; have z1 := cell_of_heap (o := 1) tz rfl; have g1 := frozen_of_heap (o := 1) tz; have z2 := cell_of_heap (o := 2) tz rfl; have g2 := frozen_of_heap (o := 2) tz; have z3 := cell_of_heap (o := 3) tz rfl; have g3 := frozen_of_heap (o := 3) tz; have z4 := cell_of_heap (o := 4) tz rfl; have g4 := frozen_of_heap (o := 4) tz; have z5 := cell_of_heap (o := 5) tz rfl; have g5 := frozen_of_heap (o := 5) tz; have z6 := cell_of_heap (o := 6) tz rfl; have g6 := frozen_of_heap (o := 6) tz; have TZ := Lib.hid tz; clear tz)); have hbS := hq; clear hb9 hon9))
  · obtain ⟨W, hW⟩ : ∃ W, W = w9.alloc (.cells #[.int .u8 t.op, .slice ta tn tc, .int .i64 t.col, .int .u8 t.lit.kind, .bool t.lit.bool, .int .i64 t.lit.int, .string t.lit.text] 27) := ⟨_, rfl⟩
    have hh : W.heap[w9.heap.size]? = some (.cells #[.int .u8 t.op, .slice ta tn tc, .int .i64 t.col, .int .u8 t.lit.kind, .bool t.lit.bool, .int .i64 t.lit.int, .string t.lit.text] 27 (0, 0)) := by rw [hW]; exact heap_alloc_new w9 _
    have hb : Below w7.heap.size w7 W := by rw [hW]; exact hbS.out.alloc hbS.out.size _
    have hon : t.At W (.slice ta tn tc) := by rw [hW]; exact HON9.out.at.below (one_below _ _)
    rw [← hW]
    obtain rfl : tn = t.kids.length := by
      obtain ⟨a9, c9, h9⟩ := hon.slice
      cases h9
      rfl
    have HH2 := Lib.hid hh
    have HBW := Lib.hid hb
    have HON := Lib.hid hon
    have HBw := Lib.hid (stepB HB7.out hb)
    clear hh hb hon hW TN
    first | clear TZ | skip
    first | clear z0 g0 z1 g1 z2 g2 z3 g3 z4 g4 z5 g5 z6 g6 | skip
    clear s0 s1 s2 s3 s4 s5 s6
    go_wp2_with fail
    refine (HKN.out _ HBw.out).mono ?_
    rintro ev w10 ⟨rfl, hb10⟩
    have k5 := keepB (keepB K57.out HBW.out) hb10
    have k6 := keepB (keepB K67.out HBW.out) hb10
    have k4 := keepB (keepB K47.out HBW.out) hb10
    have kh := keepB HH2.out hb10
    have p0 := cell_of_heap (o := 0) k5 rfl
    have p1 := cell_of_heap (o := 1) k5 rfl
    have p2 := cell_of_heap (o := 2) k5 rfl
    have p3 := cell_of_heap (o := 3) k5 rfl
    have q0 := cell_of_heap (o := 0) k6 rfl
    have q1 := cell_of_heap (o := 1) k6 rfl
    have q2 := cell_of_heap (o := 2) k6 rfl
    have q3 := cell_of_heap (o := 3) k6 rfl
    have y0 := cell_of_heap (o := 0) k4 rfl
    have y1 := cell_of_heap (o := 1) k4 rfl
    have y2 := cell_of_heap (o := 2) k4 rfl
    have y3 := cell_of_heap (o := 3) k4 rfl
    have y4 := cell_of_heap (o := 4) k4 rfl
    have y5 := cell_of_heap (o := 5) k4 rfl
    have y6 := cell_of_heap (o := 6) k4 rfl
    have z0 := cell_of_heap (o := 0) kh rfl
    have z1 := cell_of_heap (o := 1) kh rfl
    have z2 := cell_of_heap (o := 2) kh rfl
    have z3 := cell_of_heap (o := 3) kh rfl
    have z4 := cell_of_heap (o := 4) kh rfl
    have z5 := cell_of_heap (o := 5) kh rfl
    have z6 := cell_of_heap (o := 6) kh rfl
    have h15 := same_15 t HTS.out _ _ w10 (HON.out.below hb10) ((HON4.out.at.below (stepB HB47.out HBW.out)).below hb10)
    unfold ET.agg at h15
    have H15 := Lib.hid h15
    have HB10 := Lib.hid (stepB HBw.out hb10)
    clear k5 k6 k4 kh hb10 h15
    go_wp2_with fail
    refine H15.out.mono ?_
    rintro ev w11 ⟨rfl, hb11⟩
    have HB11 := Lib.hid (stepB HB10.out hb11)
    clear hb11 p0 p1 p2 p3 q0 q1 q2 q3 y0 y1 y2 y3 y4 y5 y6 z0 z1 z2 z3 z4 z5 z6
    go_wp2
    go_ret
    exact ⟨rfl, HB11.out⟩
  · obtain ⟨W, hW⟩ : ∃ W, W = setRow7 w9 w8.heap.size (.int .u8 t.op) (.slice ta tn tc) (.int .i64 t.col) (.int .u8 t.lit.kind) (.bool t.lit.bool) (.int .i64 t.lit.int) (.string t.lit.text) := ⟨_, rfl⟩
    have hh : W.heap[w8.heap.size]? = some (.cells #[.int .u8 t.op, .slice ta tn tc, .int .i64 t.col, .int .u8 t.lit.kind, .bool t.lit.bool, .int .i64 t.lit.int, .string t.lit.text] 27 (0, 0)) := by rw [hW]; exact setRow7_at TZ.out
    have hb : Below w7.heap.size w7 W := by rw [hW]; exact setRow7_below hbS.out HLE8.out
    have hon : t.At W (.slice ta tn tc) := by rw [hW]; exact (HON9.out.frame (w' := setRow7 w9 w8.heap.size (.int .u8 t.op) (.slice ta tn tc) (.int .i64 t.col) (.int .u8 t.lit.kind) (.bool t.lit.bool) (.int .i64 t.lit.int) (.string t.lit.text)) (fun g hg _ => setRow7_ne (by have h1 := hg.1; rw [World.size_alloc] at h1; omega))).at
    unfold setRow7 at hW
    rw [← hW]
    obtain rfl : tn = t.kids.length := by
      obtain ⟨a9, c9, h9⟩ := hon.slice
      cases h9
      rfl
    have HH2 := Lib.hid hh
    have HBW := Lib.hid hb
    have HON := Lib.hid hon
    have HBw := Lib.hid (stepB HB7.out hb)
    clear hh hb hon hW TN
    first | clear TZ | skip
    first | clear z0 g0 z1 g1 z2 g2 z3 g3 z4 g4 z5 g5 z6 g6 | skip
    clear s0 s1 s2 s3 s4 s5 s6
    go_wp2_with fail
    refine (HKN.out _ HBw.out).mono ?_
    rintro ev w10 ⟨rfl, hb10⟩
    have k5 := keepB (keepB K57.out HBW.out) hb10
    have k6 := keepB (keepB K67.out HBW.out) hb10
    have k4 := keepB (keepB K47.out HBW.out) hb10
    have kh := keepB HH2.out hb10
    have p0 := cell_of_heap (o := 0) k5 rfl
    have p1 := cell_of_heap (o := 1) k5 rfl
    have p2 := cell_of_heap (o := 2) k5 rfl
    have p3 := cell_of_heap (o := 3) k5 rfl
    have q0 := cell_of_heap (o := 0) k6 rfl
    have q1 := cell_of_heap (o := 1) k6 rfl
    have q2 := cell_of_heap (o := 2) k6 rfl
    have q3 := cell_of_heap (o := 3) k6 rfl
    have y0 := cell_of_heap (o := 0) k4 rfl
    have y1 := cell_of_heap (o := 1) k4 rfl
    have y2 := cell_of_heap (o := 2) k4 rfl
    have y3 := cell_of_heap (o := 3) k4 rfl
    have y4 := cell_of_heap (o := 4) k4 rfl
    have y5 := cell_of_heap (o := 5) k4 rfl
    have y6 := cell_of_heap (o := 6) k4 rfl
    have z0 := cell_of_heap (o := 0) kh rfl
    have z1 := cell_of_heap (o := 1) kh rfl
    have z2 := cell_of_heap (o := 2) kh rfl
    have z3 := cell_of_heap (o := 3) kh rfl
    have z4 := cell_of_heap (o := 4) kh rfl
    have z5 := cell_of_heap (o := 5) kh rfl
    have z6 := cell_of_heap (o := 6) kh rfl
    have h15 := same_15 t HTS.out _ _ w10 (HON.out.below hb10) ((HON4.out.at.below (stepB HB47.out HBW.out)).below hb10)
    unfold ET.agg at h15
    have H15 := Lib.hid h15
    have HB10 := Lib.hid (stepB HBw.out hb10)
    clear k5 k6 k4 kh hb10 h15
    go_wp2_with fail
    refine H15.out.mono ?_
    rintro ev w11 ⟨rfl, hb11⟩
    have HB11 := Lib.hid (stepB HB10.out hb11)
    clear hb11 p0 p1 p2 p3 q0 q1 q2 q3 y0 y1 y2 y3 y4 y5 y6 z0 z1 z2 z3 z4 z5 z6
    go_wp2
    go_ret
    exact ⟨rfl, HB11.out⟩
  · obtain ⟨W, hW⟩ : ∃ W, W = setRow7 w9 w7.heap.size (.int .u8 t.op) (.slice ta tn tc) (.int .i64 t.col) (.int .u8 t.lit.kind) (.bool t.lit.bool) (.int .i64 t.lit.int) (.string t.lit.text) := ⟨_, rfl⟩
    have hh : W.heap[w7.heap.size]? = some (.cells #[.int .u8 t.op, .slice ta tn tc, .int .i64 t.col, .int .u8 t.lit.kind, .bool t.lit.bool, .int .i64 t.lit.int, .string t.lit.text] 27 (0, 0)) := by rw [hW]; exact setRow7_at TZ.out
    have hb : Below w7.heap.size w7 W := by rw [hW]; exact setRow7_below hbS.out (Nat.le_refl _)
    have hon : t.At W (.slice ta tn tc) := by rw [hW]; exact (HON9.out.frame (w' := setRow7 w9 w7.heap.size (.int .u8 t.op) (.slice ta tn tc) (.int .i64 t.col) (.int .u8 t.lit.kind) (.bool t.lit.bool) (.int .i64 t.lit.int) (.string t.lit.text)) (fun g hg _ => setRow7_ne (by have h1 := hg.1; have h2 := lt_of_heap TN.out; omega))).at
    unfold setRow7 at hW
    rw [← hW]
    obtain rfl : tn = t.kids.length := by
      obtain ⟨a9, c9, h9⟩ := hon.slice
      cases h9
      rfl
    have HH2 := Lib.hid hh
    have HBW := Lib.hid hb
    have HON := Lib.hid hon
    have HBw := Lib.hid (stepB HB7.out hb)
    clear hh hb hon hW TN
    first | clear TZ | skip
    first | clear z0 g0 z1 g1 z2 g2 z3 g3 z4 g4 z5 g5 z6 g6 | skip
    clear s0 s1 s2 s3 s4 s5 s6
    go_wp2_with fail
    refine (HKN.out _ HBw.out).mono ?_
    rintro ev w10 ⟨rfl, hb10⟩
    have k5 := keepB (keepB K57.out HBW.out) hb10
    have k6 := keepB (keepB K67.out HBW.out) hb10
    have k4 := keepB (keepB K47.out HBW.out) hb10
    have kh := keepB HH2.out hb10
    have p0 := cell_of_heap (o := 0) k5 rfl
    have p1 := cell_of_heap (o := 1) k5 rfl
    have p2 := cell_of_heap (o := 2) k5 rfl
    have p3 := cell_of_heap (o := 3) k5 rfl
    have q0 := cell_of_heap (o := 0) k6 rfl
    have q1 := cell_of_heap (o := 1) k6 rfl
    have q2 := cell_of_heap (o := 2) k6 rfl
    have q3 := cell_of_heap (o := 3) k6 rfl
    have y0 := cell_of_heap (o := 0) k4 rfl
    have y1 := cell_of_heap (o := 1) k4 rfl
    have y2 := cell_of_heap (o := 2) k4 rfl
    have y3 := cell_of_heap (o := 3) k4 rfl
    have y4 := cell_of_heap (o := 4) k4 rfl
    have y5 := cell_of_heap (o := 5) k4 rfl
    have y6 := cell_of_heap (o := 6) k4 rfl
    have z0 := cell_of_heap (o := 0) kh rfl
    have z1 := cell_of_heap (o := 1) kh rfl
    have z2 := cell_of_heap (o := 2) kh rfl
    have z3 := cell_of_heap (o := 3) kh rfl
    have z4 := cell_of_heap (o := 4) kh rfl
    have z5 := cell_of_heap (o := 5) kh rfl
    have z6 := cell_of_heap (o := 6) kh rfl
    have h15 := same_15 t HTS.out _ _ w10 (HON.out.below hb10) ((HON4.out.at.below (stepB HB47.out HBW.out)).below hb10)
    unfold ET.agg at h15
    have H15 := Lib.hid h15
    have HB10 := Lib.hid (stepB HBw.out hb10)
    clear k5 k6 k4 kh hb10 h15
    go_wp2_with fail
    refine H15.out.mono ?_
    rintro ev w11 ⟨rfl, hb11⟩
    have HB11 := Lib.hid (stepB HB10.out hb11)
    clear hb11 p0 p1 p2 p3 q0 q1 q2 q3 y0 y1 y2 y3 y4 y5 y6 z0 z1 z2 z3 z4 z5 z6
    go_wp2
    go_ret
    exact ⟨rfl, HB11.out⟩
end Go.Proofs.YtolikaginhjbhaaDoor
