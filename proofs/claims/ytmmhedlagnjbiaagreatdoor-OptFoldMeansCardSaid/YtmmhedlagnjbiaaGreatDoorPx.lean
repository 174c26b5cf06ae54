import Derived.Test.YtmmhedlagnjbiaaGreatDoorPu
import Derived.Test.YtmmhedlagnjbiaaGreatDoorGc
import Derived.Test.YtmmhedlagnjbiaaGreatDoorGb
import Derived.Test.YtmmhedlagnjbiaaGreatDoorOg
import Derived.Test.YtmmhedlagnjbiaaGreatDoorOj
/- our texts, shortened by program (pack.py) -/
set_option maxRecDepth 100000
set_option maxHeartbeats 4000000
namespace Go.Proofs.YtmmhedlagnjbiaaGreatDoor
open Go.RowKit Go.Pen
attribute [local go_sem] Oper.semAt_some
theorem foldE_size (e : ET) : (foldE e).size ≤ e.size := by
 unfold foldE
 split
 ·next h =>
  simp only [ET.may, Bool.and_eq_true] at h
  exact fold_size coalOk_P e 1 h.1
 ·have := e.size_pos
  simp only [zeroE, ET.size, ET.sizes]
  omega
theorem zeroE_fits : zeroE.fits := by simp [zeroE, Dat.zero, ET.fits, ET.fitss, Dat.fits]; decide
theorem foldE_fits {e : ET} (h : e.fits) : (foldE e).fits := by
 unfold foldE
 split
 ·next hm =>
  simp only [ET.may, Bool.and_eq_true, decide_eq_true_eq] at hm
  exact fold_fits coalOk_P e 1 h hm.1 hm.2
 ·exact zeroE_fits
theorem foldN_case (e : ET) : (foldN e = 0 ∧ foldE (foldE e) = foldE e) ∨ foldN e = 30 := by
 by_cases h : e.may okD = true
 ·exact .inl ⟨by unfold foldN; rw [if_pos h], fold_again h⟩
 ·exact .inr (by unfold foldN; rw [if_neg h])
theorem folds_3 (e : ET) (a : Option Addr) (cc : Nat) (w : World) (hat : e.At w (.slice a e.kids.length cc)) (hfit : e.fits) (hT : Lib.Utf8Tabs 0 1 w) (hE : ErrTy w) (h3 : 3 ≤ w.heap.size) :
  Calls Tryz.prog 3 #[e.agg (.slice a e.kids.length cc)] w fun ev w' => ev = .returned (.bool true) ∧ Below w.heap.size w w' := by
 have HAT := Lib.hid hat
 have HT := Lib.hid hT
 have HE := Lib.hid hE
 have H3 := Lib.hid h3
 have HFIT := Lib.hid hfit
 have HKN : Hid (∀ W, Below w.heap.size w W → Calls Tryz.prog 9 #[] W fun ev W' => ev = .returned (.bool true) ∧ Below W.heap.size W W') := Lib.hid fun W hb => known_9 W (tabs_below hT hb h3) (cell_keep hb hE) (Nat.le_trans h3 hb.size)
 have hfar := far_8 e a e.kids.length cc (w.alloc (.cells #[.int .u8 e.op, .slice a e.kids.length cc, .int .i64 e.col, .int .u8 e.lit.kind, .bool e.lit.bool, .int .i64 e.lit.int, .string e.lit.text] 27)) (hat.below (one_below _ _)) hfit
 unfold ET.agg at hfar
 have HFAR := Lib.hid hfar
 clear hfar hat hT hE h3 hfit
 unfold ET.agg
 go_enter Tryz.func3, Tryz.ntmps3
 go_wp2_with fail
 refine HFAR.out.mono ?_
 rintro ev w1 ⟨rfl, hb1⟩
 have K1 := Lib.hid (one_at hb1)
 have HB1 := Lib.hid (stepA hb1)
 obtain ⟨y0, y1, y2, y3, y4, y5, y6⟩ := cs7 K1.out
 have ys := lt_of_heap K1.out
 clear hb1 HFAR
 by_cases hf : 12000 < e.weight
 ·rw [decide_eq_true hf]
  clear hf
  go_wp2
  go_ret
  exact ⟨rfl, HB1.out⟩
 rw [decide_eq_false hf]
 have hsz : e.size ≤ 12000 := by have := e.size_le_weight; omega
 have HSZ := Lib.hid hsz
 have h6 := lent_10 e hsz _ w1 (HAT.out.below HB1.out)
 unfold ET.agg at h6
 have H6 := Lib.hid h6
 clear hf hsz h6
 go_wp2_with fail
 refine H6.out.mono ?_
 rintro ev w2 ⟨kv2, rfl, hon2, hb2⟩
 obtain ⟨a2, c2, rfl⟩ := hon2.slice
 have hat2 : e.At w2 (.slice a2 e.kids.length c2) := hon2.wide (fun _ _ => trivial)
 have HAT2 := Lib.hid hat2
 have K12 := Lib.hid (keepB K1.out hb2)
 have HB2 := Lib.hid (stepB HB1.out hb2)
 have hb2x := HB2.out.alloc HB2.out.size (.cells #[.int .u8 e.op, .slice a2 e.kids.length c2, .int .i64 e.col, .int .u8 e.lit.kind, .bool e.lit.bool, .int .i64 e.lit.int, .string e.lit.text] 27)
 have h7 := fold_7 e a2 c2 (w2.alloc (.cells #[.int .u8 e.op, .slice a2 e.kids.length c2, .int .i64 e.col, .int .u8 e.lit.kind, .bool e.lit.bool, .int .i64 e.lit.int, .string e.lit.text] 27)) HFIT.out (hat2.below (one_below _ _)) (tabs_below HT.out hb2x H3.out) (cell_keep hb2x HE.out) (Nat.le_trans H3.out hb2x.size)
 obtain ⟨F, eF⟩ : ∃ F, F = foldE e := ⟨_, rfl⟩
 obtain ⟨N, eN⟩ : ∃ N, N = foldN e := ⟨_, rfl⟩
 obtain ⟨G, eG⟩ : ∃ G, G = foldE F := ⟨_, rfl⟩
 have hfs : F.size ≤ 12000 := by rw [eF]; exact Nat.le_trans (foldE_size e) HSZ.out
 have hff : F.fits := by rw [eF]; exact foldE_fits HFIT.out
 have hN : (N = 0 ∧ G = F) ∨ N = 30 := by rw [eG, eF, eN]; exact foldN_case e
 have h8 := fun (W : World) (hb : Below w.heap.size w W) => rfold_8 e a cc W HFIT.out (HAT.out.below hb)
 rw [← eF, ← eN] at h7
 simp only [← eF, ← eN] at h8
 unfold ET.agg at h7 h8
 have H7 := Lib.hid h7
 have H8 := Lib.hid h8
 have HFS := Lib.hid hfs
 have HFF := Lib.hid hff
 have HN := Lib.hid hN
 have EG := Lib.hid eG
 clear y0 y1 y2 y3 y4 y5 y6 ys hb2 hb2x hon2 hat2 h7 h8 eF eN hfs hff hN eG H6 K1
 go_wp2_with fail
 refine H7.out.mono ?_
 rintro ev w3 ⟨kv3, rfl, hon3, hb3⟩
 obtain ⟨a3, c3, rfl⟩ := hon3.slice
 have hat3 : F.At w3 (.slice a3 F.kids.length c3) := hon3.wide (fun _ _ => trivial)
 have HAT3 := Lib.hid hat3
 have K33 := Lib.hid (one_at hb3)
 have K13 := Lib.hid (keepB K12.out (stepA hb3))
 have HAT23 := Lib.hid (HAT2.out.below (stepA hb3))
 have HB3 := Lib.hid (stepB HB2.out (stepA hb3))
 obtain ⟨y0, y1, y2, y3, y4, y5, y6⟩ := cs7 K13.out
 have ys := lt_of_heap K13.out
 clear hb3 hon3 hat3 H7 K12 HAT2
 go_wp2_with fail
 refine (H8.out _ (HB3.out.alloc HB3.out.size _)).mono ?_
 rintro ev w4 ⟨kv4, rfl, hat4, hb4⟩
 obtain ⟨a4, c4, rfl⟩ := hat4.slice
 have HAT4 := Lib.hid hat4
 have K44 := Lib.hid (one_at hb4)
 have K14 := Lib.hid (keepB K13.out (stepA hb4))
 have K34 := Lib.hid (keepB K33.out (stepA hb4))
 have HAT24 := Lib.hid (HAT23.out.below (stepA hb4))
 have HAT34 := Lib.hid (HAT3.out.below (stepA hb4))
 have HB4 := Lib.hid (stepB HB3.out (stepA hb4))
 obtain ⟨x0, x1, x2, x3, x4, x5, x6⟩ := cs7 K44.out
 have xs := lt_of_heap K44.out
 have hb4x := HB4.out.alloc HB4.out.size (.cells #[.int .u8 F.op, .slice a4 F.kids.length c4, .int .i64 F.col, .int .u8 F.lit.kind, .bool F.lit.bool, .int .i64 F.lit.int, .string F.lit.text] 27)
 have h7 := fold_7 F a3 c3 (w4.alloc (.cells #[.int .u8 F.op, .slice a4 F.kids.length c4, .int .i64 F.col, .int .u8 F.lit.kind, .bool F.lit.bool, .int .i64 F.lit.int, .string F.lit.text] 27)) HFF.out (HAT34.out.below (one_below _ _)) (tabs_below HT.out hb4x H3.out) (cell_keep hb4x HE.out) (Nat.le_trans H3.out hb4x.size)
 rw [← EG.out] at h7
 unfold ET.agg at h7
 have H7 := Lib.hid h7
 clear y0 y1 y2 y3 y4 y5 y6 ys hb4 hat4 hb4x h7 H8 K13 K33 HAT23 HAT3
 go_wp2_with fail
 refine H7.out.mono ?_
 rintro ev w5 ⟨kv5, rfl, hon5, hb5⟩
 obtain ⟨a5, c5, rfl⟩ := hon5.slice
 have hat5 : G.At w5 (.slice a5 G.kids.length c5) := hon5.wide (fun _ _ => trivial)
 have HAT5 := Lib.hid hat5
 have K55 := Lib.hid (one_at hb5)
 have K15 := Lib.hid (keepB K14.out (stepA hb5))
 have K35 := Lib.hid (keepB K34.out (stepA hb5))
 have K45 := Lib.hid (keepB K44.out (stepA hb5))
 have HAT25 := Lib.hid (HAT24.out.below (stepA hb5))
 have HAT35 := Lib.hid (HAT34.out.below (stepA hb5))
 have HAT45 := Lib.hid (HAT4.out.below (stepA hb5))
 have HB5 := Lib.hid (stepB HB4.out (stepA hb5))
 obtain ⟨NG, eNG⟩ : ∃ NG, NG = foldN F := ⟨_, rfl⟩
 rw [← eNG]
 clear x0 x1 x2 x3 x4 x5 x6 xs hb5 hon5 hat5 H7 eNG K14 K34 K44 HAT24 HAT34 HAT4
 go_wp2_with fail
 refine (HKN.out _ (HB5.out.alloc HB5.out.size _)).mono ?_
 rintro ev w6 ⟨rfl, hb6⟩
 have K66 := Lib.hid (one_at hb6)
 have K16 := Lib.hid (keepB K15.out (stepA hb6))
 have K36 := Lib.hid (keepB K35.out (stepA hb6))
 have K46 := Lib.hid (keepB K45.out (stepA hb6))
 have K56 := Lib.hid (keepB K55.out (stepA hb6))
 have A1 := Lib.hid (HAT.out.below (stepB HB5.out (stepA hb6)))
 have A2 := Lib.hid (HAT25.out.below (stepA hb6))
 have A3 := Lib.hid (HAT35.out.below (stepA hb6))
 have A4 := Lib.hid (HAT45.out.below (stepA hb6))
 have A5 := Lib.hid (HAT5.out.below (stepA hb6))
 have HB6 := Lib.hid (stepB HB5.out (stepA hb6))
 have h10 := same_15 F HFS.out _ _ w6 A3.out A4.out
 unfold ET.agg at h10
 have H10 := Lib.hid h10
 have h11 := fun (W : World) (hb : Below w6.heap.size w6 W) => same_15 e HSZ.out _ _ W (A2.out.below hb) (A1.out.below hb)
 unfold ET.agg at h11
 have H11 := Lib.hid h11
 obtain ⟨x0, x1, x2, x3, x4, x5, x6⟩ := cs7 K46.out
 have xs := lt_of_heap K46.out
 obtain ⟨v0, v1, v2, v3, v4, v5, v6⟩ := cs7 K56.out
 have vs := lt_of_heap K56.out
 clear hb6 h10 h11 K15 K35 K45 K55 HAT25 HAT35 HAT45 HAT5
 rcases HN.out with ⟨hN, hG⟩ | hN
 ·subst hN
  rw [hG] at K66 A5 ⊢
  have h12 := fun (W : World) (hb : Below w6.heap.size w6 W) => same_15 F HFS.out _ _ W (A5.out.below hb) (A3.out.below hb)
  unfold ET.agg at h12
  have H12 := Lib.hid h12
  clear hG h12 HN
  go_wp2_with fail
  refine H10.out.mono ?_
  rintro ev w7 ⟨rfl, hb7⟩
  clear x0 x1 x2 x3 x4 x5 x6 xs v0 v1 v2 v3 v4 v5 v6 vs
  have K37 := Lib.hid (keepB K36.out hb7)
  have K17 := Lib.hid (keepB K16.out hb7)
  have HB7 := Lib.hid hb7
  obtain ⟨x0, x1, x2, x3, x4, x5, x6⟩ := cs7 K37.out
  have xs := lt_of_heap K37.out
  obtain ⟨v0, v1, v2, v3, v4, v5, v6⟩ := cs7 K17.out
  have vs := lt_of_heap K17.out
  clear hb7
  go_wp2_with fail
  refine (H11.out _ HB7.out).mono ?_
  rintro ev w8 ⟨rfl, hb8⟩
  clear x0 x1 x2 x3 x4 x5 x6 xs v0 v1 v2 v3 v4 v5 v6 vs
  have HB8 := Lib.hid (HB7.out.trans (hb8.mono HB7.out.size))
  have K68 := Lib.hid (keepB K66.out HB8.out)
  have K48 := Lib.hid (keepB K46.out HB8.out)
  obtain ⟨x0, x1, x2, x3, x4, x5, x6⟩ := cs7 K68.out
  have xs := lt_of_heap K68.out
  obtain ⟨v0, v1, v2, v3, v4, v5, v6⟩ := cs7 K48.out
  have vs := lt_of_heap K48.out
  clear hb8
  go_wp2_with fail
  refine (H12.out _ HB8.out).mono ?_
  rintro ev w9 ⟨rfl, hb9⟩
  have HB9 := Lib.hid (HB8.out.trans (hb9.mono HB8.out.size))
  clear hb9
  go_wp2_with fail
  go_ret
  exact ⟨rfl, stepB HB6.out HB9.out⟩
 ·subst hN
  clear HN
  go_wp2_with fail
  refine H10.out.mono ?_
  rintro ev w7 ⟨rfl, hb7⟩
  clear x0 x1 x2 x3 x4 x5 x6 xs v0 v1 v2 v3 v4 v5 v6 vs
  have K37 := Lib.hid (keepB K36.out hb7)
  have K17 := Lib.hid (keepB K16.out hb7)
  have HB7 := Lib.hid hb7
  obtain ⟨x0, x1, x2, x3, x4, x5, x6⟩ := cs7 K37.out
  have xs := lt_of_heap K37.out
  obtain ⟨v0, v1, v2, v3, v4, v5, v6⟩ := cs7 K17.out
  have vs := lt_of_heap K17.out
  clear hb7
  go_wp2_with fail
  refine (H11.out _ HB7.out).mono ?_
  rintro ev w8 ⟨rfl, hb8⟩
  clear x0 x1 x2 x3 x4 x5 x6 xs v0 v1 v2 v3 v4 v5 v6 vs
  have HB8 := Lib.hid (HB7.out.trans (hb8.mono HB7.out.size))
  clear hb8
  go_wp2_with fail
  go_ret
  exact ⟨rfl, stepB HB6.out HB8.out⟩
theorem means_4 (r : List Dat) (e : ET) (a : Option Addr) (cc : Nat) (ra : Option Addr) (rc : Nat) (w : World) (hat : e.At w (.slice a e.kids.length cc)) (hr : RowAt w (.slice ra r.length rc) r) (hfit : e.fits) (hrf : ∀ d ∈ r, d.fits) (hrl : r.length ≤ 17592186043904) (hT : Lib.Utf8Tabs 0 1 w) (hE : ErrTy w) (h3 : 3 ≤ w.heap.size) :
  Calls Tryz.prog 4 #[e.agg (.slice a e.kids.length cc), .slice ra r.length rc] w fun ev w' => ev = .returned (.bool true) ∧ Below w.heap.size w w' := by
 have HAT := Lib.hid hat
 have HT := Lib.hid hT
 have HE := Lib.hid hE
 have H3 := Lib.hid h3
 have HFIT := Lib.hid hfit
 have HKN : Hid (∀ W, Below w.heap.size w W → Calls Tryz.prog 9 #[] W fun ev W' => ev = .returned (.bool true) ∧ Below W.heap.size W W') := Lib.hid fun W hb => known_9 W (tabs_below hT hb h3) (cell_keep hb hE) (Nat.le_trans h3 hb.size)
 have hfar := far_8 e a e.kids.length cc (w.alloc (.cells #[.int .u8 e.op, .slice a e.kids.length cc, .int .i64 e.col, .int .u8 e.lit.kind, .bool e.lit.bool, .int .i64 e.lit.int, .string e.lit.text] 27)) (hat.below (one_below _ _)) hfit
 unfold ET.agg at hfar
 have HFAR := Lib.hid hfar
 have HR := Lib.hid hr
 have hfr := fun (W : World) (hb : Below w.heap.size w W) => far_9 _ r W (hr.below hb) hrl hrf
 have HFR := Lib.hid hfr
 have h13 := fun (W : World) (hb : Below w.heap.size w W) => check_13 r _ W (hr.below hb) hrf
 have H13 := Lib.hid h13
 have hxn := evalR_le r e hrf hfit
 have HRF := Lib.hid hrf
 clear hfar hat hT hE h3 hfit hfr h13 hr hrf
 unfold ET.agg
 go_enter Tryz.func4, Tryz.ntmps4
 go_wp2_with fail
 refine HFAR.out.mono ?_
 rintro ev w1 ⟨rfl, hb1⟩
 have K1 := Lib.hid (one_at hb1)
 have HB1 := Lib.hid (stepA hb1)
 obtain ⟨y0, y1, y2, y3, y4, y5, y6⟩ := cs7 K1.out
 have ys := lt_of_heap K1.out
 clear hb1 HFAR
 by_cases hf : 12000 < e.weight
 ·rw [decide_eq_true hf]
  clear hf hxn
  go_wp2
  go_ret
  exact ⟨rfl, HB1.out⟩
 rw [decide_eq_false hf]
 have hfr := HFR.out w1 HB1.out
 clear hf HFR
 by_cases hf : 12000 < rowW r
 ·rw [decide_eq_true hf] at hfr
  have HFR := Lib.hid hfr
  clear hf hfr hxn
  go_wp2_with (go_at_call 11; refine HFR.out.mono ?_; rintro ev w2 ⟨rfl, rfl⟩)
  go_ret
  exact ⟨rfl, HB1.out⟩
 rw [decide_eq_false hf] at hfr
 have HFR := Lib.hid hfr
 have h12 := reval_13 r e a cc ra rc w1 HFIT.out HRF.out (HAT.out.below HB1.out) (HR.out.below HB1.out)
 have hmean := fun (ho : rowOk r = true) (h0 : (evalR r e).2 = 0) => fold_means (r := r) (e := e) (by simp only [rowOk, Bool.and_eq_true, List.all_eq_true] at ho; exact ho.2) h0
 generalize evalR r e = X at *
 obtain ⟨D, n⟩ := X
 unfold RefPost resI Dat.agg at h12
 unfold ET.agg at h12
 have H12 := Lib.hid h12
 have HMEAN := Lib.hid hmean
 simp only at hxn
 clear hf hfr h12 hmean
 go_wp2_with (go_at_call 11; refine HFR.out.mono ?_; rintro ev w2 ⟨rfl, rfl⟩)
 refine H12.out.mono ?_
 rintro ev w2 ⟨rfl, hb2⟩
 have K12 := Lib.hid (keepB K1.out hb2)
 have HB2 := Lib.hid (stepB HB1.out hb2)
 have hb2x := HB2.out.alloc HB2.out.size (.cells #[.int .u8 D.kind, .bool D.bool, .int .i64 D.int, .string D.text] 25)
 have h7 := fold_7 e a cc (w2.alloc (.cells #[.int .u8 D.kind, .bool D.bool, .int .i64 D.int, .string D.text] 25)) HFIT.out (HAT.out.below hb2x) (tabs_below HT.out hb2x H3.out) (cell_keep hb2x HE.out) (Nat.le_trans H3.out hb2x.size)
 obtain ⟨F, eF⟩ : ∃ F, F = foldE e := ⟨_, rfl⟩
 obtain ⟨N, eN⟩ : ∃ N, N = foldN e := ⟨_, rfl⟩
 have hff : F.fits := by rw [eF]; exact foldE_fits HFIT.out
 have hN : N = 0 ∨ N = 30 := by rw [eN]; exact (foldN_case e).imp And.left id
 rw [← eF, ← eN] at h7
 rw [← eF] at HMEAN
 unfold ET.agg at h7
 have H7 := Lib.hid h7
 have HFF := Lib.hid hff
 have HN := Lib.hid hN
 clear y0 y1 y2 y3 y4 y5 y6 ys hb2 hb2x h7 hff hN eF eN H12 K1
 obtain ⟨y0, y1, y2, y3, y4, y5, y6⟩ := cs7 K12.out
 have ys := lt_of_heap K12.out
 go_wp2_with fail
 refine H7.out.mono ?_
 rintro ev w3 ⟨kv3, rfl, hon3, hb3⟩
 obtain ⟨a3, c3, rfl⟩ := hon3.slice
 have hat3 : F.At w3 (.slice a3 F.kids.length c3) := hon3.wide (fun _ _ => trivial)
 have HAT3 := Lib.hid hat3
 have KD3 := Lib.hid (one_at hb3)
 have HB3 := Lib.hid (stepB HB2.out (stepA hb3))
 clear y0 y1 y2 y3 y4 y5 y6 ys hb3 hon3 hat3 H7 K12
 by_cases hn : n = 0
 rotate_left
 ·have hn1 : ((n : Int) == 0) = false := by simp; omega
  have hn2 : ¬ (n : Int) = 0 := by omega
  go_wp2_with fail
  refine (HKN.out _ (HB3.out.alloc HB3.out.size _)).mono ?_
  rintro ev w9 ⟨rfl, hb9⟩
  go_wp2_with fail
  go_ret
  exact ⟨rfl, stepB ((HB3.out.alloc HB3.out.size _)) hb9⟩
 subst hn
 rcases HN.out with hN | hN
 rotate_left
 ·subst hN
  go_wp2_with fail
  refine (HKN.out _ (HB3.out.alloc HB3.out.size _)).mono ?_
  rintro ev w9 ⟨rfl, hb9⟩
  go_wp2_with fail
  go_ret
  exact ⟨rfl, stepB ((HB3.out.alloc HB3.out.size _)) hb9⟩
 subst hN
 clear HN
 go_wp2_with fail
 refine (H13.out _ (HB3.out.alloc HB3.out.size _)).mono ?_
 rintro ev w4 ⟨c, rfl, hc, hb4⟩
 have HB4 := Lib.hid (stepB HB3.out (stepA hb4))
 have KF4 := Lib.hid (one_at hb4)
 have KD4 := Lib.hid (keepB KD3.out (stepA hb4))
 have HAT4 := Lib.hid (HAT3.out.below (stepA hb4))
 clear hb4 KD3 HAT3 H13
 by_cases hc0 : c = 0
 rotate_left
 ·have hn1 : ((c : Int) == 0) = false := by simp; omega
  have hn2 : ¬ (c : Int) = 0 := by omega
  go_wp2_with fail
  refine (HKN.out _ HB4.out).mono ?_
  rintro ev w9 ⟨rfl, hb9⟩
  go_wp2_with fail
  go_ret
  exact ⟨rfl, stepB (HB4.out) hb9⟩
 have hev := HMEAN.out (hc.1 hc0) (by first | rfl | trivial)
 subst hc0
 have h12 := reval_13 r F a3 c3 ra rc w4 HFF.out HRF.out HAT4.out (HR.out.below HB4.out)
 rw [hev] at h12
 unfold RefPost resI Dat.agg at h12
 unfold ET.agg at h12
 have H12 := Lib.hid h12
 clear hev h12 hc HMEAN
 obtain ⟨x0, x1, x2, x3, x4, x5, x6⟩ := cs7 KF4.out
 have xs := lt_of_heap KF4.out
 go_wp2_with fail
 refine H12.out.mono ?_
 rintro ev w5 ⟨rfl, hb5⟩
 have HB5 := Lib.hid (stepB HB4.out hb5)
 have KD5 := Lib.hid (keepB KD4.out hb5)
 clear x0 x1 x2 x3 x4 x5 x6 xs hb5 KD4 KF4 H12
 go_wp2_with fail
 refine (HKN.out _ (HB5.out.alloc HB5.out.size _)).mono ?_
 rintro ev w6 ⟨rfl, hb6⟩
 have KE6 := Lib.hid (one_at hb6)
 have KD6 := Lib.hid (keepB KD5.out (stepA hb6))
 have HB6 := Lib.hid (stepB HB5.out (stepA hb6))
 have q := run_eq_dat D D.kind D.bool D.int D.text
 rw [decide_eq_true (show D = ⟨D.kind, D.bool, D.int, D.text⟩ from rfl)] at q
 obtain ⟨x0, x1, x2, x3⟩ := cs4 KE6.out
 have xs := lt_of_heap KE6.out
 obtain ⟨v0, v1, v2, v3⟩ := cs4 KD6.out
 have vs := lt_of_heap KD6.out
 clear hb6 KD5
 go_wp2_with fail
 go_ret
 exact ⟨rfl, HB6.out⟩
end Go.Proofs.YtmmhedlagnjbiaaGreatDoor
