import Derived.Test.YtmmhedlagnjbiaaGreatDoorOf
import Derived.Test.YtmmhedlagnjbiaaGreatDoorOa
import Derived.Test.YtmmhedlagnjbiaaGreatDoorFm
/- our texts, shortened by program (pack.py) -/
set_option maxRecDepth 100000
set_option maxHeartbeats 2000000
namespace Go.Proofs.YtmmhedlagnjbiaaGreatDoor
open Go.RowKit Go.Pen
attribute [local go_sem] Oper.semAt_some
theorem fold_out {x : ET} {w w3 W : World} {H : Nat} {kv v0 v1 v2 v3 v4 v5 v6 : Value} (hon : x.On (Btw w3.heap.size W.heap.size) W kv) (hl : H + 1 < w3.heap.size) (eH : H = w.heap.size) (hw : Below w.heap.size w W) :
  x.On (Btw w.heap.size (setRow7 W (H + 1) v0 v1 v2 v3 v4 v5 v6).heap.size) (setRow7 W (H + 1) v0 v1 v2 v3 v4 v5 v6) kv ∧ Below w.heap.size w (setRow7 W (H + 1) v0 v1 v2 v3 v4 v5 v6) := by
 refine ⟨(hon.frame fun g hg _ => setRow7_ne (by have := hg.1; omega)).wide fun g hg => ⟨by have := hg.1; omega, by rw [setRow7_size]; exact hg.2⟩, setRow7_below hw (by omega)⟩
theorem fold_7 (e : ET) (a : Option Addr) (cc : Nat) (w : World) (hfit : e.fits) (hat : e.At w (.slice a e.kids.length cc)) (hT : Lib.Utf8Tabs 0 1 w) (hE : ErrTy w) (h3 : 3 ≤ w.heap.size) :
  Calls Tryz.prog 7 #[e.agg (.slice a e.kids.length cc)] w fun ev w' => ∃ kv', ev = .returned (.tuple #[(foldE e).agg kv', .int .u16 (foldN e)]) ∧ (foldE e).On (Btw w.heap.size w'.heap.size) w' kv' ∧ Below w.heap.size w w' := by
 have hck := fun (W : World) (hb : Below w.heap.size w W) => chk_21 e a cc W hfit (hat.below hb) (tabs_below hT hb h3) (Nat.le_trans h3 hb.size)
 obtain ⟨F, eF⟩ : ∃ F, F = foldE e := ⟨_, rfl⟩
 obtain ⟨N, eN⟩ : ∃ N, N = foldN e := ⟨_, rfl⟩
 rw [← eF, ← eN]
 obtain ⟨H, eH⟩ : ∃ H, H = w.heap.size := ⟨_, rfl⟩
 have EH := Lib.hid eH
 by_cases hm : e.may okD = true
 ·have hm' := hm
  simp only [ET.may, Bool.and_eq_true, decide_eq_true_eq] at hm'
  have hF : F = e.fold stepP := by rw [eF, foldE, if_pos hm]
  have hN : N = 0 := by rw [eN, foldN, if_pos hm]
  subst hN
  have hfo := fun (W : World) (hb : Below w.heap.size w W) => folded_18 e 1 (fun _ => True) _ W (hat.below hb) hfit (by decide) hm'.1 hm'.2 (tabs_below hT hb h3) (cell_keep hb hE) (Nat.le_trans h3 hb.size)
  have hfs : F.size ≤ 12000 := by rw [hF]; have h : (e.fold stepP).size ≤ e.size := fold_size coalOk_P e 1 hm'.1; omega
  rw [← hF] at hfo
  have hcl := clone_17 F hfs
  simp only [if_pos hm] at hck
  obtain ⟨o, c, d, ks⟩ := e
  simp only [ET.kids] at *
  obtain ⟨K, eK⟩ : ∃ K, K = ks.length := ⟨_, rfl⟩
  simp only [← eK] at hck hfo ⊢
  rw [show (ET.mk o c d ks).agg (.slice a K cc) = .agg #[.int .u8 o, .slice a K cc, .int .i64 c, .int .u8 d.kind, .bool d.bool, .int .i64 d.int, .string d.text] from rfl] at *
  have HCK := Lib.hid hck
  have HFO := Lib.hid hfo
  have HCL := Lib.hid hcl
  clear hck hfo hcl hat hfit hT hE eF eN hm hm' hF hfs eK eH
  obtain ⟨w1, hw1⟩ : ∃ w1, w1 = (w.alloc (.cells #[.int .u8 o, .slice a K cc, .int .i64 c, .int .u8 d.kind, .bool d.bool, .int .i64 d.int, .string d.text] 27)).alloc (.cells #[.int .u8 0, .slice none 0 0, .int .i64 0, .int .u8 0, .bool false, .int .i64 0, .string ⟨#[]⟩] 27) := ⟨_, rfl⟩
  have hb1 : Below w.heap.size w w1 := by rw [hw1]; exact two_below _ _ _
  have ht := two_at (w := w) (w1 := w1) (a := .cells #[.int .u8 o, .slice a K cc, .int .i64 c, .int .u8 d.kind, .bool d.bool, .int .i64 d.int, .string d.text] 27) (b := .cells #[.int .u8 0, .slice none 0 0, .int .i64 0, .int .u8 0, .bool false, .int .i64 0, .string ⟨#[]⟩] 27) (by rw [hw1]; exact Below.refl _ _)
  rw [← EH.out] at ht
  have HB1 := Lib.hid hb1
  have T01 := Lib.hid ht.1
  have T11 := Lib.hid ht.2
  have HW1 := Lib.hid hw1
  clear hb1 ht hw1
  go_enter Tryz.func7, Tryz.ntmps7
  go_wp2_with fail
  rw [← HW1.out, ← EH.out]
  refine (HCK.out w1 HB1.out).mono ?_
  rintro ev w2 ⟨rfl, hb⟩
  have HB2 := Lib.hid (HB1.out.trans (hb.mono HB1.out.size))
  have T02 := Lib.hid ((hb.block _ (lt_of_heap T01.out)).trans T01.out)
  have T12 := Lib.hid ((hb.block _ (lt_of_heap T11.out)).trans T11.out)
  clear hb HB1 T01 T11 HW1 HCK
  obtain ⟨y0, y1, y2, y3, y4, y5, y6⟩ := cs7 T02.out
  go_wp2_with fail
  refine (HFO.out w2 HB2.out).mono ?_
  rintro ev w3 ⟨kv3, rfl, hon3, hb⟩
  have HON3 := Lib.hid hon3
  have HB3 := Lib.hid (HB2.out.trans (hb.mono HB2.out.size))
  have T13 := Lib.hid ((hb.block _ (lt_of_heap T12.out)).trans T12.out)
  clear hb hon3 y0 y1 y2 y3 y4 y5 y6 HB2 T02 T12 HFO
  obtain ⟨a3, c3, rfl⟩ := HON3.out.slice
  go_wp2_with fail
  refine (HCL.out _ w3 HON3.out.at).mono ?_
  rintro ev w4 ⟨kv4, rfl, hon4, hb⟩
  have HON4 := Lib.hid hon4
  have HB4 := Lib.hid (HB3.out.trans (hb.mono HB3.out.size))
  have T14 := Lib.hid ((hb.block _ (lt_of_heap T13.out)).trans T13.out)
  have HLT := Lib.hid (lt_of_heap T13.out)
  clear hb hon4 HB3 T13 HCL HON3
  obtain ⟨a4, c4, rfl⟩ := HON4.out.slice
  rw [show F.agg (.slice a4 F.kids.length c4) = .agg #[.int .u8 F.op, .slice a4 F.kids.length c4, .int .i64 F.col, .int .u8 F.lit.kind, .bool F.lit.bool, .int .i64 F.lit.int, .string F.lit.text] from rfl]
  obtain ⟨z0, g0, z1, g1, z2, g2, z3, g3, z4, g4, z5, g5, z6, g6⟩ := cf7 T14.out
  go_wp2
  refine bodyPost_ret (results_row_tmp rfl _ _ (H + 1) 27 _ (0, 0) _ rfl (setRow7_at T14.out) Tryz.underlying27 rfl (by kernel_rfl)) rfl ?_
  exact ⟨_, rfl, fold_out HON4.out HLT.out EH.out HB4.out⟩
 ·have hF : F = zeroE := by rw [eF, foldE, if_neg hm]
  have hN : N = 30 := by rw [eN, foldN, if_neg hm]
  subst hN
  subst hF
  simp only [if_neg hm] at hck
  obtain ⟨o, c, d, ks⟩ := e
  simp only [ET.kids] at *
  obtain ⟨K, eK⟩ : ∃ K, K = ks.length := ⟨_, rfl⟩
  simp only [← eK] at hck ⊢
  rw [show (ET.mk o c d ks).agg (.slice a K cc) = .agg #[.int .u8 o, .slice a K cc, .int .i64 c, .int .u8 d.kind, .bool d.bool, .int .i64 d.int, .string d.text] from rfl] at *
  have HCK := Lib.hid hck
  clear hck hat hfit hT hE eF eN hm eK eH
  obtain ⟨w1, hw1⟩ : ∃ w1, w1 = (w.alloc (.cells #[.int .u8 o, .slice a K cc, .int .i64 c, .int .u8 d.kind, .bool d.bool, .int .i64 d.int, .string d.text] 27)).alloc (.cells #[.int .u8 0, .slice none 0 0, .int .i64 0, .int .u8 0, .bool false, .int .i64 0, .string ⟨#[]⟩] 27) := ⟨_, rfl⟩
  have hb1 : Below w.heap.size w w1 := by rw [hw1]; exact two_below _ _ _
  have ht := two_at (w := w) (w1 := w1) (a := .cells #[.int .u8 o, .slice a K cc, .int .i64 c, .int .u8 d.kind, .bool d.bool, .int .i64 d.int, .string d.text] 27) (b := .cells #[.int .u8 0, .slice none 0 0, .int .i64 0, .int .u8 0, .bool false, .int .i64 0, .string ⟨#[]⟩] 27) (by rw [hw1]; exact Below.refl _ _)
  rw [← EH.out] at ht
  have HB1 := Lib.hid hb1
  have T11 := Lib.hid ht.2
  have HW1 := Lib.hid hw1
  clear hb1 ht hw1
  go_enter Tryz.func7, Tryz.ntmps7
  go_wp2_with fail
  rw [← HW1.out, ← EH.out]
  refine (HCK.out w1 HB1.out).mono ?_
  rintro ev w2 ⟨rfl, hb⟩
  have HB2 := Lib.hid (HB1.out.trans (hb.mono HB1.out.size))
  have T12 := Lib.hid ((hb.block _ (lt_of_heap T11.out)).trans T11.out)
  clear hb HB1 T11 HW1 HCK
  obtain ⟨z0, g0, z1, g1, z2, g2, z3, g3, z4, g4, z5, g5, z6, g6⟩ := cf7 T12.out
  go_wp2
  refine bodyPost_ret (results_row_tmp rfl _ _ (H + 1) 27 _ (0, 0) _ rfl (setRow7_at T12.out) Tryz.underlying27 rfl (by kernel_rfl)) rfl ?_
  exact ⟨.slice none 0 0, rfl, ET.On.iff.2 ⟨none, 0, rfl, fun _ => rfl, fun h => absurd rfl h⟩, setRow7_below HB2.out (by have := EH.out; omega)⟩
end Go.Proofs.YtmmhedlagnjbiaaGreatDoor
