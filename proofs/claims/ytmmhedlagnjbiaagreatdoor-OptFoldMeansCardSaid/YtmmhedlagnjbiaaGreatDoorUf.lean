import Derived.Test.YtmmhedlagnjbiaaGreatDoorUc
import Derived.MapKept
/- our texts, shortened by program (pack.py) -/
set_option maxRecDepth 100000
set_option maxHeartbeats 8000000
namespace Go.Proofs.YtmmhedlagnjbiaaGreatDoor
open Go.RowKit Go.Pen Go.Shelf
attribute [local go_sem] Oper.semAt_some
theorem comp_num (o : Int) (a b : Dat) : (compD o a b).2 ≤ 65535 := (compD_ok o a b).2
theorem twoD_cmp {o : Int} {a b : Dat} (h : 11 ≤ o) : twoD o a b = compD o a b := by
 unfold twoD
 rw [if_neg (by omega), if_neg (by omega), if_neg (by omega), if_neg (by omega), if_neg (by omega), if_neg (by omega)]
theorem twos_no (k : Int) (hlo : 11 ≤ k) (hhi : k ≤ 16) (w : World) : Calls Tryz.prog 111 #[.int .u8 k] w fun ev w' => ev = .returned (.func (.func 151) #[] #[.pointer (some ⟨w.heap.size + 1 + 1, 0, none⟩), .pointer (some ⟨w.heap.size, 0, none⟩)]) ∧ Below w.heap.size w w' ∧ w'.heap[w.heap.size + 1 + 1]? = some (.cells #[.func (.func 150) #[] #[]] 193 (0, 0)) ∧ w'.heap[w.heap.size]? = some (.cells #[.int .u8 k] 5 (0, 0)) := by
 have hmm := @run_makeMap Tryz.prog
 have hf : Instr.findNow (.int .u8) (.int .u8 k) twosL 0 = some none := by
  rcases (show k = 11 ∨ k = 12 ∨ k = 13 ∨ k = 14 ∨ k = 15 ∨ k = 16 by omega) with rfl | rfl | rfl | rfl | rfl | rfl <;> rfl
 have i0 : (Instr.mapUpdate 191 (.map (some (w.heap.size + 1))) (.int .u8 4) (.func (.func 144) #[] #[])).run Tryz.prog ((w.alloc (.cells #[.int .u8 k] 5)).alloc (.map #[] 0)) = .ok () ((w.alloc (.cells #[.int .u8 k] 5)).alloc (.map #[{ key := .int .u8 4, val := .func (.func 144) #[] #[], born := 0 }] 1)) := ins_law 191 _ under201 (w.alloc (.cells #[.int .u8 k] 5)) _ (by simp) #[] 0 4 _ rfl
 have i1 : (Instr.mapUpdate 191 (.map (some (w.heap.size + 1))) (.int .u8 5) (.func (.func 145) #[] #[])).run Tryz.prog ((w.alloc (.cells #[.int .u8 k] 5)).alloc (.map #[{ key := .int .u8 4, val := .func (.func 144) #[] #[], born := 0 }] 1)) = .ok () ((w.alloc (.cells #[.int .u8 k] 5)).alloc (.map #[{ key := .int .u8 4, val := .func (.func 144) #[] #[], born := 0 }, { key := .int .u8 5, val := .func (.func 145) #[] #[], born := 1 }] 2)) := ins_law 191 _ under201 (w.alloc (.cells #[.int .u8 k] 5)) _ (by simp) #[{ key := .int .u8 4, val := .func (.func 144) #[] #[], born := 0 }] 1 5 _ rfl
 have i2 : (Instr.mapUpdate 191 (.map (some (w.heap.size + 1))) (.int .u8 6) (.func (.func 146) #[] #[])).run Tryz.prog ((w.alloc (.cells #[.int .u8 k] 5)).alloc (.map #[{ key := .int .u8 4, val := .func (.func 144) #[] #[], born := 0 }, { key := .int .u8 5, val := .func (.func 145) #[] #[], born := 1 }] 2)) = .ok () ((w.alloc (.cells #[.int .u8 k] 5)).alloc (.map #[{ key := .int .u8 4, val := .func (.func 144) #[] #[], born := 0 }, { key := .int .u8 5, val := .func (.func 145) #[] #[], born := 1 }, { key := .int .u8 6, val := .func (.func 146) #[] #[], born := 2 }] 3)) := ins_law 191 _ under201 (w.alloc (.cells #[.int .u8 k] 5)) _ (by simp) #[{ key := .int .u8 4, val := .func (.func 144) #[] #[], born := 0 }, { key := .int .u8 5, val := .func (.func 145) #[] #[], born := 1 }] 2 6 _ rfl
 have i3 : (Instr.mapUpdate 191 (.map (some (w.heap.size + 1))) (.int .u8 7) (.func (.func 147) #[] #[])).run Tryz.prog ((w.alloc (.cells #[.int .u8 k] 5)).alloc (.map #[{ key := .int .u8 4, val := .func (.func 144) #[] #[], born := 0 }, { key := .int .u8 5, val := .func (.func 145) #[] #[], born := 1 }, { key := .int .u8 6, val := .func (.func 146) #[] #[], born := 2 }] 3)) = .ok () ((w.alloc (.cells #[.int .u8 k] 5)).alloc (.map #[{ key := .int .u8 4, val := .func (.func 144) #[] #[], born := 0 }, { key := .int .u8 5, val := .func (.func 145) #[] #[], born := 1 }, { key := .int .u8 6, val := .func (.func 146) #[] #[], born := 2 }, { key := .int .u8 7, val := .func (.func 147) #[] #[], born := 3 }] 4)) := ins_law 191 _ under201 (w.alloc (.cells #[.int .u8 k] 5)) _ (by simp) #[{ key := .int .u8 4, val := .func (.func 144) #[] #[], born := 0 }, { key := .int .u8 5, val := .func (.func 145) #[] #[], born := 1 }, { key := .int .u8 6, val := .func (.func 146) #[] #[], born := 2 }] 3 7 _ rfl
 have i4 : (Instr.mapUpdate 191 (.map (some (w.heap.size + 1))) (.int .u8 8) (.func (.func 148) #[] #[])).run Tryz.prog ((w.alloc (.cells #[.int .u8 k] 5)).alloc (.map #[{ key := .int .u8 4, val := .func (.func 144) #[] #[], born := 0 }, { key := .int .u8 5, val := .func (.func 145) #[] #[], born := 1 }, { key := .int .u8 6, val := .func (.func 146) #[] #[], born := 2 }, { key := .int .u8 7, val := .func (.func 147) #[] #[], born := 3 }] 4)) = .ok () ((w.alloc (.cells #[.int .u8 k] 5)).alloc (.map #[{ key := .int .u8 4, val := .func (.func 144) #[] #[], born := 0 }, { key := .int .u8 5, val := .func (.func 145) #[] #[], born := 1 }, { key := .int .u8 6, val := .func (.func 146) #[] #[], born := 2 }, { key := .int .u8 7, val := .func (.func 147) #[] #[], born := 3 }, { key := .int .u8 8, val := .func (.func 148) #[] #[], born := 4 }] 5)) := ins_law 191 _ under201 (w.alloc (.cells #[.int .u8 k] 5)) _ (by simp) #[{ key := .int .u8 4, val := .func (.func 144) #[] #[], born := 0 }, { key := .int .u8 5, val := .func (.func 145) #[] #[], born := 1 }, { key := .int .u8 6, val := .func (.func 146) #[] #[], born := 2 }, { key := .int .u8 7, val := .func (.func 147) #[] #[], born := 3 }] 4 8 _ rfl
 have i5 : (Instr.mapUpdate 191 (.map (some (w.heap.size + 1))) (.int .u8 9) (.func (.func 149) #[] #[])).run Tryz.prog ((w.alloc (.cells #[.int .u8 k] 5)).alloc (.map #[{ key := .int .u8 4, val := .func (.func 144) #[] #[], born := 0 }, { key := .int .u8 5, val := .func (.func 145) #[] #[], born := 1 }, { key := .int .u8 6, val := .func (.func 146) #[] #[], born := 2 }, { key := .int .u8 7, val := .func (.func 147) #[] #[], born := 3 }, { key := .int .u8 8, val := .func (.func 148) #[] #[], born := 4 }] 5)) = .ok () ((w.alloc (.cells #[.int .u8 k] 5)).alloc (.map #[{ key := .int .u8 4, val := .func (.func 144) #[] #[], born := 0 }, { key := .int .u8 5, val := .func (.func 145) #[] #[], born := 1 }, { key := .int .u8 6, val := .func (.func 146) #[] #[], born := 2 }, { key := .int .u8 7, val := .func (.func 147) #[] #[], born := 3 }, { key := .int .u8 8, val := .func (.func 148) #[] #[], born := 4 }, { key := .int .u8 9, val := .func (.func 149) #[] #[], born := 5 }] 6)) := ins_law 191 _ under201 (w.alloc (.cells #[.int .u8 k] 5)) _ (by simp) #[{ key := .int .u8 4, val := .func (.func 144) #[] #[], born := 0 }, { key := .int .u8 5, val := .func (.func 145) #[] #[], born := 1 }, { key := .int .u8 6, val := .func (.func 146) #[] #[], born := 2 }, { key := .int .u8 7, val := .func (.func 147) #[] #[], born := 3 }, { key := .int .u8 8, val := .func (.func 148) #[] #[], born := 4 }] 5 9 _ rfl
 have lk : (Instr.lookup 191 (.map (some (w.heap.size + 1))) (.int .u8 k) true).run Tryz.prog ((w.alloc (.cells #[.int .u8 k] 5)).alloc (.map #[{ key := .int .u8 4, val := .func (.func 144) #[] #[], born := 0 }, { key := .int .u8 5, val := .func (.func 145) #[] #[], born := 1 }, { key := .int .u8 6, val := .func (.func 146) #[] #[], born := 2 }, { key := .int .u8 7, val := .func (.func 147) #[] #[], born := 3 }, { key := .int .u8 8, val := .func (.func 148) #[] #[], born := 4 }, { key := .int .u8 9, val := .func (.func 149) #[] #[], born := 5 }] 6)) = .ok (.tuple #[.nilFunc, .bool false]) ((w.alloc (.cells #[.int .u8 k] 5)).alloc (.map #[{ key := .int .u8 4, val := .func (.func 144) #[] #[], born := 0 }, { key := .int .u8 5, val := .func (.func 145) #[] #[], born := 1 }, { key := .int .u8 6, val := .func (.func 146) #[] #[], born := 2 }, { key := .int .u8 7, val := .func (.func 147) #[] #[], born := 3 }, { key := .int .u8 8, val := .func (.func 148) #[] #[], born := 4 }, { key := .int .u8 9, val := .func (.func 149) #[] #[], born := 5 }] 6)) := look_no (w.alloc (.cells #[.int .u8 k] 5)) _ (by simp) #[{ key := .int .u8 4, val := .func (.func 144) #[] #[], born := 0 }, { key := .int .u8 5, val := .func (.func 145) #[] #[], born := 1 }, { key := .int .u8 6, val := .func (.func 146) #[] #[], born := 2 }, { key := .int .u8 7, val := .func (.func 147) #[] #[], born := 3 }, { key := .int .u8 8, val := .func (.func 148) #[] #[], born := 4 }, { key := .int .u8 9, val := .func (.func 149) #[] #[], born := 5 }] 6 k hf
 have h3 := three_at (w := w) (a := .cells #[.int .u8 k] 5) (b := .map #[{ key := .int .u8 4, val := .func (.func 144) #[] #[], born := 0 }, { key := .int .u8 5, val := .func (.func 145) #[] #[], born := 1 }, { key := .int .u8 6, val := .func (.func 146) #[] #[], born := 2 }, { key := .int .u8 7, val := .func (.func 147) #[] #[], born := 3 }, { key := .int .u8 8, val := .func (.func 148) #[] #[], born := 4 }, { key := .int .u8 9, val := .func (.func 149) #[] #[], born := 5 }] 6) (c := .cells #[.func (.func 150) #[] #[]] 193) (Below.refl _ _)
 have H3 := Lib.hid h3
 clear h3
 clear hf hlo hhi
 go_enter Tryz.func111, Tryz.ntmps111
 go_wp2_with fail
 go_ret
 exact ⟨rfl, three_below _ _ _ _, H3.out.2.2, H3.out.1⟩
theorem eval_cmp_gen (o : Int) (hp : PlainOp o) (h20 : o ≠ 20) (hlo : 11 ≤ o) (hhi : o ≤ 16) (r : List Dat) (rv : Value) (c : Int) (d : Dat) (k1 k2 : ET) (a : Option Addr) (cc : Nat) (w : World) (h11 : 3 ≤ w.heap.size)
  (hks : [k1, k2] ≠ [] → ∃ b o, a = some ⟨b, o, none⟩ ∧ True ∧ ET.Ons (fun _ => True) w [k1, k2] b o) (ih1 : EvalOK r rv w k1) (ih2 : EvalOK r rv w k2)
  (hT : Lib.Utf8Tabs 0 1 w) (hf1 : (k1.val r).1.fits) (hf2 : (k2.val r).1.fits) :
  Calls Tryz.prog 88 #[(ET.mk o c d [k1, k2]).agg (.slice a 2 cc), rv] w (EvalPost ((ET.mk o c d [k1, k2]).val r) w) := by
 rw [plain_val hp]
 simp only [ET.vals]
 obtain ⟨b, off, rfl, -, -⟩ := hks (by simp)
 obtain ⟨a1, c1, hk1, hat1⟩ := kid_at hks rfl (i := 0) rfl
 obtain ⟨a2, c2, hk2, hat2⟩ := kid_at hks rfl (i := 1) rfl
 rw [show off + 0 * 7 = off by omega] at hk1
 rw [show off + 1 * 7 = off + 7 by omega] at hk2
 have hc1 := fun (W : World) (hb : Below w.heap.size w W) => ih1 _ W hb (hat1.below hb)
 have hc2 := fun (W : World) (hb : Below w.heap.size w W) => ih2 _ W hb (hat2.below hb)
 have HK1 := Lib.hid hk1
 have HK2 := Lib.hid hk2
 generalize k1.val r = v1 at *
 generalize k2.val r = v2 at *
 unfold ET.agg at hc1 hc2
 have HC1 := Lib.hid hc1
 have HC2 := Lib.hid hc2
 have htw := twos_no o hlo hhi
 have hfn := fun (W : World) (hb : Below w.heap.size w W) (F O : Nat) hF hO => two_128 o v1.1 v2.1 F O W hlo hhi hf1 hf2 (tabs_below hT hb h11) (Nat.le_trans h11 hb.size) hF hO
 unfold Dat.agg at hfn
 have HTW := Lib.hid htw
 have HFN := Lib.hid hfn
 have HLO := Lib.hid hlo
 clear hlo hhi
 have o1 : (o == 1) = false := by simp; exact hp.1
 have o2 : (o == 2) = false := by simp; exact hp.2.1
 have o3 : (o == 23) = false := by simp; exact hp.2.2.1
 have o4 : (o == 18) = false := by simp; exact hp.2.2.2.1
 have o5 : (o == 19) = false := by simp; exact hp.2.2.2.2.1
 have o6 : (o == 21) = false := by simp; exact hp.2.2.2.2.2.1
 have o7 : (o == 22) = false := by simp; exact hp.2.2.2.2.2.2
 have o8 : (o == 20) = false := by simp; exact h20
 have H20 := Lib.hid h20
 clear hp h20
 clear hks ih1 ih2 hat1 hat2 hc1 hc2 htw hfn hk1 hk2 hT hf1 hf2
 unfold ET.agg
 simp only [ET.op, ET.col, ET.lit]
 obtain ⟨w1, hw1⟩ : ∃ w1, w1 = (w.alloc (.cells #[.int .u8 o, .slice (some ⟨b, off, none⟩) 2 cc, .int .i64 c, .int .u8 d.kind, .bool d.bool, .int .i64 d.int, .string d.text] 27)).alloc (.cells #[.int .u8 0, .bool false, .int .i64 0, .string ⟨#[]⟩] 25) := ⟨_, rfl⟩
 have hb1 : Below w.heap.size w w1 := by rw [hw1]; exact two_below _ _ _
 have ht := two_at (w := w) (w1 := w1) (a := .cells #[.int .u8 o, .slice (some ⟨b, off, none⟩) 2 cc, .int .i64 c, .int .u8 d.kind, .bool d.bool, .int .i64 d.int, .string d.text] 27) (b := .cells #[.int .u8 0, .bool false, .int .i64 0, .string ⟨#[]⟩] 25) (by rw [hw1]; exact Below.refl _ _)
 obtain ⟨m0, m1, m2, m3, m4, m5, m6⟩ := HK1.out.below hb1
 have HB1 := Lib.hid hb1
 have HT := Lib.hid ht
 have HW1 := Lib.hid hw1
 rw [hw1] at m0 m1 m2 m3 m4 m5 m6
 clear hb1 ht hw1
 go_enter Tryz.func88, Tryz.ntmps88
 go_wp2_with fail
 rw [← HW1.out]
 refine (HC1.out w1 HB1.out).mono ?_
 rintro ev w2 ⟨rfl, hb2⟩
 have hB2 : Below w.heap.size w w2 := HB1.out.trans (hb2.mono HB1.out.size)
 have t0 := (hb2.block _ (lt_of_heap HT.out.1)).trans HT.out.1
 have t1 := (hb2.block _ (lt_of_heap HT.out.2)).trans HT.out.2
 have T0 := Lib.hid t0
 have T1 := Lib.hid t1
 have HB2 := Lib.hid hB2
 clear hb2 hB2 m0 m1 m2 m3 m4 m5 m6 HW1 HT HB1 HC1
 unfold evT Dat.agg
 by_cases e1 : v1.2 = 0
 rotate_left
 ·rw [errV_ne e1]
  have hval : restV o [v1, v2] = bad v1.2 := by simp [restV, e1]
  have HVAL := Lib.hid hval
  have hev : evT (bad v1.2) = .tuple #[Dat.zero.agg, .iface 159 (.agg #[.int .u16 v1.2])] := by simp only [evT, bad]; rw [errV_ne e1]
  have HEV := Lib.hid hev
  clear hval hev e1
  have keep : ∀ (A : Obj) {g : Nat} {y : Obj}, w2.heap[g]? = some y → (w2.alloc A).heap[g]? = some y := fun A g y h => (Below.heap_alloc _ _ _ (lt_of_heap h)).trans h
  have z0 := fun A => cell_of_heap (o := 0) (keep A t1) rfl
  have z1 := fun A => cell_of_heap (o := 1) (keep A t1) rfl
  have z2 := fun A => cell_of_heap (o := 2) (keep A t1) rfl
  have z3 := fun A => cell_of_heap (o := 3) (keep A t1) rfl
  have g0 := fun A => frozen_of_heap (o := 0) (keep A t1)
  have g1 := fun A => frozen_of_heap (o := 1) (keep A t1)
  have g2 := fun A => frozen_of_heap (o := 2) (keep A t1)
  have g3 := fun A => frozen_of_heap (o := 3) (keep A t1)
  have KEEP := Lib.hid @keep
  clear t0 t1 keep
  go_wp2
  refine bodyPost_ret (results_row_tmp rfl _ _ (w.heap.size + 1) 25 _ (0, 0) _ rfl (setRow4_at (KEEP.out _ T1.out)) Tryz.underlying25 rfl (by kernel_rfl)) rfl ?_
  exact ⟨by rw [HVAL.out, HEV.out]; rfl, setRow4_below (HB2.out.alloc HB2.out.size _) (by show w.heap.size ≤ w.heap.size + 1; omega)⟩
 ·rw [e1]
  have hl1 : w.heap.size + 1 < w2.heap.size := lt_of_heap T1.out
  have HL1 := Lib.hid hl1
  clear hl1
  have hB3 := HB2.out.alloc HB2.out.size (.cells #[.int .u8 v1.1.kind, .bool v1.1.bool, .int .i64 v1.1.int, .string v1.1.text] 25)
  obtain ⟨w3, hw3⟩ : ∃ w3, w3 = w2.alloc (.cells #[.int .u8 v1.1.kind, .bool v1.1.bool, .int .i64 v1.1.int, .string v1.1.text] 25) := ⟨_, rfl⟩
  have ta : w3.heap[w2.heap.size]? = some (.cells #[.int .u8 v1.1.kind, .bool v1.1.bool, .int .i64 v1.1.int, .string v1.1.text] 25 (0, 0)) := by rw [hw3]; exact heap_alloc_new _ _
  have t0 := (show w3.heap[w.heap.size]? = w2.heap[w.heap.size]? by rw [hw3]; exact Below.heap_alloc _ _ _ (lt_of_heap T0.out)).trans T0.out
  have t1 := (show w3.heap[w.heap.size + 1]? = w2.heap[w.heap.size + 1]? by rw [hw3]; exact Below.heap_alloc _ _ _ (lt_of_heap T1.out)).trans T1.out
  rw [← hw3] at hB3
  obtain ⟨n0, n1, n2, n3, n4, n5, n6⟩ := HK2.out.below hB3
  have y0 := cell_of_heap (o := 0) t0 rfl
  have y1 := cell_of_heap (o := 1) t0 rfl
  have E1 := Lib.hid e1
  have HB3 := Lib.hid hB3
  have HW3 := Lib.hid hw3
  have TA := Lib.hid ta
  have T03 := Lib.hid t0
  have T13 := Lib.hid t1
  rw [hw3] at n0 n1 n2 n3 n4 n5 n6 y0 y1
  clear hB3 hw3 ta t0 t1 T0 T1 e1
  rw [errV_zero]
  go_wp2_with fail
  rw [← HW3.out]
  refine (HC2.out w3 HB3.out).mono ?_
  rintro ev w4 ⟨rfl, hb4⟩
  have hB4 : Below w.heap.size w w4 := HB3.out.trans (hb4.mono HB3.out.size)
  have ua := (hb4.block _ (lt_of_heap TA.out)).trans TA.out
  have u0 := (hb4.block _ (lt_of_heap T03.out)).trans T03.out
  have u1 := (hb4.block _ (lt_of_heap T13.out)).trans T13.out
  have hl2 : w2.heap.size < w4.heap.size := lt_of_heap ua
  have HL2 := Lib.hid hl2
  clear hl2
  have UA := Lib.hid ua
  have U0 := Lib.hid u0
  have U1 := Lib.hid u1
  have HB4 := Lib.hid hB4
  clear hb4 hB4 n0 n1 n2 n3 n4 n5 n6 y0 y1 HW3 TA T03 T13 HB3 HC2
  unfold evT Dat.agg
  have keep : ∀ (A : Obj) {g : Nat} {y : Obj}, w4.heap[g]? = some y → (w4.alloc A).heap[g]? = some y := fun A g y h => (Below.heap_alloc _ _ _ (lt_of_heap h)).trans h
  have KEEP := Lib.hid @keep
  by_cases e2 : v2.2 = 0
  rotate_left
  ·rw [errV_ne e2]
   have hval : restV o [v1, v2] = bad v2.2 := by simp [restV, E1.out, e2, H20.out]
   have hev : evT (bad v2.2) = .tuple #[Dat.zero.agg, .iface 159 (.agg #[.int .u16 v2.2])] := by simp only [evT, bad]; rw [errV_ne e2]
   have HVAL := Lib.hid hval
   have HEV := Lib.hid hev
   clear hval hev e2
   have z0 := fun A => cell_of_heap (o := 0) (keep A u1) rfl
   have g0 := fun A => frozen_of_heap (o := 0) (keep A u1)
   have z1 := fun A => cell_of_heap (o := 1) (keep A u1) rfl
   have g1 := fun A => frozen_of_heap (o := 1) (keep A u1)
   have z2 := fun A => cell_of_heap (o := 2) (keep A u1) rfl
   have g2 := fun A => frozen_of_heap (o := 2) (keep A u1)
   have z3 := fun A => cell_of_heap (o := 3) (keep A u1) rfl
   have g3 := fun A => frozen_of_heap (o := 3) (keep A u1)
   clear ua u0 u1 keep
   go_wp2
   refine bodyPost_ret (results_row_tmp rfl _ _ (w.heap.size + 1) 25 _ (0, 0) _ rfl (setRow4_at (KEEP.out _ U1.out)) Tryz.underlying25 rfl (by kernel_rfl)) rfl ?_
   exact ⟨by rw [HVAL.out, HEV.out]; rfl, setRow4_below (HB4.out.alloc HB4.out.size _) (by show w.heap.size ≤ w.heap.size + 1; omega)⟩
  ·rw [e2, errV_zero]
   have hval : restV o [v1, v2] = told (twoD o v1.1 v2.1) := by simp [restV, E1.out, e2, H20.out]
   have HVAL := Lib.hid hval
   obtain ⟨w5, hw5⟩ : ∃ w5, w5 = w4.alloc (.cells #[.int .u8 v2.1.kind, .bool v2.1.bool, .int .i64 v2.1.int, .string v2.1.text] 25) := ⟨_, rfl⟩
   have hB5 : Below w.heap.size w w5 := by rw [hw5]; exact HB4.out.alloc HB4.out.size _
   have va : w5.heap[w2.heap.size]? = some (.cells #[.int .u8 v1.1.kind, .bool v1.1.bool, .int .i64 v1.1.int, .string v1.1.text] 25 (0, 0)) := by rw [hw5]; exact keep _ ua
   have vb : w5.heap[w4.heap.size]? = some (.cells #[.int .u8 v2.1.kind, .bool v2.1.bool, .int .i64 v2.1.int, .string v2.1.text] 25 (0, 0)) := by rw [hw5]; exact heap_alloc_new _ _
   have v0 := (show w5.heap[w.heap.size]? = w4.heap[w.heap.size]? by rw [hw5]; exact Below.heap_alloc _ _ _ (lt_of_heap u0)).trans u0
   have v1' := (show w5.heap[w.heap.size + 1]? = w4.heap[w.heap.size + 1]? by rw [hw5]; exact Below.heap_alloc _ _ _ (lt_of_heap u1)).trans u1
   have HW5 := Lib.hid hw5
   have HB5 := Lib.hid hB5
   have VA := Lib.hid va
   have VB := Lib.hid vb
   have V0 := Lib.hid v0
   have V1 := Lib.hid v1'
   have y0 := fun A => cell_of_heap (o := 0) (keep A u0) rfl
   have y1 := fun A => cell_of_heap (o := 1) (keep A u0) rfl
   clear ua u0 u1 keep hval e2 hw5 hB5 va vb v0 v1' UA U0 U1
   go_wp2_with fail
   rw [← HW5.out]
   have hR : twoD o v1.1 v2.1 = compD o v1.1 v2.1 := twoD_cmp HLO.out
   have hnum : (compD o v1.1 v2.1).2 ≤ 65535 := comp_num o v1.1 v2.1
   obtain ⟨R, eR⟩ : ∃ R, R = compD o v1.1 v2.1 := ⟨_, rfl⟩
   rw [← eR] at HFN hR hnum
   have HR := Lib.hid hR
   have f0 := cell_of_heap (o := 0) V0.out rfl
   have p0 := cell_of_heap (o := 0) VA.out rfl
   have q0 := cell_of_heap (o := 0) VB.out rfl
   have p1 := cell_of_heap (o := 1) VA.out rfl
   have q1 := cell_of_heap (o := 1) VB.out rfl
   have p2 := cell_of_heap (o := 2) VA.out rfl
   have q2 := cell_of_heap (o := 2) VB.out rfl
   have p3 := cell_of_heap (o := 3) VA.out rfl
   have q3 := cell_of_heap (o := 3) VB.out rfl
   have HNUM := Lib.hid hnum
   clear y0 y1 hR eR HW5 hnum
   have hs5 : w5.cell? ⟨w.heap.size, 0, none⟩ = some (.int .u8 o) ∧ w5.cell? ⟨w2.heap.size, 0, none⟩ = some (.int .u8 v1.1.kind) ∧ w5.cell? ⟨w2.heap.size, 1, none⟩ = some (.bool v1.1.bool) ∧ w5.cell? ⟨w2.heap.size, 2, none⟩ = some (.int .i64 v1.1.int) ∧ w5.cell? ⟨w2.heap.size, 3, none⟩ = some (.string v1.1.text) ∧ w5.cell? ⟨w4.heap.size, 0, none⟩ = some (.int .u8 v2.1.kind) ∧ w5.cell? ⟨w4.heap.size, 1, none⟩ = some (.bool v2.1.bool) ∧ w5.cell? ⟨w4.heap.size, 2, none⟩ = some (.int .i64 v2.1.int) ∧ w5.cell? ⟨w4.heap.size, 3, none⟩ = some (.string v2.1.text) := ⟨f0, p0, p1, p2, p3, q0, q1, q2, q3⟩
   have HS5 := Lib.hid hs5
   have SKEEP : ∀ (w' : World), Below w5.heap.size w5 w' → w'.cell? ⟨w.heap.size, 0, none⟩ = some (.int .u8 o) ∧ w'.cell? ⟨w2.heap.size, 0, none⟩ = some (.int .u8 v1.1.kind) ∧ w'.cell? ⟨w2.heap.size, 1, none⟩ = some (.bool v1.1.bool) ∧ w'.cell? ⟨w2.heap.size, 2, none⟩ = some (.int .i64 v1.1.int) ∧ w'.cell? ⟨w2.heap.size, 3, none⟩ = some (.string v1.1.text) ∧ w'.cell? ⟨w4.heap.size, 0, none⟩ = some (.int .u8 v2.1.kind) ∧ w'.cell? ⟨w4.heap.size, 1, none⟩ = some (.bool v2.1.bool) ∧ w'.cell? ⟨w4.heap.size, 2, none⟩ = some (.int .i64 v2.1.int) ∧ w'.cell? ⟨w4.heap.size, 3, none⟩ = some (.string v2.1.text) := fun w' hb => ⟨cell_keep hb HS5.out.1, cell_keep hb HS5.out.2.1, cell_keep hb HS5.out.2.2.1, cell_keep hb HS5.out.2.2.2.1, cell_keep hb HS5.out.2.2.2.2.1, cell_keep hb HS5.out.2.2.2.2.2.1, cell_keep hb HS5.out.2.2.2.2.2.2.1, cell_keep hb HS5.out.2.2.2.2.2.2.2.1, cell_keep hb HS5.out.2.2.2.2.2.2.2.2⟩
   have HKEEP := Lib.hid SKEEP
   have ne1 : w.heap.size + 1 ≠ w2.heap.size := by have := HL1.out; omega
   have ne2 : w.heap.size + 1 ≠ w4.heap.size := by have := HL1.out; have := HL2.out; omega
   have ne3 : w2.heap.size ≠ w.heap.size + 1 := by have := HL1.out; omega
   have ne4 : w4.heap.size ≠ w.heap.size + 1 := by have := HL1.out; have := HL2.out; omega
   clear hs5 SKEEP
   go_region_held3 (fun w' => w'.cell? ⟨w.heap.size, 0, none⟩ = some (.int .u8 o) ∧ w'.cell? ⟨w2.heap.size, 0, none⟩ = some (.int .u8 v1.1.kind) ∧ w'.cell? ⟨w2.heap.size, 1, none⟩ = some (.bool v1.1.bool) ∧ w'.cell? ⟨w2.heap.size, 2, none⟩ = some (.int .i64 v1.1.int) ∧ w'.cell? ⟨w2.heap.size, 3, none⟩ = some (.string v1.1.text) ∧ w'.cell? ⟨w4.heap.size, 0, none⟩ = some (.int .u8 v2.1.kind) ∧ w'.cell? ⟨w4.heap.size, 1, none⟩ = some (.bool v2.1.bool) ∧ w'.cell? ⟨w4.heap.size, 2, none⟩ = some (.int .i64 v2.1.int) ∧ w'.cell? ⟨w4.heap.size, 3, none⟩ = some (.string v2.1.text))
    (first | go_keep | exact HKEEP.out _ hbS.out)
    (first
    | (go_at_call 111; refine (HTW.out _).mono ?_; rintro ev w6 ⟨rfl, hb6, hF6, hO6⟩; have HF6 := Lib.hid hF6; have HO6 := Lib.hid hO6; clear hF6 hO6; have hbS : Hid (Below w5.heap.size w5 w6) := Lib.hid (by first | exact hb6 | exact below_undrew hb6 | exact below_undrewN hb6); clear hb6)
    | (go_at_call 151; refine (HFN.out _ (by first | exact HB5.out.trans (hbS.out.mono HB5.out.size) | exact Go.Pen.below_drewN (HB5.out.trans (hbS.out.mono HB5.out.size))) _ _ (by first | exact HF6.out | simpa using HF6.out) (by first | exact HO6.out | simpa using HO6.out)).mono ?_; rintro ev w7 ⟨rfl, hb7⟩; have hbS : Hid (Below w5.heap.size w5 w7) := Lib.hid (hbS.out.trans ((show Below w6.heap.size w6 w7 by first | exact hb7 | exact below_undrew hb7 | exact below_undrewN hb7).mono hbS.out.size)); clear hb7; unfold resT Dat.agg)
    | (go_at_call 109; refine (told_86 R.1 R.2 _ HNUM.out).mono ?_; rintro ev w8 ⟨rfl, hb8⟩; have hbS : Hid (Below w5.heap.size w5 w8) := Lib.hid (hbS.out.trans ((show Below w7.heap.size w7 w8 by first | exact hb8 | exact below_undrew hb8 | exact below_undrewN hb8).mono hbS.out.size)); have t8 := (hbS.out.block _ (lt_of_heap V1.out)).trans V1.out; obtain ⟨z0, g0, z1, g1, z2, g2, z3, g3⟩ := cf4 t8; have V18 := Lib.hid t8; clear hb8 t8; unfold evT Dat.agg))
   go_wp2
   refine bodyPost_ret (results_row_tmp rfl _ _ (w.heap.size + 1) 25 _ (0, 0) _ rfl (setRow4_at V18.out) Tryz.underlying25 rfl (by kernel_rfl)) rfl ?_
   refine ⟨?_, setRow4_below (HB5.out.trans (hbS.out.mono HB5.out.size)) (by show w.heap.size ≤ w.heap.size + 1; omega)⟩
   rw [HVAL.out, HR.out]
   rfl
end Go.Proofs.YtmmhedlagnjbiaaGreatDoor
