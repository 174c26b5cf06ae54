import Derived.Test.YtolikaginhjbhaaGreatDoorFb
/- expr.Eval. -/
namespace Go.Proofs.YtolikaginhjbhaaGreatDoor
open Go.RowKit Go.Pen Go.Shelf
attribute [local go_sem] Oper.semAt_some

/-- what Eval answers -/
def evalR (r : List Dat) (e : ET) : Res := if e.may okD = true ∧ e.within r.length = true then (if (e.val r).2 = 0 then e.val r else bad (e.val r).2) else bad 30

set_option maxRecDepth 100000 in
set_option maxHeartbeats 1000000 in
theorem eval_12 (r : List Dat) (e : ET) (a : Option Addr) (cc : Nat) (ra : Option Addr) (rc : Nat) (w : World) (hfit : e.fits) (hat : e.At w (.slice a e.kids.length cc)) (hT : Lib.Utf8Tabs 1 2 w) (hE : ErrTy w) (h11 : 3 ≤ w.heap.size)
    (hev : e.may okD = true → e.within r.length = true → EvalOK r (.slice ra r.length rc) w e) :
    Calls Tryz.prog 12 #[e.agg (.slice a e.kids.length cc), .slice ra r.length rc] w (ResPost (evalR r e) w) := by
  have hov := fun W hb => over_41 e a cc r.length W hfit (hat.below (w' := W) hb) (tabs_below hT hb h11) (Nat.le_trans h11 hb.size)
  unfold ET.agg at hov
  have HOV := Lib.hid hov
  have HAT := Lib.hid hat
  have HE := Lib.hid hE
  clear hov hat hfit hT hE
  obtain ⟨R, eR⟩ : ∃ R, R = evalR r e := ⟨_, rfl⟩
  rw [← eR]
  unfold evalR at eR
  by_cases hok : e.may okD = true ∧ e.within r.length = true
  rotate_left
  · rw [if_neg hok] at eR
    subst eR
    have hno : (e.may okD && e.within r.length) = false := by
      cases h1 : e.may okD
      · rfl
      · cases h2 : e.within r.length
        · rfl
        · exact absurd ⟨h1, h2⟩ hok
    rw [hno] at HOV
    clear hok hno hev
    unfold ET.agg
    go_enter Tryz.func12, Tryz.ntmps12
    go_wp2_with (go_at_call 41; refine (HOV.out _ (two_below _ _ _)).mono ?_; rintro ev w1 ⟨rfl, hb1⟩; obtain ⟨t1, t2⟩ := two_at hb1; have y0 := cell_of_heap (o := 0) t1 rfl; have y1 := cell_of_heap (o := 1) t1 rfl; have y2 := cell_of_heap (o := 2) t1 rfl; have y3 := cell_of_heap (o := 3) t1 rfl; have y4 := cell_of_heap (o := 4) t1 rfl; have y5 := cell_of_heap (o := 5) t1 rfl; have y6 := cell_of_heap (o := 6) t1 rfl; have z0 := cell_of_heap (o := 0) t2 rfl; have g0 := frozen_of_heap (o := 0) t2; have z1 := cell_of_heap (o := 1) t2 rfl; have g1 := frozen_of_heap (o := 1) t2; have z2 := cell_of_heap (o := 2) t2 rfl; have g2 := frozen_of_heap (o := 2) t2; have z3 := cell_of_heap (o := 3) t2 rfl; have g3 := frozen_of_heap (o := 3) t2; have T1 := Lib.hid t1; have T2 := Lib.hid t2; have HB1 := Lib.hid ((two_below _ _ _).trans (hb1.mono (by simp <;> omega))); clear hb1 t1 t2)
    refine bodyPost_ret (results_row_tmp rfl _ _ (w.heap.size + 1) 25 _ (0, 0) _ rfl (setRow4_at T2.out) Tryz.underlying25 rfl (by kernel_rfl)) rfl ?_
    exact ⟨rfl, setRow4_below HB1.out (by show w.heap.size ≤ w.heap.size + 1; omega)⟩
  · rw [if_pos hok] at eR
    have hce := fun (W : World) (hb : Below w.heap.size w W) => hev hok.1 hok.2 _ W hb (HAT.out.below hb)
    unfold ET.agg at hce
    have HCE := Lib.hid hce
    rw [hok.1, hok.2] at HOV
    simp only [Bool.and_true] at HOV
    clear hok hce hev
    generalize e.val r = v at *
    unfold ET.agg
    by_cases hv : v.2 = 0
    · rw [if_pos hv] at eR
      subst eR
      have HV := Lib.hid hv
      clear hv
      go_enter Tryz.func12, Tryz.ntmps12
      go_wp2_with (first | (go_at_call 41; refine (HOV.out _ (two_below _ _ _)).mono ?_; rintro ev w1 ⟨rfl, hb1⟩; obtain ⟨t1, t2⟩ := two_at hb1; have y0 := cell_of_heap (o := 0) t1 rfl; have y1 := cell_of_heap (o := 1) t1 rfl; have y2 := cell_of_heap (o := 2) t1 rfl; have y3 := cell_of_heap (o := 3) t1 rfl; have y4 := cell_of_heap (o := 4) t1 rfl; have y5 := cell_of_heap (o := 5) t1 rfl; have y6 := cell_of_heap (o := 6) t1 rfl; have z0 := cell_of_heap (o := 0) t2 rfl; have g0 := frozen_of_heap (o := 0) t2; have z1 := cell_of_heap (o := 1) t2 rfl; have g1 := frozen_of_heap (o := 1) t2; have z2 := cell_of_heap (o := 2) t2 rfl; have g2 := frozen_of_heap (o := 2) t2; have z3 := cell_of_heap (o := 3) t2 rfl; have g3 := frozen_of_heap (o := 3) t2; have T1 := Lib.hid t1; have T2 := Lib.hid t2; have HB1 := Lib.hid ((two_below _ _ _).trans (hb1.mono (by simp <;> omega))); clear hb1 t1 t2) | (go_at_call 42; refine (HCE.out _ HB1.out).mono ?_; rintro ev w3 ⟨rfl, hb3⟩; have t3 := (hb3.block _ (lt_of_heap T2.out)).trans T2.out; have keep : ∀ (A : Obj) {g : Nat} {y : Obj}, w3.heap[g]? = some y → (w3.alloc A).heap[g]? = some y := (fun A g y h => (Below.heap_alloc _ _ _ (lt_of_heap h)).trans h); have z0 := fun A => cell_of_heap (o := 0) (keep A t3) rfl; have g0 := fun A => frozen_of_heap (o := 0) (keep A t3); have z1 := fun A => cell_of_heap (o := 1) (keep A t3) rfl; have g1 := fun A => frozen_of_heap (o := 1) (keep A t3); have z2 := fun A => cell_of_heap (o := 2) (keep A t3) rfl; have g2 := fun A => frozen_of_heap (o := 2) (keep A t3); have z3 := fun A => cell_of_heap (o := 3) (keep A t3) rfl; have g3 := fun A => frozen_of_heap (o := 3) (keep A t3); have T3 := Lib.hid t3; have KEEP := Lib.hid @keep; have HB3 := Lib.hid (HB1.out.trans (hb3.mono HB1.out.size)); unfold evT Dat.agg; rw [HV.out, errV_zero]; clear hb3 t3 keep))
      refine bodyPost_ret (results_row_tmp rfl _ _ (w.heap.size + 1) 25 _ (0, 0) _ rfl (setRow4_at (KEEP.out _ T3.out)) Tryz.underlying25 rfl (by kernel_rfl)) rfl ?_
      refine ⟨?_, setRow4_below (HB3.out.alloc HB3.out.size _) (by show w.heap.size ≤ w.heap.size + 1; omega)⟩
      rw [show resT R = .tuple #[R.1.agg, .int .u16 ((R.2 : Nat) : Int)] from rfl, HV.out]
      rfl
    · rw [if_neg hv] at eR
      subst eR
      have hev := errV_ne hv
      have HEV := Lib.hid hev
      have hnum := fun (W : World) (hb : Below w.heap.size w W) => number_43 v.2 W hv (cell_keep hb HE.out)
      rw [hev] at hnum
      have HNUM := Lib.hid hnum
      clear hv hev hnum
      go_enter Tryz.func12, Tryz.ntmps12
      go_wp2_with (first | (go_at_call 41; refine (HOV.out _ (two_below _ _ _)).mono ?_; rintro ev w1 ⟨rfl, hb1⟩; obtain ⟨t1, t2⟩ := two_at hb1; have y0 := cell_of_heap (o := 0) t1 rfl; have y1 := cell_of_heap (o := 1) t1 rfl; have y2 := cell_of_heap (o := 2) t1 rfl; have y3 := cell_of_heap (o := 3) t1 rfl; have y4 := cell_of_heap (o := 4) t1 rfl; have y5 := cell_of_heap (o := 5) t1 rfl; have y6 := cell_of_heap (o := 6) t1 rfl; have z0 := cell_of_heap (o := 0) t2 rfl; have g0 := frozen_of_heap (o := 0) t2; have z1 := cell_of_heap (o := 1) t2 rfl; have g1 := frozen_of_heap (o := 1) t2; have z2 := cell_of_heap (o := 2) t2 rfl; have g2 := frozen_of_heap (o := 2) t2; have z3 := cell_of_heap (o := 3) t2 rfl; have g3 := frozen_of_heap (o := 3) t2; have T1 := Lib.hid t1; have T2 := Lib.hid t2; have HB1 := Lib.hid ((two_below _ _ _).trans (hb1.mono (by simp <;> omega))); clear hb1 t1 t2) | (go_at_call 42; refine (HCE.out _ HB1.out).mono ?_; rintro ev w3 ⟨rfl, hb3⟩; have t3 := (hb3.block _ (lt_of_heap T2.out)).trans T2.out; have HB3 := Lib.hid (HB1.out.trans (hb3.mono HB1.out.size)); have T3 := Lib.hid t3; unfold evT Dat.agg; rw [HEV.out]; clear hb3 t3) | (go_at_call 43; refine (HNUM.out _ (HB3.out.alloc HB3.out.size _)).mono ?_; rintro ev w5 ⟨rfl, hb5⟩; have t5 := (hb5.block _ (lt_of_heap ((Below.heap_alloc _ _ _ (lt_of_heap T3.out)).trans T3.out))).trans ((Below.heap_alloc _ _ _ (lt_of_heap T3.out)).trans T3.out); have z0 := cell_of_heap (o := 0) t5 rfl; have g0 := frozen_of_heap (o := 0) t5; have z1 := cell_of_heap (o := 1) t5 rfl; have g1 := frozen_of_heap (o := 1) t5; have z2 := cell_of_heap (o := 2) t5 rfl; have g2 := frozen_of_heap (o := 2) t5; have z3 := cell_of_heap (o := 3) t5 rfl; have g3 := frozen_of_heap (o := 3) t5; have T5 := Lib.hid t5; have HB5 := Lib.hid ((HB3.out.alloc HB3.out.size _).trans (hb5.mono (HB3.out.alloc HB3.out.size _).size)); clear hb5 t5))
      refine bodyPost_ret (results_row_tmp rfl _ _ (w.heap.size + 1) 25 _ (0, 0) _ rfl (setRow4_at T5.out) Tryz.underlying25 rfl (by kernel_rfl)) rfl ?_
      exact ⟨rfl, setRow4_below HB5.out (by show w.heap.size ≤ w.heap.size + 1; omega)⟩
end Go.Proofs.YtolikaginhjbhaaGreatDoor
