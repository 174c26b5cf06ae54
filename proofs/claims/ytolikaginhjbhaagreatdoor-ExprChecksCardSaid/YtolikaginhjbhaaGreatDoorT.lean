import Derived.Test.YtolikaginhjbhaaGreatDoorS
import Derived.Test.YtolikaginhjbhaaGreatDoorO
/- The reference's Turn. -/
namespace Go.Proofs.YtolikaginhjbhaaGreatDoor
open Go.RowKit Go.Pen Go.Shelf
attribute [local go_sem] Oper.semAt_some

def T19 (cols : List Int) (e : ET) (w : World) (ev : Ending) (w' : World) : Prop :=
  ∃ (sa : Option Addr) (sn sc : Nat), ev = .returned (.tuple #[(rTurn cols e).agg (.slice sa sn sc), .int .i64 (rTurnN cols e)]) ∧ (rTurn cols e).On (Btw w.heap.size w'.heap.size) w' (.slice sa sn sc) ∧ Below w.heap.size w w'
theorem t19_no {cols : List Int} {e : ET} {w w' : World} (h : ¬ (e.may okD = true ∧ e.within cols.length = true ∧ e.tok cols = true)) (hb : Below w.heap.size w w') : T19 cols e w (.returned (.tuple #[.agg #[.int .u8 0, .slice none 0 0, .int .i64 0, .int .u8 0, .bool false, .int .i64 0, .string ⟨#[]⟩], .int .i64 30])) w' := by
  obtain ⟨h1, h2⟩ := rTurn_no h
  refine ⟨none, 0, 0, ?_, ?_, hb⟩
  · rw [h1, h2]; rfl
  · rw [h1]; exact on_nil _ _ _ _ _
theorem t19_yes {cols : List Int} {e : ET} {w w' : World} {sa : Option Addr} {sn sc : Nat} (h : rTurn cols e = e.turn cols ∧ rTurnN cols e = 0) (ho : (e.turn cols).On (Btw w.heap.size w'.heap.size) w' (.slice sa sn sc)) (hb : Below w.heap.size w w') : T19 cols e w (.returned (.tuple #[(e.turn cols).agg (.slice sa sn sc), .int .i64 0])) w' := by
  refine ⟨sa, sn, sc, ?_, ?_, hb⟩
  · rw [h.1, h.2]; rfl
  · rw [h.1]; exact ho
theorem two_at {w w1 : World} {a b : Obj} (hb : Below ((w.alloc a).alloc b).heap.size ((w.alloc a).alloc b) w1) : w1.heap[w.heap.size]? = some a ∧ w1.heap[w.heap.size + 1]? = some b := by
  refine ⟨(hb.block _ (by simp <;> omega)).trans ?_, (hb.block _ (by simp <;> omega)).trans ?_⟩
  · rw [Below.heap_alloc _ _ _ (by simp <;> omega)]
    exact heap_alloc_new w a
  · have h := heap_alloc_new (w.alloc a) b
    rw [World.size_alloc] at h
    exact h

set_option maxRecDepth 100000 in
set_option maxHeartbeats 2000000 in
theorem turn_19 (cols : List Int) (e : ET) (a : Option Addr) (cc : Nat) (va : Option Addr) (vcc : Nat) (w : World) (hfit : e.fits) (hat : e.At w (.slice a e.kids.length cc)) (hcols : IntsOn (fun _ => True) w cols (.slice va cols.length vcc))
    (h33 : ∀ W, Below w.heap.size w W → Calls Tryz.prog 33 #[e.agg (.slice a e.kids.length cc)] W fun ev w' => ev = .returned (.int .i64 (if e.may okD then 0 else 30)) ∧ Below W.heap.size W w') :
    Calls Tryz.prog 19 #[e.agg (.slice a e.kids.length cc), .slice va cols.length vcc] w (T19 cols e w) := by
  have hwi := fun W hb => within_44 e _ cols.length W (hat.below (w' := W) hb) hfit
  unfold ET.agg at h33 hwi
  have H33 := Lib.hid h33
  have HWI := Lib.hid hwi
  have HAT := Lib.hid hat
  have HFIT := Lib.hid hfit
  have HCOLS := Lib.hid hcols
  clear h33 hwi hat hfit hcols
  unfold ET.agg
  by_cases hm : e.may okD = true
  rotate_left
  · have HNO3 := Lib.hid (show ¬ (e.may okD = true ∧ e.within cols.length = true ∧ e.tok cols = true) from fun h => hm h.1)
    rw [if_neg hm] at H33
    clear hm
    go_enter Tryz.func19, Tryz.ntmps19
    go_wp2_with (first | (go_at_call 33; refine (H33.out _ (two_below _ _ _)).mono ?_; rintro ev w1 ⟨rfl, hb1⟩; obtain ⟨t1, t2⟩ := two_at hb1; have y0 := cell_of_heap (o := 0) t1 rfl; have y1 := cell_of_heap (o := 1) t1 rfl; have y2 := cell_of_heap (o := 2) t1 rfl; have y3 := cell_of_heap (o := 3) t1 rfl; have y4 := cell_of_heap (o := 4) t1 rfl; have y5 := cell_of_heap (o := 5) t1 rfl; have y6 := cell_of_heap (o := 6) t1 rfl; have z0 := cell_of_heap (o := 0) t2 rfl; have g0 := frozen_of_heap (o := 0) t2; have z1 := cell_of_heap (o := 1) t2 rfl; have g1 := frozen_of_heap (o := 1) t2; have z2 := cell_of_heap (o := 2) t2 rfl; have g2 := frozen_of_heap (o := 2) t2; have z3 := cell_of_heap (o := 3) t2 rfl; have g3 := frozen_of_heap (o := 3) t2; have z4 := cell_of_heap (o := 4) t2 rfl; have g4 := frozen_of_heap (o := 4) t2; have z5 := cell_of_heap (o := 5) t2 rfl; have g5 := frozen_of_heap (o := 5) t2; have z6 := cell_of_heap (o := 6) t2 rfl; have g6 := frozen_of_heap (o := 6) t2; have T2 := Lib.hid t2; have HB1 := Lib.hid hb1; clear hb1 t1 t2))
    refine bodyPost_ret (results_row_tmp rfl _ _ (w.heap.size + 1) 27 _ (0, 0) _ rfl (setRow7_at T2.out) Tryz.underlying27 rfl (by kernel_rfl)) rfl ?_
    exact t19_no HNO3.out (setRow7_below ((two_below _ _ _).trans (HB1.out.mono (by simp <;> omega))) (by show w.heap.size ≤ w.heap.size + 1; omega))
  · have HMAY := Lib.hid hm
    rw [if_pos hm] at H33
    by_cases hw : e.within cols.length = true
    rotate_left
    · have HNO3 := Lib.hid (show ¬ (e.may okD = true ∧ e.within cols.length = true ∧ e.tok cols = true) from fun h => hw h.2.1)
      rw [show e.within cols.length = false by simpa using hw] at HWI
      clear hm hw
      go_enter Tryz.func19, Tryz.ntmps19
      go_wp2_with (first | (go_at_call 33; refine (H33.out _ (two_below _ _ _)).mono ?_; rintro ev w1 ⟨rfl, hb1⟩; obtain ⟨t1, t2⟩ := two_at hb1; have y0 := cell_of_heap (o := 0) t1 rfl; have y1 := cell_of_heap (o := 1) t1 rfl; have y2 := cell_of_heap (o := 2) t1 rfl; have y3 := cell_of_heap (o := 3) t1 rfl; have y4 := cell_of_heap (o := 4) t1 rfl; have y5 := cell_of_heap (o := 5) t1 rfl; have y6 := cell_of_heap (o := 6) t1 rfl; have T1 := Lib.hid t1; have T2 := Lib.hid t2; have HB1 := Lib.hid hb1; clear hb1 t1 t2) | (go_at_call 44; refine (HWI.out _ ((two_below _ _ _).trans (HB1.out.mono (by simp <;> omega)))).mono ?_; rintro ev w3 ⟨rfl, hb3⟩; have t2 := (hb3.block _ (lt_of_heap T2.out)).trans T2.out; have z0 := cell_of_heap (o := 0) t2 rfl; have g0 := frozen_of_heap (o := 0) t2; have z1 := cell_of_heap (o := 1) t2 rfl; have g1 := frozen_of_heap (o := 1) t2; have z2 := cell_of_heap (o := 2) t2 rfl; have g2 := frozen_of_heap (o := 2) t2; have z3 := cell_of_heap (o := 3) t2 rfl; have g3 := frozen_of_heap (o := 3) t2; have z4 := cell_of_heap (o := 4) t2 rfl; have g4 := frozen_of_heap (o := 4) t2; have z5 := cell_of_heap (o := 5) t2 rfl; have g5 := frozen_of_heap (o := 5) t2; have z6 := cell_of_heap (o := 6) t2 rfl; have g6 := frozen_of_heap (o := 6) t2; have T3 := Lib.hid t2; have HB3 := Lib.hid hb3; clear hb3 t2))
      refine bodyPost_ret (results_row_tmp rfl _ _ (w.heap.size + 1) 27 _ (0, 0) _ rfl (setRow7_at T3.out) Tryz.underlying27 rfl (by kernel_rfl)) rfl ?_
      have h1 : Below w.heap.size w w1 := (two_below _ _ _).trans (HB1.out.mono (by simp <;> omega))
      exact t19_no HNO3.out (setRow7_below (h1.trans (HB3.out.mono h1.size)) (by show w.heap.size ≤ w.heap.size + 1; omega))
    · have HW := Lib.hid hw
      rw [hw] at HWI
      have hgood := ET.may_good hm
      have htt := fun (W : World) hb => turned_52 cols e (size_of_may hm) (fun _ => True) _ _ 1 W (HAT.out.below hb) (HCOLS.out.below hb) HFIT.out hgood hw
      unfold ET.agg at htt
      have HTT := Lib.hid htt
      clear hm hw hgood htt
      go_enter Tryz.func19, Tryz.ntmps19
      go_wp2_with (first | (go_at_call 33; refine (H33.out _ (two_below _ _ _)).mono ?_; rintro ev w1 ⟨rfl, hb1⟩; obtain ⟨t1, t2⟩ := two_at hb1; have y0 := cell_of_heap (o := 0) t1 rfl; have y1 := cell_of_heap (o := 1) t1 rfl; have y2 := cell_of_heap (o := 2) t1 rfl; have y3 := cell_of_heap (o := 3) t1 rfl; have y4 := cell_of_heap (o := 4) t1 rfl; have y5 := cell_of_heap (o := 5) t1 rfl; have y6 := cell_of_heap (o := 6) t1 rfl; have T1 := Lib.hid t1; have T2 := Lib.hid t2; have HB1 := Lib.hid hb1; clear hb1 t1 t2) | (go_at_call 44; refine (HWI.out _ ((two_below _ _ _).trans (HB1.out.mono (by simp <;> omega)))).mono ?_; rintro ev w3 ⟨rfl, hb3⟩; have t1 := (hb3.block _ (lt_of_heap T1.out)).trans T1.out; have t2 := (hb3.block _ (lt_of_heap T2.out)).trans T2.out; have y0 := cell_of_heap (o := 0) t1 rfl; have y1 := cell_of_heap (o := 1) t1 rfl; have y2 := cell_of_heap (o := 2) t1 rfl; have y3 := cell_of_heap (o := 3) t1 rfl; have y4 := cell_of_heap (o := 4) t1 rfl; have y5 := cell_of_heap (o := 5) t1 rfl; have y6 := cell_of_heap (o := 6) t1 rfl; have T3 := Lib.hid t2; have HB3 := Lib.hid hb3; clear hb3 t1 t2))
      have h1 : Below w.heap.size w w1 := (two_below _ _ _).trans (HB1.out.mono (by simp <;> omega))
      have h3 : Below w.heap.size w w3 := h1.trans (HB3.out.mono h1.size)
      have H3 := Lib.hid h3
      refine (HTT.out _ h3).mono ?_
      rintro ev w5 ⟨hb5, x, sa, sn, sc, rfl, hx⟩
      have hw1 : w.heap.size + 2 ≤ w1.heap.size := by have := HB1.out.size; simpa using this
      have hw3 := HB3.out.size
      have t5 := (hb5.block _ (lt_of_heap T3.out)).trans T3.out
      have T5 := Lib.hid t5
      have HB5 := Lib.hid hb5
      have HX := Lib.hid hx
      have keep : ∀ (A : Obj) {g : Nat} {y : Obj}, w5.heap[g]? = some y → (w5.alloc A).heap[g]? = some y := fun A g y h => (Below.heap_alloc _ _ _ (lt_of_heap h)).trans h
      have KEEP := Lib.hid @keep
      clear h1 h3 hb5 hx y0 y1 y2 y3 y4 y5 y6 t5
      have h5 : Below w.heap.size w w5 := H3.out.trans (HB5.out.mono H3.out.size)
      have H5 := Lib.hid h5
      unfold ET.agg
      have z0 := fun A => cell_of_heap (o := 0) (keep A T5.out) rfl
      have g0 := fun A => frozen_of_heap (o := 0) (keep A T5.out)
      have z1 := fun A => cell_of_heap (o := 1) (keep A T5.out) rfl
      have g1 := fun A => frozen_of_heap (o := 1) (keep A T5.out)
      have z2 := fun A => cell_of_heap (o := 2) (keep A T5.out) rfl
      have g2 := fun A => frozen_of_heap (o := 2) (keep A T5.out)
      have z3 := fun A => cell_of_heap (o := 3) (keep A T5.out) rfl
      have g3 := fun A => frozen_of_heap (o := 3) (keep A T5.out)
      have z4 := fun A => cell_of_heap (o := 4) (keep A T5.out) rfl
      have g4 := fun A => frozen_of_heap (o := 4) (keep A T5.out)
      have z5 := fun A => cell_of_heap (o := 5) (keep A T5.out) rfl
      have g5 := fun A => frozen_of_heap (o := 5) (keep A T5.out)
      have z6 := fun A => cell_of_heap (o := 6) (keep A T5.out) rfl
      have g6 := fun A => frozen_of_heap (o := 6) (keep A T5.out)
      clear h5 keep
      cases htk : e.tok cols
      · have HNO3 := Lib.hid (show ¬ (e.may okD = true ∧ e.within cols.length = true ∧ e.tok cols = true) from fun h => by rw [htk] at h; cases h.2.2)
        clear htk
        go_wp2
        refine bodyPost_ret (results_row_tmp rfl _ _ (w.heap.size + 1) 27 _ (0, 0) _ rfl (setRow7_at (KEEP.out _ T5.out)) Tryz.underlying27 rfl (by kernel_rfl)) rfl ?_
        exact t19_no HNO3.out (setRow7_below (H5.out.alloc H5.out.size _) (by show w.heap.size ≤ w.heap.size + 1; omega))
      · have HYES := Lib.hid (rTurn_yes ⟨HMAY.out, HW.out, htk⟩)
        obtain ⟨rfl, hon⟩ := HX.out htk
        have HON := Lib.hid hon
        have hsn : sn = (e.turn cols).kids.length := by
          obtain ⟨a9, c9, h9⟩ := hon.slice
          cases h9
          rfl
        subst hsn
        clear htk hon HX
        go_wp2
        refine bodyPost_ret (results_row_tmp rfl _ _ (w.heap.size + 1) 27 _ (0, 0) _ rfl (setRow7_at (KEEP.out _ T5.out)) Tryz.underlying27 rfl (by kernel_rfl)) rfl ?_
        refine t19_yes HYES.out ?_ (setRow7_below (H5.out.alloc H5.out.size _) (by show w.heap.size ≤ w.heap.size + 1; omega))
        refine (HON.out.frame fun g hg9 hgl => ?_).wide fun g hg9 => ⟨by have := hg9.1; have := H3.out.size; omega, by have := hg9.2; simp [World.setCell]; omega⟩
        have hg1 := hg9.1
        exact (setRow7_ne (by omega)).trans (Below.heap_alloc _ _ _ hgl)
end Go.Proofs.YtolikaginhjbhaaGreatDoor
