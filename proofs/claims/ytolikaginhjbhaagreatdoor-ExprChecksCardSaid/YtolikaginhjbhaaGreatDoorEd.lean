import Derived.Test.YtolikaginhjbhaaGreatDoorEc
/- What datum's functions do of numbers and texts. -/
namespace Go.Proofs.YtolikaginhjbhaaGreatDoor
open Go.RowKit Go.Pen Go.Shelf
attribute [local go_sem] Oper.semAt_some

/-- a datum's box -/
def BoxAt (w : World) (b : Nat) (d : Dat) : Prop := w.heap[b]? = some (.cells #[.int .u8 d.kind, .bool d.bool, .int .i64 d.int, .string d.text] 25 (0, 0))

theorem add_law {x y : Int} (hx : -9223372036854775808 ≤ x ∧ x ≤ 9223372036854775807) (hy : -9223372036854775808 ≤ y ∧ y ≤ 9223372036854775807) : (if (!decide (x < wrap64 (x + y)) == decide (0 < y)) = true then bad 10 else (num (wrap64 (x + y)), 0)) = ov (x + y) := by
  unfold ov
  rcases (show (-9223372036854775808 ≤ x + y ∧ x + y ≤ 9223372036854775807) ∨ 9223372036854775807 < x + y ∨ x + y < -9223372036854775808 by omega) with h | h | h
  · have hw : wrap64 (x + y) = x + y := by unfold wrap64; omega
    have hq : (!decide (x < x + y) == decide (0 < y)) = false := by
      by_cases h : 0 < y
      · have h2 : x < x + y := by omega
        simp [h, h2]
      · have h2 : ¬ x < x + y := by omega
        simp [h, h2]
    rw [hw, hq, if_neg (by decide), if_pos h]
  · have hw : wrap64 (x + y) = x + y - 18446744073709551616 := by unfold wrap64; omega
    have hq : (!decide (x < x + y - 18446744073709551616) == decide (0 < y)) = true := by
      have h1 : 0 < y := by omega
      have h2 : ¬ x < x + y - 18446744073709551616 := by omega
      simp [h1, h2]
    rw [hw, hq, if_pos rfl, if_neg (by rintro ⟨-, h2⟩; omega)]
  · have hw : wrap64 (x + y) = x + y + 18446744073709551616 := by unfold wrap64; omega
    have hq : (!decide (x < x + y + 18446744073709551616) == decide (0 < y)) = true := by
      have h1 : ¬ 0 < y := by omega
      have h2 : x < x + y + 18446744073709551616 := by omega
      simp [h1, h2]
    rw [hw, hq, if_pos rfl, if_neg (by rintro ⟨h2, -⟩; omega)]

theorem sub_law {x y : Int} (hx : -9223372036854775808 ≤ x ∧ x ≤ 9223372036854775807) (hy : -9223372036854775808 ≤ y ∧ y ≤ 9223372036854775807) : (if (!decide (wrap64 (x - y) < x) == decide (0 < y)) = true then bad 10 else (num (wrap64 (x - y)), 0)) = ov (x - y) := by
  unfold ov
  rcases (show (-9223372036854775808 ≤ x - y ∧ x - y ≤ 9223372036854775807) ∨ 9223372036854775807 < x - y ∨ x - y < -9223372036854775808 by omega) with h | h | h
  · have hw : wrap64 (x - y) = x - y := by unfold wrap64; omega
    have hq : (!decide (x - y < x) == decide (0 < y)) = false := by
      by_cases h : 0 < y
      · have h2 : x - y < x := by omega
        simp [h, h2]
      · have h2 : ¬ x - y < x := by omega
        simp [h, h2]
    rw [hw, hq, if_neg (by decide), if_pos h]
  · have hw : wrap64 (x - y) = x - y - 18446744073709551616 := by unfold wrap64; omega
    have hq : (!decide (x - y - 18446744073709551616 < x) == decide (0 < y)) = true := by
      have h1 : ¬ 0 < y := by omega
      have h2 : x - y - 18446744073709551616 < x := by omega
      simp [h1, h2]
    rw [hw, hq, if_pos rfl, if_neg (by rintro ⟨-, h2⟩; omega)]
  · have hw : wrap64 (x - y) = x - y + 18446744073709551616 := by unfold wrap64; omega
    have hq : (!decide (x - y + 18446744073709551616 < x) == decide (0 < y)) = true := by
      have h1 : 0 < y := by omega
      have h2 : ¬ x - y + 18446744073709551616 < x := by omega
      simp [h1, h2]
    rw [hw, hq, if_pos rfl, if_neg (by rintro ⟨h2, -⟩; omega)]

set_option maxRecDepth 100000 in
set_option maxHeartbeats 1000000 in
theorem add_167 (a b : Dat) (A B : Nat) (w : World) (ha : BoxAt w A a) (hb : BoxAt w B b) (fa : a.fits) (fb : b.fits) :
    Calls Tryz.prog 167 #[.pointer (some ⟨A, 0, none⟩), .pointer (some ⟨B, 0, none⟩)] w (ResPost (ov (a.int + b.int)) w) := by
  have fa1 := fa.2.1
  have fb1 := fb.2.1
  have la : A < w.heap.size := lt_of_heap ha
  have lb : B < w.heap.size := lt_of_heap hb
  have a2 : w.cell? ⟨A, 2, none⟩ = some (.int .i64 a.int) := cell_of_heap ha rfl
  have b2 : w.cell? ⟨B, 2, none⟩ = some (.int .i64 b.int) := cell_of_heap hb rfl
  have law := add_law fa1 fb1
  generalize a.int = x at *
  generalize b.int = y at *
  clear ha hb fa fb fa1 fb1
  obtain ⟨R, eR⟩ : ∃ R, R = ov (x + y) := ⟨_, rfl⟩
  rw [← eR] at law ⊢
  have LAW := Lib.hid law
  clear eR law
  go_enter Tryz.func167, Tryz.ntmps167
  go_wp2_with fail
  refine (whole_168 _ _ _).mono ?_
  rw [LAW.out]
  rintro ev w5 ⟨rfl, hb5⟩
  have t5 := one_at hb5
  have T5 := Lib.hid t5
  have HB5 := Lib.hid ((one_below _ _).trans (hb5.mono (by simp)))
  have z0 := cell_of_heap (o := 0) t5 rfl
  have g0 := frozen_of_heap (o := 0) t5
  have z1 := cell_of_heap (o := 1) t5 rfl
  have g1 := frozen_of_heap (o := 1) t5
  have z2 := cell_of_heap (o := 2) t5 rfl
  have g2 := frozen_of_heap (o := 2) t5
  have z3 := cell_of_heap (o := 3) t5 rfl
  have g3 := frozen_of_heap (o := 3) t5
  clear hb5 t5
  unfold resT Dat.agg
  go_wp2
  refine bodyPost_ret (results_row_tmp rfl _ _ w.heap.size 25 _ (0, 0) _ rfl (setRow4_at T5.out) Tryz.underlying25 rfl (by kernel_rfl)) rfl ?_
  exact ⟨rfl, setRow4_below HB5.out (Nat.le_refl _)⟩

set_option maxRecDepth 100000 in
set_option maxHeartbeats 1000000 in
theorem sub_169 (a b : Dat) (A B : Nat) (w : World) (ha : BoxAt w A a) (hb : BoxAt w B b) (fa : a.fits) (fb : b.fits) :
    Calls Tryz.prog 169 #[.pointer (some ⟨A, 0, none⟩), .pointer (some ⟨B, 0, none⟩)] w (ResPost (ov (a.int - b.int)) w) := by
  have fa1 := fa.2.1
  have fb1 := fb.2.1
  have la : A < w.heap.size := lt_of_heap ha
  have lb : B < w.heap.size := lt_of_heap hb
  have a2 : w.cell? ⟨A, 2, none⟩ = some (.int .i64 a.int) := cell_of_heap ha rfl
  have b2 : w.cell? ⟨B, 2, none⟩ = some (.int .i64 b.int) := cell_of_heap hb rfl
  have law := sub_law fa1 fb1
  generalize a.int = x at *
  generalize b.int = y at *
  clear ha hb fa fb fa1 fb1
  obtain ⟨R, eR⟩ : ∃ R, R = ov (x - y) := ⟨_, rfl⟩
  rw [← eR] at law ⊢
  have LAW := Lib.hid law
  clear eR law
  go_enter Tryz.func169, Tryz.ntmps169
  go_wp2_with fail
  refine (whole_168 _ _ _).mono ?_
  rw [LAW.out]
  rintro ev w5 ⟨rfl, hb5⟩
  have t5 := one_at hb5
  have T5 := Lib.hid t5
  have HB5 := Lib.hid ((one_below _ _).trans (hb5.mono (by simp)))
  have z0 := cell_of_heap (o := 0) t5 rfl
  have g0 := frozen_of_heap (o := 0) t5
  have z1 := cell_of_heap (o := 1) t5 rfl
  have g1 := frozen_of_heap (o := 1) t5
  have z2 := cell_of_heap (o := 2) t5 rfl
  have g2 := frozen_of_heap (o := 2) t5
  have z3 := cell_of_heap (o := 3) t5 rfl
  have g3 := frozen_of_heap (o := 3) t5
  clear hb5 t5
  unfold resT Dat.agg
  go_wp2
  refine bodyPost_ret (results_row_tmp rfl _ _ w.heap.size 25 _ (0, 0) _ rfl (setRow4_at T5.out) Tryz.underlying25 rfl (by kernel_rfl)) rfl ?_
  exact ⟨rfl, setRow4_below HB5.out (Nat.le_refl _)⟩

theorem neg_law {x : Int} (hx : -9223372036854775808 ≤ x ∧ x ≤ 9223372036854775807) : (if (x == -9223372036854775808) = true then bad 10 else (num (wrap64 (-x)), 0)) = ov (-x) := by
  unfold ov
  by_cases h : x = -9223372036854775808
  · subst h
    rfl
  · have hw : wrap64 (-x) = -x := by unfold wrap64; omega
    rw [hw, if_neg (by simpa using h), if_pos (by omega)]

theorem tdiv_range {x y : Int} (hx : -9223372036854775808 ≤ x ∧ x ≤ 9223372036854775807) (h0 : y ≠ 0) (h1 : y ≠ -1) : -9223372036854775808 ≤ Int.tdiv x y ∧ Int.tdiv x y ≤ 9223372036854775807 := by
  have hn : (Int.tdiv x y).natAbs = x.natAbs / y.natAbs := Int.natAbs_tdiv x y
  rcases (show y = 1 ∨ 2 ≤ y.natAbs by omega) with rfl | h
  · rw [Int.tdiv_one]; exact hx
  · have : x.natAbs / y.natAbs ≤ x.natAbs / 2 := Nat.div_le_div_left h (by decide)
    omega

set_option maxRecDepth 100000 in
set_option maxHeartbeats 1000000 in
theorem div_171 (a b : Dat) (A B : Nat) (w : World) (ha : BoxAt w A a) (hb : BoxAt w B b) (fa : a.fits) (fb : b.fits) :
    Calls Tryz.prog 171 #[.pointer (some ⟨B, 0, none⟩), .pointer (some ⟨A, 0, none⟩)] w (ResPost (if b.int = 0 then bad 11 else ov (Int.tdiv a.int b.int)) w) := by
  have fa1 := fa.2.1
  have fb1 := fb.2.1
  have la : A < w.heap.size := lt_of_heap ha
  have lb : B < w.heap.size := lt_of_heap hb
  have a2 : w.cell? ⟨A, 2, none⟩ = some (.int .i64 a.int) := cell_of_heap ha rfl
  have b2 : w.cell? ⟨B, 2, none⟩ = some (.int .i64 b.int) := cell_of_heap hb rfl
  generalize a.int = x at *
  generalize b.int = y at *
  clear ha hb fa fb
  by_cases h0 : y = 0
  · subst h0
    rw [if_pos rfl]
    go_enter Tryz.func171, Tryz.ntmps171
    go_wp2_with fail
    refine bodyPost_ret (results_row_tmp rfl _ _ w.heap.size 25 _ (0, 0) _ rfl (heap_alloc_new w _) Tryz.underlying25 rfl (by kernel_rfl)) rfl ?_
    exact ⟨rfl, one_below _ _⟩
  · have q0 : (y == 0) = false := by simpa using h0
    rw [if_neg h0]
    by_cases h1 : y = -1
    · subst h1
      rw [show Int.tdiv x (-1) = -x by rw [Int.tdiv_neg, Int.tdiv_one]]
      have law := neg_law fa1
      obtain ⟨R, eR⟩ : ∃ R, R = ov (-x) := ⟨_, rfl⟩
      rw [← eR] at law ⊢
      have LAW := Lib.hid law
      clear eR law fa1 fb1
      go_enter Tryz.func171, Tryz.ntmps171
      go_wp2_with fail
      refine (whole_168 _ _ _).mono ?_
      rw [LAW.out]
      rintro ev w5 ⟨rfl, hb5⟩
      have t5 := one_at hb5
      have T5 := Lib.hid t5
      have HB5 := Lib.hid ((one_below _ _).trans (hb5.mono (by simp)))
      have z0 := cell_of_heap (o := 0) t5 rfl
      have g0 := frozen_of_heap (o := 0) t5
      have z1 := cell_of_heap (o := 1) t5 rfl
      have g1 := frozen_of_heap (o := 1) t5
      have z2 := cell_of_heap (o := 2) t5 rfl
      have g2 := frozen_of_heap (o := 2) t5
      have z3 := cell_of_heap (o := 3) t5 rfl
      have g3 := frozen_of_heap (o := 3) t5
      clear hb5 t5
      unfold resT Dat.agg
      go_wp2
      refine bodyPost_ret (results_row_tmp rfl _ _ w.heap.size 25 _ (0, 0) _ rfl (setRow4_at T5.out) Tryz.underlying25 rfl (by kernel_rfl)) rfl ?_
      exact ⟨rfl, setRow4_below HB5.out (Nat.le_refl _)⟩
    · have q1 : (y == -1) = false := by simpa using h1
      have hr := tdiv_range fa1 h0 h1
      have hov : ov (Int.tdiv x y) = (num (Int.tdiv x y), 0) := by unfold ov; rw [if_pos hr]
      rw [hov]
      have hw : wrap64 (Int.tdiv x y) = Int.tdiv x y := by unfold wrap64; omega
      clear fa1 fb1 hov
      go_enter Tryz.func171, Tryz.ntmps171
      go_wp2_with fail
      refine (number_162 _ _).mono ?_
      rintro ev w5 ⟨rfl, hb5⟩
      have t5 := one_at hb5
      have T5 := Lib.hid t5
      have HB5 := Lib.hid ((one_below _ _).trans (hb5.mono (by simp)))
      have z0 := cell_of_heap (o := 0) t5 rfl
      have g0 := frozen_of_heap (o := 0) t5
      have z1 := cell_of_heap (o := 1) t5 rfl
      have g1 := frozen_of_heap (o := 1) t5
      have z2 := cell_of_heap (o := 2) t5 rfl
      have g2 := frozen_of_heap (o := 2) t5
      have z3 := cell_of_heap (o := 3) t5 rfl
      have g3 := frozen_of_heap (o := 3) t5
      clear hb5 t5
      unfold Dat.agg num
      go_wp2
      refine bodyPost_ret (results_row_tmp rfl _ _ w.heap.size 25 _ (0, 0) _ rfl (setRow4_at T5.out) Tryz.underlying25 rfl (by kernel_rfl)) rfl ?_
      exact ⟨rfl, setRow4_below HB5.out (Nat.le_refl _)⟩

set_option maxRecDepth 100000 in
set_option maxHeartbeats 1000000 in
theorem mod_172 (a b : Dat) (A B : Nat) (w : World) (ha : BoxAt w A a) (hb : BoxAt w B b) (fa : a.fits) (fb : b.fits) :
    Calls Tryz.prog 172 #[.pointer (some ⟨B, 0, none⟩), .pointer (some ⟨A, 0, none⟩)] w (ResPost (if b.int = 0 then bad 11 else (num (Int.tmod a.int b.int), 0)) w) := by
  have fa1 := fa.2.1
  have fb1 := fb.2.1
  have la : A < w.heap.size := lt_of_heap ha
  have lb : B < w.heap.size := lt_of_heap hb
  have a2 : w.cell? ⟨A, 2, none⟩ = some (.int .i64 a.int) := cell_of_heap ha rfl
  have b2 : w.cell? ⟨B, 2, none⟩ = some (.int .i64 b.int) := cell_of_heap hb rfl
  generalize a.int = x at *
  generalize b.int = y at *
  clear ha hb fa fb
  by_cases h0 : y = 0
  · subst h0
    rw [if_pos rfl]
    go_enter Tryz.func172, Tryz.ntmps172
    go_wp2_with fail
    refine bodyPost_ret (results_row_tmp rfl _ _ w.heap.size 25 _ (0, 0) _ rfl (heap_alloc_new w _) Tryz.underlying25 rfl (by kernel_rfl)) rfl ?_
    exact ⟨rfl, one_below _ _⟩
  · have q0 : (y == 0) = false := by simpa using h0
    rw [if_neg h0]
    by_cases h1 : y = -1
    · subst h1
      rw [show Int.tmod x (-1) = 0 by rw [Int.tmod_neg, Int.tmod_one]]
      clear fa1 fb1
      go_enter Tryz.func172, Tryz.ntmps172
      go_wp2_with fail
      refine (number_162 _ _).mono ?_
      rintro ev w5 ⟨rfl, hb5⟩
      have t5 := one_at hb5
      have T5 := Lib.hid t5
      have HB5 := Lib.hid ((one_below _ _).trans (hb5.mono (by simp)))
      have z0 := cell_of_heap (o := 0) t5 rfl
      have g0 := frozen_of_heap (o := 0) t5
      have z1 := cell_of_heap (o := 1) t5 rfl
      have g1 := frozen_of_heap (o := 1) t5
      have z2 := cell_of_heap (o := 2) t5 rfl
      have g2 := frozen_of_heap (o := 2) t5
      have z3 := cell_of_heap (o := 3) t5 rfl
      have g3 := frozen_of_heap (o := 3) t5
      clear hb5 t5
      unfold Dat.agg num
      go_wp2
      refine bodyPost_ret (results_row_tmp rfl _ _ w.heap.size 25 _ (0, 0) _ rfl (setRow4_at T5.out) Tryz.underlying25 rfl (by kernel_rfl)) rfl ?_
      exact ⟨rfl, setRow4_below HB5.out (Nat.le_refl _)⟩
    · have q1 : (y == -1) = false := by simpa using h1
      clear fa1 fb1
      go_enter Tryz.func172, Tryz.ntmps172
      go_wp2_with fail
      refine (number_162 _ _).mono ?_
      rintro ev w5 ⟨rfl, hb5⟩
      have t5 := one_at hb5
      have T5 := Lib.hid t5
      have HB5 := Lib.hid ((one_below _ _).trans (hb5.mono (by simp)))
      have z0 := cell_of_heap (o := 0) t5 rfl
      have g0 := frozen_of_heap (o := 0) t5
      have z1 := cell_of_heap (o := 1) t5 rfl
      have g1 := frozen_of_heap (o := 1) t5
      have z2 := cell_of_heap (o := 2) t5 rfl
      have g2 := frozen_of_heap (o := 2) t5
      have z3 := cell_of_heap (o := 3) t5 rfl
      have g3 := frozen_of_heap (o := 3) t5
      clear hb5 t5
      unfold Dat.agg num
      go_wp2
      refine bodyPost_ret (results_row_tmp rfl _ _ w.heap.size 25 _ (0, 0) _ rfl (setRow4_at T5.out) Tryz.underlying25 rfl (by kernel_rfl)) rfl ?_
      exact ⟨rfl, setRow4_below HB5.out (Nat.le_refl _)⟩

end Go.Proofs.YtolikaginhjbhaaGreatDoor
