import Derived.Test.YtlpehdhgdpeoeaaGreatDoorUa
import Derived.Test.YtlpehdhgdpeoeaaGreatDoorUb
/- datum.Mul. -/
namespace Go.Proofs.YtlpehdhgdpeoeaaGreatDoor
open Go.RowKit Go.Pen Go.Shelf
attribute [local go_sem] Oper.semAt_some

section
attribute [local go_sem] undef
set_option maxRecDepth 100000 in
set_option maxHeartbeats 16000000 in
theorem mul_170 (a b : Dat) (A B : Nat) (w : World) (ha : BoxAt w A a) (hb : BoxAt w B b) (fa : a.fits) (fb : b.fits) :
    Calls Tryz.prog 99 #[.pointer (some ⟨A, 0, none⟩), .pointer (some ⟨B, 0, none⟩)] w (ResPost (ov (a.int * b.int)) w) := by
  have fa1 := fa.2.1
  have fb1 := fb.2.1
  have la : A < w.heap.size := lt_of_heap ha
  have lb : B < w.heap.size := lt_of_heap hb
  have a2 : w.cell? ⟨A, 2, none⟩ = some (.int .i64 a.int) := cell_of_heap ha rfl
  have b2 : w.cell? ⟨B, 2, none⟩ = some (.int .i64 b.int) := cell_of_heap hb rfl
  generalize a.int = x at *
  generalize b.int = y at *
  clear ha hb fa fb
  by_cases h0 : x = 0
  · subst h0
    rw [show ov (0 * y) = (num 0, 0) by rw [Int.zero_mul]; rfl]
    clear fa1 fb1
    go_enter Tryz.func99, Tryz.ntmps99
    go_wp2_with fail
    refine (number_162 _ _).mono ?_
    rintro ev w5 ⟨rfl, hb5⟩
    have t5 := one_at hb5
    have T5 := Lib.hid t5
    have HB5 := Lib.hid ((one_below _ _).trans (hb5.mono (by simp)))
    have z0 := cell_of_heap (o := 0) t5 rfl
    have g0 := frozen_of_heap (o := 0) t5
    have z1 := cell_of_heap (o := 1) t5 rfl
    have g1 := frozen_of_heap (o := 1) t5
    have z2 := cell_of_heap (o := 2) t5 rfl
    have g2 := frozen_of_heap (o := 2) t5
    have z3 := cell_of_heap (o := 3) t5 rfl
    have g3 := frozen_of_heap (o := 3) t5
    clear hb5 t5
    unfold Dat.agg num
    go_wp2
    refine bodyPost_ret (results_row_tmp rfl _ _ w.heap.size 55 _ (0, 0) _ rfl (setRow4_at T5.out) Tryz.underlying55 rfl (by kernel_rfl)) rfl ?_
    exact ⟨rfl, setRow4_below HB5.out (Nat.le_refl _)⟩
  · have q0 : (x == 0) = false := by simpa using h0
    by_cases h1 : y = 0
    · subst h1
      rw [show ov (x * 0) = (num 0, 0) by rw [Int.mul_zero]; rfl]
      clear fa1 fb1
      go_enter Tryz.func99, Tryz.ntmps99
      go_wp2_with fail
      refine (number_162 _ _).mono ?_
      rintro ev w5 ⟨rfl, hb5⟩
      have t5 := one_at hb5
      have T5 := Lib.hid t5
      have HB5 := Lib.hid ((one_below _ _).trans (hb5.mono (by simp)))
      have z0 := cell_of_heap (o := 0) t5 rfl
      have g0 := frozen_of_heap (o := 0) t5
      have z1 := cell_of_heap (o := 1) t5 rfl
      have g1 := frozen_of_heap (o := 1) t5
      have z2 := cell_of_heap (o := 2) t5 rfl
      have g2 := frozen_of_heap (o := 2) t5
      have z3 := cell_of_heap (o := 3) t5 rfl
      have g3 := frozen_of_heap (o := 3) t5
      clear hb5 t5
      unfold Dat.agg num
      go_wp2
      refine bodyPost_ret (results_row_tmp rfl _ _ w.heap.size 55 _ (0, 0) _ rfl (setRow4_at T5.out) Tryz.underlying55 rfl (by kernel_rfl)) rfl ?_
      exact ⟨rfl, setRow4_below HB5.out (Nat.le_refl _)⟩
    · have q1 : (y == 0) = false := by simpa using h1
      have law := mul_law h1 fa1 fb1
      obtain ⟨D, hD⟩ : ∃ D, (wrap64 (Int.tdiv (wrap64 (x * y)) y) != x) = D := ⟨_, rfl⟩
      have hD2 : (IntKind.i64.wrap (Int.tdiv (wrap64 (x * y)) y) != x) = D := by rw [IntWalk.i64_left]; exact hD
      obtain ⟨p1, e1⟩ : ∃ p, (x == -1) = p := ⟨_, rfl⟩
      obtain ⟨p2, e2⟩ : ∃ p, (y == -9223372036854775808) = p := ⟨_, rfl⟩
      obtain ⟨p3, e3⟩ : ∃ p, (y == -1) = p := ⟨_, rfl⟩
      obtain ⟨p4, e4⟩ : ∃ p, (x == -9223372036854775808) = p := ⟨_, rfl⟩
      have hR : ov (x * y) = if ((D || (p1 && p2)) || (p3 && p4)) = true then bad 10 else (num (wrap64 (x * y)), 0) := by
        clear hD2
        subst hD e1 e2 e3 e4
        unfold ov
        by_cases hin : -9223372036854775808 ≤ x * y ∧ x * y ≤ 9223372036854775807
        · rw [if_pos hin, if_neg (fun h => law.1 (by simpa using h) hin), show wrap64 (x * y) = x * y by unfold wrap64; omega]
        · rw [if_neg hin, if_pos (by simpa using law.2 hin)]
      obtain ⟨R, eR⟩ : ∃ R, R = ov (x * y) := ⟨_, rfl⟩
      rw [← eR] at hR ⊢
      clear law eR fa1 fb1
      obtain ⟨w1, hw1⟩ : ∃ w1, w1 = w.alloc (.cells #[.int .u8 0, .bool false, .int .i64 0, .string ⟨#[]⟩] 55) := ⟨_, rfl⟩
      have hb1 : Below w.heap.size w w1 := by rw [hw1]; exact one_below _ _
      have ht1 : w1.heap[w.heap.size]? = some (.cells #[.int .u8 0, .bool false, .int .i64 0, .string ⟨#[]⟩] 55 (0, 0)) := by rw [hw1]; exact heap_alloc_new _ _
      have neA : A ≠ w.heap.size := by omega
      have neB : B ≠ w.heap.size := by omega
      have neA' : w.heap.size ≠ A := by omega
      have neB' : w.heap.size ≠ B := by omega
      have hs1 : w1.cell? ⟨A, 2, none⟩ = some (.int .i64 x) ∧ w1.cell? ⟨B, 2, none⟩ = some (.int .i64 y) := ⟨cell_keep hb1 a2, cell_keep hb1 b2⟩
      have hkeep : ∀ (w' : World), Below w1.heap.size w1 w' → w'.cell? ⟨A, 2, none⟩ = some (.int .i64 x) ∧ w'.cell? ⟨B, 2, none⟩ = some (.int .i64 y) := fun w' hb => ⟨cell_keep hb hs1.1, cell_keep hb hs1.2⟩
      have HW1 := Lib.hid hw1
      have HB1 := Lib.hid hb1
      have T1 := Lib.hid ht1
      have S1 := Lib.hid hs1
      have HKEEP := Lib.hid hkeep
      clear hw1 hb1 ht1 hs1 hkeep
      cases D
      · cases p1
        · cases p3
          · have hwh : ∀ W, Calls Tryz.prog 97 #[.int .i64 (wrap64 (x * y)), .bool false] W (fun ev w' => ev = .returned (resT R) ∧ Below W.heap.size W w') := fun W => by rw [hR]; exact whole_168 _ false W
            have HWH := Lib.hid hwh
            clear hwh hR
            go_enter Tryz.func99, Tryz.ntmps99
            go_wp2_with fail
            rw [← HW1.out]
            clear a2 b2 HKEEP
            have a2 := S1.out.1
            have b2 := S1.out.2
            first | (go_region_with (go_at_call 97; refine (HWH.out _).mono ?_; rintro ev w5 ⟨rfl, hb5⟩; have hbS : Hid (Below w1.heap.size w1 w5) := Lib.hid (by first | exact hb5 | exact below_undrew hb5 | exact below_undrewN hb5); have t5 := (hbS.out.block _ (lt_of_heap T1.out)).trans T1.out; have z0 := cell_of_heap (o := 0) t5 rfl; have g0 := frozen_of_heap (o := 0) t5; have z1 := cell_of_heap (o := 1) t5 rfl; have g1 := frozen_of_heap (o := 1) t5; have z2 := cell_of_heap (o := 2) t5 rfl; have g2 := frozen_of_heap (o := 2) t5; have z3 := cell_of_heap (o := 3) t5 rfl; have g3 := frozen_of_heap (o := 3) t5; have T5 := Lib.hid t5; clear hb5 t5; unfold resT Dat.agg)) | fail
            all_goals go_wp2
            all_goals refine bodyPost_ret (results_row_tmp rfl _ _ w.heap.size 55 _ (0, 0) _ rfl (setRow4_at T5.out) Tryz.underlying55 rfl (by kernel_rfl)) rfl ?_
            all_goals exact ⟨rfl, setRow4_below (HB1.out.trans (hbS.out.mono HB1.out.size)) (Nat.le_refl _)⟩
          · cases p4
            · have hwh : ∀ W, Calls Tryz.prog 97 #[.int .i64 (wrap64 (x * y)), .bool false] W (fun ev w' => ev = .returned (resT R) ∧ Below W.heap.size W w') := fun W => by rw [hR]; exact whole_168 _ false W
              have HWH := Lib.hid hwh
              clear hwh hR
              go_enter Tryz.func99, Tryz.ntmps99
              go_wp2_with fail
              rw [← HW1.out]
              clear a2 b2 HKEEP
              have a2 := S1.out.1
              have b2 := S1.out.2
              first | (go_region_with (go_at_call 97; refine (HWH.out _).mono ?_; rintro ev w5 ⟨rfl, hb5⟩; have hbS : Hid (Below w1.heap.size w1 w5) := Lib.hid (by first | exact hb5 | exact below_undrew hb5 | exact below_undrewN hb5); have t5 := (hbS.out.block _ (lt_of_heap T1.out)).trans T1.out; have z0 := cell_of_heap (o := 0) t5 rfl; have g0 := frozen_of_heap (o := 0) t5; have z1 := cell_of_heap (o := 1) t5 rfl; have g1 := frozen_of_heap (o := 1) t5; have z2 := cell_of_heap (o := 2) t5 rfl; have g2 := frozen_of_heap (o := 2) t5; have z3 := cell_of_heap (o := 3) t5 rfl; have g3 := frozen_of_heap (o := 3) t5; have T5 := Lib.hid t5; clear hb5 t5; unfold resT Dat.agg)) | fail
              all_goals go_wp2
              all_goals refine bodyPost_ret (results_row_tmp rfl _ _ w.heap.size 55 _ (0, 0) _ rfl (setRow4_at T5.out) Tryz.underlying55 rfl (by kernel_rfl)) rfl ?_
              all_goals exact ⟨rfl, setRow4_below (HB1.out.trans (hbS.out.mono HB1.out.size)) (Nat.le_refl _)⟩
            · have hwh : ∀ W, Calls Tryz.prog 97 #[.int .i64 (wrap64 (x * y)), .bool true] W (fun ev w' => ev = .returned (resT R) ∧ Below W.heap.size W w') := fun W => by rw [hR]; exact whole_168 _ true W
              have HWH := Lib.hid hwh
              clear hwh hR
              go_enter Tryz.func99, Tryz.ntmps99
              go_wp2_with fail
              rw [← HW1.out]
              clear a2 b2 HKEEP
              have a2 := S1.out.1
              have b2 := S1.out.2
              first | (go_region_with (go_at_call 97; refine (HWH.out _).mono ?_; rintro ev w5 ⟨rfl, hb5⟩; have hbS : Hid (Below w1.heap.size w1 w5) := Lib.hid (by first | exact hb5 | exact below_undrew hb5 | exact below_undrewN hb5); have t5 := (hbS.out.block _ (lt_of_heap T1.out)).trans T1.out; have z0 := cell_of_heap (o := 0) t5 rfl; have g0 := frozen_of_heap (o := 0) t5; have z1 := cell_of_heap (o := 1) t5 rfl; have g1 := frozen_of_heap (o := 1) t5; have z2 := cell_of_heap (o := 2) t5 rfl; have g2 := frozen_of_heap (o := 2) t5; have z3 := cell_of_heap (o := 3) t5 rfl; have g3 := frozen_of_heap (o := 3) t5; have T5 := Lib.hid t5; clear hb5 t5; unfold resT Dat.agg)) | fail
              all_goals go_wp2
              all_goals refine bodyPost_ret (results_row_tmp rfl _ _ w.heap.size 55 _ (0, 0) _ rfl (setRow4_at T5.out) Tryz.underlying55 rfl (by kernel_rfl)) rfl ?_
              all_goals exact ⟨rfl, setRow4_below (HB1.out.trans (hbS.out.mono HB1.out.size)) (Nat.le_refl _)⟩
        · cases p2
          · cases p3
            · have hwh : ∀ W, Calls Tryz.prog 97 #[.int .i64 (wrap64 (x * y)), .bool false] W (fun ev w' => ev = .returned (resT R) ∧ Below W.heap.size W w') := fun W => by rw [hR]; exact whole_168 _ false W
              have HWH := Lib.hid hwh
              clear hwh hR
              go_enter Tryz.func99, Tryz.ntmps99
              go_wp2_with fail
              rw [← HW1.out]
              clear a2 b2 HKEEP
              have a2 := S1.out.1
              have b2 := S1.out.2
              first | (go_region_with (go_at_call 97; refine (HWH.out _).mono ?_; rintro ev w5 ⟨rfl, hb5⟩; have hbS : Hid (Below w1.heap.size w1 w5) := Lib.hid (by first | exact hb5 | exact below_undrew hb5 | exact below_undrewN hb5); have t5 := (hbS.out.block _ (lt_of_heap T1.out)).trans T1.out; have z0 := cell_of_heap (o := 0) t5 rfl; have g0 := frozen_of_heap (o := 0) t5; have z1 := cell_of_heap (o := 1) t5 rfl; have g1 := frozen_of_heap (o := 1) t5; have z2 := cell_of_heap (o := 2) t5 rfl; have g2 := frozen_of_heap (o := 2) t5; have z3 := cell_of_heap (o := 3) t5 rfl; have g3 := frozen_of_heap (o := 3) t5; have T5 := Lib.hid t5; clear hb5 t5; unfold resT Dat.agg)) | fail
              all_goals go_wp2
              all_goals refine bodyPost_ret (results_row_tmp rfl _ _ w.heap.size 55 _ (0, 0) _ rfl (setRow4_at T5.out) Tryz.underlying55 rfl (by kernel_rfl)) rfl ?_
              all_goals exact ⟨rfl, setRow4_below (HB1.out.trans (hbS.out.mono HB1.out.size)) (Nat.le_refl _)⟩
            · cases p4
              · have hwh : ∀ W, Calls Tryz.prog 97 #[.int .i64 (wrap64 (x * y)), .bool false] W (fun ev w' => ev = .returned (resT R) ∧ Below W.heap.size W w') := fun W => by rw [hR]; exact whole_168 _ false W
                have HWH := Lib.hid hwh
                clear hwh hR
                go_enter Tryz.func99, Tryz.ntmps99
                go_wp2_with fail
                rw [← HW1.out]
                clear a2 b2 HKEEP
                have a2 := S1.out.1
                have b2 := S1.out.2
                first | (go_region_with (go_at_call 97; refine (HWH.out _).mono ?_; rintro ev w5 ⟨rfl, hb5⟩; have hbS : Hid (Below w1.heap.size w1 w5) := Lib.hid (by first | exact hb5 | exact below_undrew hb5 | exact below_undrewN hb5); have t5 := (hbS.out.block _ (lt_of_heap T1.out)).trans T1.out; have z0 := cell_of_heap (o := 0) t5 rfl; have g0 := frozen_of_heap (o := 0) t5; have z1 := cell_of_heap (o := 1) t5 rfl; have g1 := frozen_of_heap (o := 1) t5; have z2 := cell_of_heap (o := 2) t5 rfl; have g2 := frozen_of_heap (o := 2) t5; have z3 := cell_of_heap (o := 3) t5 rfl; have g3 := frozen_of_heap (o := 3) t5; have T5 := Lib.hid t5; clear hb5 t5; unfold resT Dat.agg)) | fail
                all_goals go_wp2
                all_goals refine bodyPost_ret (results_row_tmp rfl _ _ w.heap.size 55 _ (0, 0) _ rfl (setRow4_at T5.out) Tryz.underlying55 rfl (by kernel_rfl)) rfl ?_
                all_goals exact ⟨rfl, setRow4_below (HB1.out.trans (hbS.out.mono HB1.out.size)) (Nat.le_refl _)⟩
              · have hwh : ∀ W, Calls Tryz.prog 97 #[.int .i64 (wrap64 (x * y)), .bool true] W (fun ev w' => ev = .returned (resT R) ∧ Below W.heap.size W w') := fun W => by rw [hR]; exact whole_168 _ true W
                have HWH := Lib.hid hwh
                clear hwh hR
                go_enter Tryz.func99, Tryz.ntmps99
                go_wp2_with fail
                rw [← HW1.out]
                clear a2 b2 HKEEP
                have a2 := S1.out.1
                have b2 := S1.out.2
                first | (go_region_with (go_at_call 97; refine (HWH.out _).mono ?_; rintro ev w5 ⟨rfl, hb5⟩; have hbS : Hid (Below w1.heap.size w1 w5) := Lib.hid (by first | exact hb5 | exact below_undrew hb5 | exact below_undrewN hb5); have t5 := (hbS.out.block _ (lt_of_heap T1.out)).trans T1.out; have z0 := cell_of_heap (o := 0) t5 rfl; have g0 := frozen_of_heap (o := 0) t5; have z1 := cell_of_heap (o := 1) t5 rfl; have g1 := frozen_of_heap (o := 1) t5; have z2 := cell_of_heap (o := 2) t5 rfl; have g2 := frozen_of_heap (o := 2) t5; have z3 := cell_of_heap (o := 3) t5 rfl; have g3 := frozen_of_heap (o := 3) t5; have T5 := Lib.hid t5; clear hb5 t5; unfold resT Dat.agg)) | fail
                all_goals go_wp2
                all_goals refine bodyPost_ret (results_row_tmp rfl _ _ w.heap.size 55 _ (0, 0) _ rfl (setRow4_at T5.out) Tryz.underlying55 rfl (by kernel_rfl)) rfl ?_
                all_goals exact ⟨rfl, setRow4_below (HB1.out.trans (hbS.out.mono HB1.out.size)) (Nat.le_refl _)⟩
          · have hwh : ∀ W, Calls Tryz.prog 97 #[.int .i64 (wrap64 (x * y)), .bool true] W (fun ev w' => ev = .returned (resT R) ∧ Below W.heap.size W w') := fun W => by rw [hR]; exact whole_168 _ true W
            have HWH := Lib.hid hwh
            clear hwh hR
            go_enter Tryz.func99, Tryz.ntmps99
            go_wp2_with fail
            rw [← HW1.out]
            clear a2 b2 HKEEP
            have a2 := S1.out.1
            have b2 := S1.out.2
            first | (go_region_with (go_at_call 97; refine (HWH.out _).mono ?_; rintro ev w5 ⟨rfl, hb5⟩; have hbS : Hid (Below w1.heap.size w1 w5) := Lib.hid (by first | exact hb5 | exact below_undrew hb5 | exact below_undrewN hb5); have t5 := (hbS.out.block _ (lt_of_heap T1.out)).trans T1.out; have z0 := cell_of_heap (o := 0) t5 rfl; have g0 := frozen_of_heap (o := 0) t5; have z1 := cell_of_heap (o := 1) t5 rfl; have g1 := frozen_of_heap (o := 1) t5; have z2 := cell_of_heap (o := 2) t5 rfl; have g2 := frozen_of_heap (o := 2) t5; have z3 := cell_of_heap (o := 3) t5 rfl; have g3 := frozen_of_heap (o := 3) t5; have T5 := Lib.hid t5; clear hb5 t5; unfold resT Dat.agg)) | fail
            all_goals go_wp2
            all_goals refine bodyPost_ret (results_row_tmp rfl _ _ w.heap.size 55 _ (0, 0) _ rfl (setRow4_at T5.out) Tryz.underlying55 rfl (by kernel_rfl)) rfl ?_
            all_goals exact ⟨rfl, setRow4_below (HB1.out.trans (hbS.out.mono HB1.out.size)) (Nat.le_refl _)⟩
      · have hwh : ∀ W, Calls Tryz.prog 97 #[.int .i64 (wrap64 (x * y)), .bool true] W (fun ev w' => ev = .returned (resT R) ∧ Below W.heap.size W w') := fun W => by rw [hR]; exact whole_168 _ true W
        have HWH := Lib.hid hwh
        clear hwh hR
        go_enter Tryz.func99, Tryz.ntmps99
        go_wp2_with fail
        rw [← HW1.out]
        clear a2 b2 HKEEP
        have a2 := S1.out.1
        have b2 := S1.out.2
        first | (go_region_with (go_at_call 97; refine (HWH.out _).mono ?_; rintro ev w5 ⟨rfl, hb5⟩; have hbS : Hid (Below w1.heap.size w1 w5) := Lib.hid (by first | exact hb5 | exact below_undrew hb5 | exact below_undrewN hb5); have t5 := (hbS.out.block _ (lt_of_heap T1.out)).trans T1.out; have z0 := cell_of_heap (o := 0) t5 rfl; have g0 := frozen_of_heap (o := 0) t5; have z1 := cell_of_heap (o := 1) t5 rfl; have g1 := frozen_of_heap (o := 1) t5; have z2 := cell_of_heap (o := 2) t5 rfl; have g2 := frozen_of_heap (o := 2) t5; have z3 := cell_of_heap (o := 3) t5 rfl; have g3 := frozen_of_heap (o := 3) t5; have T5 := Lib.hid t5; clear hb5 t5; unfold resT Dat.agg)) | fail
        all_goals go_wp2
        all_goals refine bodyPost_ret (results_row_tmp rfl _ _ w.heap.size 55 _ (0, 0) _ rfl (setRow4_at T5.out) Tryz.underlying55 rfl (by kernel_rfl)) rfl ?_
        all_goals exact ⟨rfl, setRow4_below (HB1.out.trans (hbS.out.mono HB1.out.size)) (Nat.le_refl _)⟩

end

set_option maxRecDepth 100000 in
set_option maxHeartbeats 1000000 in
theorem mul_123 (a b : Dat) (w : World) (fa : a.fits) (fb : b.fits) (hT : Lib.Utf8Tabs 1 2 w) (h11 : 3 ≤ w.heap.size) :
    Calls Tryz.prog 78 #[a.agg, b.agg] w (ResPost (mulD a b) w) := by
  have hap : ∀ (W : World), Below w.heap.size w W → W.heap[w.heap.size]? = some (.cells #[.int .u8 a.kind, .bool a.bool, .int .i64 a.int, .string a.text] 55 (0, 0)) → W.heap[w.heap.size + 1]? = some (.cells #[.int .u8 b.kind, .bool b.bool, .int .i64 b.int, .string b.text] 55 (0, 0)) → ∀ g, W.heap[g]? = some (.cells #[.int .u8 a.kind, .bool a.bool, .int .i64 a.int, .string a.text, .int .u8 b.kind, .bool b.bool, .int .i64 b.int, .string b.text] 55 (0, 0)) →
      Calls Tryz.prog 92 #[.int .u8 3, .func (.func 99) #[] #[.pointer (some ⟨w.heap.size, 0, none⟩), .pointer (some ⟨w.heap.size + 1, 0, none⟩)], .slice (some ⟨g, 0, none⟩) 2 2] W (ResPost (mulD a b) W) := by
    intro W hb hA hB g hg
    have h := apply_163 3 99 #[.pointer (some ⟨w.heap.size, 0, none⟩), .pointer (some ⟨w.heap.size + 1, 0, none⟩)] [a, b] _ (ov (a.int * b.int)) W (by simp) (by intro d hd; simp at hd; rcases hd with rfl | rfl; exact fa; exact fb) (dats2 hg) (tabs_below hT hb h11) (Nat.le_trans h11 hb.size) (enters_of Tryz.func99 (by kernel_rfl) rfl)
      (fun _ W2 hb2 => mul_170 a b w.heap.size (w.heap.size + 1) W2 ((hb2.block _ (lt_of_heap hA)).trans hA) ((hb2.block _ (lt_of_heap hB)).trans hB) fa fb)
    rw [apR_both] at h
    exact h
  have HAP := Lib.hid hap
  clear hap hT fa fb
  obtain ⟨X, eX⟩ : ∃ X, X = mulD a b := ⟨_, rfl⟩
  rw [← eX] at HAP ⊢
  clear eX
  unfold Dat.agg
  go_enter Tryz.func78, Tryz.ntmps78
  go_wp2_with fail
  have h3 := three_at (w := w) (a := .cells #[.int .u8 a.kind, .bool a.bool, .int .i64 a.int, .string a.text] 55) (b := .cells #[.int .u8 b.kind, .bool b.bool, .int .i64 b.int, .string b.text] 55) (c := .cells #[.int .u8 0, .bool false, .int .i64 0, .string ⟨#[]⟩] 55) (Below.refl _ _)
  have h4 := heap_alloc_new (((w.alloc (.cells #[.int .u8 a.kind, .bool a.bool, .int .i64 a.int, .string a.text] 55)).alloc (.cells #[.int .u8 b.kind, .bool b.bool, .int .i64 b.int, .string b.text] 55)).alloc (.cells #[.int .u8 0, .bool false, .int .i64 0, .string ⟨#[]⟩] 55)) (.cells #[.int .u8 a.kind, .bool a.bool, .int .i64 a.int, .string a.text, .int .u8 b.kind, .bool b.bool, .int .i64 b.int, .string b.text] 55)
  rw [World.size_alloc, World.size_alloc, World.size_alloc] at h4
  have hkeep : ∀ {g : Nat} {y : Obj}, (((w.alloc (.cells #[.int .u8 a.kind, .bool a.bool, .int .i64 a.int, .string a.text] 55)).alloc (.cells #[.int .u8 b.kind, .bool b.bool, .int .i64 b.int, .string b.text] 55)).alloc (.cells #[.int .u8 0, .bool false, .int .i64 0, .string ⟨#[]⟩] 55)).heap[g]? = some y → ((((w.alloc (.cells #[.int .u8 a.kind, .bool a.bool, .int .i64 a.int, .string a.text] 55)).alloc (.cells #[.int .u8 b.kind, .bool b.bool, .int .i64 b.int, .string b.text] 55)).alloc (.cells #[.int .u8 0, .bool false, .int .i64 0, .string ⟨#[]⟩] 55)).alloc (.cells #[.int .u8 a.kind, .bool a.bool, .int .i64 a.int, .string a.text, .int .u8 b.kind, .bool b.bool, .int .i64 b.int, .string b.text] 55)).heap[g]? = some y := fun h => (Below.heap_alloc _ _ _ (lt_of_heap h)).trans h
  refine (HAP.out _ (four_below _ _ _ _ _) (hkeep h3.1) (hkeep h3.2.1) _ h4).mono ?_
  rintro ev w5 ⟨rfl, hb5⟩
  have t5 := (hb5.block _ (lt_of_heap (hkeep h3.2.2))).trans (hkeep h3.2.2)
  have T5 := Lib.hid t5
  have HB5 := Lib.hid ((four_below _ _ _ _ _).trans (hb5.mono (by simp <;> omega)))
  have z0 := cell_of_heap (o := 0) t5 rfl
  have g0 := frozen_of_heap (o := 0) t5
  have z1 := cell_of_heap (o := 1) t5 rfl
  have g1 := frozen_of_heap (o := 1) t5
  have z2 := cell_of_heap (o := 2) t5 rfl
  have g2 := frozen_of_heap (o := 2) t5
  have z3 := cell_of_heap (o := 3) t5 rfl
  have g3 := frozen_of_heap (o := 3) t5
  clear hb5 t5 h3 h4 hkeep
  unfold resT Dat.agg
  go_wp2
  refine bodyPost_ret (results_row_tmp rfl _ _ (w.heap.size + 1 + 1) 55 _ (0, 0) _ rfl (setRow4_at T5.out) Tryz.underlying55 rfl (by kernel_rfl)) rfl ?_
  exact ⟨rfl, setRow4_below HB5.out (by show w.heap.size ≤ w.heap.size + 1 + 1; omega)⟩

end Go.Proofs.YtlpehdhgdpeoeaaGreatDoor
/- Eval: the other operators of two. -/
namespace Go.Proofs.YtlpehdhgdpeoeaaGreatDoor
open Go.RowKit Go.Pen Go.Shelf
attribute [local go_sem] Oper.semAt_some

theorem add_num (a b : Dat) : (addD a b).2 ≤ 65535 := both_num (ov_num _)
theorem sub_num (a b : Dat) : (subD a b).2 ≤ 65535 := both_num (ov_num _)
theorem mul_num (a b : Dat) : (mulD a b).2 ≤ 65535 := both_num (ov_num _)
theorem mod_num (a b : Dat) : (modD a b).2 ≤ 65535 := both_num (by
  split
  · exact (by decide : (11 : Nat) ≤ 65535)
  · exact Nat.zero_le _)
theorem cat_num (a b : Dat) : (catD a b).2 ≤ 65535 := both_num (by
  split
  · exact (by decide : (12 : Nat) ≤ 65535)
  · exact Nat.zero_le _)

set_option maxRecDepth 100000 in
set_option maxHeartbeats 1000000 in
theorem eval_two_4 (r : List Dat) (rv : Value) (c : Int) (d : Dat) (k1 k2 : ET) (a : Option Addr) (cc : Nat) (w : World) (h11 : 3 ≤ w.heap.size)
    (hks : [k1, k2] ≠ [] → ∃ b o, a = some ⟨b, o, none⟩ ∧ True ∧ ET.Ons (fun _ => True) w [k1, k2] b o) (ih1 : EvalOK r rv w k1) (ih2 : EvalOK r rv w k2)
    (hT : Lib.Utf8Tabs 1 2 w) (hf1 : (k1.val r).1.fits) (hf2 : (k2.val r).1.fits) :
    Calls Tryz.prog 46 #[(ET.mk 4 c d [k1, k2]).agg (.slice a 2 cc), rv] w (EvalPost ((ET.mk 4 c d [k1, k2]).val r) w) := by
  rw [plain_val (by unfold PlainOp; decide)]
  simp only [ET.vals]
  obtain ⟨b, off, rfl, -, -⟩ := hks (by simp)
  obtain ⟨a1, c1, hk1, hat1⟩ := kid_at hks rfl (i := 0) rfl
  obtain ⟨a2, c2, hk2, hat2⟩ := kid_at hks rfl (i := 1) rfl
  rw [show off + 0 * 7 = off by omega] at hk1
  rw [show off + 1 * 7 = off + 7 by omega] at hk2
  have hc1 := fun (W : World) (hb : Below w.heap.size w W) => ih1 _ W hb (hat1.below hb)
  have hc2 := fun (W : World) (hb : Below w.heap.size w W) => ih2 _ W hb (hat2.below hb)
  have HK1 := Lib.hid hk1
  have HK2 := Lib.hid hk2
  generalize k1.val r = v1 at *
  generalize k2.val r = v2 at *
  unfold ET.agg at hc1 hc2
  have HC1 := Lib.hid hc1
  have HC2 := Lib.hid hc2
  have htw := twos_88_4
  have hfn := fun (W : World) (hb : Below w.heap.size w W) => add_121 v1.1 v2.1 W hf1 hf2 (tabs_below hT hb h11) (Nat.le_trans h11 hb.size)
  unfold Dat.agg at hfn
  have HTW := Lib.hid htw
  have HFN := Lib.hid hfn
  clear hks ih1 ih2 hat1 hat2 hc1 hc2 htw hfn hk1 hk2 hT hf1 hf2
  unfold ET.agg
  simp only [ET.op, ET.col, ET.lit]
  obtain ⟨w1, hw1⟩ : ∃ w1, w1 = (w.alloc (.cells #[.int .u8 4, .slice (some ⟨b, off, none⟩) 2 cc, .int .i64 c, .int .u8 d.kind, .bool d.bool, .int .i64 d.int, .string d.text] 57)).alloc (.cells #[.int .u8 0, .bool false, .int .i64 0, .string ⟨#[]⟩] 55) := ⟨_, rfl⟩
  have hb1 : Below w.heap.size w w1 := by rw [hw1]; exact two_below _ _ _
  have ht := two_at (w := w) (w1 := w1) (a := .cells #[.int .u8 4, .slice (some ⟨b, off, none⟩) 2 cc, .int .i64 c, .int .u8 d.kind, .bool d.bool, .int .i64 d.int, .string d.text] 57) (b := .cells #[.int .u8 0, .bool false, .int .i64 0, .string ⟨#[]⟩] 55) (by rw [hw1]; exact Below.refl _ _)
  obtain ⟨m0, m1, m2, m3, m4, m5, m6⟩ := HK1.out.below hb1
  have HB1 := Lib.hid hb1
  have HT := Lib.hid ht
  have HW1 := Lib.hid hw1
  rw [hw1] at m0 m1 m2 m3 m4 m5 m6
  clear hb1 ht hw1
  go_enter Tryz.func46, Tryz.ntmps46
  go_wp2_with fail
  rw [← HW1.out]
  refine (HC1.out w1 HB1.out).mono ?_
  rintro ev w2 ⟨rfl, hb2⟩
  have hB2 : Below w.heap.size w w2 := HB1.out.trans (hb2.mono HB1.out.size)
  have t0 := (hb2.block _ (lt_of_heap HT.out.1)).trans HT.out.1
  have t1 := (hb2.block _ (lt_of_heap HT.out.2)).trans HT.out.2
  have T0 := Lib.hid t0
  have T1 := Lib.hid t1
  have HB2 := Lib.hid hB2
  clear hb2 hB2 m0 m1 m2 m3 m4 m5 m6 HW1 HT HB1 HC1
  unfold evT Dat.agg
  by_cases e1 : v1.2 = 0
  rotate_left
  · rw [errV_ne e1]
    have hval : restV 4 [v1, v2] = bad v1.2 := by simp [restV, e1]
    have HVAL := Lib.hid hval
    have hev : evT (bad v1.2) = .tuple #[Dat.zero.agg, .iface 107 (.agg #[.int .u16 v1.2])] := by simp only [evT, bad]; rw [errV_ne e1]
    have HEV := Lib.hid hev
    clear hval hev e1
    have keep : ∀ (A : Obj) {g : Nat} {y : Obj}, w2.heap[g]? = some y → (w2.alloc A).heap[g]? = some y := fun A g y h => (Below.heap_alloc _ _ _ (lt_of_heap h)).trans h
    have z0 := fun A => cell_of_heap (o := 0) (keep A t1) rfl
    have z1 := fun A => cell_of_heap (o := 1) (keep A t1) rfl
    have z2 := fun A => cell_of_heap (o := 2) (keep A t1) rfl
    have z3 := fun A => cell_of_heap (o := 3) (keep A t1) rfl
    have g0 := fun A => frozen_of_heap (o := 0) (keep A t1)
    have g1 := fun A => frozen_of_heap (o := 1) (keep A t1)
    have g2 := fun A => frozen_of_heap (o := 2) (keep A t1)
    have g3 := fun A => frozen_of_heap (o := 3) (keep A t1)
    have KEEP := Lib.hid @keep
    clear t0 t1 keep
    go_wp2
    refine bodyPost_ret (results_row_tmp rfl _ _ (w.heap.size + 1) 55 _ (0, 0) _ rfl (setRow4_at (KEEP.out _ T1.out)) Tryz.underlying55 rfl (by kernel_rfl)) rfl ?_
    exact ⟨by rw [HVAL.out, HEV.out]; rfl, setRow4_below (HB2.out.alloc HB2.out.size _) (by show w.heap.size ≤ w.heap.size + 1; omega)⟩
  · rw [e1]
    have hl1 : w.heap.size + 1 < w2.heap.size := lt_of_heap T1.out
    have HL1 := Lib.hid hl1
    clear hl1
    have hB3 := HB2.out.alloc HB2.out.size (.cells #[.int .u8 v1.1.kind, .bool v1.1.bool, .int .i64 v1.1.int, .string v1.1.text] 55)
    obtain ⟨w3, hw3⟩ : ∃ w3, w3 = w2.alloc (.cells #[.int .u8 v1.1.kind, .bool v1.1.bool, .int .i64 v1.1.int, .string v1.1.text] 55) := ⟨_, rfl⟩
    have ta : w3.heap[w2.heap.size]? = some (.cells #[.int .u8 v1.1.kind, .bool v1.1.bool, .int .i64 v1.1.int, .string v1.1.text] 55 (0, 0)) := by rw [hw3]; exact heap_alloc_new _ _
    have t0 := (show w3.heap[w.heap.size]? = w2.heap[w.heap.size]? by rw [hw3]; exact Below.heap_alloc _ _ _ (lt_of_heap T0.out)).trans T0.out
    have t1 := (show w3.heap[w.heap.size + 1]? = w2.heap[w.heap.size + 1]? by rw [hw3]; exact Below.heap_alloc _ _ _ (lt_of_heap T1.out)).trans T1.out
    rw [← hw3] at hB3
    obtain ⟨n0, n1, n2, n3, n4, n5, n6⟩ := HK2.out.below hB3
    have y0 := cell_of_heap (o := 0) t0 rfl
    have y1 := cell_of_heap (o := 1) t0 rfl
    have E1 := Lib.hid e1
    have HB3 := Lib.hid hB3
    have HW3 := Lib.hid hw3
    have TA := Lib.hid ta
    have T03 := Lib.hid t0
    have T13 := Lib.hid t1
    rw [hw3] at n0 n1 n2 n3 n4 n5 n6 y0 y1
    clear hB3 hw3 ta t0 t1 T0 T1 e1
    rw [errV_zero]
    go_wp2_with fail
    rw [← HW3.out]
    refine (HC2.out w3 HB3.out).mono ?_
    rintro ev w4 ⟨rfl, hb4⟩
    have hB4 : Below w.heap.size w w4 := HB3.out.trans (hb4.mono HB3.out.size)
    have ua := (hb4.block _ (lt_of_heap TA.out)).trans TA.out
    have u0 := (hb4.block _ (lt_of_heap T03.out)).trans T03.out
    have u1 := (hb4.block _ (lt_of_heap T13.out)).trans T13.out
    have hl2 : w2.heap.size < w4.heap.size := lt_of_heap ua
    have HL2 := Lib.hid hl2
    clear hl2
    have UA := Lib.hid ua
    have U0 := Lib.hid u0
    have U1 := Lib.hid u1
    have HB4 := Lib.hid hB4
    clear hb4 hB4 n0 n1 n2 n3 n4 n5 n6 y0 y1 HW3 TA T03 T13 HB3 HC2
    unfold evT Dat.agg
    have keep : ∀ (A : Obj) {g : Nat} {y : Obj}, w4.heap[g]? = some y → (w4.alloc A).heap[g]? = some y := fun A g y h => (Below.heap_alloc _ _ _ (lt_of_heap h)).trans h
    have KEEP := Lib.hid @keep
    by_cases e2 : v2.2 = 0
    rotate_left
    · rw [errV_ne e2]
      have hval : restV 4 [v1, v2] = bad v2.2 := by simp [restV, E1.out, e2]
      have hev : evT (bad v2.2) = .tuple #[Dat.zero.agg, .iface 107 (.agg #[.int .u16 v2.2])] := by simp only [evT, bad]; rw [errV_ne e2]
      have HVAL := Lib.hid hval
      have HEV := Lib.hid hev
      clear hval hev e2
      have z0 := fun A => cell_of_heap (o := 0) (keep A u1) rfl
      have g0 := fun A => frozen_of_heap (o := 0) (keep A u1)
      have z1 := fun A => cell_of_heap (o := 1) (keep A u1) rfl
      have g1 := fun A => frozen_of_heap (o := 1) (keep A u1)
      have z2 := fun A => cell_of_heap (o := 2) (keep A u1) rfl
      have g2 := fun A => frozen_of_heap (o := 2) (keep A u1)
      have z3 := fun A => cell_of_heap (o := 3) (keep A u1) rfl
      have g3 := fun A => frozen_of_heap (o := 3) (keep A u1)
      clear ua u0 u1 keep
      go_wp2
      refine bodyPost_ret (results_row_tmp rfl _ _ (w.heap.size + 1) 55 _ (0, 0) _ rfl (setRow4_at (KEEP.out _ U1.out)) Tryz.underlying55 rfl (by kernel_rfl)) rfl ?_
      exact ⟨by rw [HVAL.out, HEV.out]; rfl, setRow4_below (HB4.out.alloc HB4.out.size _) (by show w.heap.size ≤ w.heap.size + 1; omega)⟩
    · rw [e2, errV_zero]
      have hval : restV 4 [v1, v2] = told (twoD 4 v1.1 v2.1) := by simp [restV, E1.out, e2]
      have HVAL := Lib.hid hval
      obtain ⟨w5, hw5⟩ : ∃ w5, w5 = w4.alloc (.cells #[.int .u8 v2.1.kind, .bool v2.1.bool, .int .i64 v2.1.int, .string v2.1.text] 55) := ⟨_, rfl⟩
      have hB5 : Below w.heap.size w w5 := by rw [hw5]; exact HB4.out.alloc HB4.out.size _
      have va : w5.heap[w2.heap.size]? = some (.cells #[.int .u8 v1.1.kind, .bool v1.1.bool, .int .i64 v1.1.int, .string v1.1.text] 55 (0, 0)) := by rw [hw5]; exact keep _ ua
      have vb : w5.heap[w4.heap.size]? = some (.cells #[.int .u8 v2.1.kind, .bool v2.1.bool, .int .i64 v2.1.int, .string v2.1.text] 55 (0, 0)) := by rw [hw5]; exact heap_alloc_new _ _
      have v0 := (show w5.heap[w.heap.size]? = w4.heap[w.heap.size]? by rw [hw5]; exact Below.heap_alloc _ _ _ (lt_of_heap u0)).trans u0
      have v1' := (show w5.heap[w.heap.size + 1]? = w4.heap[w.heap.size + 1]? by rw [hw5]; exact Below.heap_alloc _ _ _ (lt_of_heap u1)).trans u1
      have HW5 := Lib.hid hw5
      have HB5 := Lib.hid hB5
      have VA := Lib.hid va
      have VB := Lib.hid vb
      have V0 := Lib.hid v0
      have V1 := Lib.hid v1'
      have y0 := fun A => cell_of_heap (o := 0) (keep A u0) rfl
      have y1 := fun A => cell_of_heap (o := 1) (keep A u0) rfl
      clear ua u0 u1 keep hval e2 hw5 hB5 va vb v0 v1' UA U0 U1
      go_wp2_with fail
      rw [← HW5.out]
      have hR : twoD 4 v1.1 v2.1 = addD v1.1 v2.1 := by simp [twoD]
      have hnum : (addD v1.1 v2.1).2 ≤ 65535 := add_num v1.1 v2.1
      obtain ⟨R, eR⟩ : ∃ R, R = addD v1.1 v2.1 := ⟨_, rfl⟩
      rw [← eR] at HFN hR hnum
      have HR := Lib.hid hR
      have f0 := cell_of_heap (o := 0) V0.out rfl
      have p0 := cell_of_heap (o := 0) VA.out rfl
      have q0 := cell_of_heap (o := 0) VB.out rfl
      have p1 := cell_of_heap (o := 1) VA.out rfl
      have q1 := cell_of_heap (o := 1) VB.out rfl
      have p2 := cell_of_heap (o := 2) VA.out rfl
      have q2 := cell_of_heap (o := 2) VB.out rfl
      have p3 := cell_of_heap (o := 3) VA.out rfl
      have q3 := cell_of_heap (o := 3) VB.out rfl
      have HNUM := Lib.hid hnum
      clear y0 y1 hR eR HW5 hnum
      have hs5 : w5.cell? ⟨w.heap.size, 0, none⟩ = some (.int .u8 4) ∧ w5.cell? ⟨w2.heap.size, 0, none⟩ = some (.int .u8 v1.1.kind) ∧ w5.cell? ⟨w2.heap.size, 1, none⟩ = some (.bool v1.1.bool) ∧ w5.cell? ⟨w2.heap.size, 2, none⟩ = some (.int .i64 v1.1.int) ∧ w5.cell? ⟨w2.heap.size, 3, none⟩ = some (.string v1.1.text) ∧ w5.cell? ⟨w4.heap.size, 0, none⟩ = some (.int .u8 v2.1.kind) ∧ w5.cell? ⟨w4.heap.size, 1, none⟩ = some (.bool v2.1.bool) ∧ w5.cell? ⟨w4.heap.size, 2, none⟩ = some (.int .i64 v2.1.int) ∧ w5.cell? ⟨w4.heap.size, 3, none⟩ = some (.string v2.1.text) := ⟨f0, p0, p1, p2, p3, q0, q1, q2, q3⟩
      have HS5 := Lib.hid hs5
      have SKEEP : ∀ (w' : World), Below w5.heap.size w5 w' → w'.cell? ⟨w.heap.size, 0, none⟩ = some (.int .u8 4) ∧ w'.cell? ⟨w2.heap.size, 0, none⟩ = some (.int .u8 v1.1.kind) ∧ w'.cell? ⟨w2.heap.size, 1, none⟩ = some (.bool v1.1.bool) ∧ w'.cell? ⟨w2.heap.size, 2, none⟩ = some (.int .i64 v1.1.int) ∧ w'.cell? ⟨w2.heap.size, 3, none⟩ = some (.string v1.1.text) ∧ w'.cell? ⟨w4.heap.size, 0, none⟩ = some (.int .u8 v2.1.kind) ∧ w'.cell? ⟨w4.heap.size, 1, none⟩ = some (.bool v2.1.bool) ∧ w'.cell? ⟨w4.heap.size, 2, none⟩ = some (.int .i64 v2.1.int) ∧ w'.cell? ⟨w4.heap.size, 3, none⟩ = some (.string v2.1.text) := fun w' hb => ⟨cell_keep hb HS5.out.1, cell_keep hb HS5.out.2.1, cell_keep hb HS5.out.2.2.1, cell_keep hb HS5.out.2.2.2.1, cell_keep hb HS5.out.2.2.2.2.1, cell_keep hb HS5.out.2.2.2.2.2.1, cell_keep hb HS5.out.2.2.2.2.2.2.1, cell_keep hb HS5.out.2.2.2.2.2.2.2.1, cell_keep hb HS5.out.2.2.2.2.2.2.2.2⟩
      have HKEEP := Lib.hid SKEEP
      have ne1 : w.heap.size + 1 ≠ w2.heap.size := by have := HL1.out; omega
      have ne2 : w.heap.size + 1 ≠ w4.heap.size := by have := HL1.out; have := HL2.out; omega
      have ne3 : w2.heap.size ≠ w.heap.size + 1 := by have := HL1.out; omega
      have ne4 : w4.heap.size ≠ w.heap.size + 1 := by have := HL1.out; have := HL2.out; omega
      clear hs5 SKEEP
      go_region_held3 (fun w' => w'.cell? ⟨w.heap.size, 0, none⟩ = some (.int .u8 4) ∧ w'.cell? ⟨w2.heap.size, 0, none⟩ = some (.int .u8 v1.1.kind) ∧ w'.cell? ⟨w2.heap.size, 1, none⟩ = some (.bool v1.1.bool) ∧ w'.cell? ⟨w2.heap.size, 2, none⟩ = some (.int .i64 v1.1.int) ∧ w'.cell? ⟨w2.heap.size, 3, none⟩ = some (.string v1.1.text) ∧ w'.cell? ⟨w4.heap.size, 0, none⟩ = some (.int .u8 v2.1.kind) ∧ w'.cell? ⟨w4.heap.size, 1, none⟩ = some (.bool v2.1.bool) ∧ w'.cell? ⟨w4.heap.size, 2, none⟩ = some (.int .i64 v2.1.int) ∧ w'.cell? ⟨w4.heap.size, 3, none⟩ = some (.string v2.1.text))
        (first | go_keep | exact HKEEP.out _ hbS.out)
        (first
        | (go_at_call 63; refine (HTW.out _).mono ?_; rintro ev w6 ⟨rfl, hb6⟩; have hbS : Hid (Below w5.heap.size w5 w6) := Lib.hid (by first | exact hb6 | exact below_undrew hb6 | exact below_undrewN hb6); clear hb6)
        | (go_at_call 76; refine (HFN.out _ (by first | exact HB5.out.trans (hbS.out.mono HB5.out.size) | exact Go.Pen.below_drewN (HB5.out.trans (hbS.out.mono HB5.out.size)))).mono ?_; rintro ev w7 ⟨rfl, hb7⟩; have hbS : Hid (Below w5.heap.size w5 w7) := Lib.hid (hbS.out.trans ((show Below w6.heap.size w6 w7 by first | exact hb7 | exact below_undrew hb7 | exact below_undrewN hb7).mono hbS.out.size)); clear hb7; unfold resT Dat.agg)
        | (go_at_call 61; refine (told_86 R.1 R.2 _ HNUM.out).mono ?_; rintro ev w8 ⟨rfl, hb8⟩; have hbS : Hid (Below w5.heap.size w5 w8) := Lib.hid (hbS.out.trans ((show Below w7.heap.size w7 w8 by first | exact hb8 | exact below_undrew hb8 | exact below_undrewN hb8).mono hbS.out.size)); have t8 := (hbS.out.block _ (lt_of_heap V1.out)).trans V1.out; have z0 := cell_of_heap (o := 0) t8 rfl; have g0 := frozen_of_heap (o := 0) t8; have z1 := cell_of_heap (o := 1) t8 rfl; have g1 := frozen_of_heap (o := 1) t8; have z2 := cell_of_heap (o := 2) t8 rfl; have g2 := frozen_of_heap (o := 2) t8; have z3 := cell_of_heap (o := 3) t8 rfl; have g3 := frozen_of_heap (o := 3) t8; have V18 := Lib.hid t8; clear hb8 t8; unfold evT Dat.agg))
      go_wp2
      refine bodyPost_ret (results_row_tmp rfl _ _ (w.heap.size + 1) 55 _ (0, 0) _ rfl (setRow4_at V18.out) Tryz.underlying55 rfl (by kernel_rfl)) rfl ?_
      refine ⟨?_, setRow4_below (HB5.out.trans (hbS.out.mono HB5.out.size)) (by show w.heap.size ≤ w.heap.size + 1; omega)⟩
      rw [HVAL.out, HR.out]
      rfl
set_option maxRecDepth 100000 in
set_option maxHeartbeats 1000000 in
theorem eval_two_5 (r : List Dat) (rv : Value) (c : Int) (d : Dat) (k1 k2 : ET) (a : Option Addr) (cc : Nat) (w : World) (h11 : 3 ≤ w.heap.size)
    (hks : [k1, k2] ≠ [] → ∃ b o, a = some ⟨b, o, none⟩ ∧ True ∧ ET.Ons (fun _ => True) w [k1, k2] b o) (ih1 : EvalOK r rv w k1) (ih2 : EvalOK r rv w k2)
    (hT : Lib.Utf8Tabs 1 2 w) (hf1 : (k1.val r).1.fits) (hf2 : (k2.val r).1.fits) :
    Calls Tryz.prog 46 #[(ET.mk 5 c d [k1, k2]).agg (.slice a 2 cc), rv] w (EvalPost ((ET.mk 5 c d [k1, k2]).val r) w) := by
  rw [plain_val (by unfold PlainOp; decide)]
  simp only [ET.vals]
  obtain ⟨b, off, rfl, -, -⟩ := hks (by simp)
  obtain ⟨a1, c1, hk1, hat1⟩ := kid_at hks rfl (i := 0) rfl
  obtain ⟨a2, c2, hk2, hat2⟩ := kid_at hks rfl (i := 1) rfl
  rw [show off + 0 * 7 = off by omega] at hk1
  rw [show off + 1 * 7 = off + 7 by omega] at hk2
  have hc1 := fun (W : World) (hb : Below w.heap.size w W) => ih1 _ W hb (hat1.below hb)
  have hc2 := fun (W : World) (hb : Below w.heap.size w W) => ih2 _ W hb (hat2.below hb)
  have HK1 := Lib.hid hk1
  have HK2 := Lib.hid hk2
  generalize k1.val r = v1 at *
  generalize k2.val r = v2 at *
  unfold ET.agg at hc1 hc2
  have HC1 := Lib.hid hc1
  have HC2 := Lib.hid hc2
  have htw := twos_88_5
  have hfn := fun (W : World) (hb : Below w.heap.size w W) => sub_122 v1.1 v2.1 W hf1 hf2 (tabs_below hT hb h11) (Nat.le_trans h11 hb.size)
  unfold Dat.agg at hfn
  have HTW := Lib.hid htw
  have HFN := Lib.hid hfn
  clear hks ih1 ih2 hat1 hat2 hc1 hc2 htw hfn hk1 hk2 hT hf1 hf2
  unfold ET.agg
  simp only [ET.op, ET.col, ET.lit]
  obtain ⟨w1, hw1⟩ : ∃ w1, w1 = (w.alloc (.cells #[.int .u8 5, .slice (some ⟨b, off, none⟩) 2 cc, .int .i64 c, .int .u8 d.kind, .bool d.bool, .int .i64 d.int, .string d.text] 57)).alloc (.cells #[.int .u8 0, .bool false, .int .i64 0, .string ⟨#[]⟩] 55) := ⟨_, rfl⟩
  have hb1 : Below w.heap.size w w1 := by rw [hw1]; exact two_below _ _ _
  have ht := two_at (w := w) (w1 := w1) (a := .cells #[.int .u8 5, .slice (some ⟨b, off, none⟩) 2 cc, .int .i64 c, .int .u8 d.kind, .bool d.bool, .int .i64 d.int, .string d.text] 57) (b := .cells #[.int .u8 0, .bool false, .int .i64 0, .string ⟨#[]⟩] 55) (by rw [hw1]; exact Below.refl _ _)
  obtain ⟨m0, m1, m2, m3, m4, m5, m6⟩ := HK1.out.below hb1
  have HB1 := Lib.hid hb1
  have HT := Lib.hid ht
  have HW1 := Lib.hid hw1
  rw [hw1] at m0 m1 m2 m3 m4 m5 m6
  clear hb1 ht hw1
  go_enter Tryz.func46, Tryz.ntmps46
  go_wp2_with fail
  rw [← HW1.out]
  refine (HC1.out w1 HB1.out).mono ?_
  rintro ev w2 ⟨rfl, hb2⟩
  have hB2 : Below w.heap.size w w2 := HB1.out.trans (hb2.mono HB1.out.size)
  have t0 := (hb2.block _ (lt_of_heap HT.out.1)).trans HT.out.1
  have t1 := (hb2.block _ (lt_of_heap HT.out.2)).trans HT.out.2
  have T0 := Lib.hid t0
  have T1 := Lib.hid t1
  have HB2 := Lib.hid hB2
  clear hb2 hB2 m0 m1 m2 m3 m4 m5 m6 HW1 HT HB1 HC1
  unfold evT Dat.agg
  by_cases e1 : v1.2 = 0
  rotate_left
  · rw [errV_ne e1]
    have hval : restV 5 [v1, v2] = bad v1.2 := by simp [restV, e1]
    have HVAL := Lib.hid hval
    have hev : evT (bad v1.2) = .tuple #[Dat.zero.agg, .iface 107 (.agg #[.int .u16 v1.2])] := by simp only [evT, bad]; rw [errV_ne e1]
    have HEV := Lib.hid hev
    clear hval hev e1
    have keep : ∀ (A : Obj) {g : Nat} {y : Obj}, w2.heap[g]? = some y → (w2.alloc A).heap[g]? = some y := fun A g y h => (Below.heap_alloc _ _ _ (lt_of_heap h)).trans h
    have z0 := fun A => cell_of_heap (o := 0) (keep A t1) rfl
    have z1 := fun A => cell_of_heap (o := 1) (keep A t1) rfl
    have z2 := fun A => cell_of_heap (o := 2) (keep A t1) rfl
    have z3 := fun A => cell_of_heap (o := 3) (keep A t1) rfl
    have g0 := fun A => frozen_of_heap (o := 0) (keep A t1)
    have g1 := fun A => frozen_of_heap (o := 1) (keep A t1)
    have g2 := fun A => frozen_of_heap (o := 2) (keep A t1)
    have g3 := fun A => frozen_of_heap (o := 3) (keep A t1)
    have KEEP := Lib.hid @keep
    clear t0 t1 keep
    go_wp2
    refine bodyPost_ret (results_row_tmp rfl _ _ (w.heap.size + 1) 55 _ (0, 0) _ rfl (setRow4_at (KEEP.out _ T1.out)) Tryz.underlying55 rfl (by kernel_rfl)) rfl ?_
    exact ⟨by rw [HVAL.out, HEV.out]; rfl, setRow4_below (HB2.out.alloc HB2.out.size _) (by show w.heap.size ≤ w.heap.size + 1; omega)⟩
  · rw [e1]
    have hl1 : w.heap.size + 1 < w2.heap.size := lt_of_heap T1.out
    have HL1 := Lib.hid hl1
    clear hl1
    have hB3 := HB2.out.alloc HB2.out.size (.cells #[.int .u8 v1.1.kind, .bool v1.1.bool, .int .i64 v1.1.int, .string v1.1.text] 55)
    obtain ⟨w3, hw3⟩ : ∃ w3, w3 = w2.alloc (.cells #[.int .u8 v1.1.kind, .bool v1.1.bool, .int .i64 v1.1.int, .string v1.1.text] 55) := ⟨_, rfl⟩
    have ta : w3.heap[w2.heap.size]? = some (.cells #[.int .u8 v1.1.kind, .bool v1.1.bool, .int .i64 v1.1.int, .string v1.1.text] 55 (0, 0)) := by rw [hw3]; exact heap_alloc_new _ _
    have t0 := (show w3.heap[w.heap.size]? = w2.heap[w.heap.size]? by rw [hw3]; exact Below.heap_alloc _ _ _ (lt_of_heap T0.out)).trans T0.out
    have t1 := (show w3.heap[w.heap.size + 1]? = w2.heap[w.heap.size + 1]? by rw [hw3]; exact Below.heap_alloc _ _ _ (lt_of_heap T1.out)).trans T1.out
    rw [← hw3] at hB3
    obtain ⟨n0, n1, n2, n3, n4, n5, n6⟩ := HK2.out.below hB3
    have y0 := cell_of_heap (o := 0) t0 rfl
    have y1 := cell_of_heap (o := 1) t0 rfl
    have E1 := Lib.hid e1
    have HB3 := Lib.hid hB3
    have HW3 := Lib.hid hw3
    have TA := Lib.hid ta
    have T03 := Lib.hid t0
    have T13 := Lib.hid t1
    rw [hw3] at n0 n1 n2 n3 n4 n5 n6 y0 y1
    clear hB3 hw3 ta t0 t1 T0 T1 e1
    rw [errV_zero]
    go_wp2_with fail
    rw [← HW3.out]
    refine (HC2.out w3 HB3.out).mono ?_
    rintro ev w4 ⟨rfl, hb4⟩
    have hB4 : Below w.heap.size w w4 := HB3.out.trans (hb4.mono HB3.out.size)
    have ua := (hb4.block _ (lt_of_heap TA.out)).trans TA.out
    have u0 := (hb4.block _ (lt_of_heap T03.out)).trans T03.out
    have u1 := (hb4.block _ (lt_of_heap T13.out)).trans T13.out
    have hl2 : w2.heap.size < w4.heap.size := lt_of_heap ua
    have HL2 := Lib.hid hl2
    clear hl2
    have UA := Lib.hid ua
    have U0 := Lib.hid u0
    have U1 := Lib.hid u1
    have HB4 := Lib.hid hB4
    clear hb4 hB4 n0 n1 n2 n3 n4 n5 n6 y0 y1 HW3 TA T03 T13 HB3 HC2
    unfold evT Dat.agg
    have keep : ∀ (A : Obj) {g : Nat} {y : Obj}, w4.heap[g]? = some y → (w4.alloc A).heap[g]? = some y := fun A g y h => (Below.heap_alloc _ _ _ (lt_of_heap h)).trans h
    have KEEP := Lib.hid @keep
    by_cases e2 : v2.2 = 0
    rotate_left
    · rw [errV_ne e2]
      have hval : restV 5 [v1, v2] = bad v2.2 := by simp [restV, E1.out, e2]
      have hev : evT (bad v2.2) = .tuple #[Dat.zero.agg, .iface 107 (.agg #[.int .u16 v2.2])] := by simp only [evT, bad]; rw [errV_ne e2]
      have HVAL := Lib.hid hval
      have HEV := Lib.hid hev
      clear hval hev e2
      have z0 := fun A => cell_of_heap (o := 0) (keep A u1) rfl
      have g0 := fun A => frozen_of_heap (o := 0) (keep A u1)
      have z1 := fun A => cell_of_heap (o := 1) (keep A u1) rfl
      have g1 := fun A => frozen_of_heap (o := 1) (keep A u1)
      have z2 := fun A => cell_of_heap (o := 2) (keep A u1) rfl
      have g2 := fun A => frozen_of_heap (o := 2) (keep A u1)
      have z3 := fun A => cell_of_heap (o := 3) (keep A u1) rfl
      have g3 := fun A => frozen_of_heap (o := 3) (keep A u1)
      clear ua u0 u1 keep
      go_wp2
      refine bodyPost_ret (results_row_tmp rfl _ _ (w.heap.size + 1) 55 _ (0, 0) _ rfl (setRow4_at (KEEP.out _ U1.out)) Tryz.underlying55 rfl (by kernel_rfl)) rfl ?_
      exact ⟨by rw [HVAL.out, HEV.out]; rfl, setRow4_below (HB4.out.alloc HB4.out.size _) (by show w.heap.size ≤ w.heap.size + 1; omega)⟩
    · rw [e2, errV_zero]
      have hval : restV 5 [v1, v2] = told (twoD 5 v1.1 v2.1) := by simp [restV, E1.out, e2]
      have HVAL := Lib.hid hval
      obtain ⟨w5, hw5⟩ : ∃ w5, w5 = w4.alloc (.cells #[.int .u8 v2.1.kind, .bool v2.1.bool, .int .i64 v2.1.int, .string v2.1.text] 55) := ⟨_, rfl⟩
      have hB5 : Below w.heap.size w w5 := by rw [hw5]; exact HB4.out.alloc HB4.out.size _
      have va : w5.heap[w2.heap.size]? = some (.cells #[.int .u8 v1.1.kind, .bool v1.1.bool, .int .i64 v1.1.int, .string v1.1.text] 55 (0, 0)) := by rw [hw5]; exact keep _ ua
      have vb : w5.heap[w4.heap.size]? = some (.cells #[.int .u8 v2.1.kind, .bool v2.1.bool, .int .i64 v2.1.int, .string v2.1.text] 55 (0, 0)) := by rw [hw5]; exact heap_alloc_new _ _
      have v0 := (show w5.heap[w.heap.size]? = w4.heap[w.heap.size]? by rw [hw5]; exact Below.heap_alloc _ _ _ (lt_of_heap u0)).trans u0
      have v1' := (show w5.heap[w.heap.size + 1]? = w4.heap[w.heap.size + 1]? by rw [hw5]; exact Below.heap_alloc _ _ _ (lt_of_heap u1)).trans u1
      have HW5 := Lib.hid hw5
      have HB5 := Lib.hid hB5
      have VA := Lib.hid va
      have VB := Lib.hid vb
      have V0 := Lib.hid v0
      have V1 := Lib.hid v1'
      have y0 := fun A => cell_of_heap (o := 0) (keep A u0) rfl
      have y1 := fun A => cell_of_heap (o := 1) (keep A u0) rfl
      clear ua u0 u1 keep hval e2 hw5 hB5 va vb v0 v1' UA U0 U1
      go_wp2_with fail
      rw [← HW5.out]
      have hR : twoD 5 v1.1 v2.1 = subD v1.1 v2.1 := by simp [twoD]
      have hnum : (subD v1.1 v2.1).2 ≤ 65535 := sub_num v1.1 v2.1
      obtain ⟨R, eR⟩ : ∃ R, R = subD v1.1 v2.1 := ⟨_, rfl⟩
      rw [← eR] at HFN hR hnum
      have HR := Lib.hid hR
      have f0 := cell_of_heap (o := 0) V0.out rfl
      have p0 := cell_of_heap (o := 0) VA.out rfl
      have q0 := cell_of_heap (o := 0) VB.out rfl
      have p1 := cell_of_heap (o := 1) VA.out rfl
      have q1 := cell_of_heap (o := 1) VB.out rfl
      have p2 := cell_of_heap (o := 2) VA.out rfl
      have q2 := cell_of_heap (o := 2) VB.out rfl
      have p3 := cell_of_heap (o := 3) VA.out rfl
      have q3 := cell_of_heap (o := 3) VB.out rfl
      have HNUM := Lib.hid hnum
      clear y0 y1 hR eR HW5 hnum
      have hs5 : w5.cell? ⟨w.heap.size, 0, none⟩ = some (.int .u8 5) ∧ w5.cell? ⟨w2.heap.size, 0, none⟩ = some (.int .u8 v1.1.kind) ∧ w5.cell? ⟨w2.heap.size, 1, none⟩ = some (.bool v1.1.bool) ∧ w5.cell? ⟨w2.heap.size, 2, none⟩ = some (.int .i64 v1.1.int) ∧ w5.cell? ⟨w2.heap.size, 3, none⟩ = some (.string v1.1.text) ∧ w5.cell? ⟨w4.heap.size, 0, none⟩ = some (.int .u8 v2.1.kind) ∧ w5.cell? ⟨w4.heap.size, 1, none⟩ = some (.bool v2.1.bool) ∧ w5.cell? ⟨w4.heap.size, 2, none⟩ = some (.int .i64 v2.1.int) ∧ w5.cell? ⟨w4.heap.size, 3, none⟩ = some (.string v2.1.text) := ⟨f0, p0, p1, p2, p3, q0, q1, q2, q3⟩
      have HS5 := Lib.hid hs5
      have SKEEP : ∀ (w' : World), Below w5.heap.size w5 w' → w'.cell? ⟨w.heap.size, 0, none⟩ = some (.int .u8 5) ∧ w'.cell? ⟨w2.heap.size, 0, none⟩ = some (.int .u8 v1.1.kind) ∧ w'.cell? ⟨w2.heap.size, 1, none⟩ = some (.bool v1.1.bool) ∧ w'.cell? ⟨w2.heap.size, 2, none⟩ = some (.int .i64 v1.1.int) ∧ w'.cell? ⟨w2.heap.size, 3, none⟩ = some (.string v1.1.text) ∧ w'.cell? ⟨w4.heap.size, 0, none⟩ = some (.int .u8 v2.1.kind) ∧ w'.cell? ⟨w4.heap.size, 1, none⟩ = some (.bool v2.1.bool) ∧ w'.cell? ⟨w4.heap.size, 2, none⟩ = some (.int .i64 v2.1.int) ∧ w'.cell? ⟨w4.heap.size, 3, none⟩ = some (.string v2.1.text) := fun w' hb => ⟨cell_keep hb HS5.out.1, cell_keep hb HS5.out.2.1, cell_keep hb HS5.out.2.2.1, cell_keep hb HS5.out.2.2.2.1, cell_keep hb HS5.out.2.2.2.2.1, cell_keep hb HS5.out.2.2.2.2.2.1, cell_keep hb HS5.out.2.2.2.2.2.2.1, cell_keep hb HS5.out.2.2.2.2.2.2.2.1, cell_keep hb HS5.out.2.2.2.2.2.2.2.2⟩
      have HKEEP := Lib.hid SKEEP
      have ne1 : w.heap.size + 1 ≠ w2.heap.size := by have := HL1.out; omega
      have ne2 : w.heap.size + 1 ≠ w4.heap.size := by have := HL1.out; have := HL2.out; omega
      have ne3 : w2.heap.size ≠ w.heap.size + 1 := by have := HL1.out; omega
      have ne4 : w4.heap.size ≠ w.heap.size + 1 := by have := HL1.out; have := HL2.out; omega
      clear hs5 SKEEP
      go_region_held3 (fun w' => w'.cell? ⟨w.heap.size, 0, none⟩ = some (.int .u8 5) ∧ w'.cell? ⟨w2.heap.size, 0, none⟩ = some (.int .u8 v1.1.kind) ∧ w'.cell? ⟨w2.heap.size, 1, none⟩ = some (.bool v1.1.bool) ∧ w'.cell? ⟨w2.heap.size, 2, none⟩ = some (.int .i64 v1.1.int) ∧ w'.cell? ⟨w2.heap.size, 3, none⟩ = some (.string v1.1.text) ∧ w'.cell? ⟨w4.heap.size, 0, none⟩ = some (.int .u8 v2.1.kind) ∧ w'.cell? ⟨w4.heap.size, 1, none⟩ = some (.bool v2.1.bool) ∧ w'.cell? ⟨w4.heap.size, 2, none⟩ = some (.int .i64 v2.1.int) ∧ w'.cell? ⟨w4.heap.size, 3, none⟩ = some (.string v2.1.text))
        (first | go_keep | exact HKEEP.out _ hbS.out)
        (first
        | (go_at_call 63; refine (HTW.out _).mono ?_; rintro ev w6 ⟨rfl, hb6⟩; have hbS : Hid (Below w5.heap.size w5 w6) := Lib.hid (by first | exact hb6 | exact below_undrew hb6 | exact below_undrewN hb6); clear hb6)
        | (go_at_call 77; refine (HFN.out _ (by first | exact HB5.out.trans (hbS.out.mono HB5.out.size) | exact Go.Pen.below_drewN (HB5.out.trans (hbS.out.mono HB5.out.size)))).mono ?_; rintro ev w7 ⟨rfl, hb7⟩; have hbS : Hid (Below w5.heap.size w5 w7) := Lib.hid (hbS.out.trans ((show Below w6.heap.size w6 w7 by first | exact hb7 | exact below_undrew hb7 | exact below_undrewN hb7).mono hbS.out.size)); clear hb7; unfold resT Dat.agg)
        | (go_at_call 61; refine (told_86 R.1 R.2 _ HNUM.out).mono ?_; rintro ev w8 ⟨rfl, hb8⟩; have hbS : Hid (Below w5.heap.size w5 w8) := Lib.hid (hbS.out.trans ((show Below w7.heap.size w7 w8 by first | exact hb8 | exact below_undrew hb8 | exact below_undrewN hb8).mono hbS.out.size)); have t8 := (hbS.out.block _ (lt_of_heap V1.out)).trans V1.out; have z0 := cell_of_heap (o := 0) t8 rfl; have g0 := frozen_of_heap (o := 0) t8; have z1 := cell_of_heap (o := 1) t8 rfl; have g1 := frozen_of_heap (o := 1) t8; have z2 := cell_of_heap (o := 2) t8 rfl; have g2 := frozen_of_heap (o := 2) t8; have z3 := cell_of_heap (o := 3) t8 rfl; have g3 := frozen_of_heap (o := 3) t8; have V18 := Lib.hid t8; clear hb8 t8; unfold evT Dat.agg))
      go_wp2
      refine bodyPost_ret (results_row_tmp rfl _ _ (w.heap.size + 1) 55 _ (0, 0) _ rfl (setRow4_at V18.out) Tryz.underlying55 rfl (by kernel_rfl)) rfl ?_
      refine ⟨?_, setRow4_below (HB5.out.trans (hbS.out.mono HB5.out.size)) (by show w.heap.size ≤ w.heap.size + 1; omega)⟩
      rw [HVAL.out, HR.out]
      rfl
set_option maxRecDepth 100000 in
set_option maxHeartbeats 1000000 in
theorem eval_two_6 (r : List Dat) (rv : Value) (c : Int) (d : Dat) (k1 k2 : ET) (a : Option Addr) (cc : Nat) (w : World) (h11 : 3 ≤ w.heap.size)
    (hks : [k1, k2] ≠ [] → ∃ b o, a = some ⟨b, o, none⟩ ∧ True ∧ ET.Ons (fun _ => True) w [k1, k2] b o) (ih1 : EvalOK r rv w k1) (ih2 : EvalOK r rv w k2)
    (hT : Lib.Utf8Tabs 1 2 w) (hf1 : (k1.val r).1.fits) (hf2 : (k2.val r).1.fits) :
    Calls Tryz.prog 46 #[(ET.mk 6 c d [k1, k2]).agg (.slice a 2 cc), rv] w (EvalPost ((ET.mk 6 c d [k1, k2]).val r) w) := by
  rw [plain_val (by unfold PlainOp; decide)]
  simp only [ET.vals]
  obtain ⟨b, off, rfl, -, -⟩ := hks (by simp)
  obtain ⟨a1, c1, hk1, hat1⟩ := kid_at hks rfl (i := 0) rfl
  obtain ⟨a2, c2, hk2, hat2⟩ := kid_at hks rfl (i := 1) rfl
  rw [show off + 0 * 7 = off by omega] at hk1
  rw [show off + 1 * 7 = off + 7 by omega] at hk2
  have hc1 := fun (W : World) (hb : Below w.heap.size w W) => ih1 _ W hb (hat1.below hb)
  have hc2 := fun (W : World) (hb : Below w.heap.size w W) => ih2 _ W hb (hat2.below hb)
  have HK1 := Lib.hid hk1
  have HK2 := Lib.hid hk2
  generalize k1.val r = v1 at *
  generalize k2.val r = v2 at *
  unfold ET.agg at hc1 hc2
  have HC1 := Lib.hid hc1
  have HC2 := Lib.hid hc2
  have htw := twos_88_6
  have hfn := fun (W : World) (hb : Below w.heap.size w W) => mul_123 v1.1 v2.1 W hf1 hf2 (tabs_below hT hb h11) (Nat.le_trans h11 hb.size)
  unfold Dat.agg at hfn
  have HTW := Lib.hid htw
  have HFN := Lib.hid hfn
  clear hks ih1 ih2 hat1 hat2 hc1 hc2 htw hfn hk1 hk2 hT hf1 hf2
  unfold ET.agg
  simp only [ET.op, ET.col, ET.lit]
  obtain ⟨w1, hw1⟩ : ∃ w1, w1 = (w.alloc (.cells #[.int .u8 6, .slice (some ⟨b, off, none⟩) 2 cc, .int .i64 c, .int .u8 d.kind, .bool d.bool, .int .i64 d.int, .string d.text] 57)).alloc (.cells #[.int .u8 0, .bool false, .int .i64 0, .string ⟨#[]⟩] 55) := ⟨_, rfl⟩
  have hb1 : Below w.heap.size w w1 := by rw [hw1]; exact two_below _ _ _
  have ht := two_at (w := w) (w1 := w1) (a := .cells #[.int .u8 6, .slice (some ⟨b, off, none⟩) 2 cc, .int .i64 c, .int .u8 d.kind, .bool d.bool, .int .i64 d.int, .string d.text] 57) (b := .cells #[.int .u8 0, .bool false, .int .i64 0, .string ⟨#[]⟩] 55) (by rw [hw1]; exact Below.refl _ _)
  obtain ⟨m0, m1, m2, m3, m4, m5, m6⟩ := HK1.out.below hb1
  have HB1 := Lib.hid hb1
  have HT := Lib.hid ht
  have HW1 := Lib.hid hw1
  rw [hw1] at m0 m1 m2 m3 m4 m5 m6
  clear hb1 ht hw1
  go_enter Tryz.func46, Tryz.ntmps46
  go_wp2_with fail
  rw [← HW1.out]
  refine (HC1.out w1 HB1.out).mono ?_
  rintro ev w2 ⟨rfl, hb2⟩
  have hB2 : Below w.heap.size w w2 := HB1.out.trans (hb2.mono HB1.out.size)
  have t0 := (hb2.block _ (lt_of_heap HT.out.1)).trans HT.out.1
  have t1 := (hb2.block _ (lt_of_heap HT.out.2)).trans HT.out.2
  have T0 := Lib.hid t0
  have T1 := Lib.hid t1
  have HB2 := Lib.hid hB2
  clear hb2 hB2 m0 m1 m2 m3 m4 m5 m6 HW1 HT HB1 HC1
  unfold evT Dat.agg
  by_cases e1 : v1.2 = 0
  rotate_left
  · rw [errV_ne e1]
    have hval : restV 6 [v1, v2] = bad v1.2 := by simp [restV, e1]
    have HVAL := Lib.hid hval
    have hev : evT (bad v1.2) = .tuple #[Dat.zero.agg, .iface 107 (.agg #[.int .u16 v1.2])] := by simp only [evT, bad]; rw [errV_ne e1]
    have HEV := Lib.hid hev
    clear hval hev e1
    have keep : ∀ (A : Obj) {g : Nat} {y : Obj}, w2.heap[g]? = some y → (w2.alloc A).heap[g]? = some y := fun A g y h => (Below.heap_alloc _ _ _ (lt_of_heap h)).trans h
    have z0 := fun A => cell_of_heap (o := 0) (keep A t1) rfl
    have z1 := fun A => cell_of_heap (o := 1) (keep A t1) rfl
    have z2 := fun A => cell_of_heap (o := 2) (keep A t1) rfl
    have z3 := fun A => cell_of_heap (o := 3) (keep A t1) rfl
    have g0 := fun A => frozen_of_heap (o := 0) (keep A t1)
    have g1 := fun A => frozen_of_heap (o := 1) (keep A t1)
    have g2 := fun A => frozen_of_heap (o := 2) (keep A t1)
    have g3 := fun A => frozen_of_heap (o := 3) (keep A t1)
    have KEEP := Lib.hid @keep
    clear t0 t1 keep
    go_wp2
    refine bodyPost_ret (results_row_tmp rfl _ _ (w.heap.size + 1) 55 _ (0, 0) _ rfl (setRow4_at (KEEP.out _ T1.out)) Tryz.underlying55 rfl (by kernel_rfl)) rfl ?_
    exact ⟨by rw [HVAL.out, HEV.out]; rfl, setRow4_below (HB2.out.alloc HB2.out.size _) (by show w.heap.size ≤ w.heap.size + 1; omega)⟩
  · rw [e1]
    have hl1 : w.heap.size + 1 < w2.heap.size := lt_of_heap T1.out
    have HL1 := Lib.hid hl1
    clear hl1
    have hB3 := HB2.out.alloc HB2.out.size (.cells #[.int .u8 v1.1.kind, .bool v1.1.bool, .int .i64 v1.1.int, .string v1.1.text] 55)
    obtain ⟨w3, hw3⟩ : ∃ w3, w3 = w2.alloc (.cells #[.int .u8 v1.1.kind, .bool v1.1.bool, .int .i64 v1.1.int, .string v1.1.text] 55) := ⟨_, rfl⟩
    have ta : w3.heap[w2.heap.size]? = some (.cells #[.int .u8 v1.1.kind, .bool v1.1.bool, .int .i64 v1.1.int, .string v1.1.text] 55 (0, 0)) := by rw [hw3]; exact heap_alloc_new _ _
    have t0 := (show w3.heap[w.heap.size]? = w2.heap[w.heap.size]? by rw [hw3]; exact Below.heap_alloc _ _ _ (lt_of_heap T0.out)).trans T0.out
    have t1 := (show w3.heap[w.heap.size + 1]? = w2.heap[w.heap.size + 1]? by rw [hw3]; exact Below.heap_alloc _ _ _ (lt_of_heap T1.out)).trans T1.out
    rw [← hw3] at hB3
    obtain ⟨n0, n1, n2, n3, n4, n5, n6⟩ := HK2.out.below hB3
    have y0 := cell_of_heap (o := 0) t0 rfl
    have y1 := cell_of_heap (o := 1) t0 rfl
    have E1 := Lib.hid e1
    have HB3 := Lib.hid hB3
    have HW3 := Lib.hid hw3
    have TA := Lib.hid ta
    have T03 := Lib.hid t0
    have T13 := Lib.hid t1
    rw [hw3] at n0 n1 n2 n3 n4 n5 n6 y0 y1
    clear hB3 hw3 ta t0 t1 T0 T1 e1
    rw [errV_zero]
    go_wp2_with fail
    rw [← HW3.out]
    refine (HC2.out w3 HB3.out).mono ?_
    rintro ev w4 ⟨rfl, hb4⟩
    have hB4 : Below w.heap.size w w4 := HB3.out.trans (hb4.mono HB3.out.size)
    have ua := (hb4.block _ (lt_of_heap TA.out)).trans TA.out
    have u0 := (hb4.block _ (lt_of_heap T03.out)).trans T03.out
    have u1 := (hb4.block _ (lt_of_heap T13.out)).trans T13.out
    have hl2 : w2.heap.size < w4.heap.size := lt_of_heap ua
    have HL2 := Lib.hid hl2
    clear hl2
    have UA := Lib.hid ua
    have U0 := Lib.hid u0
    have U1 := Lib.hid u1
    have HB4 := Lib.hid hB4
    clear hb4 hB4 n0 n1 n2 n3 n4 n5 n6 y0 y1 HW3 TA T03 T13 HB3 HC2
    unfold evT Dat.agg
    have keep : ∀ (A : Obj) {g : Nat} {y : Obj}, w4.heap[g]? = some y → (w4.alloc A).heap[g]? = some y := fun A g y h => (Below.heap_alloc _ _ _ (lt_of_heap h)).trans h
    have KEEP := Lib.hid @keep
    by_cases e2 : v2.2 = 0
    rotate_left
    · rw [errV_ne e2]
      have hval : restV 6 [v1, v2] = bad v2.2 := by simp [restV, E1.out, e2]
      have hev : evT (bad v2.2) = .tuple #[Dat.zero.agg, .iface 107 (.agg #[.int .u16 v2.2])] := by simp only [evT, bad]; rw [errV_ne e2]
      have HVAL := Lib.hid hval
      have HEV := Lib.hid hev
      clear hval hev e2
      have z0 := fun A => cell_of_heap (o := 0) (keep A u1) rfl
      have g0 := fun A => frozen_of_heap (o := 0) (keep A u1)
      have z1 := fun A => cell_of_heap (o := 1) (keep A u1) rfl
      have g1 := fun A => frozen_of_heap (o := 1) (keep A u1)
      have z2 := fun A => cell_of_heap (o := 2) (keep A u1) rfl
      have g2 := fun A => frozen_of_heap (o := 2) (keep A u1)
      have z3 := fun A => cell_of_heap (o := 3) (keep A u1) rfl
      have g3 := fun A => frozen_of_heap (o := 3) (keep A u1)
      clear ua u0 u1 keep
      go_wp2
      refine bodyPost_ret (results_row_tmp rfl _ _ (w.heap.size + 1) 55 _ (0, 0) _ rfl (setRow4_at (KEEP.out _ U1.out)) Tryz.underlying55 rfl (by kernel_rfl)) rfl ?_
      exact ⟨by rw [HVAL.out, HEV.out]; rfl, setRow4_below (HB4.out.alloc HB4.out.size _) (by show w.heap.size ≤ w.heap.size + 1; omega)⟩
    · rw [e2, errV_zero]
      have hval : restV 6 [v1, v2] = told (twoD 6 v1.1 v2.1) := by simp [restV, E1.out, e2]
      have HVAL := Lib.hid hval
      obtain ⟨w5, hw5⟩ : ∃ w5, w5 = w4.alloc (.cells #[.int .u8 v2.1.kind, .bool v2.1.bool, .int .i64 v2.1.int, .string v2.1.text] 55) := ⟨_, rfl⟩
      have hB5 : Below w.heap.size w w5 := by rw [hw5]; exact HB4.out.alloc HB4.out.size _
      have va : w5.heap[w2.heap.size]? = some (.cells #[.int .u8 v1.1.kind, .bool v1.1.bool, .int .i64 v1.1.int, .string v1.1.text] 55 (0, 0)) := by rw [hw5]; exact keep _ ua
      have vb : w5.heap[w4.heap.size]? = some (.cells #[.int .u8 v2.1.kind, .bool v2.1.bool, .int .i64 v2.1.int, .string v2.1.text] 55 (0, 0)) := by rw [hw5]; exact heap_alloc_new _ _
      have v0 := (show w5.heap[w.heap.size]? = w4.heap[w.heap.size]? by rw [hw5]; exact Below.heap_alloc _ _ _ (lt_of_heap u0)).trans u0
      have v1' := (show w5.heap[w.heap.size + 1]? = w4.heap[w.heap.size + 1]? by rw [hw5]; exact Below.heap_alloc _ _ _ (lt_of_heap u1)).trans u1
      have HW5 := Lib.hid hw5
      have HB5 := Lib.hid hB5
      have VA := Lib.hid va
      have VB := Lib.hid vb
      have V0 := Lib.hid v0
      have V1 := Lib.hid v1'
      have y0 := fun A => cell_of_heap (o := 0) (keep A u0) rfl
      have y1 := fun A => cell_of_heap (o := 1) (keep A u0) rfl
      clear ua u0 u1 keep hval e2 hw5 hB5 va vb v0 v1' UA U0 U1
      go_wp2_with fail
      rw [← HW5.out]
      have hR : twoD 6 v1.1 v2.1 = mulD v1.1 v2.1 := by simp [twoD]
      have hnum : (mulD v1.1 v2.1).2 ≤ 65535 := mul_num v1.1 v2.1
      obtain ⟨R, eR⟩ : ∃ R, R = mulD v1.1 v2.1 := ⟨_, rfl⟩
      rw [← eR] at HFN hR hnum
      have HR := Lib.hid hR
      have f0 := cell_of_heap (o := 0) V0.out rfl
      have p0 := cell_of_heap (o := 0) VA.out rfl
      have q0 := cell_of_heap (o := 0) VB.out rfl
      have p1 := cell_of_heap (o := 1) VA.out rfl
      have q1 := cell_of_heap (o := 1) VB.out rfl
      have p2 := cell_of_heap (o := 2) VA.out rfl
      have q2 := cell_of_heap (o := 2) VB.out rfl
      have p3 := cell_of_heap (o := 3) VA.out rfl
      have q3 := cell_of_heap (o := 3) VB.out rfl
      have HNUM := Lib.hid hnum
      clear y0 y1 hR eR HW5 hnum
      have hs5 : w5.cell? ⟨w.heap.size, 0, none⟩ = some (.int .u8 6) ∧ w5.cell? ⟨w2.heap.size, 0, none⟩ = some (.int .u8 v1.1.kind) ∧ w5.cell? ⟨w2.heap.size, 1, none⟩ = some (.bool v1.1.bool) ∧ w5.cell? ⟨w2.heap.size, 2, none⟩ = some (.int .i64 v1.1.int) ∧ w5.cell? ⟨w2.heap.size, 3, none⟩ = some (.string v1.1.text) ∧ w5.cell? ⟨w4.heap.size, 0, none⟩ = some (.int .u8 v2.1.kind) ∧ w5.cell? ⟨w4.heap.size, 1, none⟩ = some (.bool v2.1.bool) ∧ w5.cell? ⟨w4.heap.size, 2, none⟩ = some (.int .i64 v2.1.int) ∧ w5.cell? ⟨w4.heap.size, 3, none⟩ = some (.string v2.1.text) := ⟨f0, p0, p1, p2, p3, q0, q1, q2, q3⟩
      have HS5 := Lib.hid hs5
      have SKEEP : ∀ (w' : World), Below w5.heap.size w5 w' → w'.cell? ⟨w.heap.size, 0, none⟩ = some (.int .u8 6) ∧ w'.cell? ⟨w2.heap.size, 0, none⟩ = some (.int .u8 v1.1.kind) ∧ w'.cell? ⟨w2.heap.size, 1, none⟩ = some (.bool v1.1.bool) ∧ w'.cell? ⟨w2.heap.size, 2, none⟩ = some (.int .i64 v1.1.int) ∧ w'.cell? ⟨w2.heap.size, 3, none⟩ = some (.string v1.1.text) ∧ w'.cell? ⟨w4.heap.size, 0, none⟩ = some (.int .u8 v2.1.kind) ∧ w'.cell? ⟨w4.heap.size, 1, none⟩ = some (.bool v2.1.bool) ∧ w'.cell? ⟨w4.heap.size, 2, none⟩ = some (.int .i64 v2.1.int) ∧ w'.cell? ⟨w4.heap.size, 3, none⟩ = some (.string v2.1.text) := fun w' hb => ⟨cell_keep hb HS5.out.1, cell_keep hb HS5.out.2.1, cell_keep hb HS5.out.2.2.1, cell_keep hb HS5.out.2.2.2.1, cell_keep hb HS5.out.2.2.2.2.1, cell_keep hb HS5.out.2.2.2.2.2.1, cell_keep hb HS5.out.2.2.2.2.2.2.1, cell_keep hb HS5.out.2.2.2.2.2.2.2.1, cell_keep hb HS5.out.2.2.2.2.2.2.2.2⟩
      have HKEEP := Lib.hid SKEEP
      have ne1 : w.heap.size + 1 ≠ w2.heap.size := by have := HL1.out; omega
      have ne2 : w.heap.size + 1 ≠ w4.heap.size := by have := HL1.out; have := HL2.out; omega
      have ne3 : w2.heap.size ≠ w.heap.size + 1 := by have := HL1.out; omega
      have ne4 : w4.heap.size ≠ w.heap.size + 1 := by have := HL1.out; have := HL2.out; omega
      clear hs5 SKEEP
      go_region_held3 (fun w' => w'.cell? ⟨w.heap.size, 0, none⟩ = some (.int .u8 6) ∧ w'.cell? ⟨w2.heap.size, 0, none⟩ = some (.int .u8 v1.1.kind) ∧ w'.cell? ⟨w2.heap.size, 1, none⟩ = some (.bool v1.1.bool) ∧ w'.cell? ⟨w2.heap.size, 2, none⟩ = some (.int .i64 v1.1.int) ∧ w'.cell? ⟨w2.heap.size, 3, none⟩ = some (.string v1.1.text) ∧ w'.cell? ⟨w4.heap.size, 0, none⟩ = some (.int .u8 v2.1.kind) ∧ w'.cell? ⟨w4.heap.size, 1, none⟩ = some (.bool v2.1.bool) ∧ w'.cell? ⟨w4.heap.size, 2, none⟩ = some (.int .i64 v2.1.int) ∧ w'.cell? ⟨w4.heap.size, 3, none⟩ = some (.string v2.1.text))
        (first | go_keep | exact HKEEP.out _ hbS.out)
        (first
        | (go_at_call 63; refine (HTW.out _).mono ?_; rintro ev w6 ⟨rfl, hb6⟩; have hbS : Hid (Below w5.heap.size w5 w6) := Lib.hid (by first | exact hb6 | exact below_undrew hb6 | exact below_undrewN hb6); clear hb6)
        | (go_at_call 78; refine (HFN.out _ (by first | exact HB5.out.trans (hbS.out.mono HB5.out.size) | exact Go.Pen.below_drewN (HB5.out.trans (hbS.out.mono HB5.out.size)))).mono ?_; rintro ev w7 ⟨rfl, hb7⟩; have hbS : Hid (Below w5.heap.size w5 w7) := Lib.hid (hbS.out.trans ((show Below w6.heap.size w6 w7 by first | exact hb7 | exact below_undrew hb7 | exact below_undrewN hb7).mono hbS.out.size)); clear hb7; unfold resT Dat.agg)
        | (go_at_call 61; refine (told_86 R.1 R.2 _ HNUM.out).mono ?_; rintro ev w8 ⟨rfl, hb8⟩; have hbS : Hid (Below w5.heap.size w5 w8) := Lib.hid (hbS.out.trans ((show Below w7.heap.size w7 w8 by first | exact hb8 | exact below_undrew hb8 | exact below_undrewN hb8).mono hbS.out.size)); have t8 := (hbS.out.block _ (lt_of_heap V1.out)).trans V1.out; have z0 := cell_of_heap (o := 0) t8 rfl; have g0 := frozen_of_heap (o := 0) t8; have z1 := cell_of_heap (o := 1) t8 rfl; have g1 := frozen_of_heap (o := 1) t8; have z2 := cell_of_heap (o := 2) t8 rfl; have g2 := frozen_of_heap (o := 2) t8; have z3 := cell_of_heap (o := 3) t8 rfl; have g3 := frozen_of_heap (o := 3) t8; have V18 := Lib.hid t8; clear hb8 t8; unfold evT Dat.agg))
      go_wp2
      refine bodyPost_ret (results_row_tmp rfl _ _ (w.heap.size + 1) 55 _ (0, 0) _ rfl (setRow4_at V18.out) Tryz.underlying55 rfl (by kernel_rfl)) rfl ?_
      refine ⟨?_, setRow4_below (HB5.out.trans (hbS.out.mono HB5.out.size)) (by show w.heap.size ≤ w.heap.size + 1; omega)⟩
      rw [HVAL.out, HR.out]
      rfl
set_option maxRecDepth 100000 in
set_option maxHeartbeats 1000000 in
theorem eval_two_8 (r : List Dat) (rv : Value) (c : Int) (d : Dat) (k1 k2 : ET) (a : Option Addr) (cc : Nat) (w : World) (h11 : 3 ≤ w.heap.size)
    (hks : [k1, k2] ≠ [] → ∃ b o, a = some ⟨b, o, none⟩ ∧ True ∧ ET.Ons (fun _ => True) w [k1, k2] b o) (ih1 : EvalOK r rv w k1) (ih2 : EvalOK r rv w k2)
    (hT : Lib.Utf8Tabs 1 2 w) (hf1 : (k1.val r).1.fits) (hf2 : (k2.val r).1.fits) :
    Calls Tryz.prog 46 #[(ET.mk 8 c d [k1, k2]).agg (.slice a 2 cc), rv] w (EvalPost ((ET.mk 8 c d [k1, k2]).val r) w) := by
  rw [plain_val (by unfold PlainOp; decide)]
  simp only [ET.vals]
  obtain ⟨b, off, rfl, -, -⟩ := hks (by simp)
  obtain ⟨a1, c1, hk1, hat1⟩ := kid_at hks rfl (i := 0) rfl
  obtain ⟨a2, c2, hk2, hat2⟩ := kid_at hks rfl (i := 1) rfl
  rw [show off + 0 * 7 = off by omega] at hk1
  rw [show off + 1 * 7 = off + 7 by omega] at hk2
  have hc1 := fun (W : World) (hb : Below w.heap.size w W) => ih1 _ W hb (hat1.below hb)
  have hc2 := fun (W : World) (hb : Below w.heap.size w W) => ih2 _ W hb (hat2.below hb)
  have HK1 := Lib.hid hk1
  have HK2 := Lib.hid hk2
  generalize k1.val r = v1 at *
  generalize k2.val r = v2 at *
  unfold ET.agg at hc1 hc2
  have HC1 := Lib.hid hc1
  have HC2 := Lib.hid hc2
  have htw := twos_88_8
  have hfn := fun (W : World) (hb : Below w.heap.size w W) => mod_125 v1.1 v2.1 W hf1 hf2 (tabs_below hT hb h11) (Nat.le_trans h11 hb.size)
  unfold Dat.agg at hfn
  have HTW := Lib.hid htw
  have HFN := Lib.hid hfn
  clear hks ih1 ih2 hat1 hat2 hc1 hc2 htw hfn hk1 hk2 hT hf1 hf2
  unfold ET.agg
  simp only [ET.op, ET.col, ET.lit]
  obtain ⟨w1, hw1⟩ : ∃ w1, w1 = (w.alloc (.cells #[.int .u8 8, .slice (some ⟨b, off, none⟩) 2 cc, .int .i64 c, .int .u8 d.kind, .bool d.bool, .int .i64 d.int, .string d.text] 57)).alloc (.cells #[.int .u8 0, .bool false, .int .i64 0, .string ⟨#[]⟩] 55) := ⟨_, rfl⟩
  have hb1 : Below w.heap.size w w1 := by rw [hw1]; exact two_below _ _ _
  have ht := two_at (w := w) (w1 := w1) (a := .cells #[.int .u8 8, .slice (some ⟨b, off, none⟩) 2 cc, .int .i64 c, .int .u8 d.kind, .bool d.bool, .int .i64 d.int, .string d.text] 57) (b := .cells #[.int .u8 0, .bool false, .int .i64 0, .string ⟨#[]⟩] 55) (by rw [hw1]; exact Below.refl _ _)
  obtain ⟨m0, m1, m2, m3, m4, m5, m6⟩ := HK1.out.below hb1
  have HB1 := Lib.hid hb1
  have HT := Lib.hid ht
  have HW1 := Lib.hid hw1
  rw [hw1] at m0 m1 m2 m3 m4 m5 m6
  clear hb1 ht hw1
  go_enter Tryz.func46, Tryz.ntmps46
  go_wp2_with fail
  rw [← HW1.out]
  refine (HC1.out w1 HB1.out).mono ?_
  rintro ev w2 ⟨rfl, hb2⟩
  have hB2 : Below w.heap.size w w2 := HB1.out.trans (hb2.mono HB1.out.size)
  have t0 := (hb2.block _ (lt_of_heap HT.out.1)).trans HT.out.1
  have t1 := (hb2.block _ (lt_of_heap HT.out.2)).trans HT.out.2
  have T0 := Lib.hid t0
  have T1 := Lib.hid t1
  have HB2 := Lib.hid hB2
  clear hb2 hB2 m0 m1 m2 m3 m4 m5 m6 HW1 HT HB1 HC1
  unfold evT Dat.agg
  by_cases e1 : v1.2 = 0
  rotate_left
  · rw [errV_ne e1]
    have hval : restV 8 [v1, v2] = bad v1.2 := by simp [restV, e1]
    have HVAL := Lib.hid hval
    have hev : evT (bad v1.2) = .tuple #[Dat.zero.agg, .iface 107 (.agg #[.int .u16 v1.2])] := by simp only [evT, bad]; rw [errV_ne e1]
    have HEV := Lib.hid hev
    clear hval hev e1
    have keep : ∀ (A : Obj) {g : Nat} {y : Obj}, w2.heap[g]? = some y → (w2.alloc A).heap[g]? = some y := fun A g y h => (Below.heap_alloc _ _ _ (lt_of_heap h)).trans h
    have z0 := fun A => cell_of_heap (o := 0) (keep A t1) rfl
    have z1 := fun A => cell_of_heap (o := 1) (keep A t1) rfl
    have z2 := fun A => cell_of_heap (o := 2) (keep A t1) rfl
    have z3 := fun A => cell_of_heap (o := 3) (keep A t1) rfl
    have g0 := fun A => frozen_of_heap (o := 0) (keep A t1)
    have g1 := fun A => frozen_of_heap (o := 1) (keep A t1)
    have g2 := fun A => frozen_of_heap (o := 2) (keep A t1)
    have g3 := fun A => frozen_of_heap (o := 3) (keep A t1)
    have KEEP := Lib.hid @keep
    clear t0 t1 keep
    go_wp2
    refine bodyPost_ret (results_row_tmp rfl _ _ (w.heap.size + 1) 55 _ (0, 0) _ rfl (setRow4_at (KEEP.out _ T1.out)) Tryz.underlying55 rfl (by kernel_rfl)) rfl ?_
    exact ⟨by rw [HVAL.out, HEV.out]; rfl, setRow4_below (HB2.out.alloc HB2.out.size _) (by show w.heap.size ≤ w.heap.size + 1; omega)⟩
  · rw [e1]
    have hl1 : w.heap.size + 1 < w2.heap.size := lt_of_heap T1.out
    have HL1 := Lib.hid hl1
    clear hl1
    have hB3 := HB2.out.alloc HB2.out.size (.cells #[.int .u8 v1.1.kind, .bool v1.1.bool, .int .i64 v1.1.int, .string v1.1.text] 55)
    obtain ⟨w3, hw3⟩ : ∃ w3, w3 = w2.alloc (.cells #[.int .u8 v1.1.kind, .bool v1.1.bool, .int .i64 v1.1.int, .string v1.1.text] 55) := ⟨_, rfl⟩
    have ta : w3.heap[w2.heap.size]? = some (.cells #[.int .u8 v1.1.kind, .bool v1.1.bool, .int .i64 v1.1.int, .string v1.1.text] 55 (0, 0)) := by rw [hw3]; exact heap_alloc_new _ _
    have t0 := (show w3.heap[w.heap.size]? = w2.heap[w.heap.size]? by rw [hw3]; exact Below.heap_alloc _ _ _ (lt_of_heap T0.out)).trans T0.out
    have t1 := (show w3.heap[w.heap.size + 1]? = w2.heap[w.heap.size + 1]? by rw [hw3]; exact Below.heap_alloc _ _ _ (lt_of_heap T1.out)).trans T1.out
    rw [← hw3] at hB3
    obtain ⟨n0, n1, n2, n3, n4, n5, n6⟩ := HK2.out.below hB3
    have y0 := cell_of_heap (o := 0) t0 rfl
    have y1 := cell_of_heap (o := 1) t0 rfl
    have E1 := Lib.hid e1
    have HB3 := Lib.hid hB3
    have HW3 := Lib.hid hw3
    have TA := Lib.hid ta
    have T03 := Lib.hid t0
    have T13 := Lib.hid t1
    rw [hw3] at n0 n1 n2 n3 n4 n5 n6 y0 y1
    clear hB3 hw3 ta t0 t1 T0 T1 e1
    rw [errV_zero]
    go_wp2_with fail
    rw [← HW3.out]
    refine (HC2.out w3 HB3.out).mono ?_
    rintro ev w4 ⟨rfl, hb4⟩
    have hB4 : Below w.heap.size w w4 := HB3.out.trans (hb4.mono HB3.out.size)
    have ua := (hb4.block _ (lt_of_heap TA.out)).trans TA.out
    have u0 := (hb4.block _ (lt_of_heap T03.out)).trans T03.out
    have u1 := (hb4.block _ (lt_of_heap T13.out)).trans T13.out
    have hl2 : w2.heap.size < w4.heap.size := lt_of_heap ua
    have HL2 := Lib.hid hl2
    clear hl2
    have UA := Lib.hid ua
    have U0 := Lib.hid u0
    have U1 := Lib.hid u1
    have HB4 := Lib.hid hB4
    clear hb4 hB4 n0 n1 n2 n3 n4 n5 n6 y0 y1 HW3 TA T03 T13 HB3 HC2
    unfold evT Dat.agg
    have keep : ∀ (A : Obj) {g : Nat} {y : Obj}, w4.heap[g]? = some y → (w4.alloc A).heap[g]? = some y := fun A g y h => (Below.heap_alloc _ _ _ (lt_of_heap h)).trans h
    have KEEP := Lib.hid @keep
    by_cases e2 : v2.2 = 0
    rotate_left
    · rw [errV_ne e2]
      have hval : restV 8 [v1, v2] = bad v2.2 := by simp [restV, E1.out, e2]
      have hev : evT (bad v2.2) = .tuple #[Dat.zero.agg, .iface 107 (.agg #[.int .u16 v2.2])] := by simp only [evT, bad]; rw [errV_ne e2]
      have HVAL := Lib.hid hval
      have HEV := Lib.hid hev
      clear hval hev e2
      have z0 := fun A => cell_of_heap (o := 0) (keep A u1) rfl
      have g0 := fun A => frozen_of_heap (o := 0) (keep A u1)
      have z1 := fun A => cell_of_heap (o := 1) (keep A u1) rfl
      have g1 := fun A => frozen_of_heap (o := 1) (keep A u1)
      have z2 := fun A => cell_of_heap (o := 2) (keep A u1) rfl
      have g2 := fun A => frozen_of_heap (o := 2) (keep A u1)
      have z3 := fun A => cell_of_heap (o := 3) (keep A u1) rfl
      have g3 := fun A => frozen_of_heap (o := 3) (keep A u1)
      clear ua u0 u1 keep
      go_wp2
      refine bodyPost_ret (results_row_tmp rfl _ _ (w.heap.size + 1) 55 _ (0, 0) _ rfl (setRow4_at (KEEP.out _ U1.out)) Tryz.underlying55 rfl (by kernel_rfl)) rfl ?_
      exact ⟨by rw [HVAL.out, HEV.out]; rfl, setRow4_below (HB4.out.alloc HB4.out.size _) (by show w.heap.size ≤ w.heap.size + 1; omega)⟩
    · rw [e2, errV_zero]
      have hval : restV 8 [v1, v2] = told (twoD 8 v1.1 v2.1) := by simp [restV, E1.out, e2]
      have HVAL := Lib.hid hval
      obtain ⟨w5, hw5⟩ : ∃ w5, w5 = w4.alloc (.cells #[.int .u8 v2.1.kind, .bool v2.1.bool, .int .i64 v2.1.int, .string v2.1.text] 55) := ⟨_, rfl⟩
      have hB5 : Below w.heap.size w w5 := by rw [hw5]; exact HB4.out.alloc HB4.out.size _
      have va : w5.heap[w2.heap.size]? = some (.cells #[.int .u8 v1.1.kind, .bool v1.1.bool, .int .i64 v1.1.int, .string v1.1.text] 55 (0, 0)) := by rw [hw5]; exact keep _ ua
      have vb : w5.heap[w4.heap.size]? = some (.cells #[.int .u8 v2.1.kind, .bool v2.1.bool, .int .i64 v2.1.int, .string v2.1.text] 55 (0, 0)) := by rw [hw5]; exact heap_alloc_new _ _
      have v0 := (show w5.heap[w.heap.size]? = w4.heap[w.heap.size]? by rw [hw5]; exact Below.heap_alloc _ _ _ (lt_of_heap u0)).trans u0
      have v1' := (show w5.heap[w.heap.size + 1]? = w4.heap[w.heap.size + 1]? by rw [hw5]; exact Below.heap_alloc _ _ _ (lt_of_heap u1)).trans u1
      have HW5 := Lib.hid hw5
      have HB5 := Lib.hid hB5
      have VA := Lib.hid va
      have VB := Lib.hid vb
      have V0 := Lib.hid v0
      have V1 := Lib.hid v1'
      have y0 := fun A => cell_of_heap (o := 0) (keep A u0) rfl
      have y1 := fun A => cell_of_heap (o := 1) (keep A u0) rfl
      clear ua u0 u1 keep hval e2 hw5 hB5 va vb v0 v1' UA U0 U1
      go_wp2_with fail
      rw [← HW5.out]
      have hR : twoD 8 v1.1 v2.1 = modD v1.1 v2.1 := by simp [twoD]
      have hnum : (modD v1.1 v2.1).2 ≤ 65535 := mod_num v1.1 v2.1
      obtain ⟨R, eR⟩ : ∃ R, R = modD v1.1 v2.1 := ⟨_, rfl⟩
      rw [← eR] at HFN hR hnum
      have HR := Lib.hid hR
      have f0 := cell_of_heap (o := 0) V0.out rfl
      have p0 := cell_of_heap (o := 0) VA.out rfl
      have q0 := cell_of_heap (o := 0) VB.out rfl
      have p1 := cell_of_heap (o := 1) VA.out rfl
      have q1 := cell_of_heap (o := 1) VB.out rfl
      have p2 := cell_of_heap (o := 2) VA.out rfl
      have q2 := cell_of_heap (o := 2) VB.out rfl
      have p3 := cell_of_heap (o := 3) VA.out rfl
      have q3 := cell_of_heap (o := 3) VB.out rfl
      have HNUM := Lib.hid hnum
      clear y0 y1 hR eR HW5 hnum
      have hs5 : w5.cell? ⟨w.heap.size, 0, none⟩ = some (.int .u8 8) ∧ w5.cell? ⟨w2.heap.size, 0, none⟩ = some (.int .u8 v1.1.kind) ∧ w5.cell? ⟨w2.heap.size, 1, none⟩ = some (.bool v1.1.bool) ∧ w5.cell? ⟨w2.heap.size, 2, none⟩ = some (.int .i64 v1.1.int) ∧ w5.cell? ⟨w2.heap.size, 3, none⟩ = some (.string v1.1.text) ∧ w5.cell? ⟨w4.heap.size, 0, none⟩ = some (.int .u8 v2.1.kind) ∧ w5.cell? ⟨w4.heap.size, 1, none⟩ = some (.bool v2.1.bool) ∧ w5.cell? ⟨w4.heap.size, 2, none⟩ = some (.int .i64 v2.1.int) ∧ w5.cell? ⟨w4.heap.size, 3, none⟩ = some (.string v2.1.text) := ⟨f0, p0, p1, p2, p3, q0, q1, q2, q3⟩
      have HS5 := Lib.hid hs5
      have SKEEP : ∀ (w' : World), Below w5.heap.size w5 w' → w'.cell? ⟨w.heap.size, 0, none⟩ = some (.int .u8 8) ∧ w'.cell? ⟨w2.heap.size, 0, none⟩ = some (.int .u8 v1.1.kind) ∧ w'.cell? ⟨w2.heap.size, 1, none⟩ = some (.bool v1.1.bool) ∧ w'.cell? ⟨w2.heap.size, 2, none⟩ = some (.int .i64 v1.1.int) ∧ w'.cell? ⟨w2.heap.size, 3, none⟩ = some (.string v1.1.text) ∧ w'.cell? ⟨w4.heap.size, 0, none⟩ = some (.int .u8 v2.1.kind) ∧ w'.cell? ⟨w4.heap.size, 1, none⟩ = some (.bool v2.1.bool) ∧ w'.cell? ⟨w4.heap.size, 2, none⟩ = some (.int .i64 v2.1.int) ∧ w'.cell? ⟨w4.heap.size, 3, none⟩ = some (.string v2.1.text) := fun w' hb => ⟨cell_keep hb HS5.out.1, cell_keep hb HS5.out.2.1, cell_keep hb HS5.out.2.2.1, cell_keep hb HS5.out.2.2.2.1, cell_keep hb HS5.out.2.2.2.2.1, cell_keep hb HS5.out.2.2.2.2.2.1, cell_keep hb HS5.out.2.2.2.2.2.2.1, cell_keep hb HS5.out.2.2.2.2.2.2.2.1, cell_keep hb HS5.out.2.2.2.2.2.2.2.2⟩
      have HKEEP := Lib.hid SKEEP
      have ne1 : w.heap.size + 1 ≠ w2.heap.size := by have := HL1.out; omega
      have ne2 : w.heap.size + 1 ≠ w4.heap.size := by have := HL1.out; have := HL2.out; omega
      have ne3 : w2.heap.size ≠ w.heap.size + 1 := by have := HL1.out; omega
      have ne4 : w4.heap.size ≠ w.heap.size + 1 := by have := HL1.out; have := HL2.out; omega
      clear hs5 SKEEP
      go_region_held3 (fun w' => w'.cell? ⟨w.heap.size, 0, none⟩ = some (.int .u8 8) ∧ w'.cell? ⟨w2.heap.size, 0, none⟩ = some (.int .u8 v1.1.kind) ∧ w'.cell? ⟨w2.heap.size, 1, none⟩ = some (.bool v1.1.bool) ∧ w'.cell? ⟨w2.heap.size, 2, none⟩ = some (.int .i64 v1.1.int) ∧ w'.cell? ⟨w2.heap.size, 3, none⟩ = some (.string v1.1.text) ∧ w'.cell? ⟨w4.heap.size, 0, none⟩ = some (.int .u8 v2.1.kind) ∧ w'.cell? ⟨w4.heap.size, 1, none⟩ = some (.bool v2.1.bool) ∧ w'.cell? ⟨w4.heap.size, 2, none⟩ = some (.int .i64 v2.1.int) ∧ w'.cell? ⟨w4.heap.size, 3, none⟩ = some (.string v2.1.text))
        (first | go_keep | exact HKEEP.out _ hbS.out)
        (first
        | (go_at_call 63; refine (HTW.out _).mono ?_; rintro ev w6 ⟨rfl, hb6⟩; have hbS : Hid (Below w5.heap.size w5 w6) := Lib.hid (by first | exact hb6 | exact below_undrew hb6 | exact below_undrewN hb6); clear hb6)
        | (go_at_call 80; refine (HFN.out _ (by first | exact HB5.out.trans (hbS.out.mono HB5.out.size) | exact Go.Pen.below_drewN (HB5.out.trans (hbS.out.mono HB5.out.size)))).mono ?_; rintro ev w7 ⟨rfl, hb7⟩; have hbS : Hid (Below w5.heap.size w5 w7) := Lib.hid (hbS.out.trans ((show Below w6.heap.size w6 w7 by first | exact hb7 | exact below_undrew hb7 | exact below_undrewN hb7).mono hbS.out.size)); clear hb7; unfold resT Dat.agg)
        | (go_at_call 61; refine (told_86 R.1 R.2 _ HNUM.out).mono ?_; rintro ev w8 ⟨rfl, hb8⟩; have hbS : Hid (Below w5.heap.size w5 w8) := Lib.hid (hbS.out.trans ((show Below w7.heap.size w7 w8 by first | exact hb8 | exact below_undrew hb8 | exact below_undrewN hb8).mono hbS.out.size)); have t8 := (hbS.out.block _ (lt_of_heap V1.out)).trans V1.out; have z0 := cell_of_heap (o := 0) t8 rfl; have g0 := frozen_of_heap (o := 0) t8; have z1 := cell_of_heap (o := 1) t8 rfl; have g1 := frozen_of_heap (o := 1) t8; have z2 := cell_of_heap (o := 2) t8 rfl; have g2 := frozen_of_heap (o := 2) t8; have z3 := cell_of_heap (o := 3) t8 rfl; have g3 := frozen_of_heap (o := 3) t8; have V18 := Lib.hid t8; clear hb8 t8; unfold evT Dat.agg))
      go_wp2
      refine bodyPost_ret (results_row_tmp rfl _ _ (w.heap.size + 1) 55 _ (0, 0) _ rfl (setRow4_at V18.out) Tryz.underlying55 rfl (by kernel_rfl)) rfl ?_
      refine ⟨?_, setRow4_below (HB5.out.trans (hbS.out.mono HB5.out.size)) (by show w.heap.size ≤ w.heap.size + 1; omega)⟩
      rw [HVAL.out, HR.out]
      rfl
set_option maxRecDepth 100000 in
set_option maxHeartbeats 1000000 in
theorem eval_two_9 (r : List Dat) (rv : Value) (c : Int) (d : Dat) (k1 k2 : ET) (a : Option Addr) (cc : Nat) (w : World) (h11 : 3 ≤ w.heap.size)
    (hks : [k1, k2] ≠ [] → ∃ b o, a = some ⟨b, o, none⟩ ∧ True ∧ ET.Ons (fun _ => True) w [k1, k2] b o) (ih1 : EvalOK r rv w k1) (ih2 : EvalOK r rv w k2)
    (hT : Lib.Utf8Tabs 1 2 w) (hf1 : (k1.val r).1.fits) (hf2 : (k2.val r).1.fits) :
    Calls Tryz.prog 46 #[(ET.mk 9 c d [k1, k2]).agg (.slice a 2 cc), rv] w (EvalPost ((ET.mk 9 c d [k1, k2]).val r) w) := by
  rw [plain_val (by unfold PlainOp; decide)]
  simp only [ET.vals]
  obtain ⟨b, off, rfl, -, -⟩ := hks (by simp)
  obtain ⟨a1, c1, hk1, hat1⟩ := kid_at hks rfl (i := 0) rfl
  obtain ⟨a2, c2, hk2, hat2⟩ := kid_at hks rfl (i := 1) rfl
  rw [show off + 0 * 7 = off by omega] at hk1
  rw [show off + 1 * 7 = off + 7 by omega] at hk2
  have hc1 := fun (W : World) (hb : Below w.heap.size w W) => ih1 _ W hb (hat1.below hb)
  have hc2 := fun (W : World) (hb : Below w.heap.size w W) => ih2 _ W hb (hat2.below hb)
  have HK1 := Lib.hid hk1
  have HK2 := Lib.hid hk2
  generalize k1.val r = v1 at *
  generalize k2.val r = v2 at *
  unfold ET.agg at hc1 hc2
  have HC1 := Lib.hid hc1
  have HC2 := Lib.hid hc2
  have htw := twos_88_9
  have hfn := fun (W : World) (hb : Below w.heap.size w W) => cat_126 v1.1 v2.1 W hf1 hf2 (tabs_below hT hb h11) (Nat.le_trans h11 hb.size)
  unfold Dat.agg at hfn
  have HTW := Lib.hid htw
  have HFN := Lib.hid hfn
  clear hks ih1 ih2 hat1 hat2 hc1 hc2 htw hfn hk1 hk2 hT hf1 hf2
  unfold ET.agg
  simp only [ET.op, ET.col, ET.lit]
  obtain ⟨w1, hw1⟩ : ∃ w1, w1 = (w.alloc (.cells #[.int .u8 9, .slice (some ⟨b, off, none⟩) 2 cc, .int .i64 c, .int .u8 d.kind, .bool d.bool, .int .i64 d.int, .string d.text] 57)).alloc (.cells #[.int .u8 0, .bool false, .int .i64 0, .string ⟨#[]⟩] 55) := ⟨_, rfl⟩
  have hb1 : Below w.heap.size w w1 := by rw [hw1]; exact two_below _ _ _
  have ht := two_at (w := w) (w1 := w1) (a := .cells #[.int .u8 9, .slice (some ⟨b, off, none⟩) 2 cc, .int .i64 c, .int .u8 d.kind, .bool d.bool, .int .i64 d.int, .string d.text] 57) (b := .cells #[.int .u8 0, .bool false, .int .i64 0, .string ⟨#[]⟩] 55) (by rw [hw1]; exact Below.refl _ _)
  obtain ⟨m0, m1, m2, m3, m4, m5, m6⟩ := HK1.out.below hb1
  have HB1 := Lib.hid hb1
  have HT := Lib.hid ht
  have HW1 := Lib.hid hw1
  rw [hw1] at m0 m1 m2 m3 m4 m5 m6
  clear hb1 ht hw1
  go_enter Tryz.func46, Tryz.ntmps46
  go_wp2_with fail
  rw [← HW1.out]
  refine (HC1.out w1 HB1.out).mono ?_
  rintro ev w2 ⟨rfl, hb2⟩
  have hB2 : Below w.heap.size w w2 := HB1.out.trans (hb2.mono HB1.out.size)
  have t0 := (hb2.block _ (lt_of_heap HT.out.1)).trans HT.out.1
  have t1 := (hb2.block _ (lt_of_heap HT.out.2)).trans HT.out.2
  have T0 := Lib.hid t0
  have T1 := Lib.hid t1
  have HB2 := Lib.hid hB2
  clear hb2 hB2 m0 m1 m2 m3 m4 m5 m6 HW1 HT HB1 HC1
  unfold evT Dat.agg
  by_cases e1 : v1.2 = 0
  rotate_left
  · rw [errV_ne e1]
    have hval : restV 9 [v1, v2] = bad v1.2 := by simp [restV, e1]
    have HVAL := Lib.hid hval
    have hev : evT (bad v1.2) = .tuple #[Dat.zero.agg, .iface 107 (.agg #[.int .u16 v1.2])] := by simp only [evT, bad]; rw [errV_ne e1]
    have HEV := Lib.hid hev
    clear hval hev e1
    have keep : ∀ (A : Obj) {g : Nat} {y : Obj}, w2.heap[g]? = some y → (w2.alloc A).heap[g]? = some y := fun A g y h => (Below.heap_alloc _ _ _ (lt_of_heap h)).trans h
    have z0 := fun A => cell_of_heap (o := 0) (keep A t1) rfl
    have z1 := fun A => cell_of_heap (o := 1) (keep A t1) rfl
    have z2 := fun A => cell_of_heap (o := 2) (keep A t1) rfl
    have z3 := fun A => cell_of_heap (o := 3) (keep A t1) rfl
    have g0 := fun A => frozen_of_heap (o := 0) (keep A t1)
    have g1 := fun A => frozen_of_heap (o := 1) (keep A t1)
    have g2 := fun A => frozen_of_heap (o := 2) (keep A t1)
    have g3 := fun A => frozen_of_heap (o := 3) (keep A t1)
    have KEEP := Lib.hid @keep
    clear t0 t1 keep
    go_wp2
    refine bodyPost_ret (results_row_tmp rfl _ _ (w.heap.size + 1) 55 _ (0, 0) _ rfl (setRow4_at (KEEP.out _ T1.out)) Tryz.underlying55 rfl (by kernel_rfl)) rfl ?_
    exact ⟨by rw [HVAL.out, HEV.out]; rfl, setRow4_below (HB2.out.alloc HB2.out.size _) (by show w.heap.size ≤ w.heap.size + 1; omega)⟩
  · rw [e1]
    have hl1 : w.heap.size + 1 < w2.heap.size := lt_of_heap T1.out
    have HL1 := Lib.hid hl1
    clear hl1
    have hB3 := HB2.out.alloc HB2.out.size (.cells #[.int .u8 v1.1.kind, .bool v1.1.bool, .int .i64 v1.1.int, .string v1.1.text] 55)
    obtain ⟨w3, hw3⟩ : ∃ w3, w3 = w2.alloc (.cells #[.int .u8 v1.1.kind, .bool v1.1.bool, .int .i64 v1.1.int, .string v1.1.text] 55) := ⟨_, rfl⟩
    have ta : w3.heap[w2.heap.size]? = some (.cells #[.int .u8 v1.1.kind, .bool v1.1.bool, .int .i64 v1.1.int, .string v1.1.text] 55 (0, 0)) := by rw [hw3]; exact heap_alloc_new _ _
    have t0 := (show w3.heap[w.heap.size]? = w2.heap[w.heap.size]? by rw [hw3]; exact Below.heap_alloc _ _ _ (lt_of_heap T0.out)).trans T0.out
    have t1 := (show w3.heap[w.heap.size + 1]? = w2.heap[w.heap.size + 1]? by rw [hw3]; exact Below.heap_alloc _ _ _ (lt_of_heap T1.out)).trans T1.out
    rw [← hw3] at hB3
    obtain ⟨n0, n1, n2, n3, n4, n5, n6⟩ := HK2.out.below hB3
    have y0 := cell_of_heap (o := 0) t0 rfl
    have y1 := cell_of_heap (o := 1) t0 rfl
    have E1 := Lib.hid e1
    have HB3 := Lib.hid hB3
    have HW3 := Lib.hid hw3
    have TA := Lib.hid ta
    have T03 := Lib.hid t0
    have T13 := Lib.hid t1
    rw [hw3] at n0 n1 n2 n3 n4 n5 n6 y0 y1
    clear hB3 hw3 ta t0 t1 T0 T1 e1
    rw [errV_zero]
    go_wp2_with fail
    rw [← HW3.out]
    refine (HC2.out w3 HB3.out).mono ?_
    rintro ev w4 ⟨rfl, hb4⟩
    have hB4 : Below w.heap.size w w4 := HB3.out.trans (hb4.mono HB3.out.size)
    have ua := (hb4.block _ (lt_of_heap TA.out)).trans TA.out
    have u0 := (hb4.block _ (lt_of_heap T03.out)).trans T03.out
    have u1 := (hb4.block _ (lt_of_heap T13.out)).trans T13.out
    have hl2 : w2.heap.size < w4.heap.size := lt_of_heap ua
    have HL2 := Lib.hid hl2
    clear hl2
    have UA := Lib.hid ua
    have U0 := Lib.hid u0
    have U1 := Lib.hid u1
    have HB4 := Lib.hid hB4
    clear hb4 hB4 n0 n1 n2 n3 n4 n5 n6 y0 y1 HW3 TA T03 T13 HB3 HC2
    unfold evT Dat.agg
    have keep : ∀ (A : Obj) {g : Nat} {y : Obj}, w4.heap[g]? = some y → (w4.alloc A).heap[g]? = some y := fun A g y h => (Below.heap_alloc _ _ _ (lt_of_heap h)).trans h
    have KEEP := Lib.hid @keep
    by_cases e2 : v2.2 = 0
    rotate_left
    · rw [errV_ne e2]
      have hval : restV 9 [v1, v2] = bad v2.2 := by simp [restV, E1.out, e2]
      have hev : evT (bad v2.2) = .tuple #[Dat.zero.agg, .iface 107 (.agg #[.int .u16 v2.2])] := by simp only [evT, bad]; rw [errV_ne e2]
      have HVAL := Lib.hid hval
      have HEV := Lib.hid hev
      clear hval hev e2
      have z0 := fun A => cell_of_heap (o := 0) (keep A u1) rfl
      have g0 := fun A => frozen_of_heap (o := 0) (keep A u1)
      have z1 := fun A => cell_of_heap (o := 1) (keep A u1) rfl
      have g1 := fun A => frozen_of_heap (o := 1) (keep A u1)
      have z2 := fun A => cell_of_heap (o := 2) (keep A u1) rfl
      have g2 := fun A => frozen_of_heap (o := 2) (keep A u1)
      have z3 := fun A => cell_of_heap (o := 3) (keep A u1) rfl
      have g3 := fun A => frozen_of_heap (o := 3) (keep A u1)
      clear ua u0 u1 keep
      go_wp2
      refine bodyPost_ret (results_row_tmp rfl _ _ (w.heap.size + 1) 55 _ (0, 0) _ rfl (setRow4_at (KEEP.out _ U1.out)) Tryz.underlying55 rfl (by kernel_rfl)) rfl ?_
      exact ⟨by rw [HVAL.out, HEV.out]; rfl, setRow4_below (HB4.out.alloc HB4.out.size _) (by show w.heap.size ≤ w.heap.size + 1; omega)⟩
    · rw [e2, errV_zero]
      have hval : restV 9 [v1, v2] = told (twoD 9 v1.1 v2.1) := by simp [restV, E1.out, e2]
      have HVAL := Lib.hid hval
      obtain ⟨w5, hw5⟩ : ∃ w5, w5 = w4.alloc (.cells #[.int .u8 v2.1.kind, .bool v2.1.bool, .int .i64 v2.1.int, .string v2.1.text] 55) := ⟨_, rfl⟩
      have hB5 : Below w.heap.size w w5 := by rw [hw5]; exact HB4.out.alloc HB4.out.size _
      have va : w5.heap[w2.heap.size]? = some (.cells #[.int .u8 v1.1.kind, .bool v1.1.bool, .int .i64 v1.1.int, .string v1.1.text] 55 (0, 0)) := by rw [hw5]; exact keep _ ua
      have vb : w5.heap[w4.heap.size]? = some (.cells #[.int .u8 v2.1.kind, .bool v2.1.bool, .int .i64 v2.1.int, .string v2.1.text] 55 (0, 0)) := by rw [hw5]; exact heap_alloc_new _ _
      have v0 := (show w5.heap[w.heap.size]? = w4.heap[w.heap.size]? by rw [hw5]; exact Below.heap_alloc _ _ _ (lt_of_heap u0)).trans u0
      have v1' := (show w5.heap[w.heap.size + 1]? = w4.heap[w.heap.size + 1]? by rw [hw5]; exact Below.heap_alloc _ _ _ (lt_of_heap u1)).trans u1
      have HW5 := Lib.hid hw5
      have HB5 := Lib.hid hB5
      have VA := Lib.hid va
      have VB := Lib.hid vb
      have V0 := Lib.hid v0
      have V1 := Lib.hid v1'
      have y0 := fun A => cell_of_heap (o := 0) (keep A u0) rfl
      have y1 := fun A => cell_of_heap (o := 1) (keep A u0) rfl
      clear ua u0 u1 keep hval e2 hw5 hB5 va vb v0 v1' UA U0 U1
      go_wp2_with fail
      rw [← HW5.out]
      have hR : twoD 9 v1.1 v2.1 = catD v1.1 v2.1 := by simp [twoD]
      have hnum : (catD v1.1 v2.1).2 ≤ 65535 := cat_num v1.1 v2.1
      obtain ⟨R, eR⟩ : ∃ R, R = catD v1.1 v2.1 := ⟨_, rfl⟩
      rw [← eR] at HFN hR hnum
      have HR := Lib.hid hR
      have f0 := cell_of_heap (o := 0) V0.out rfl
      have p0 := cell_of_heap (o := 0) VA.out rfl
      have q0 := cell_of_heap (o := 0) VB.out rfl
      have p1 := cell_of_heap (o := 1) VA.out rfl
      have q1 := cell_of_heap (o := 1) VB.out rfl
      have p2 := cell_of_heap (o := 2) VA.out rfl
      have q2 := cell_of_heap (o := 2) VB.out rfl
      have p3 := cell_of_heap (o := 3) VA.out rfl
      have q3 := cell_of_heap (o := 3) VB.out rfl
      have HNUM := Lib.hid hnum
      clear y0 y1 hR eR HW5 hnum
      have hs5 : w5.cell? ⟨w.heap.size, 0, none⟩ = some (.int .u8 9) ∧ w5.cell? ⟨w2.heap.size, 0, none⟩ = some (.int .u8 v1.1.kind) ∧ w5.cell? ⟨w2.heap.size, 1, none⟩ = some (.bool v1.1.bool) ∧ w5.cell? ⟨w2.heap.size, 2, none⟩ = some (.int .i64 v1.1.int) ∧ w5.cell? ⟨w2.heap.size, 3, none⟩ = some (.string v1.1.text) ∧ w5.cell? ⟨w4.heap.size, 0, none⟩ = some (.int .u8 v2.1.kind) ∧ w5.cell? ⟨w4.heap.size, 1, none⟩ = some (.bool v2.1.bool) ∧ w5.cell? ⟨w4.heap.size, 2, none⟩ = some (.int .i64 v2.1.int) ∧ w5.cell? ⟨w4.heap.size, 3, none⟩ = some (.string v2.1.text) := ⟨f0, p0, p1, p2, p3, q0, q1, q2, q3⟩
      have HS5 := Lib.hid hs5
      have SKEEP : ∀ (w' : World), Below w5.heap.size w5 w' → w'.cell? ⟨w.heap.size, 0, none⟩ = some (.int .u8 9) ∧ w'.cell? ⟨w2.heap.size, 0, none⟩ = some (.int .u8 v1.1.kind) ∧ w'.cell? ⟨w2.heap.size, 1, none⟩ = some (.bool v1.1.bool) ∧ w'.cell? ⟨w2.heap.size, 2, none⟩ = some (.int .i64 v1.1.int) ∧ w'.cell? ⟨w2.heap.size, 3, none⟩ = some (.string v1.1.text) ∧ w'.cell? ⟨w4.heap.size, 0, none⟩ = some (.int .u8 v2.1.kind) ∧ w'.cell? ⟨w4.heap.size, 1, none⟩ = some (.bool v2.1.bool) ∧ w'.cell? ⟨w4.heap.size, 2, none⟩ = some (.int .i64 v2.1.int) ∧ w'.cell? ⟨w4.heap.size, 3, none⟩ = some (.string v2.1.text) := fun w' hb => ⟨cell_keep hb HS5.out.1, cell_keep hb HS5.out.2.1, cell_keep hb HS5.out.2.2.1, cell_keep hb HS5.out.2.2.2.1, cell_keep hb HS5.out.2.2.2.2.1, cell_keep hb HS5.out.2.2.2.2.2.1, cell_keep hb HS5.out.2.2.2.2.2.2.1, cell_keep hb HS5.out.2.2.2.2.2.2.2.1, cell_keep hb HS5.out.2.2.2.2.2.2.2.2⟩
      have HKEEP := Lib.hid SKEEP
      have ne1 : w.heap.size + 1 ≠ w2.heap.size := by have := HL1.out; omega
      have ne2 : w.heap.size + 1 ≠ w4.heap.size := by have := HL1.out; have := HL2.out; omega
      have ne3 : w2.heap.size ≠ w.heap.size + 1 := by have := HL1.out; omega
      have ne4 : w4.heap.size ≠ w.heap.size + 1 := by have := HL1.out; have := HL2.out; omega
      clear hs5 SKEEP
      go_region_held3 (fun w' => w'.cell? ⟨w.heap.size, 0, none⟩ = some (.int .u8 9) ∧ w'.cell? ⟨w2.heap.size, 0, none⟩ = some (.int .u8 v1.1.kind) ∧ w'.cell? ⟨w2.heap.size, 1, none⟩ = some (.bool v1.1.bool) ∧ w'.cell? ⟨w2.heap.size, 2, none⟩ = some (.int .i64 v1.1.int) ∧ w'.cell? ⟨w2.heap.size, 3, none⟩ = some (.string v1.1.text) ∧ w'.cell? ⟨w4.heap.size, 0, none⟩ = some (.int .u8 v2.1.kind) ∧ w'.cell? ⟨w4.heap.size, 1, none⟩ = some (.bool v2.1.bool) ∧ w'.cell? ⟨w4.heap.size, 2, none⟩ = some (.int .i64 v2.1.int) ∧ w'.cell? ⟨w4.heap.size, 3, none⟩ = some (.string v2.1.text))
        (first | go_keep | exact HKEEP.out _ hbS.out)
        (first
        | (go_at_call 63; refine (HTW.out _).mono ?_; rintro ev w6 ⟨rfl, hb6⟩; have hbS : Hid (Below w5.heap.size w5 w6) := Lib.hid (by first | exact hb6 | exact below_undrew hb6 | exact below_undrewN hb6); clear hb6)
        | (go_at_call 81; refine (HFN.out _ (by first | exact HB5.out.trans (hbS.out.mono HB5.out.size) | exact Go.Pen.below_drewN (HB5.out.trans (hbS.out.mono HB5.out.size)))).mono ?_; rintro ev w7 ⟨rfl, hb7⟩; have hbS : Hid (Below w5.heap.size w5 w7) := Lib.hid (hbS.out.trans ((show Below w6.heap.size w6 w7 by first | exact hb7 | exact below_undrew hb7 | exact below_undrewN hb7).mono hbS.out.size)); clear hb7; unfold resT Dat.agg)
        | (go_at_call 61; refine (told_86 R.1 R.2 _ HNUM.out).mono ?_; rintro ev w8 ⟨rfl, hb8⟩; have hbS : Hid (Below w5.heap.size w5 w8) := Lib.hid (hbS.out.trans ((show Below w7.heap.size w7 w8 by first | exact hb8 | exact below_undrew hb8 | exact below_undrewN hb8).mono hbS.out.size)); have t8 := (hbS.out.block _ (lt_of_heap V1.out)).trans V1.out; have z0 := cell_of_heap (o := 0) t8 rfl; have g0 := frozen_of_heap (o := 0) t8; have z1 := cell_of_heap (o := 1) t8 rfl; have g1 := frozen_of_heap (o := 1) t8; have z2 := cell_of_heap (o := 2) t8 rfl; have g2 := frozen_of_heap (o := 2) t8; have z3 := cell_of_heap (o := 3) t8 rfl; have g3 := frozen_of_heap (o := 3) t8; have V18 := Lib.hid t8; clear hb8 t8; unfold evT Dat.agg))
      go_wp2
      refine bodyPost_ret (results_row_tmp rfl _ _ (w.heap.size + 1) 55 _ (0, 0) _ rfl (setRow4_at V18.out) Tryz.underlying55 rfl (by kernel_rfl)) rfl ?_
      refine ⟨?_, setRow4_below (HB5.out.trans (hbS.out.mono HB5.out.size)) (by show w.heap.size ≤ w.heap.size + 1; omega)⟩
      rw [HVAL.out, HR.out]
      rfl
end Go.Proofs.YtlpehdhgdpeoeaaGreatDoor
