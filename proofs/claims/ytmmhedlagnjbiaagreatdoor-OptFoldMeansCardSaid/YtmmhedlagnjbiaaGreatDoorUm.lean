import Derived.Test.YtmmhedlagnjbiaaGreatDoorUa
import Derived.Test.YtmmhedlagnjbiaaGreatDoorUd
import Derived.Test.YtmmhedlagnjbiaaGreatDoorUf
import Derived.Test.YtmmhedlagnjbiaaGreatDoorFa
/- our texts, shortened by program (pack.py) -/
set_option maxRecDepth 100000
set_option maxHeartbeats 16000000
namespace Go.Proofs.YtmmhedlagnjbiaaGreatDoor
open Go.RowKit Go.Pen Go.Shelf
attribute [local go_sem] Oper.semAt_some
section
attribute [local go_sem] undef
theorem mul_170 (a b : Dat) (A B : Nat) (w : World) (ha : BoxAt w A a) (hb : BoxAt w B b) (fa : a.fits) (fb : b.fits) :
  Calls Tryz.prog 187 #[.pointer (some ⟨A, 0, none⟩), .pointer (some ⟨B, 0, none⟩)] w (ResPost (ov (a.int * b.int)) w) := by
 have fa1 := fa.2.1
 have fb1 := fb.2.1
 have la : A < w.heap.size := lt_of_heap ha
 have lb : B < w.heap.size := lt_of_heap hb
 have a2 : w.cell? ⟨A, 2, none⟩ = some (.int .i64 a.int) := cell_of_heap ha rfl
 have b2 : w.cell? ⟨B, 2, none⟩ = some (.int .i64 b.int) := cell_of_heap hb rfl
 generalize a.int = x at *
 generalize b.int = y at *
 clear ha hb fa fb
 by_cases h0 : x = 0
 ·subst h0
  rw [show ov (0 * y) = (num 0, 0) by rw [Int.zero_mul]; rfl]
  clear fa1 fb1
  go_enter Tryz.func187, Tryz.ntmps187
  go_wp2_with fail
  refine (number_162 _ _).mono ?_
  rintro ev w5 ⟨rfl, hb5⟩
  have t5 := one_at hb5
  have T5 := Lib.hid t5
  have HB5 := Lib.hid ((one_below _ _).trans (hb5.mono (by simp)))
  obtain ⟨z0, g0, z1, g1, z2, g2, z3, g3⟩ := cf4 t5
  clear hb5 t5
  unfold Dat.agg num
  go_wp2
  refine bodyPost_ret (results_row_tmp rfl _ _ w.heap.size 25 _ (0, 0) _ rfl (setRow4_at T5.out) Tryz.underlying25 rfl (by kernel_rfl)) rfl ?_
  exact ⟨rfl, setRow4_below HB5.out (Nat.le_refl _)⟩
 ·have q0 : (x == 0) = false := by simpa using h0
  by_cases h1 : y = 0
  ·subst h1
   rw [show ov (x * 0) = (num 0, 0) by rw [Int.mul_zero]; rfl]
   clear fa1 fb1
   go_enter Tryz.func187, Tryz.ntmps187
   go_wp2_with fail
   refine (number_162 _ _).mono ?_
   rintro ev w5 ⟨rfl, hb5⟩
   have t5 := one_at hb5
   have T5 := Lib.hid t5
   have HB5 := Lib.hid ((one_below _ _).trans (hb5.mono (by simp)))
   obtain ⟨z0, g0, z1, g1, z2, g2, z3, g3⟩ := cf4 t5
   clear hb5 t5
   unfold Dat.agg num
   go_wp2
   refine bodyPost_ret (results_row_tmp rfl _ _ w.heap.size 25 _ (0, 0) _ rfl (setRow4_at T5.out) Tryz.underlying25 rfl (by kernel_rfl)) rfl ?_
   exact ⟨rfl, setRow4_below HB5.out (Nat.le_refl _)⟩
  ·have q1 : (y == 0) = false := by simpa using h1
   have law := mul_law h1 fa1 fb1
   obtain ⟨D, hD⟩ : ∃ D, (wrap64 (Int.tdiv (wrap64 (x * y)) y) != x) = D := ⟨_, rfl⟩
   have hD2 : (IntKind.i64.wrap (Int.tdiv (wrap64 (x * y)) y) != x) = D := by rw [IntWalk.i64_left]; exact hD
   obtain ⟨p1, e1⟩ : ∃ p, (x == -1) = p := ⟨_, rfl⟩
   obtain ⟨p2, e2⟩ : ∃ p, (y == -9223372036854775808) = p := ⟨_, rfl⟩
   obtain ⟨p3, e3⟩ : ∃ p, (y == -1) = p := ⟨_, rfl⟩
   obtain ⟨p4, e4⟩ : ∃ p, (x == -9223372036854775808) = p := ⟨_, rfl⟩
   have hR : ov (x * y) = if ((D || (p1 && p2)) || (p3 && p4)) = true then bad 10 else (num (wrap64 (x * y)), 0) := by
    clear hD2
    subst hD e1 e2 e3 e4
    unfold ov
    by_cases hin : -9223372036854775808 ≤ x * y ∧ x * y ≤ 9223372036854775807
    ·rw [if_pos hin, if_neg (fun h => law.1 (by simpa using h) hin), show wrap64 (x * y) = x * y by unfold wrap64; omega]
    ·rw [if_neg hin, if_pos (by simpa using law.2 hin)]
   obtain ⟨R, eR⟩ : ∃ R, R = ov (x * y) := ⟨_, rfl⟩
   rw [← eR] at hR ⊢
   clear law eR fa1 fb1
   obtain ⟨w1, hw1⟩ : ∃ w1, w1 = w.alloc (.cells #[.int .u8 0, .bool false, .int .i64 0, .string ⟨#[]⟩] 25) := ⟨_, rfl⟩
   have hb1 : Below w.heap.size w w1 := by rw [hw1]; exact one_below _ _
   have ht1 : w1.heap[w.heap.size]? = some (.cells #[.int .u8 0, .bool false, .int .i64 0, .string ⟨#[]⟩] 25 (0, 0)) := by rw [hw1]; exact heap_alloc_new _ _
   have neA : A ≠ w.heap.size := by omega
   have neB : B ≠ w.heap.size := by omega
   have neA' : w.heap.size ≠ A := by omega
   have neB' : w.heap.size ≠ B := by omega
   have hs1 : w1.cell? ⟨A, 2, none⟩ = some (.int .i64 x) ∧ w1.cell? ⟨B, 2, none⟩ = some (.int .i64 y) := ⟨cell_keep hb1 a2, cell_keep hb1 b2⟩
   have hkeep : ∀ (w' : World), Below w1.heap.size w1 w' → w'.cell? ⟨A, 2, none⟩ = some (.int .i64 x) ∧ w'.cell? ⟨B, 2, none⟩ = some (.int .i64 y) := fun w' hb => ⟨cell_keep hb hs1.1, cell_keep hb hs1.2⟩
   have HW1 := Lib.hid hw1
   have HB1 := Lib.hid hb1
   have T1 := Lib.hid ht1
   have S1 := Lib.hid hs1
   have HKEEP := Lib.hid hkeep
   clear hw1 hb1 ht1 hs1 hkeep
   cases D
   ·cases p1
    ·cases p3
     ·have hwh : ∀ W, Calls Tryz.prog 185 #[.int .i64 (wrap64 (x * y)), .bool false] W (fun ev w' => ev = .returned (resT R) ∧ Below W.heap.size W w') := fun W => by rw [hR]; exact whole_168 _ false W
      have HWH := Lib.hid hwh
      clear hwh hR
      go_enter Tryz.func187, Tryz.ntmps187
      go_wp2_with fail
      rw [← HW1.out]
      clear a2 b2 HKEEP
      have a2 := S1.out.1
      have b2 := S1.out.2
      first | (go_region_with (go_at_call 185; refine (HWH.out _).mono ?_; rintro ev w5 ⟨rfl, hb5⟩; have hbS : Hid (Below w1.heap.size w1 w5) := Lib.hid (by first | exact hb5 | exact below_undrew hb5 | exact below_undrewN hb5); have t5 := (hbS.out.block _ (lt_of_heap T1.out)).trans T1.out; obtain ⟨z0, g0, z1, g1, z2, g2, z3, g3⟩ := cf4 t5; have T5 := Lib.hid t5; clear hb5 t5; unfold resT Dat.agg)) | fail
      all_goals go_wp2
      all_goals refine bodyPost_ret (results_row_tmp rfl _ _ w.heap.size 25 _ (0, 0) _ rfl (setRow4_at T5.out) Tryz.underlying25 rfl (by kernel_rfl)) rfl ?_
      all_goals exact ⟨rfl, setRow4_below (HB1.out.trans (hbS.out.mono HB1.out.size)) (Nat.le_refl _)⟩
     ·cases p4
      ·have hwh : ∀ W, Calls Tryz.prog 185 #[.int .i64 (wrap64 (x * y)), .bool false] W (fun ev w' => ev = .returned (resT R) ∧ Below W.heap.size W w') := fun W => by rw [hR]; exact whole_168 _ false W
       have HWH := Lib.hid hwh
       clear hwh hR
       go_enter Tryz.func187, Tryz.ntmps187
       go_wp2_with fail
       rw [← HW1.out]
       clear a2 b2 HKEEP
       have a2 := S1.out.1
       have b2 := S1.out.2
       first | (go_region_with (go_at_call 185; refine (HWH.out _).mono ?_; rintro ev w5 ⟨rfl, hb5⟩; have hbS : Hid (Below w1.heap.size w1 w5) := Lib.hid (by first | exact hb5 | exact below_undrew hb5 | exact below_undrewN hb5); have t5 := (hbS.out.block _ (lt_of_heap T1.out)).trans T1.out; obtain ⟨z0, g0, z1, g1, z2, g2, z3, g3⟩ := cf4 t5; have T5 := Lib.hid t5; clear hb5 t5; unfold resT Dat.agg)) | fail
       all_goals go_wp2
       all_goals refine bodyPost_ret (results_row_tmp rfl _ _ w.heap.size 25 _ (0, 0) _ rfl (setRow4_at T5.out) Tryz.underlying25 rfl (by kernel_rfl)) rfl ?_
       all_goals exact ⟨rfl, setRow4_below (HB1.out.trans (hbS.out.mono HB1.out.size)) (Nat.le_refl _)⟩
      ·have hwh : ∀ W, Calls Tryz.prog 185 #[.int .i64 (wrap64 (x * y)), .bool true] W (fun ev w' => ev = .returned (resT R) ∧ Below W.heap.size W w') := fun W => by rw [hR]; exact whole_168 _ true W
       have HWH := Lib.hid hwh
       clear hwh hR
       go_enter Tryz.func187, Tryz.ntmps187
       go_wp2_with fail
       rw [← HW1.out]
       clear a2 b2 HKEEP
       have a2 := S1.out.1
       have b2 := S1.out.2
       first | (go_region_with (go_at_call 185; refine (HWH.out _).mono ?_; rintro ev w5 ⟨rfl, hb5⟩; have hbS : Hid (Below w1.heap.size w1 w5) := Lib.hid (by first | exact hb5 | exact below_undrew hb5 | exact below_undrewN hb5); have t5 := (hbS.out.block _ (lt_of_heap T1.out)).trans T1.out; obtain ⟨z0, g0, z1, g1, z2, g2, z3, g3⟩ := cf4 t5; have T5 := Lib.hid t5; clear hb5 t5; unfold resT Dat.agg)) | fail
       all_goals go_wp2
       all_goals refine bodyPost_ret (results_row_tmp rfl _ _ w.heap.size 25 _ (0, 0) _ rfl (setRow4_at T5.out) Tryz.underlying25 rfl (by kernel_rfl)) rfl ?_
       all_goals exact ⟨rfl, setRow4_below (HB1.out.trans (hbS.out.mono HB1.out.size)) (Nat.le_refl _)⟩
    ·cases p2
     ·cases p3
      ·have hwh : ∀ W, Calls Tryz.prog 185 #[.int .i64 (wrap64 (x * y)), .bool false] W (fun ev w' => ev = .returned (resT R) ∧ Below W.heap.size W w') := fun W => by rw [hR]; exact whole_168 _ false W
       have HWH := Lib.hid hwh
       clear hwh hR
       go_enter Tryz.func187, Tryz.ntmps187
       go_wp2_with fail
       rw [← HW1.out]
       clear a2 b2 HKEEP
       have a2 := S1.out.1
       have b2 := S1.out.2
       first | (go_region_with (go_at_call 185; refine (HWH.out _).mono ?_; rintro ev w5 ⟨rfl, hb5⟩; have hbS : Hid (Below w1.heap.size w1 w5) := Lib.hid (by first | exact hb5 | exact below_undrew hb5 | exact below_undrewN hb5); have t5 := (hbS.out.block _ (lt_of_heap T1.out)).trans T1.out; obtain ⟨z0, g0, z1, g1, z2, g2, z3, g3⟩ := cf4 t5; have T5 := Lib.hid t5; clear hb5 t5; unfold resT Dat.agg)) | fail
       all_goals go_wp2
       all_goals refine bodyPost_ret (results_row_tmp rfl _ _ w.heap.size 25 _ (0, 0) _ rfl (setRow4_at T5.out) Tryz.underlying25 rfl (by kernel_rfl)) rfl ?_
       all_goals exact ⟨rfl, setRow4_below (HB1.out.trans (hbS.out.mono HB1.out.size)) (Nat.le_refl _)⟩
      ·cases p4
       ·have hwh : ∀ W, Calls Tryz.prog 185 #[.int .i64 (wrap64 (x * y)), .bool false] W (fun ev w' => ev = .returned (resT R) ∧ Below W.heap.size W w') := fun W => by rw [hR]; exact whole_168 _ false W
        have HWH := Lib.hid hwh
        clear hwh hR
        go_enter Tryz.func187, Tryz.ntmps187
        go_wp2_with fail
        rw [← HW1.out]
        clear a2 b2 HKEEP
        have a2 := S1.out.1
        have b2 := S1.out.2
        first | (go_region_with (go_at_call 185; refine (HWH.out _).mono ?_; rintro ev w5 ⟨rfl, hb5⟩; have hbS : Hid (Below w1.heap.size w1 w5) := Lib.hid (by first | exact hb5 | exact below_undrew hb5 | exact below_undrewN hb5); have t5 := (hbS.out.block _ (lt_of_heap T1.out)).trans T1.out; obtain ⟨z0, g0, z1, g1, z2, g2, z3, g3⟩ := cf4 t5; have T5 := Lib.hid t5; clear hb5 t5; unfold resT Dat.agg)) | fail
        all_goals go_wp2
        all_goals refine bodyPost_ret (results_row_tmp rfl _ _ w.heap.size 25 _ (0, 0) _ rfl (setRow4_at T5.out) Tryz.underlying25 rfl (by kernel_rfl)) rfl ?_
        all_goals exact ⟨rfl, setRow4_below (HB1.out.trans (hbS.out.mono HB1.out.size)) (Nat.le_refl _)⟩
       ·have hwh : ∀ W, Calls Tryz.prog 185 #[.int .i64 (wrap64 (x * y)), .bool true] W (fun ev w' => ev = .returned (resT R) ∧ Below W.heap.size W w') := fun W => by rw [hR]; exact whole_168 _ true W
        have HWH := Lib.hid hwh
        clear hwh hR
        go_enter Tryz.func187, Tryz.ntmps187
        go_wp2_with fail
        rw [← HW1.out]
        clear a2 b2 HKEEP
        have a2 := S1.out.1
        have b2 := S1.out.2
        first | (go_region_with (go_at_call 185; refine (HWH.out _).mono ?_; rintro ev w5 ⟨rfl, hb5⟩; have hbS : Hid (Below w1.heap.size w1 w5) := Lib.hid (by first | exact hb5 | exact below_undrew hb5 | exact below_undrewN hb5); have t5 := (hbS.out.block _ (lt_of_heap T1.out)).trans T1.out; obtain ⟨z0, g0, z1, g1, z2, g2, z3, g3⟩ := cf4 t5; have T5 := Lib.hid t5; clear hb5 t5; unfold resT Dat.agg)) | fail
        all_goals go_wp2
        all_goals refine bodyPost_ret (results_row_tmp rfl _ _ w.heap.size 25 _ (0, 0) _ rfl (setRow4_at T5.out) Tryz.underlying25 rfl (by kernel_rfl)) rfl ?_
        all_goals exact ⟨rfl, setRow4_below (HB1.out.trans (hbS.out.mono HB1.out.size)) (Nat.le_refl _)⟩
     ·have hwh : ∀ W, Calls Tryz.prog 185 #[.int .i64 (wrap64 (x * y)), .bool true] W (fun ev w' => ev = .returned (resT R) ∧ Below W.heap.size W w') := fun W => by rw [hR]; exact whole_168 _ true W
      have HWH := Lib.hid hwh
      clear hwh hR
      go_enter Tryz.func187, Tryz.ntmps187
      go_wp2_with fail
      rw [← HW1.out]
      clear a2 b2 HKEEP
      have a2 := S1.out.1
      have b2 := S1.out.2
      first | (go_region_with (go_at_call 185; refine (HWH.out _).mono ?_; rintro ev w5 ⟨rfl, hb5⟩; have hbS : Hid (Below w1.heap.size w1 w5) := Lib.hid (by first | exact hb5 | exact below_undrew hb5 | exact below_undrewN hb5); have t5 := (hbS.out.block _ (lt_of_heap T1.out)).trans T1.out; obtain ⟨z0, g0, z1, g1, z2, g2, z3, g3⟩ := cf4 t5; have T5 := Lib.hid t5; clear hb5 t5; unfold resT Dat.agg)) | fail
      all_goals go_wp2
      all_goals refine bodyPost_ret (results_row_tmp rfl _ _ w.heap.size 25 _ (0, 0) _ rfl (setRow4_at T5.out) Tryz.underlying25 rfl (by kernel_rfl)) rfl ?_
      all_goals exact ⟨rfl, setRow4_below (HB1.out.trans (hbS.out.mono HB1.out.size)) (Nat.le_refl _)⟩
   ·have hwh : ∀ W, Calls Tryz.prog 185 #[.int .i64 (wrap64 (x * y)), .bool true] W (fun ev w' => ev = .returned (resT R) ∧ Below W.heap.size W w') := fun W => by rw [hR]; exact whole_168 _ true W
    have HWH := Lib.hid hwh
    clear hwh hR
    go_enter Tryz.func187, Tryz.ntmps187
    go_wp2_with fail
    rw [← HW1.out]
    clear a2 b2 HKEEP
    have a2 := S1.out.1
    have b2 := S1.out.2
    first | (go_region_with (go_at_call 185; refine (HWH.out _).mono ?_; rintro ev w5 ⟨rfl, hb5⟩; have hbS : Hid (Below w1.heap.size w1 w5) := Lib.hid (by first | exact hb5 | exact below_undrew hb5 | exact below_undrewN hb5); have t5 := (hbS.out.block _ (lt_of_heap T1.out)).trans T1.out; obtain ⟨z0, g0, z1, g1, z2, g2, z3, g3⟩ := cf4 t5; have T5 := Lib.hid t5; clear hb5 t5; unfold resT Dat.agg)) | fail
    all_goals go_wp2
    all_goals refine bodyPost_ret (results_row_tmp rfl _ _ w.heap.size 25 _ (0, 0) _ rfl (setRow4_at T5.out) Tryz.underlying25 rfl (by kernel_rfl)) rfl ?_
    all_goals exact ⟨rfl, setRow4_below (HB1.out.trans (hbS.out.mono HB1.out.size)) (Nat.le_refl _)⟩
end
theorem mul_123 (a b : Dat) (w : World) (fa : a.fits) (fb : b.fits) (hT : Lib.Utf8Tabs 0 1 w) (h11 : 3 ≤ w.heap.size) :
  Calls Tryz.prog 146 #[a.agg, b.agg] w (ResPost (mulD a b) w) := by
 have hap : ∀ (W : World), Below w.heap.size w W → W.heap[w.heap.size]? = some (.cells #[.int .u8 a.kind, .bool a.bool, .int .i64 a.int, .string a.text] 25 (0, 0)) → W.heap[w.heap.size + 1]? = some (.cells #[.int .u8 b.kind, .bool b.bool, .int .i64 b.int, .string b.text] 25 (0, 0)) → ∀ g, W.heap[g]? = some (.cells #[.int .u8 a.kind, .bool a.bool, .int .i64 a.int, .string a.text, .int .u8 b.kind, .bool b.bool, .int .i64 b.int, .string b.text] 25 (0, 0)) →
   Calls Tryz.prog 180 #[.int .u8 3, .func (.func 187) #[] #[.pointer (some ⟨w.heap.size, 0, none⟩), .pointer (some ⟨w.heap.size + 1, 0, none⟩)], .slice (some ⟨g, 0, none⟩) 2 2] W (ResPost (mulD a b) W) := by
  intro W hb hA hB g hg
  have h := apply_163 3 187 #[.pointer (some ⟨w.heap.size, 0, none⟩), .pointer (some ⟨w.heap.size + 1, 0, none⟩)] [a, b] _ (ov (a.int * b.int)) W (by simp) (by intro d hd; simp at hd; rcases hd with rfl | rfl; exact fa; exact fb) (dats2 hg) (tabs_below hT hb h11) (Nat.le_trans h11 hb.size) (enters_of Tryz.func187 (by kernel_rfl) rfl)
   (fun _ W2 hb2 => mul_170 a b w.heap.size (w.heap.size + 1) W2 ((hb2.block _ (lt_of_heap hA)).trans hA) ((hb2.block _ (lt_of_heap hB)).trans hB) fa fb)
  rw [apR_both] at h
  exact h
 have HAP := Lib.hid hap
 clear hap hT fa fb
 obtain ⟨X, eX⟩ : ∃ X, X = mulD a b := ⟨_, rfl⟩
 rw [← eX] at HAP ⊢
 clear eX
 unfold Dat.agg
 go_enter Tryz.func146, Tryz.ntmps146
 go_wp2_with fail
 have h3 := three_at (w := w) (a := .cells #[.int .u8 a.kind, .bool a.bool, .int .i64 a.int, .string a.text] 25) (b := .cells #[.int .u8 b.kind, .bool b.bool, .int .i64 b.int, .string b.text] 25) (c := .cells #[.int .u8 0, .bool false, .int .i64 0, .string ⟨#[]⟩] 25) (Below.refl _ _)
 have h4 := heap_alloc_new (((w.alloc (.cells #[.int .u8 a.kind, .bool a.bool, .int .i64 a.int, .string a.text] 25)).alloc (.cells #[.int .u8 b.kind, .bool b.bool, .int .i64 b.int, .string b.text] 25)).alloc (.cells #[.int .u8 0, .bool false, .int .i64 0, .string ⟨#[]⟩] 25)) (.cells #[.int .u8 a.kind, .bool a.bool, .int .i64 a.int, .string a.text, .int .u8 b.kind, .bool b.bool, .int .i64 b.int, .string b.text] 25)
 rw [World.size_alloc, World.size_alloc, World.size_alloc] at h4
 have hkeep : ∀ {g : Nat} {y : Obj}, (((w.alloc (.cells #[.int .u8 a.kind, .bool a.bool, .int .i64 a.int, .string a.text] 25)).alloc (.cells #[.int .u8 b.kind, .bool b.bool, .int .i64 b.int, .string b.text] 25)).alloc (.cells #[.int .u8 0, .bool false, .int .i64 0, .string ⟨#[]⟩] 25)).heap[g]? = some y → ((((w.alloc (.cells #[.int .u8 a.kind, .bool a.bool, .int .i64 a.int, .string a.text] 25)).alloc (.cells #[.int .u8 b.kind, .bool b.bool, .int .i64 b.int, .string b.text] 25)).alloc (.cells #[.int .u8 0, .bool false, .int .i64 0, .string ⟨#[]⟩] 25)).alloc (.cells #[.int .u8 a.kind, .bool a.bool, .int .i64 a.int, .string a.text, .int .u8 b.kind, .bool b.bool, .int .i64 b.int, .string b.text] 25)).heap[g]? = some y := fun h => (Below.heap_alloc _ _ _ (lt_of_heap h)).trans h
 refine (HAP.out _ (four_below _ _ _ _ _) (hkeep h3.1) (hkeep h3.2.1) _ h4).mono ?_
 rintro ev w5 ⟨rfl, hb5⟩
 have t5 := (hb5.block _ (lt_of_heap (hkeep h3.2.2))).trans (hkeep h3.2.2)
 have T5 := Lib.hid t5
 have HB5 := Lib.hid ((four_below _ _ _ _ _).trans (hb5.mono (by simp <;> omega)))
 obtain ⟨z0, g0, z1, g1, z2, g2, z3, g3⟩ := cf4 t5
 clear hb5 t5 h3 h4 hkeep
 unfold resT Dat.agg
 go_wp2
 refine bodyPost_ret (results_row_tmp rfl _ _ (w.heap.size + 1 + 1) 25 _ (0, 0) _ rfl (setRow4_at T5.out) Tryz.underlying25 rfl (by kernel_rfl)) rfl ?_
 exact ⟨rfl, setRow4_below HB5.out (by show w.heap.size ≤ w.heap.size + 1 + 1; omega)⟩
end Go.Proofs.YtmmhedlagnjbiaaGreatDoor
namespace Go.Proofs.YtmmhedlagnjbiaaGreatDoor
open Go.RowKit Go.Pen Go.Shelf
attribute [local go_sem] Oper.semAt_some
theorem add_num (a b : Dat) : (addD a b).2 ≤ 65535 := both_num (ov_num _)
theorem sub_num (a b : Dat) : (subD a b).2 ≤ 65535 := both_num (ov_num _)
theorem mul_num (a b : Dat) : (mulD a b).2 ≤ 65535 := both_num (ov_num _)
theorem mod_num (a b : Dat) : (modD a b).2 ≤ 65535 := both_num (by
 split
 ·exact (by decide : (11 : Nat) ≤ 65535)
 ·exact Nat.zero_le _)
theorem cat_num (a b : Dat) : (catD a b).2 ≤ 65535 := both_num (by
 split
 ·exact (by decide : (12 : Nat) ≤ 65535)
 ·exact Nat.zero_le _)
end Go.Proofs.YtmmhedlagnjbiaaGreatDoor
namespace Go.Proofs.YtmmhedlagnjbiaaGreatDoor
open Go.RowKit Go.Pen Go.Shelf
theorem own_kids {o c : Int} {d : Dat} {ks : List ET} (h : ET.own okD (.mk o c d ks) = true) : kidsOk o ks.length = true := by
 simp only [ET.own, ET.op, ET.kids, Bool.and_eq_true] at h
 exact h.1.1
theorem len_two {ks : List ET} (h : ks.length = 2) : ∃ k1 k2, ks = [k1, k2] := by
 rcases ks with _ | ⟨a, _ | ⟨b, _ | ⟨c, t⟩⟩⟩
 ·simp at h
 ·simp at h
 ·exact ⟨a, b, rfl⟩
 ·simp at h
theorem eval_all (r : List Dat) (ra : Option Addr) (rc : Nat) (hrf : ∀ d ∈ r, d.fits) : ∀ (e : ET) (deep : Nat) (w : World), e.fits → e.good okD deep = true → e.within r.length = true → DatsOn (fun _ => True) w r (.slice ra r.length rc) → Lib.Utf8Tabs 0 1 w → 3 ≤ w.heap.size → EvalOK r (.slice ra r.length rc) w e := by
 refine ET.ind fun o c d ks ih deep w hf hg hw hr hT h3 kv W hb hat => ?_
 have hg' := hg
 simp only [ET.good, Bool.and_eq_true, decide_eq_true_eq, ET.goods_iff] at hg
 obtain ⟨⟨hown, -⟩, hgs⟩ := hg
 simp only [ET.within, Bool.and_eq_true, ET.withins_iff] at hw
 obtain ⟨hfar, hws⟩ := hw
 have hf' := hf
 simp only [ET.fits, ET.fitss_iff] at hf
 obtain ⟨⟨ho0, ho1⟩, -, -, hlen, hfs⟩ := hf
 have hrW := hr.below hb
 have hTW := tabs_below hT hb h3
 have h3W := Nat.le_trans h3 hb.size
 obtain ⟨a, cc, rfl, -, hks⟩ := ET.On.iff.1 hat
 simp only [ET.kids] at hks ⊢
 have ihW : ∀ k ∈ ks, EvalOK r (.slice ra r.length rc) W k := fun k hk => ih k hk (deep + 1) W (hfs k hk) (hgs k hk) (hws k hk) hrW hTW h3W
 have hok : ∀ k ∈ ks, ResOk (k.val r) := fun k hk => val_ok r hrf k (deep + 1) (hfs k hk) (hgs k hk)
 have htr : ∀ k ∈ ks, TruthOK r (.slice ra r.length rc) W k := fun k hk kv W2 hb2 hat2 => truth_85 r _ W k (ihW k hk) (hok k hk) hTW h3W kv W2 hb2 hat2
 have hkids := own_kids hown
 by_cases o1 : o = 1
 ·subst o1
  have hcn := own_col_nn hown
  have hclt : c < r.length := by
   simp at hfar
   exact hfar
  exact eval_col r ra rc c d ks a cc W hrW hcn hclt
 by_cases o2 : o = 2
 ·subst o2
  exact eval_lit r _ c d ks a cc W
 by_cases o23 : o = 23
 ·subst o23
  have h5 := ((own_mk hown).2.2.2.2.1 rfl).2
  exact eval_fail r _ c d ks a cc W h5.1 h5.2
 by_cases o18 : o = 18
 ·subst o18
  exact eval_logic_18 r _ c d ks a cc W hlen hks htr
 by_cases o19 : o = 19
 ·subst o19
  exact eval_logic_19 r _ c d ks a cc W hlen hks htr
 by_cases o21 : o = 21
 ·subst o21
  have hodd : ks.length % 2 = 1 := by
   simp [kidsOk] at hkids
   omega
  exact eval_case r _ c d ks a cc W hlen hodd hks htr ihW
 by_cases o22 : o = 22
 ·subst o22
  exact eval_coal r _ c d ks a cc W hlen hks ihW
 by_cases hone : o = 3 ∨ o = 10 ∨ o = 17 ∨ o = 20
 ·have hl1 : ks.length = 1 := by
   simp only [kidsOk] at hkids
   rw [if_neg (by omega), if_pos hone] at hkids
   simpa using hkids
  obtain ⟨k1, rfl⟩ : ∃ k, ks = [k] := List.length_eq_one_iff.1 hl1
  have i1 := ihW k1 (by simp)
  have r1 := hok k1 (by simp)
  rcases hone with rfl | rfl | rfl | rfl
  ·exact eval_one_gen 3 _ negD (by unfold PlainOp; decide) (by decide) (by decide) ones_87_3 neg_118 (fun _ => rfl) r _ c d k1 a cc W h3W hks i1 hTW r1
  ·exact eval_one_gen 10 _ lenD (by unfold PlainOp; decide) (by decide) (by decide) ones_87_10 len_119 (fun _ => rfl) r _ c d k1 a cc W h3W hks i1 hTW r1
  ·exact eval_one_gen 17 _ notD (by unfold PlainOp; decide) (by decide) (by decide) ones_87_17 not_120 (fun _ => rfl) r _ c d k1 a cc W h3W hks i1 hTW r1
  ·exact eval_one_20 r _ c d k1 a cc W hks i1
 ·have hl2 : ks.length = 2 ∧ 0 < o ∧ o < 21 := by
   simp only [kidsOk] at hkids
   rw [if_neg (by omega), if_neg hone, if_neg o21, if_neg o22] at hkids
   simp at hkids
   exact ⟨hkids.2, hkids.1.1, hkids.1.2⟩
  obtain ⟨k1, k2, rfl⟩ : ∃ k1 k2, ks = [k1, k2] := len_two hl2.1
  have i1 := ihW k1 (by simp)
  have r1 := (hok k1 (by simp)).1
  have i2 := ihW k2 (by simp)
  have r2 := (hok k2 (by simp)).1
  rcases (show o = 4 ∨ o = 5 ∨ o = 6 ∨ o = 7 ∨ o = 8 ∨ o = 9 ∨ o = 11 ∨ o = 12 ∨ o = 13 ∨ o = 14 ∨ o = 15 ∨ o = 16 by omega) with rfl | rfl | rfl | rfl | rfl | rfl | rfl | rfl | rfl | rfl | rfl | rfl
  ·exact eval_two_gen 4 144 addD (by unfold PlainOp; decide) (by decide) (by decide) (twos_yes 4 0 144 rfl) add_121 (fun _ _ => rfl) add_num r _ c d k1 k2 a cc W h3W hks i1 i2 hTW r1 r2
  ·exact eval_two_gen 5 145 subD (by unfold PlainOp; decide) (by decide) (by decide) (twos_yes 5 1 145 rfl) sub_122 (fun _ _ => rfl) sub_num r _ c d k1 k2 a cc W h3W hks i1 i2 hTW r1 r2
  ·exact eval_two_gen 6 146 mulD (by unfold PlainOp; decide) (by decide) (by decide) (twos_yes 6 2 146 rfl) mul_123 (fun _ _ => rfl) mul_num r _ c d k1 k2 a cc W h3W hks i1 i2 hTW r1 r2
  ·exact eval_two_gen 7 147 divD (by unfold PlainOp; decide) (by decide) (by decide) (twos_yes 7 3 147 rfl) div_124 (fun _ _ => rfl) div_num r _ c d k1 k2 a cc W h3W hks i1 i2 hTW r1 r2
  ·exact eval_two_gen 8 148 modD (by unfold PlainOp; decide) (by decide) (by decide) (twos_yes 8 4 148 rfl) mod_125 (fun _ _ => rfl) mod_num r _ c d k1 k2 a cc W h3W hks i1 i2 hTW r1 r2
  ·exact eval_two_gen 9 149 catD (by unfold PlainOp; decide) (by decide) (by decide) (twos_yes 9 5 149 rfl) cat_126 (fun _ _ => rfl) cat_num r _ c d k1 k2 a cc W h3W hks i1 i2 hTW r1 r2
  ·exact eval_cmp_gen 11 (by unfold PlainOp; decide) (by decide) (by decide) (by decide) r _ c d k1 k2 a cc W h3W hks i1 i2 hTW r1 r2
  ·exact eval_cmp_gen 12 (by unfold PlainOp; decide) (by decide) (by decide) (by decide) r _ c d k1 k2 a cc W h3W hks i1 i2 hTW r1 r2
  ·exact eval_cmp_gen 13 (by unfold PlainOp; decide) (by decide) (by decide) (by decide) r _ c d k1 k2 a cc W h3W hks i1 i2 hTW r1 r2
  ·exact eval_cmp_gen 14 (by unfold PlainOp; decide) (by decide) (by decide) (by decide) r _ c d k1 k2 a cc W h3W hks i1 i2 hTW r1 r2
  ·exact eval_cmp_gen 15 (by unfold PlainOp; decide) (by decide) (by decide) (by decide) r _ c d k1 k2 a cc W h3W hks i1 i2 hTW r1 r2
  ·exact eval_cmp_gen 16 (by unfold PlainOp; decide) (by decide) (by decide) (by decide) r _ c d k1 k2 a cc W h3W hks i1 i2 hTW r1 r2
theorem eval12_all (r : List Dat) (e : ET) (a : Option Addr) (cc : Nat) (ra : Option Addr) (rc : Nat) (w : World) (hfit : e.fits) (hrf : ∀ d ∈ r, d.fits) (hat : e.At w (.slice a e.kids.length cc)) (hr : DatsOn (fun _ => True) w r (.slice ra r.length rc)) (hT : Lib.Utf8Tabs 0 1 w) (hE : ErrTy w) (h3 : 3 ≤ w.heap.size) :
  Calls Tryz.prog 49 #[e.agg (.slice a e.kids.length cc), .slice ra r.length rc] w (ResPost (evalR r e) w) :=
 eval_12 r e a cc ra rc w hfit hat hT hE h3 fun hm hw => eval_all r ra rc hrf e 1 w hfit (by simp only [ET.may, Bool.and_eq_true] at hm; exact hm.1) hw hr hT h3
end Go.Proofs.YtmmhedlagnjbiaaGreatDoor
