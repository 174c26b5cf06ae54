import Derived.Test.YtmmhedlagnjbiaaGreatDoorVa
/- our texts, shortened by program (pack.py) -/
set_option maxRecDepth 100000
set_option maxHeartbeats 2000000
namespace Go.Proofs.YtmmhedlagnjbiaaGreatDoor
open Go.RowKit Go.Pen Go.Shelf
attribute [local go_sem ↓] Go.wp_at_zero Go.wp_at_succ
attribute [local go_sem] Oper.semAt_some
theorem num_one (a : Dat) (fa : a.fits) (n e : Int) (h0 : 0 ≤ e) (W : World) (g : Nat) (hg : W.heap[g]? = some (.cells #[.int .u8 a.kind, .bool a.bool, .int .i64 a.int, .string a.text] 25 (0, 0))) :
  Calls Tryz.prog 102 #[.int .i64 n, .int .i64 e, .slice (some ⟨g, 0, none⟩) 1 1] W (RefPost (sole 3 a (numR n e)) W) := by
 rw [← apR_sole]
 exact numbers_179 n e [a] _ W h0 (by simp) (by intro d hd; simp at hd; rcases hd with rfl; exact fa) (dats1 hg)
theorem num_two (a b : Dat) (fa : a.fits) (fb : b.fits) (n e : Int) (h0 : 0 ≤ e) (W : World) (g : Nat) (hg : W.heap[g]? = some (.cells #[.int .u8 a.kind, .bool a.bool, .int .i64 a.int, .string a.text, .int .u8 b.kind, .bool b.bool, .int .i64 b.int, .string b.text] 25 (0, 0))) :
  Calls Tryz.prog 102 #[.int .i64 n, .int .i64 e, .slice (some ⟨g, 0, none⟩) 2 2] W (RefPost (both 3 a b (numR n e)) W) := by
 rw [← apR_both]
 exact numbers_179 n e [a, b] _ W h0 (by simp) (by intro d hd; simp at hd; rcases hd with rfl | rfl; exact fa; exact fb) (dats2 hg)
theorem below_drew1 {B : Nat} {w w' : World} (h : Below B w w') : Below B w w'.drew := ⟨h.os, h.tape, h.output, h.size, h.block⟩
theorem heap_new_drew (w : World) (o : Obj) : (w.alloc o).drew.heap[w.heap.size]? = some o := heap_alloc_new w o
theorem heap_new_drewN (w : World) (o : Obj) (n : Nat) : ((w.alloc o).drewN n).heap[w.heap.size]? = some o := heap_alloc_new w o
theorem numR_ok {n m : Int} (h : n = m) (h2 : -9223372036854775808 ≤ m ∧ m ≤ 9223372036854775807) : numR n 0 = ov m := by
 subst h
 simp [numR, ov, h2]
theorem numR_over {n m : Int} (h2 : ¬ (-9223372036854775808 ≤ m ∧ m ≤ 9223372036854775807)) : numR n 10 = ov m := by
 simp only [numR, ov, if_neg h2]
 rfl
theorem rneg_134 (a : Dat) (w : World) (fa : a.fits) : Calls Tryz.prog 75 #[a.agg] w (RefPost (negD a) w) := by
 obtain ⟨X, eX⟩ : ∃ X, X = negD a := ⟨_, rfl⟩
 rw [← eX]
 have fi := fa.2.1
 obtain ⟨w1, hw1⟩ : ∃ w1, w1 = (w.alloc (.cells #[.int .u8 a.kind, .bool a.bool, .int .i64 a.int, .string a.text] 25)).alloc (.cells #[.int .u8 0, .bool false, .int .i64 0, .string ⟨#[]⟩] 25) := ⟨_, rfl⟩
 have hb1 : Below w.heap.size w w1 := by rw [hw1]; exact two_below _ _ _
 have ht := two_at (w := w) (w1 := w1) (a := .cells #[.int .u8 a.kind, .bool a.bool, .int .i64 a.int, .string a.text] 25) (b := .cells #[.int .u8 0, .bool false, .int .i64 0, .string ⟨#[]⟩] 25) (by rw [hw1]; exact Below.refl _ _)
 have hs1 : w1.cell? ⟨w.heap.size, 0, none⟩ = some (.int .u8 a.kind) ∧ w1.cell? ⟨w.heap.size, 1, none⟩ = some (.bool a.bool) ∧ w1.cell? ⟨w.heap.size, 2, none⟩ = some (.int .i64 a.int) ∧ w1.cell? ⟨w.heap.size, 3, none⟩ = some (.string a.text) := ⟨cell_of_heap ht.1 rfl, cell_of_heap ht.1 rfl, cell_of_heap ht.1 rfl, cell_of_heap ht.1 rfl⟩
 have hkeep : ∀ (w' : World), Below w1.heap.size w1 w' → w'.cell? ⟨w.heap.size, 0, none⟩ = some (.int .u8 a.kind) ∧ w'.cell? ⟨w.heap.size, 1, none⟩ = some (.bool a.bool) ∧ w'.cell? ⟨w.heap.size, 2, none⟩ = some (.int .i64 a.int) ∧ w'.cell? ⟨w.heap.size, 3, none⟩ = some (.string a.text) := fun w' hb => ⟨cell_keep hb hs1.1, cell_keep hb hs1.2.1, cell_keep hb hs1.2.2.1, cell_keep hb hs1.2.2.2⟩
 have HW1 := Lib.hid hw1
 have HB1 := Lib.hid hb1
 have T1 := Lib.hid ht.2
 have S1 := Lib.hid hs1
 have HKEEP := Lib.hid hkeep
 clear hw1 hb1 ht hs1 hkeep
 unfold Dat.agg
 by_cases h : a.int = -9223372036854775808
 ·have q : (a.int == -9223372036854775808) = true := by simp [h]
  obtain ⟨n, hn⟩ : ∃ n, IntKind.i64.wrap (-a.int) = n := ⟨_, rfl⟩
  have hnum : ∀ (W : World) (g : Nat), W.heap[g]? = some (.cells #[.int .u8 a.kind, .bool a.bool, .int .i64 a.int, .string a.text] 25 (0, 0)) → Calls Tryz.prog 102 #[.int .i64 n, .int .i64 10, .slice (some ⟨g, 0, none⟩) 1 1] W (RefPost X W) := fun W g hg => by
   have h := num_one a fa n 10 (by decide) W g hg
   rw [show numR n 10 = ov (-a.int) from numR_over (by omega)] at h
   rw [eX]
   exact h
  have HNUM := Lib.hid hnum
  clear hnum eX fa h fi
  go_enter Tryz.func75, Tryz.ntmps75
  go_wp2_with fail
  rw [← HW1.out]
  obtain ⟨s0, s1, s2, s3⟩ := S1.out
  have hbS : Hid (Below w1.heap.size w1 (w1.alloc (.cells #[.int .u8 a.kind, .bool a.bool, .int .i64 a.int, .string a.text] 25))) := Lib.hid (one_below _ _)
  go_region_held3 (fun w' => w'.cell? ⟨w.heap.size, 0, none⟩ = some (.int .u8 a.kind) ∧ w'.cell? ⟨w.heap.size, 1, none⟩ = some (.bool a.bool) ∧ w'.cell? ⟨w.heap.size, 2, none⟩ = some (.int .i64 a.int) ∧ w'.cell? ⟨w.heap.size, 3, none⟩ = some (.string a.text))
   (first | go_keep | exact HKEEP.out _ hbS.out)
   (first
   | (go_at_call 103; refine (over_180 _ _).mono ?_; rintro ev w6 ⟨rfl, rfl⟩)
   | (go_at_call 102; (with_reducible refine (HNUM.out _ _ (by first | exact heap_alloc_new w1 _ | exact heap_new_drew w1 _ | exact heap_new_drewN w1 _ _)).mono ?_); rintro ev w5 ⟨rfl, hb5⟩; have hbS : Hid (Below w1.heap.size w1 w5) := Lib.hid ((one_below w1 _).trans ((show Below (w1.alloc (.cells #[.int .u8 a.kind, .bool a.bool, .int .i64 a.int, .string a.text] 25)).heap.size (w1.alloc (.cells #[.int .u8 a.kind, .bool a.bool, .int .i64 a.int, .string a.text] 25)) w5 by first | exact hb5 | exact below_undrew hb5 | exact below_undrewN hb5).mono (by simp))); have t5 := (hbS.out.block _ (lt_of_heap T1.out)).trans T1.out; obtain ⟨z0, g0, z1, g1, z2, g2, z3, g3⟩ := cf4 t5; have T5 := Lib.hid t5; clear hb5 t5; unfold resI Dat.agg))
  all_goals go_wp2
  all_goals refine bodyPost_ret (results_row_tmp rfl _ _ (w.heap.size + 1) 25 _ (0, 0) _ rfl (setRow4_at T5.out) Tryz.underlying25 rfl (by kernel_rfl)) rfl ?_
  all_goals exact ⟨rfl, setRow4_below (HB1.out.trans (hbS.out.mono HB1.out.size)) (by show w.heap.size ≤ w.heap.size + 1; omega)⟩
 ·have q : (a.int == -9223372036854775808) = false := by simp [h]
  obtain ⟨n, hn⟩ : ∃ n, IntKind.i64.wrap (-a.int) = n := ⟨_, rfl⟩
  have hm : n = -a.int := by rw [← hn]; exact IntWalk.i64_in _ (by omega)
  have hnum : ∀ (W : World) (g : Nat), W.heap[g]? = some (.cells #[.int .u8 a.kind, .bool a.bool, .int .i64 a.int, .string a.text] 25 (0, 0)) → Calls Tryz.prog 102 #[.int .i64 n, .int .i64 0, .slice (some ⟨g, 0, none⟩) 1 1] W (RefPost X W) := fun W g hg => by
   have h := num_one a fa n 0 (by decide) W g hg
   rw [show numR n 0 = ov (-a.int) from numR_ok hm (by omega)] at h
   rw [eX]
   exact h
  have HNUM := Lib.hid hnum
  clear hm
  clear hnum eX fa h fi
  go_enter Tryz.func75, Tryz.ntmps75
  go_wp2_with fail
  rw [← HW1.out]
  obtain ⟨s0, s1, s2, s3⟩ := S1.out
  have hbS : Hid (Below w1.heap.size w1 (w1.alloc (.cells #[.int .u8 a.kind, .bool a.bool, .int .i64 a.int, .string a.text] 25))) := Lib.hid (one_below _ _)
  go_region_held3 (fun w' => w'.cell? ⟨w.heap.size, 0, none⟩ = some (.int .u8 a.kind) ∧ w'.cell? ⟨w.heap.size, 1, none⟩ = some (.bool a.bool) ∧ w'.cell? ⟨w.heap.size, 2, none⟩ = some (.int .i64 a.int) ∧ w'.cell? ⟨w.heap.size, 3, none⟩ = some (.string a.text))
   (first | go_keep | exact HKEEP.out _ hbS.out)
   (first
   | (go_at_call 103; refine (over_180 _ _).mono ?_; rintro ev w6 ⟨rfl, rfl⟩)
   | (go_at_call 102; (with_reducible refine (HNUM.out _ _ (by first | exact heap_alloc_new w1 _ | exact heap_new_drew w1 _ | exact heap_new_drewN w1 _ _)).mono ?_); rintro ev w5 ⟨rfl, hb5⟩; have hbS : Hid (Below w1.heap.size w1 w5) := Lib.hid ((one_below w1 _).trans ((show Below (w1.alloc (.cells #[.int .u8 a.kind, .bool a.bool, .int .i64 a.int, .string a.text] 25)).heap.size (w1.alloc (.cells #[.int .u8 a.kind, .bool a.bool, .int .i64 a.int, .string a.text] 25)) w5 by first | exact hb5 | exact below_undrew hb5 | exact below_undrewN hb5).mono (by simp))); have t5 := (hbS.out.block _ (lt_of_heap T1.out)).trans T1.out; obtain ⟨z0, g0, z1, g1, z2, g2, z3, g3⟩ := cf4 t5; have T5 := Lib.hid t5; clear hb5 t5; unfold resI Dat.agg))
  all_goals go_wp2
  all_goals refine bodyPost_ret (results_row_tmp rfl _ _ (w.heap.size + 1) 25 _ (0, 0) _ rfl (setRow4_at T5.out) Tryz.underlying25 rfl (by kernel_rfl)) rfl ?_
  all_goals exact ⟨rfl, setRow4_below (HB1.out.trans (hbS.out.mono HB1.out.size)) (by show w.heap.size ≤ w.heap.size + 1; omega)⟩
theorem radd_135 (a b : Dat) (w : World) (fa : a.fits) (fb : b.fits) : Calls Tryz.prog 76 #[a.agg, b.agg] w (RefPost (addD a b) w) := by
 obtain ⟨X, eX⟩ : ∃ X, X = addD a b := ⟨_, rfl⟩
 rw [← eX]
 have fi := fa.2.1
 have fj := fb.2.1
 obtain ⟨s, hs⟩ : ∃ s, wrap64 (a.int + b.int) = s := ⟨_, rfl⟩
 have hs2 : s = wrap64 (a.int + b.int) := hs.symm
 have HS := Lib.hid hs2
 obtain ⟨w1, hw1⟩ : ∃ w1, w1 = ((w.alloc (.cells #[.int .u8 a.kind, .bool a.bool, .int .i64 a.int, .string a.text] 25)).alloc (.cells #[.int .u8 b.kind, .bool b.bool, .int .i64 b.int, .string b.text] 25)).alloc (.cells #[.int .u8 0, .bool false, .int .i64 0, .string ⟨#[]⟩] 25) := ⟨_, rfl⟩
 have hb1 : Below w.heap.size w w1 := by rw [hw1]; exact three_below _ _ _ _
 have ht := three_at (w := w) (w1 := w1) (a := .cells #[.int .u8 a.kind, .bool a.bool, .int .i64 a.int, .string a.text] 25) (b := .cells #[.int .u8 b.kind, .bool b.bool, .int .i64 b.int, .string b.text] 25) (c := .cells #[.int .u8 0, .bool false, .int .i64 0, .string ⟨#[]⟩] 25) (by rw [hw1]; exact Below.refl _ _)
 have hs1 : w1.cell? ⟨w.heap.size, 0, none⟩ = some (.int .u8 a.kind) ∧ w1.cell? ⟨w.heap.size, 1, none⟩ = some (.bool a.bool) ∧ w1.cell? ⟨w.heap.size, 2, none⟩ = some (.int .i64 a.int) ∧ w1.cell? ⟨w.heap.size, 3, none⟩ = some (.string a.text) ∧ w1.cell? ⟨w.heap.size + 1, 0, none⟩ = some (.int .u8 b.kind) ∧ w1.cell? ⟨w.heap.size + 1, 1, none⟩ = some (.bool b.bool) ∧ w1.cell? ⟨w.heap.size + 1, 2, none⟩ = some (.int .i64 b.int) ∧ w1.cell? ⟨w.heap.size + 1, 3, none⟩ = some (.string b.text) := ⟨cell_of_heap ht.1 rfl, cell_of_heap ht.1 rfl, cell_of_heap ht.1 rfl, cell_of_heap ht.1 rfl, cell_of_heap ht.2.1 rfl, cell_of_heap ht.2.1 rfl, cell_of_heap ht.2.1 rfl, cell_of_heap ht.2.1 rfl⟩
 have hkeep : ∀ (w' : World), Below w1.heap.size w1 w' → w'.cell? ⟨w.heap.size, 0, none⟩ = some (.int .u8 a.kind) ∧ w'.cell? ⟨w.heap.size, 1, none⟩ = some (.bool a.bool) ∧ w'.cell? ⟨w.heap.size, 2, none⟩ = some (.int .i64 a.int) ∧ w'.cell? ⟨w.heap.size, 3, none⟩ = some (.string a.text) ∧ w'.cell? ⟨w.heap.size + 1, 0, none⟩ = some (.int .u8 b.kind) ∧ w'.cell? ⟨w.heap.size + 1, 1, none⟩ = some (.bool b.bool) ∧ w'.cell? ⟨w.heap.size + 1, 2, none⟩ = some (.int .i64 b.int) ∧ w'.cell? ⟨w.heap.size + 1, 3, none⟩ = some (.string b.text) := fun w' hb => ⟨cell_keep hb hs1.1, cell_keep hb hs1.2.1, cell_keep hb hs1.2.2.1, cell_keep hb hs1.2.2.2.1, cell_keep hb hs1.2.2.2.2.1, cell_keep hb hs1.2.2.2.2.2.1, cell_keep hb hs1.2.2.2.2.2.2.1, cell_keep hb hs1.2.2.2.2.2.2.2⟩
 have HW1 := Lib.hid hw1
 have HB1 := Lib.hid hb1
 have T1 := Lib.hid ht.2.2
 have S1 := Lib.hid hs1
 have HKEEP := Lib.hid hkeep
 clear hw1 hb1 ht hs1 hkeep
 unfold Dat.agg
 cases d0 : decide (0 ≤ a.int) <;> cases d2 : decide (s < 0) <;> cases d4 : decide (0 ≤ b.int)
 all_goals
  first | (have d1 : decide (a.int < 0) = true := by simp at d0; simp; omega) | (have d1 : decide (a.int < 0) = false := by simp at d0; simp; omega)
  first | (have d3 : decide (0 ≤ s) = true := by simp at d2; simp; omega) | (have d3 : decide (0 ≤ s) = false := by simp at d2; simp; omega)
  first | (have d5 : decide (b.int < 0) = true := by simp at d4; simp; omega) | (have d5 : decide (b.int < 0) = false := by simp at d4; simp; omega)
  first
   | (have hnum : ∀ (W : World) (g : Nat), W.heap[g]? = some (.cells #[.int .u8 a.kind, .bool a.bool, .int .i64 a.int, .string a.text, .int .u8 b.kind, .bool b.bool, .int .i64 b.int, .string b.text] 25 (0, 0)) → Calls Tryz.prog 102 #[.int .i64 s, .int .i64 10, .slice (some ⟨g, 0, none⟩) 2 2] W (RefPost X W) := fun W g hg => (by
    have h := num_two a b fa fb s 10 (by decide) W g hg
    rw [show numR s 10 = ov (a.int + b.int) from (numR_over (by have := HS.out; unfold wrap64 at this; simp at d0 d2 d4 d5; omega))] at h
    rw [eX]
    exact h))
   | (have hnum : ∀ (W : World) (g : Nat), W.heap[g]? = some (.cells #[.int .u8 a.kind, .bool a.bool, .int .i64 a.int, .string a.text, .int .u8 b.kind, .bool b.bool, .int .i64 b.int, .string b.text] 25 (0, 0)) → Calls Tryz.prog 102 #[.int .i64 s, .int .i64 0, .slice (some ⟨g, 0, none⟩) 2 2] W (RefPost X W) := fun W g hg => (by
    have h := num_two a b fa fb s 0 (by decide) W g hg
    rw [show numR s 0 = ov (a.int + b.int) from (numR_ok (by have := HS.out; unfold wrap64 at this; simp at d0 d2 d4 d5; omega) (by have := HS.out; unfold wrap64 at this; simp at d0 d2 d4 d5; omega))] at h
    rw [eX]
    exact h))
  have HNUM := Lib.hid hnum
  clear hnum eX fa fb fi fj hs2
  go_enter Tryz.func76, Tryz.ntmps76
  go_wp2_with fail
  rw [← HW1.out]
  obtain ⟨s0, s1, s2, s3, s4, s5, s6, s7⟩ := S1.out
  have n1 : w.heap.size + 1 + 1 ≠ w.heap.size := by omega
  have n2 : w.heap.size + 1 + 1 ≠ w.heap.size + 1 := by omega
  have hbA : Hid (Below w1.heap.size w1 (w1.alloc (.cells #[.int .u8 a.kind, .bool a.bool, .int .i64 a.int, .string a.text, .int .u8 b.kind, .bool b.bool, .int .i64 b.int, .string b.text] 25)).drew) := Lib.hid (below_drew1 (one_below _ _))
  refine wp_region_held_drew (S := fun w' => w'.cell? ⟨w.heap.size, 0, none⟩ = some (.int .u8 a.kind) ∧ w'.cell? ⟨w.heap.size, 1, none⟩ = some (.bool a.bool) ∧ w'.cell? ⟨w.heap.size, 2, none⟩ = some (.int .i64 a.int) ∧ w'.cell? ⟨w.heap.size, 3, none⟩ = some (.string a.text) ∧ w'.cell? ⟨w.heap.size + 1, 0, none⟩ = some (.int .u8 b.kind) ∧ w'.cell? ⟨w.heap.size + 1, 1, none⟩ = some (.bool b.bool) ∧ w'.cell? ⟨w.heap.size + 1, 2, none⟩ = some (.int .i64 b.int) ∧ w'.cell? ⟨w.heap.size + 1, 3, none⟩ = some (.string b.text)) (by kernel_rfl) ⟨s0, s1, s2, s3, s4, s5, s6, s7⟩ (fun hHeld => ?_)
  first | (refine wpAnyH_take (i := 0) (oi := ⟨some 12, _, _, _, _, _⟩) (v := ?_) rfl (by kernel_rfl) (by kernel_rfl) (by kernel_rfl) (fun _ _ _ h => h) (Or.inl ⟨by rfl, ?_⟩) (by assumption) ?_; rotate_left; (intro w hSw; (try dsimp only at hSw); go_simp; (try with_reducible rfl)); simp only [Act.put, sA, sB, sC]) | (refine wpAnyH_take (i := 0) (oi := ⟨some 12, _, _, _, _, _⟩) (v := undef) rfl (by kernel_rfl) (by kernel_rfl) (by kernel_rfl) (fun _ _ _ h => h) (Or.inr ⟨by rfl, rfl⟩) (by assumption) ?_; simp only [Act.put, sA, sB, sC])
  first | (refine wpAnyH_take (i := 1) (oi := ⟨some 13, _, _, _, _, _⟩) (v := ?_) rfl (by kernel_rfl) (by kernel_rfl) (by kernel_rfl) (fun _ _ _ h => h) (Or.inl ⟨by rfl, ?_⟩) (by assumption) ?_; rotate_left; (intro w hSw; (try dsimp only at hSw); go_simp; (try with_reducible rfl)); simp only [Act.put, sA, sB, sC]) | (refine wpAnyH_take (i := 1) (oi := ⟨some 13, _, _, _, _, _⟩) (v := undef) rfl (by kernel_rfl) (by kernel_rfl) (by kernel_rfl) (fun _ _ _ h => h) (Or.inr ⟨by rfl, rfl⟩) (by assumption) ?_; simp only [Act.put, sA, sB, sC])
  first | (refine wpAnyH_take (i := 2) (oi := ⟨some 14, _, _, _, _, _⟩) (v := ?_) rfl (by kernel_rfl) (by kernel_rfl) (by kernel_rfl) (fun _ _ _ h => h) (Or.inl ⟨by rfl, ?_⟩) (by assumption) ?_; rotate_left; (intro w hSw; (try dsimp only at hSw); go_simp; (try with_reducible rfl)); simp only [Act.put, sA, sB, sC]) | (refine wpAnyH_take (i := 2) (oi := ⟨some 14, _, _, _, _, _⟩) (v := undef) rfl (by kernel_rfl) (by kernel_rfl) (by kernel_rfl) (fun _ _ _ h => h) (Or.inr ⟨by rfl, rfl⟩) (by assumption) ?_; simp only [Act.put, sA, sB, sC])
  first | (refine wpAnyH_take (i := 3) (oi := ⟨some 15, _, _, _, _, _⟩) (v := ?_) rfl (by kernel_rfl) (by kernel_rfl) (by kernel_rfl) (fun _ _ _ h => h) (Or.inl ⟨by rfl, ?_⟩) (by assumption) ?_; rotate_left; (intro w hSw; (try dsimp only at hSw); go_simp; (try with_reducible rfl)); simp only [Act.put, sA, sB, sC]) | (refine wpAnyH_take (i := 3) (oi := ⟨some 15, _, _, _, _, _⟩) (v := undef) rfl (by kernel_rfl) (by kernel_rfl) (by kernel_rfl) (fun _ _ _ h => h) (Or.inr ⟨by rfl, rfl⟩) (by assumption) ?_; simp only [Act.put, sA, sB, sC])
  first | (refine wpAnyH_take (i := 4) (oi := ⟨some 16, _, _, _, _, _⟩) (v := ?_) rfl (by kernel_rfl) (by kernel_rfl) (by kernel_rfl) (fun _ _ _ h => h) (Or.inl ⟨by rfl, ?_⟩) (by assumption) ?_; rotate_left; (intro w hSw; (try dsimp only at hSw); go_simp; (try with_reducible rfl)); simp only [Act.put, sA, sB, sC]) | (refine wpAnyH_take (i := 4) (oi := ⟨some 16, _, _, _, _, _⟩) (v := undef) rfl (by kernel_rfl) (by kernel_rfl) (by kernel_rfl) (fun _ _ _ h => h) (Or.inr ⟨by rfl, rfl⟩) (by assumption) ?_; simp only [Act.put, sA, sB, sC])
  first | (refine wpAnyH_take (i := 5) (oi := ⟨some 17, _, _, _, _, _⟩) (v := ?_) rfl (by kernel_rfl) (by kernel_rfl) (by kernel_rfl) (fun _ _ _ h => h) (Or.inl ⟨by rfl, ?_⟩) (by assumption) ?_; rotate_left; (intro w hSw; (try dsimp only at hSw); go_simp; (try with_reducible rfl)); simp only [Act.put, sA, sB, sC]) | (refine wpAnyH_take (i := 5) (oi := ⟨some 17, _, _, _, _, _⟩) (v := undef) rfl (by kernel_rfl) (by kernel_rfl) (by kernel_rfl) (fun _ _ _ h => h) (Or.inr ⟨by rfl, rfl⟩) (by assumption) ?_; simp only [Act.put, sA, sB, sC])
  first | (refine wpAnyH_take (i := 6) (oi := ⟨some 18, _, _, _, _, _⟩) (v := ?_) rfl (by kernel_rfl) (by kernel_rfl) (by kernel_rfl) (fun _ _ _ h => h) (Or.inl ⟨by rfl, ?_⟩) (by assumption) ?_; rotate_left; (intro w hSw; (try dsimp only at hSw); go_simp; (try with_reducible rfl)); simp only [Act.put, sA, sB, sC]) | (refine wpAnyH_take (i := 6) (oi := ⟨some 18, _, _, _, _, _⟩) (v := undef) rfl (by kernel_rfl) (by kernel_rfl) (by kernel_rfl) (fun _ _ _ h => h) (Or.inr ⟨by rfl, rfl⟩) (by assumption) ?_; simp only [Act.put, sA, sB, sC])
  first | (refine wpAnyH_take (i := 7) (oi := ⟨some 19, _, _, _, _, _⟩) (v := ?_) rfl (by kernel_rfl) (by kernel_rfl) (by kernel_rfl) (fun _ _ _ h => h) (Or.inl ⟨by rfl, ?_⟩) (by assumption) ?_; rotate_left; (intro w hSw; (try dsimp only at hSw); go_simp; (try with_reducible rfl)); simp only [Act.put, sA, sB, sC]) | (refine wpAnyH_take (i := 7) (oi := ⟨some 19, _, _, _, _, _⟩) (v := undef) rfl (by kernel_rfl) (by kernel_rfl) (by kernel_rfl) (fun _ _ _ h => h) (Or.inr ⟨by rfl, rfl⟩) (by assumption) ?_; simp only [Act.put, sA, sB, sC])
  first | (refine wpAnyH_take (i := 8) (oi := ⟨some 20, _, _, _, _, _⟩) (v := ?_) rfl (by kernel_rfl) (by kernel_rfl) (by kernel_rfl) (fun _ _ _ h => h) (Or.inl ⟨by rfl, ?_⟩) (by assumption) ?_; rotate_left; (intro w hSw; (try dsimp only at hSw); go_simp; (try with_reducible rfl)); simp only [Act.put, sA, sB, sC]) | (refine wpAnyH_take (i := 8) (oi := ⟨some 20, _, _, _, _, _⟩) (v := undef) rfl (by kernel_rfl) (by kernel_rfl) (by kernel_rfl) (fun _ _ _ h => h) (Or.inr ⟨by rfl, rfl⟩) (by assumption) ?_; simp only [Act.put, sA, sB, sC])
  first | (refine wpAnyH_take (i := 9) (oi := ⟨some 21, _, _, _, _, _⟩) (v := ?_) rfl (by kernel_rfl) (by kernel_rfl) (by kernel_rfl) (fun _ _ _ h => h) (Or.inl ⟨by rfl, ?_⟩) (by assumption) ?_; rotate_left; (intro w hSw; (try dsimp only at hSw); go_simp; (try with_reducible rfl)); simp only [Act.put, sA, sB, sC]) | (refine wpAnyH_take (i := 9) (oi := ⟨some 21, _, _, _, _, _⟩) (v := undef) rfl (by kernel_rfl) (by kernel_rfl) (by kernel_rfl) (fun _ _ _ h => h) (Or.inr ⟨by rfl, rfl⟩) (by assumption) ?_; simp only [Act.put, sA, sB, sC])
  first | (refine wpAnyH_take (i := 10) (oi := ⟨some 22, _, _, _, _, _⟩) (v := ?_) rfl (by kernel_rfl) (by kernel_rfl) (by kernel_rfl) (fun _ _ _ h => h) (Or.inl ⟨by rfl, ?_⟩) (by assumption) ?_; rotate_left; (intro w hSw; (try dsimp only at hSw); go_simp; (try with_reducible rfl)); simp only [Act.put, sA, sB, sC]) | (refine wpAnyH_take (i := 10) (oi := ⟨some 22, _, _, _, _, _⟩) (v := undef) rfl (by kernel_rfl) (by kernel_rfl) (by kernel_rfl) (fun _ _ _ h => h) (Or.inr ⟨by rfl, rfl⟩) (by assumption) ?_; simp only [Act.put, sA, sB, sC])
  first | (refine wpAnyH_take (i := 11) (oi := ⟨some 23, _, _, _, _, _⟩) (v := ?_) rfl (by kernel_rfl) (by kernel_rfl) (by kernel_rfl) (fun _ _ _ h => h) (Or.inl ⟨by rfl, ?_⟩) (by assumption) ?_; rotate_left; (intro w hSw; (try dsimp only at hSw); go_simp; (try with_reducible rfl)); simp only [Act.put, sA, sB, sC]) | (refine wpAnyH_take (i := 11) (oi := ⟨some 23, _, _, _, _, _⟩) (v := undef) rfl (by kernel_rfl) (by kernel_rfl) (by kernel_rfl) (fun _ _ _ h => h) (Or.inr ⟨by rfl, rfl⟩) (by assumption) ?_; simp only [Act.put, sA, sB, sC])
  first | (refine wpAnyH_take (i := 12) (oi := ⟨some 24, _, _, _, _, _⟩) (v := ?_) rfl (by kernel_rfl) (by kernel_rfl) (by kernel_rfl) (fun _ _ _ h => h) (Or.inl ⟨by rfl, ?_⟩) (by assumption) ?_; rotate_left; (intro w hSw; (try dsimp only at hSw); go_simp; (try with_reducible rfl)); simp only [Act.put, sA, sB, sC]) | (refine wpAnyH_take (i := 12) (oi := ⟨some 24, _, _, _, _, _⟩) (v := undef) rfl (by kernel_rfl) (by kernel_rfl) (by kernel_rfl) (fun _ _ _ h => h) (Or.inr ⟨by rfl, rfl⟩) (by assumption) ?_; simp only [Act.put, sA, sB, sC])
  first | (refine wpAnyH_take (i := 13) (oi := ⟨some 25, _, _, _, _, _⟩) (v := ?_) rfl (by kernel_rfl) (by kernel_rfl) (by kernel_rfl) (fun _ _ _ h => h) (Or.inl ⟨by rfl, ?_⟩) (by assumption) ?_; rotate_left; (intro w hSw; (try dsimp only at hSw); go_simp; (try with_reducible rfl)); simp only [Act.put, sA, sB, sC]) | (refine wpAnyH_take (i := 13) (oi := ⟨some 25, _, _, _, _, _⟩) (v := undef) rfl (by kernel_rfl) (by kernel_rfl) (by kernel_rfl) (fun _ _ _ h => h) (Or.inr ⟨by rfl, rfl⟩) (by assumption) ?_; simp only [Act.put, sA, sB, sC])
  first | (refine wpAnyH_take (i := 14) (oi := ⟨some 26, _, _, _, _, _⟩) (v := ?_) rfl (by kernel_rfl) (by kernel_rfl) (by kernel_rfl) (fun _ _ _ h => h) (Or.inl ⟨by rfl, ?_⟩) (by assumption) ?_; rotate_left; (intro w hSw; (try dsimp only at hSw); go_simp; (try with_reducible rfl)); simp only [Act.put, sA, sB, sC]) | (refine wpAnyH_take (i := 14) (oi := ⟨some 26, _, _, _, _, _⟩) (v := undef) rfl (by kernel_rfl) (by kernel_rfl) (by kernel_rfl) (fun _ _ _ h => h) (Or.inr ⟨by rfl, rfl⟩) (by assumption) ?_; simp only [Act.put, sA, sB, sC])
  first | (refine wpAnyH_take (i := 15) (oi := ⟨some 27, _, _, _, _, _⟩) (v := ?_) rfl (by kernel_rfl) (by kernel_rfl) (by kernel_rfl) (fun _ _ _ h => h) (Or.inl ⟨by rfl, ?_⟩) (by assumption) ?_; rotate_left; (intro w hSw; (try dsimp only at hSw); go_simp; (try with_reducible rfl)); simp only [Act.put, sA, sB, sC]) | (refine wpAnyH_take (i := 15) (oi := ⟨some 27, _, _, _, _, _⟩) (v := undef) rfl (by kernel_rfl) (by kernel_rfl) (by kernel_rfl) (fun _ _ _ h => h) (Or.inr ⟨by rfl, rfl⟩) (by assumption) ?_; simp only [Act.put, sA, sB, sC])
  first | (refine wpAnyH_take (i := 16) (oi := ⟨some 28, _, _, _, _, _⟩) (v := ?_) rfl (by kernel_rfl) (by kernel_rfl) (by kernel_rfl) (fun _ _ _ h => h) (Or.inl ⟨by rfl, ?_⟩) (by assumption) ?_; rotate_left; (intro w hSw; (try dsimp only at hSw); go_simp; (try with_reducible rfl)); simp only [Act.put, sA, sB, sC]) | (refine wpAnyH_take (i := 16) (oi := ⟨some 28, _, _, _, _, _⟩) (v := undef) rfl (by kernel_rfl) (by kernel_rfl) (by kernel_rfl) (fun _ _ _ h => h) (Or.inr ⟨by rfl, rfl⟩) (by assumption) ?_; simp only [Act.put, sA, sB, sC])
  first | (refine wpAnyH_take (i := 17) (oi := ⟨some 29, _, _, _, _, _⟩) (v := ?_) rfl (by kernel_rfl) (by kernel_rfl) (by kernel_rfl) (fun _ _ _ h => h) (Or.inl ⟨by rfl, ?_⟩) (by assumption) ?_; rotate_left; (intro w hSw; (try dsimp only at hSw); go_simp; (try with_reducible rfl)); simp only [Act.put, sA, sB, sC]) | (refine wpAnyH_take (i := 17) (oi := ⟨some 29, _, _, _, _, _⟩) (v := undef) rfl (by kernel_rfl) (by kernel_rfl) (by kernel_rfl) (fun _ _ _ h => h) (Or.inr ⟨by rfl, rfl⟩) (by assumption) ?_; simp only [Act.put, sA, sB, sC])
  first | (refine wpAnyH_take (i := 18) (oi := ⟨some 30, _, _, _, _, _⟩) (v := ?_) rfl (by kernel_rfl) (by kernel_rfl) (by kernel_rfl) (fun _ _ _ h => h) (Or.inl ⟨by rfl, ?_⟩) (by assumption) ?_; rotate_left; (intro w hSw; (try dsimp only at hSw); go_simp; (try with_reducible rfl)); simp only [Act.put, sA, sB, sC]) | (refine wpAnyH_take (i := 18) (oi := ⟨some 30, _, _, _, _, _⟩) (v := undef) rfl (by kernel_rfl) (by kernel_rfl) (by kernel_rfl) (fun _ _ _ h => h) (Or.inr ⟨by rfl, rfl⟩) (by assumption) ?_; simp only [Act.put, sA, sB, sC])
  first | (refine wpAnyH_take (i := 19) (oi := ⟨some 31, _, _, _, _, _⟩) (v := ?_) rfl (by kernel_rfl) (by kernel_rfl) (by kernel_rfl) (fun _ _ _ h => h) (Or.inl ⟨by rfl, ?_⟩) (by assumption) ?_; rotate_left; (intro w hSw; (try dsimp only at hSw); go_simp; (try with_reducible rfl)); simp only [Act.put, sA, sB, sC]) | (refine wpAnyH_take (i := 19) (oi := ⟨some 31, _, _, _, _, _⟩) (v := undef) rfl (by kernel_rfl) (by kernel_rfl) (by kernel_rfl) (fun _ _ _ h => h) (Or.inr ⟨by rfl, rfl⟩) (by assumption) ?_; simp only [Act.put, sA, sB, sC])
  first | (refine wpAnyH_take (i := 20) (oi := ⟨some 32, _, _, _, _, _⟩) (v := ?_) rfl (by kernel_rfl) (by kernel_rfl) (by kernel_rfl) (fun _ _ _ h => h) (Or.inl ⟨by rfl, ?_⟩) (by assumption) ?_; rotate_left; (intro w hSw; (try dsimp only at hSw); go_simp; (try with_reducible rfl)); simp only [Act.put, sA, sB, sC]) | (refine wpAnyH_take (i := 20) (oi := ⟨some 32, _, _, _, _, _⟩) (v := undef) rfl (by kernel_rfl) (by kernel_rfl) (by kernel_rfl) (fun _ _ _ h => h) (Or.inr ⟨by rfl, rfl⟩) (by assumption) ?_; simp only [Act.put, sA, sB, sC])
  first | (refine wpAnyH_take (i := 21) (oi := ⟨some 33, _, _, _, _, _⟩) (v := ?_) rfl (by kernel_rfl) (by kernel_rfl) (by kernel_rfl) (fun _ _ _ h => h) (Or.inl ⟨by rfl, ?_⟩) (by assumption) ?_; rotate_left; (intro w hSw; (try dsimp only at hSw); go_simp; (try with_reducible rfl)); simp only [Act.put, sA, sB, sC]) | (refine wpAnyH_take (i := 21) (oi := ⟨some 33, _, _, _, _, _⟩) (v := undef) rfl (by kernel_rfl) (by kernel_rfl) (by kernel_rfl) (fun _ _ _ h => h) (Or.inr ⟨by rfl, rfl⟩) (by assumption) ?_; simp only [Act.put, sA, sB, sC])
  first | (refine wpAnyH_take (i := 22) (oi := ⟨some 34, _, _, _, _, _⟩) (v := ?_) rfl (by kernel_rfl) (by kernel_rfl) (by kernel_rfl) (fun _ _ _ h => h) (Or.inl ⟨by rfl, ?_⟩) (by assumption) ?_; rotate_left; (intro w hSw; (try dsimp only at hSw); go_simp; (try with_reducible rfl)); simp only [Act.put, sA, sB, sC]) | (refine wpAnyH_take (i := 22) (oi := ⟨some 34, _, _, _, _, _⟩) (v := undef) rfl (by kernel_rfl) (by kernel_rfl) (by kernel_rfl) (fun _ _ _ h => h) (Or.inr ⟨by rfl, rfl⟩) (by assumption) ?_; simp only [Act.put, sA, sB, sC])
  first | (refine wpAnyH_take (i := 23) (oi := ⟨some 35, _, _, _, _, _⟩) (v := ?_) rfl (by kernel_rfl) (by kernel_rfl) (by kernel_rfl) (fun _ _ _ h => h) (Or.inl ⟨by rfl, ?_⟩) (by assumption) ?_; rotate_left; (intro w hSw; (try dsimp only at hSw); go_simp; (try with_reducible rfl)); simp only [Act.put, sA, sB, sC]) | (refine wpAnyH_take (i := 23) (oi := ⟨some 35, _, _, _, _, _⟩) (v := undef) rfl (by kernel_rfl) (by kernel_rfl) (by kernel_rfl) (fun _ _ _ h => h) (Or.inr ⟨by rfl, rfl⟩) (by assumption) ?_; simp only [Act.put, sA, sB, sC])
  first | (refine wpAnyH_take (i := 24) (oi := ⟨some 36, _, _, _, _, _⟩) (v := ?_) rfl (by kernel_rfl) (by kernel_rfl) (by kernel_rfl) (fun _ _ _ h => h) (Or.inl ⟨by rfl, ?_⟩) (by assumption) ?_; rotate_left; (intro w hSw; (try dsimp only at hSw); go_simp; (try with_reducible rfl)); simp only [Act.put, sA, sB, sC]) | (refine wpAnyH_take (i := 24) (oi := ⟨some 36, _, _, _, _, _⟩) (v := undef) rfl (by kernel_rfl) (by kernel_rfl) (by kernel_rfl) (fun _ _ _ h => h) (Or.inr ⟨by rfl, rfl⟩) (by assumption) ?_; simp only [Act.put, sA, sB, sC])
  first | (refine wpAnyH_take (i := 25) (oi := ⟨some 37, _, _, _, _, _⟩) (v := ?_) rfl (by kernel_rfl) (by kernel_rfl) (by kernel_rfl) (fun _ _ _ h => h) (Or.inl ⟨by rfl, ?_⟩) (by assumption) ?_; rotate_left; (intro w hSw; (try dsimp only at hSw); go_simp; (try with_reducible rfl)); simp only [Act.put, sA, sB, sC]) | (refine wpAnyH_take (i := 25) (oi := ⟨some 37, _, _, _, _, _⟩) (v := undef) rfl (by kernel_rfl) (by kernel_rfl) (by kernel_rfl) (fun _ _ _ h => h) (Or.inr ⟨by rfl, rfl⟩) (by assumption) ?_; simp only [Act.put, sA, sB, sC])
  first | (refine wpAnyH_take (i := 26) (oi := ⟨some 38, _, _, _, _, _⟩) (v := ?_) rfl (by kernel_rfl) (by kernel_rfl) (by kernel_rfl) (fun _ _ _ h => h) (Or.inl ⟨by rfl, ?_⟩) (by assumption) ?_; rotate_left; (intro w hSw; (try dsimp only at hSw); go_simp; (try with_reducible rfl)); simp only [Act.put, sA, sB, sC]) | (refine wpAnyH_take (i := 26) (oi := ⟨some 38, _, _, _, _, _⟩) (v := undef) rfl (by kernel_rfl) (by kernel_rfl) (by kernel_rfl) (fun _ _ _ h => h) (Or.inr ⟨by rfl, rfl⟩) (by assumption) ?_; simp only [Act.put, sA, sB, sC])
  first | (refine wpAnyH_take (i := 28) (oi := ⟨some 40, _, _, _, _, _⟩) (v := ?_) rfl (by kernel_rfl) (by kernel_rfl) (by kernel_rfl) (fun _ _ _ h => h) (Or.inl ⟨by rfl, ?_⟩) (by assumption) ?_; rotate_left; (intro w hSw; (try dsimp only at hSw); go_simp; (try with_reducible rfl)); simp only [Act.put, sA, sB, sC]) | (refine wpAnyH_take (i := 28) (oi := ⟨some 40, _, _, _, _, _⟩) (v := undef) rfl (by kernel_rfl) (by kernel_rfl) (by kernel_rfl) (fun _ _ _ h => h) (Or.inr ⟨by rfl, rfl⟩) (by assumption) ?_; simp only [Act.put, sA, sB, sC])
  first | (refine wpAnyH_take (i := 29) (oi := ⟨some 41, _, _, _, _, _⟩) (v := ?_) rfl (by kernel_rfl) (by kernel_rfl) (by kernel_rfl) (fun _ _ _ h => h) (Or.inl ⟨by rfl, ?_⟩) (by assumption) ?_; rotate_left; (intro w hSw; (try dsimp only at hSw); go_simp; (try with_reducible rfl)); simp only [Act.put, sA, sB, sC]) | (refine wpAnyH_take (i := 29) (oi := ⟨some 41, _, _, _, _, _⟩) (v := undef) rfl (by kernel_rfl) (by kernel_rfl) (by kernel_rfl) (fun _ _ _ h => h) (Or.inr ⟨by rfl, rfl⟩) (by assumption) ?_; simp only [Act.put, sA, sB, sC])
  refine wpAnyH_ready (rs := [27, 30]) (by kernel_rfl) (by simp) ?_
  refine AllReadyH.cons (o := ⟨some 39, _, _, _, _, _⟩) rfl (fun K hK => ?_) (AllReadyH.cons (o := ⟨some 42, _, _, _, _, _⟩) rfl (fun K hK => ?_) AllReadyH.nil)
  ·go_simp
   go_at_call 103
   refine (over_180 _ _).mono ?_
   rintro ev w6 ⟨rfl, rfl⟩
   go_wp2_with fail
   refine hK.out _ _ (⟨s0, s1, s2, s3, s4, s5, s6, s7⟩) (fun hHeld => ?_)
   clear hK K
   try simp only [Act.put, sA, sB, sC]
   refine wpAnyH_ready (rs := [30]) (by kernel_rfl) (by simp) ?_
   refine AllReadyH.cons (o := ⟨some 42, _, _, _, _, _⟩) rfl (fun K hK => ?_) AllReadyH.nil
   go_simp
   refine hK.out _ _ (HKEEP.out _ hbA.out) (fun hHeld => ?_)
   clear hK K
   try simp only [Act.put, sA, sB, sC]
   refine wpAnyH_ready (rs := [31]) (by kernel_rfl) (by simp) ?_
   refine AllReadyH.cons (o := ⟨some 43, _, _, _, _, _⟩) rfl (fun K hK => ?_) AllReadyH.nil
   go_simp
   go_at_call 102
   (with_reducible refine (HNUM.out _ _ (by first | exact heap_alloc_new w1 _ | exact heap_new_drew w1 _ | exact heap_new_drewN w1 _ _)).mono ?_)
   rintro ev w5 ⟨rfl, hb5⟩
   have hbS : Hid (Below w1.heap.size w1 w5) := Lib.hid ((one_below w1 _).trans ((show Below (w1.alloc (.cells #[.int .u8 a.kind, .bool a.bool, .int .i64 a.int, .string a.text, .int .u8 b.kind, .bool b.bool, .int .i64 b.int, .string b.text] 25)).heap.size (w1.alloc (.cells #[.int .u8 a.kind, .bool a.bool, .int .i64 a.int, .string a.text, .int .u8 b.kind, .bool b.bool, .int .i64 b.int, .string b.text] 25)) w5 by first | exact hb5 | exact below_undrew hb5 | exact below_undrewN hb5).mono (by simp)))
   have t5 := (hbS.out.block _ (lt_of_heap T1.out)).trans T1.out
   obtain ⟨z0, g0, z1, g1, z2, g2, z3, g3⟩ := cf4 t5
   have T5 := Lib.hid t5
   clear hb5 t5
   unfold resI Dat.agg
   go_wp2_with fail
   refine hK.out _ _ (HKEEP.out _ hbS.out) (fun hHeld => ?_)
   clear hK K
   try simp only [Act.put, sA, sB, sC]
   (refine wpAnyH_take (i := 32) (oi := ⟨some 44, _, _, _, _, _⟩) (v := ?_) rfl (by kernel_rfl) (by kernel_rfl) (by kernel_rfl) (fun _ _ _ h => h) (Or.inl ⟨by rfl, ?_⟩) (by assumption) ?_; rotate_left; (intro w hSw; (try dsimp only at hSw); go_simp; (try with_reducible rfl)); simp only [Act.put, sA, sB, sC])
   (refine wpAnyH_take (i := 33) (oi := ⟨some 45, _, _, _, _, _⟩) (v := ?_) rfl (by kernel_rfl) (by kernel_rfl) (by kernel_rfl) (fun _ _ _ h => h) (Or.inl ⟨by rfl, ?_⟩) (by assumption) ?_; rotate_left; (intro w hSw; (try dsimp only at hSw); go_simp; (try with_reducible rfl)); simp only [Act.put, sA, sB, sC])
   refine wpAnyH_ready (rs := [34]) (by kernel_rfl) (by simp) ?_
   refine AllReadyH.cons (o := ⟨none, _, _, _, _, _⟩) rfl (fun K hK => ?_) AllReadyH.nil
   go_simp
   refine hK.out _ _ (by simp only [cell_set_ne n1, cell_set_ne n2]; exact HKEEP.out _ hbS.out) (fun hHeld => ?_)
   clear hK K
   try simp only [Act.put, sA, sB, sC]
   (refine wpAnyH_take (i := 35) (oi := ⟨some 5, _, _, _, _, _⟩) (v := ?_) rfl (by kernel_rfl) (by kernel_rfl) (by kernel_rfl) (fun _ _ _ h => h) (Or.inl ⟨by rfl, ?_⟩) (by assumption) ?_; rotate_left; (intro w hSw; (try dsimp only at hSw); go_simp; (try with_reducible rfl)); simp only [Act.put, sA, sB, sC])
   refine wpAnyH_done (by kernel_rfl) ?_ _
   go_wp2
   refine bodyPost_ret (results_row_tmp rfl _ _ (w.heap.size + 1 + 1) 25 _ (0, 0) _ rfl (setRow4_at T5.out) Tryz.underlying25 rfl (by kernel_rfl)) rfl ?_
   exact ⟨rfl, setRow4_below (HB1.out.trans (hbS.out.mono HB1.out.size)) (by show w.heap.size ≤ w.heap.size + 1 + 1; omega)⟩
  ·go_simp
   refine hK.out _ _ (HKEEP.out _ hbA.out) (fun hHeld => ?_)
   clear hK K
   try simp only [Act.put, sA, sB, sC]
   refine wpAnyH_ready (rs := [27]) (by kernel_rfl) (by simp) ?_
   refine AllReadyH.cons (o := ⟨some 39, _, _, _, _, _⟩) rfl (fun K hK => ?_) AllReadyH.nil
   go_simp
   go_at_call 103
   refine (over_180 _ _).mono ?_
   rintro ev w6 ⟨rfl, rfl⟩
   go_wp2_with fail
   refine hK.out _ _ (HKEEP.out _ hbA.out) (fun hHeld => ?_)
   clear hK K
   try simp only [Act.put, sA, sB, sC]
   refine wpAnyH_ready (rs := [31]) (by kernel_rfl) (by simp) ?_
   refine AllReadyH.cons (o := ⟨some 43, _, _, _, _, _⟩) rfl (fun K hK => ?_) AllReadyH.nil
   go_simp
   go_at_call 102
   (with_reducible refine (HNUM.out _ _ (by first | exact heap_alloc_new w1 _ | exact heap_new_drew w1 _ | exact heap_new_drewN w1 _ _)).mono ?_)
   rintro ev w5 ⟨rfl, hb5⟩
   have hbS : Hid (Below w1.heap.size w1 w5) := Lib.hid ((one_below w1 _).trans ((show Below (w1.alloc (.cells #[.int .u8 a.kind, .bool a.bool, .int .i64 a.int, .string a.text, .int .u8 b.kind, .bool b.bool, .int .i64 b.int, .string b.text] 25)).heap.size (w1.alloc (.cells #[.int .u8 a.kind, .bool a.bool, .int .i64 a.int, .string a.text, .int .u8 b.kind, .bool b.bool, .int .i64 b.int, .string b.text] 25)) w5 by first | exact hb5 | exact below_undrew hb5 | exact below_undrewN hb5).mono (by simp)))
   have t5 := (hbS.out.block _ (lt_of_heap T1.out)).trans T1.out
   obtain ⟨z0, g0, z1, g1, z2, g2, z3, g3⟩ := cf4 t5
   have T5 := Lib.hid t5
   clear hb5 t5
   unfold resI Dat.agg
   go_wp2_with fail
   refine hK.out _ _ (HKEEP.out _ hbS.out) (fun hHeld => ?_)
   clear hK K
   try simp only [Act.put, sA, sB, sC]
   (refine wpAnyH_take (i := 32) (oi := ⟨some 44, _, _, _, _, _⟩) (v := ?_) rfl (by kernel_rfl) (by kernel_rfl) (by kernel_rfl) (fun _ _ _ h => h) (Or.inl ⟨by rfl, ?_⟩) (by assumption) ?_; rotate_left; (intro w hSw; (try dsimp only at hSw); go_simp; (try with_reducible rfl)); simp only [Act.put, sA, sB, sC])
   (refine wpAnyH_take (i := 33) (oi := ⟨some 45, _, _, _, _, _⟩) (v := ?_) rfl (by kernel_rfl) (by kernel_rfl) (by kernel_rfl) (fun _ _ _ h => h) (Or.inl ⟨by rfl, ?_⟩) (by assumption) ?_; rotate_left; (intro w hSw; (try dsimp only at hSw); go_simp; (try with_reducible rfl)); simp only [Act.put, sA, sB, sC])
   refine wpAnyH_ready (rs := [34]) (by kernel_rfl) (by simp) ?_
   refine AllReadyH.cons (o := ⟨none, _, _, _, _, _⟩) rfl (fun K hK => ?_) AllReadyH.nil
   go_simp
   refine hK.out _ _ (by simp only [cell_set_ne n1, cell_set_ne n2]; exact HKEEP.out _ hbS.out) (fun hHeld => ?_)
   clear hK K
   try simp only [Act.put, sA, sB, sC]
   (refine wpAnyH_take (i := 35) (oi := ⟨some 5, _, _, _, _, _⟩) (v := ?_) rfl (by kernel_rfl) (by kernel_rfl) (by kernel_rfl) (fun _ _ _ h => h) (Or.inl ⟨by rfl, ?_⟩) (by assumption) ?_; rotate_left; (intro w hSw; (try dsimp only at hSw); go_simp; (try with_reducible rfl)); simp only [Act.put, sA, sB, sC])
   refine wpAnyH_done (by kernel_rfl) ?_ _
   go_wp2
   refine bodyPost_ret (results_row_tmp rfl _ _ (w.heap.size + 1 + 1) 25 _ (0, 0) _ rfl (setRow4_at T5.out) Tryz.underlying25 rfl (by kernel_rfl)) rfl ?_
   exact ⟨rfl, setRow4_below (HB1.out.trans (hbS.out.mono HB1.out.size)) (by show w.heap.size ≤ w.heap.size + 1 + 1; omega)⟩
theorem rdiv_138 (a b : Dat) (w : World) (fa : a.fits) (fb : b.fits) : Calls Tryz.prog 79 #[a.agg, b.agg] w (RefPost (divD a b) w) := by
 obtain ⟨X, eX⟩ : ∃ X, X = divD a b := ⟨_, rfl⟩
 rw [← eX]
 unfold divD at eX
 have fi := fa.2.1
 have fj := fb.2.1
 by_cases h0 : b.int = 0
 ·rw [if_pos h0] at eX
  have q0 : (b.int == 0) = true := by simp [h0]
  have hnum : ∀ (W : World) (g : Nat), W.heap[g]? = some (.cells #[.int .u8 a.kind, .bool a.bool, .int .i64 a.int, .string a.text, .int .u8 b.kind, .bool b.bool, .int .i64 b.int, .string b.text] 25 (0, 0)) → Calls Tryz.prog 102 #[.int .i64 0, .int .i64 11, .slice (some ⟨g, 0, none⟩) 2 2] W (RefPost X W) := fun W g hg => by
   have h := num_two a b fa fb 0 11 (by decide) W g hg
   rw [show numR 0 11 = bad 11 from rfl] at h
   rw [eX]
   exact h
  have HNUM := Lib.hid hnum
  clear hnum eX fa fb fi fj h0
  unfold Dat.agg
  go_enter Tryz.func79, Tryz.ntmps79
  go_wp2_with fail
  have h3 := three_at (w := w) (a := .cells #[.int .u8 a.kind, .bool a.bool, .int .i64 a.int, .string a.text] 25) (b := .cells #[.int .u8 b.kind, .bool b.bool, .int .i64 b.int, .string b.text] 25) (c := .cells #[.int .u8 0, .bool false, .int .i64 0, .string ⟨#[]⟩] 25) (Below.refl _ _)
  have h4 := heap_alloc_new (((w.alloc (.cells #[.int .u8 a.kind, .bool a.bool, .int .i64 a.int, .string a.text] 25)).alloc (.cells #[.int .u8 b.kind, .bool b.bool, .int .i64 b.int, .string b.text] 25)).alloc (.cells #[.int .u8 0, .bool false, .int .i64 0, .string ⟨#[]⟩] 25)) (.cells #[.int .u8 a.kind, .bool a.bool, .int .i64 a.int, .string a.text, .int .u8 b.kind, .bool b.bool, .int .i64 b.int, .string b.text] 25)
  rw [World.size_alloc, World.size_alloc, World.size_alloc] at h4
  have hkeep : ∀ {g : Nat} {y : Obj}, (((w.alloc (.cells #[.int .u8 a.kind, .bool a.bool, .int .i64 a.int, .string a.text] 25)).alloc (.cells #[.int .u8 b.kind, .bool b.bool, .int .i64 b.int, .string b.text] 25)).alloc (.cells #[.int .u8 0, .bool false, .int .i64 0, .string ⟨#[]⟩] 25)).heap[g]? = some y → ((((w.alloc (.cells #[.int .u8 a.kind, .bool a.bool, .int .i64 a.int, .string a.text] 25)).alloc (.cells #[.int .u8 b.kind, .bool b.bool, .int .i64 b.int, .string b.text] 25)).alloc (.cells #[.int .u8 0, .bool false, .int .i64 0, .string ⟨#[]⟩] 25)).alloc (.cells #[.int .u8 a.kind, .bool a.bool, .int .i64 a.int, .string a.text, .int .u8 b.kind, .bool b.bool, .int .i64 b.int, .string b.text] 25)).heap[g]? = some y := fun h => (Below.heap_alloc _ _ _ (lt_of_heap h)).trans h
  refine (HNUM.out _ _ h4).mono ?_
  rintro ev w5 ⟨rfl, hb5⟩
  have t5 := (hb5.block _ (lt_of_heap (hkeep h3.2.2))).trans (hkeep h3.2.2)
  have T5 := Lib.hid t5
  have HB5 := Lib.hid ((four_below _ _ _ _ _).trans (hb5.mono (by simp <;> omega)))
  obtain ⟨z0, g0, z1, g1, z2, g2, z3, g3⟩ := cf4 t5
  clear hb5 t5 h3 h4 hkeep
  unfold resI Dat.agg
  go_wp2
  refine bodyPost_ret (results_row_tmp rfl _ _ (w.heap.size + 1 + 1) 25 _ (0, 0) _ rfl (setRow4_at T5.out) Tryz.underlying25 rfl (by kernel_rfl)) rfl ?_
  exact ⟨rfl, setRow4_below HB5.out (by show w.heap.size ≤ w.heap.size + 1 + 1; omega)⟩
 ·rw [if_neg h0] at eX
  have q0 : (b.int == 0) = false := by simp [h0]
  by_cases h1 : b.int = -1
  ·have q1 : (b.int == -1) = true := by simp [h1]
   have hdv : Int.tdiv a.int b.int = -a.int := by rw [h1, Int.tdiv_neg, Int.tdiv_one]
   rw [hdv] at eX
   obtain ⟨n, hn⟩ : ∃ n, IntKind.i64.wrap (-a.int) = n := ⟨_, rfl⟩
   by_cases h : a.int = -9223372036854775808
   ·have q : (a.int == -9223372036854775808) = true := by simp [h]
    have hnum : ∀ (W : World) (g : Nat), W.heap[g]? = some (.cells #[.int .u8 a.kind, .bool a.bool, .int .i64 a.int, .string a.text, .int .u8 b.kind, .bool b.bool, .int .i64 b.int, .string b.text] 25 (0, 0)) → Calls Tryz.prog 102 #[.int .i64 n, .int .i64 10, .slice (some ⟨g, 0, none⟩) 2 2] W (RefPost X W) := fun W g hg => by
     have h := num_two a b fa fb n 10 (by decide) W g hg
     rw [show numR n 10 = ov (-a.int) from numR_over (by omega)] at h
     rw [eX]
     exact h
    have HNUM := Lib.hid hnum
    clear hnum eX fa fb fi fj h h0 h1 hdv
    unfold Dat.agg
    obtain ⟨w1, hw1⟩ : ∃ w1, w1 = ((w.alloc (.cells #[.int .u8 a.kind, .bool a.bool, .int .i64 a.int, .string a.text] 25)).alloc (.cells #[.int .u8 b.kind, .bool b.bool, .int .i64 b.int, .string b.text] 25)).alloc (.cells #[.int .u8 0, .bool false, .int .i64 0, .string ⟨#[]⟩] 25) := ⟨_, rfl⟩
    have hb1 : Below w.heap.size w w1 := by rw [hw1]; exact three_below _ _ _ _
    have ht := three_at (w := w) (w1 := w1) (a := .cells #[.int .u8 a.kind, .bool a.bool, .int .i64 a.int, .string a.text] 25) (b := .cells #[.int .u8 b.kind, .bool b.bool, .int .i64 b.int, .string b.text] 25) (c := .cells #[.int .u8 0, .bool false, .int .i64 0, .string ⟨#[]⟩] 25) (by rw [hw1]; exact Below.refl _ _)
    have hs1 : w1.cell? ⟨w.heap.size, 0, none⟩ = some (.int .u8 a.kind) ∧ w1.cell? ⟨w.heap.size, 1, none⟩ = some (.bool a.bool) ∧ w1.cell? ⟨w.heap.size, 2, none⟩ = some (.int .i64 a.int) ∧ w1.cell? ⟨w.heap.size, 3, none⟩ = some (.string a.text) ∧ w1.cell? ⟨w.heap.size + 1, 0, none⟩ = some (.int .u8 b.kind) ∧ w1.cell? ⟨w.heap.size + 1, 1, none⟩ = some (.bool b.bool) ∧ w1.cell? ⟨w.heap.size + 1, 2, none⟩ = some (.int .i64 b.int) ∧ w1.cell? ⟨w.heap.size + 1, 3, none⟩ = some (.string b.text) := ⟨cell_of_heap ht.1 rfl, cell_of_heap ht.1 rfl, cell_of_heap ht.1 rfl, cell_of_heap ht.1 rfl, cell_of_heap ht.2.1 rfl, cell_of_heap ht.2.1 rfl, cell_of_heap ht.2.1 rfl, cell_of_heap ht.2.1 rfl⟩
    have hkeep : ∀ (w' : World), Below w1.heap.size w1 w' → w'.cell? ⟨w.heap.size, 0, none⟩ = some (.int .u8 a.kind) ∧ w'.cell? ⟨w.heap.size, 1, none⟩ = some (.bool a.bool) ∧ w'.cell? ⟨w.heap.size, 2, none⟩ = some (.int .i64 a.int) ∧ w'.cell? ⟨w.heap.size, 3, none⟩ = some (.string a.text) ∧ w'.cell? ⟨w.heap.size + 1, 0, none⟩ = some (.int .u8 b.kind) ∧ w'.cell? ⟨w.heap.size + 1, 1, none⟩ = some (.bool b.bool) ∧ w'.cell? ⟨w.heap.size + 1, 2, none⟩ = some (.int .i64 b.int) ∧ w'.cell? ⟨w.heap.size + 1, 3, none⟩ = some (.string b.text) := fun w' hb => ⟨cell_keep hb hs1.1, cell_keep hb hs1.2.1, cell_keep hb hs1.2.2.1, cell_keep hb hs1.2.2.2.1, cell_keep hb hs1.2.2.2.2.1, cell_keep hb hs1.2.2.2.2.2.1, cell_keep hb hs1.2.2.2.2.2.2.1, cell_keep hb hs1.2.2.2.2.2.2.2⟩
    have HW1 := Lib.hid hw1
    have HB1 := Lib.hid hb1
    have T1 := Lib.hid ht.2.2
    have S1 := Lib.hid hs1
    have HKEEP := Lib.hid hkeep
    clear hw1 hb1 ht hs1 hkeep
    go_enter Tryz.func79, Tryz.ntmps79
    go_wp2_with fail
    rw [← HW1.out]
    obtain ⟨s0, s1, s2, s3, s4, s5, s6, s7⟩ := S1.out
    have n1 : w.heap.size + 1 + 1 ≠ w.heap.size := by omega
    have n2 : w.heap.size + 1 + 1 ≠ w.heap.size + 1 := by omega
    have hbS : Hid (Below w1.heap.size w1 (w1.alloc (.cells #[.int .u8 a.kind, .bool a.bool, .int .i64 a.int, .string a.text, .int .u8 b.kind, .bool b.bool, .int .i64 b.int, .string b.text] 25))) := Lib.hid (one_below _ _)
    go_region_held3 (fun w' => w'.cell? ⟨w.heap.size, 0, none⟩ = some (.int .u8 a.kind) ∧ w'.cell? ⟨w.heap.size, 1, none⟩ = some (.bool a.bool) ∧ w'.cell? ⟨w.heap.size, 2, none⟩ = some (.int .i64 a.int) ∧ w'.cell? ⟨w.heap.size, 3, none⟩ = some (.string a.text) ∧ w'.cell? ⟨w.heap.size + 1, 0, none⟩ = some (.int .u8 b.kind) ∧ w'.cell? ⟨w.heap.size + 1, 1, none⟩ = some (.bool b.bool) ∧ w'.cell? ⟨w.heap.size + 1, 2, none⟩ = some (.int .i64 b.int) ∧ w'.cell? ⟨w.heap.size + 1, 3, none⟩ = some (.string b.text))
     (first | go_keep | exact HKEEP.out _ hbS.out | (simp only [cell_set_ne n1, cell_set_ne n2]; exact HKEEP.out _ hbS.out))
     (first
     | (go_at_call 103; refine (over_180 _ _).mono ?_; rintro ev w6 ⟨rfl, rfl⟩)
     | (go_at_call 102; (with_reducible refine (HNUM.out _ _ (by first | exact heap_alloc_new w1 _ | exact heap_new_drew w1 _ | exact heap_new_drewN w1 _ _)).mono ?_); rintro ev w5 ⟨rfl, hb5⟩; have hbS : Hid (Below w1.heap.size w1 w5) := Lib.hid ((one_below w1 _).trans ((show Below (w1.alloc (.cells #[.int .u8 a.kind, .bool a.bool, .int .i64 a.int, .string a.text, .int .u8 b.kind, .bool b.bool, .int .i64 b.int, .string b.text] 25)).heap.size (w1.alloc (.cells #[.int .u8 a.kind, .bool a.bool, .int .i64 a.int, .string a.text, .int .u8 b.kind, .bool b.bool, .int .i64 b.int, .string b.text] 25)) w5 by first | exact hb5 | exact below_undrew hb5 | exact below_undrewN hb5).mono (by simp))); have t5 := (hbS.out.block _ (lt_of_heap T1.out)).trans T1.out; obtain ⟨z0, g0, z1, g1, z2, g2, z3, g3⟩ := cf4 t5; have T5 := Lib.hid t5; clear hb5 t5; unfold resI Dat.agg))
    all_goals go_wp2
    all_goals refine bodyPost_ret (results_row_tmp rfl _ _ (w.heap.size + 1 + 1) 25 _ (0, 0) _ rfl (setRow4_at T5.out) Tryz.underlying25 rfl (by kernel_rfl)) rfl ?_
    all_goals exact ⟨rfl, setRow4_below (HB1.out.trans (hbS.out.mono HB1.out.size)) (by show w.heap.size ≤ w.heap.size + 1 + 1; omega)⟩
   ·have q : (a.int == -9223372036854775808) = false := by simp [h]
    have hm : n = -a.int := by rw [← hn]; exact IntWalk.i64_in _ (by omega)
    have hnum : ∀ (W : World) (g : Nat), W.heap[g]? = some (.cells #[.int .u8 a.kind, .bool a.bool, .int .i64 a.int, .string a.text, .int .u8 b.kind, .bool b.bool, .int .i64 b.int, .string b.text] 25 (0, 0)) → Calls Tryz.prog 102 #[.int .i64 n, .int .i64 0, .slice (some ⟨g, 0, none⟩) 2 2] W (RefPost X W) := fun W g hg => by
     have h := num_two a b fa fb n 0 (by decide) W g hg
     rw [show numR n 0 = ov (-a.int) from numR_ok hm (by omega)] at h
     rw [eX]
     exact h
    have HNUM := Lib.hid hnum
    clear hnum eX fa fb fi fj h h0 h1 hdv hm
    unfold Dat.agg
    obtain ⟨w1, hw1⟩ : ∃ w1, w1 = ((w.alloc (.cells #[.int .u8 a.kind, .bool a.bool, .int .i64 a.int, .string a.text] 25)).alloc (.cells #[.int .u8 b.kind, .bool b.bool, .int .i64 b.int, .string b.text] 25)).alloc (.cells #[.int .u8 0, .bool false, .int .i64 0, .string ⟨#[]⟩] 25) := ⟨_, rfl⟩
    have hb1 : Below w.heap.size w w1 := by rw [hw1]; exact three_below _ _ _ _
    have ht := three_at (w := w) (w1 := w1) (a := .cells #[.int .u8 a.kind, .bool a.bool, .int .i64 a.int, .string a.text] 25) (b := .cells #[.int .u8 b.kind, .bool b.bool, .int .i64 b.int, .string b.text] 25) (c := .cells #[.int .u8 0, .bool false, .int .i64 0, .string ⟨#[]⟩] 25) (by rw [hw1]; exact Below.refl _ _)
    have hs1 : w1.cell? ⟨w.heap.size, 0, none⟩ = some (.int .u8 a.kind) ∧ w1.cell? ⟨w.heap.size, 1, none⟩ = some (.bool a.bool) ∧ w1.cell? ⟨w.heap.size, 2, none⟩ = some (.int .i64 a.int) ∧ w1.cell? ⟨w.heap.size, 3, none⟩ = some (.string a.text) ∧ w1.cell? ⟨w.heap.size + 1, 0, none⟩ = some (.int .u8 b.kind) ∧ w1.cell? ⟨w.heap.size + 1, 1, none⟩ = some (.bool b.bool) ∧ w1.cell? ⟨w.heap.size + 1, 2, none⟩ = some (.int .i64 b.int) ∧ w1.cell? ⟨w.heap.size + 1, 3, none⟩ = some (.string b.text) := ⟨cell_of_heap ht.1 rfl, cell_of_heap ht.1 rfl, cell_of_heap ht.1 rfl, cell_of_heap ht.1 rfl, cell_of_heap ht.2.1 rfl, cell_of_heap ht.2.1 rfl, cell_of_heap ht.2.1 rfl, cell_of_heap ht.2.1 rfl⟩
    have hkeep : ∀ (w' : World), Below w1.heap.size w1 w' → w'.cell? ⟨w.heap.size, 0, none⟩ = some (.int .u8 a.kind) ∧ w'.cell? ⟨w.heap.size, 1, none⟩ = some (.bool a.bool) ∧ w'.cell? ⟨w.heap.size, 2, none⟩ = some (.int .i64 a.int) ∧ w'.cell? ⟨w.heap.size, 3, none⟩ = some (.string a.text) ∧ w'.cell? ⟨w.heap.size + 1, 0, none⟩ = some (.int .u8 b.kind) ∧ w'.cell? ⟨w.heap.size + 1, 1, none⟩ = some (.bool b.bool) ∧ w'.cell? ⟨w.heap.size + 1, 2, none⟩ = some (.int .i64 b.int) ∧ w'.cell? ⟨w.heap.size + 1, 3, none⟩ = some (.string b.text) := fun w' hb => ⟨cell_keep hb hs1.1, cell_keep hb hs1.2.1, cell_keep hb hs1.2.2.1, cell_keep hb hs1.2.2.2.1, cell_keep hb hs1.2.2.2.2.1, cell_keep hb hs1.2.2.2.2.2.1, cell_keep hb hs1.2.2.2.2.2.2.1, cell_keep hb hs1.2.2.2.2.2.2.2⟩
    have HW1 := Lib.hid hw1
    have HB1 := Lib.hid hb1
    have T1 := Lib.hid ht.2.2
    have S1 := Lib.hid hs1
    have HKEEP := Lib.hid hkeep
    clear hw1 hb1 ht hs1 hkeep
    go_enter Tryz.func79, Tryz.ntmps79
    go_wp2_with fail
    rw [← HW1.out]
    obtain ⟨s0, s1, s2, s3, s4, s5, s6, s7⟩ := S1.out
    have n1 : w.heap.size + 1 + 1 ≠ w.heap.size := by omega
    have n2 : w.heap.size + 1 + 1 ≠ w.heap.size + 1 := by omega
    have hbS : Hid (Below w1.heap.size w1 (w1.alloc (.cells #[.int .u8 a.kind, .bool a.bool, .int .i64 a.int, .string a.text, .int .u8 b.kind, .bool b.bool, .int .i64 b.int, .string b.text] 25))) := Lib.hid (one_below _ _)
    go_region_held3 (fun w' => w'.cell? ⟨w.heap.size, 0, none⟩ = some (.int .u8 a.kind) ∧ w'.cell? ⟨w.heap.size, 1, none⟩ = some (.bool a.bool) ∧ w'.cell? ⟨w.heap.size, 2, none⟩ = some (.int .i64 a.int) ∧ w'.cell? ⟨w.heap.size, 3, none⟩ = some (.string a.text) ∧ w'.cell? ⟨w.heap.size + 1, 0, none⟩ = some (.int .u8 b.kind) ∧ w'.cell? ⟨w.heap.size + 1, 1, none⟩ = some (.bool b.bool) ∧ w'.cell? ⟨w.heap.size + 1, 2, none⟩ = some (.int .i64 b.int) ∧ w'.cell? ⟨w.heap.size + 1, 3, none⟩ = some (.string b.text))
     (first | go_keep | exact HKEEP.out _ hbS.out | (simp only [cell_set_ne n1, cell_set_ne n2]; exact HKEEP.out _ hbS.out))
     (first
     | (go_at_call 103; refine (over_180 _ _).mono ?_; rintro ev w6 ⟨rfl, rfl⟩)
     | (go_at_call 102; (with_reducible refine (HNUM.out _ _ (by first | exact heap_alloc_new w1 _ | exact heap_new_drew w1 _ | exact heap_new_drewN w1 _ _)).mono ?_); rintro ev w5 ⟨rfl, hb5⟩; have hbS : Hid (Below w1.heap.size w1 w5) := Lib.hid ((one_below w1 _).trans ((show Below (w1.alloc (.cells #[.int .u8 a.kind, .bool a.bool, .int .i64 a.int, .string a.text, .int .u8 b.kind, .bool b.bool, .int .i64 b.int, .string b.text] 25)).heap.size (w1.alloc (.cells #[.int .u8 a.kind, .bool a.bool, .int .i64 a.int, .string a.text, .int .u8 b.kind, .bool b.bool, .int .i64 b.int, .string b.text] 25)) w5 by first | exact hb5 | exact below_undrew hb5 | exact below_undrewN hb5).mono (by simp))); have t5 := (hbS.out.block _ (lt_of_heap T1.out)).trans T1.out; obtain ⟨z0, g0, z1, g1, z2, g2, z3, g3⟩ := cf4 t5; have T5 := Lib.hid t5; clear hb5 t5; unfold resI Dat.agg))
    all_goals go_wp2
    all_goals refine bodyPost_ret (results_row_tmp rfl _ _ (w.heap.size + 1 + 1) 25 _ (0, 0) _ rfl (setRow4_at T5.out) Tryz.underlying25 rfl (by kernel_rfl)) rfl ?_
    all_goals exact ⟨rfl, setRow4_below (HB1.out.trans (hbS.out.mono HB1.out.size)) (by show w.heap.size ≤ w.heap.size + 1 + 1; omega)⟩
  ·have q1 : (b.int == -1) = false := by simp [h1]
   have hr := tdiv_range2 (y := b.int) fi h0 h1
   obtain ⟨n, hn⟩ : ∃ n, IntKind.i64.wrap (Int.tdiv a.int b.int) = n := ⟨_, rfl⟩
   have hm : n = Int.tdiv a.int b.int := by rw [← hn]; exact IntWalk.i64_in _ hr
   have hnum : ∀ (W : World) (g : Nat), W.heap[g]? = some (.cells #[.int .u8 a.kind, .bool a.bool, .int .i64 a.int, .string a.text, .int .u8 b.kind, .bool b.bool, .int .i64 b.int, .string b.text] 25 (0, 0)) → Calls Tryz.prog 102 #[.int .i64 n, .int .i64 0, .slice (some ⟨g, 0, none⟩) 2 2] W (RefPost X W) := fun W g hg => by
    have h := num_two a b fa fb n 0 (by decide) W g hg
    rw [show numR n 0 = ov (Int.tdiv a.int b.int) from numR_ok hm hr] at h
    rw [eX]
    exact h
   have HNUM := Lib.hid hnum
   clear hnum eX fa fb fi fj h1 hm hr
   unfold Dat.agg
   obtain ⟨w1, hw1⟩ : ∃ w1, w1 = ((w.alloc (.cells #[.int .u8 a.kind, .bool a.bool, .int .i64 a.int, .string a.text] 25)).alloc (.cells #[.int .u8 b.kind, .bool b.bool, .int .i64 b.int, .string b.text] 25)).alloc (.cells #[.int .u8 0, .bool false, .int .i64 0, .string ⟨#[]⟩] 25) := ⟨_, rfl⟩
   have hb1 : Below w.heap.size w w1 := by rw [hw1]; exact three_below _ _ _ _
   have ht := three_at (w := w) (w1 := w1) (a := .cells #[.int .u8 a.kind, .bool a.bool, .int .i64 a.int, .string a.text] 25) (b := .cells #[.int .u8 b.kind, .bool b.bool, .int .i64 b.int, .string b.text] 25) (c := .cells #[.int .u8 0, .bool false, .int .i64 0, .string ⟨#[]⟩] 25) (by rw [hw1]; exact Below.refl _ _)
   have hs1 : w1.cell? ⟨w.heap.size, 0, none⟩ = some (.int .u8 a.kind) ∧ w1.cell? ⟨w.heap.size, 1, none⟩ = some (.bool a.bool) ∧ w1.cell? ⟨w.heap.size, 2, none⟩ = some (.int .i64 a.int) ∧ w1.cell? ⟨w.heap.size, 3, none⟩ = some (.string a.text) ∧ w1.cell? ⟨w.heap.size + 1, 0, none⟩ = some (.int .u8 b.kind) ∧ w1.cell? ⟨w.heap.size + 1, 1, none⟩ = some (.bool b.bool) ∧ w1.cell? ⟨w.heap.size + 1, 2, none⟩ = some (.int .i64 b.int) ∧ w1.cell? ⟨w.heap.size + 1, 3, none⟩ = some (.string b.text) := ⟨cell_of_heap ht.1 rfl, cell_of_heap ht.1 rfl, cell_of_heap ht.1 rfl, cell_of_heap ht.1 rfl, cell_of_heap ht.2.1 rfl, cell_of_heap ht.2.1 rfl, cell_of_heap ht.2.1 rfl, cell_of_heap ht.2.1 rfl⟩
   have hkeep : ∀ (w' : World), Below w1.heap.size w1 w' → w'.cell? ⟨w.heap.size, 0, none⟩ = some (.int .u8 a.kind) ∧ w'.cell? ⟨w.heap.size, 1, none⟩ = some (.bool a.bool) ∧ w'.cell? ⟨w.heap.size, 2, none⟩ = some (.int .i64 a.int) ∧ w'.cell? ⟨w.heap.size, 3, none⟩ = some (.string a.text) ∧ w'.cell? ⟨w.heap.size + 1, 0, none⟩ = some (.int .u8 b.kind) ∧ w'.cell? ⟨w.heap.size + 1, 1, none⟩ = some (.bool b.bool) ∧ w'.cell? ⟨w.heap.size + 1, 2, none⟩ = some (.int .i64 b.int) ∧ w'.cell? ⟨w.heap.size + 1, 3, none⟩ = some (.string b.text) := fun w' hb => ⟨cell_keep hb hs1.1, cell_keep hb hs1.2.1, cell_keep hb hs1.2.2.1, cell_keep hb hs1.2.2.2.1, cell_keep hb hs1.2.2.2.2.1, cell_keep hb hs1.2.2.2.2.2.1, cell_keep hb hs1.2.2.2.2.2.2.1, cell_keep hb hs1.2.2.2.2.2.2.2⟩
   have HW1 := Lib.hid hw1
   have HB1 := Lib.hid hb1
   have T1 := Lib.hid ht.2.2
   have S1 := Lib.hid hs1
   have HKEEP := Lib.hid hkeep
   clear hw1 hb1 ht hs1 hkeep
   go_enter Tryz.func79, Tryz.ntmps79
   go_wp2_with fail
   rw [← HW1.out]
   obtain ⟨s0, s1, s2, s3, s4, s5, s6, s7⟩ := S1.out
   have n1 : w.heap.size + 1 + 1 ≠ w.heap.size := by omega
   have n2 : w.heap.size + 1 + 1 ≠ w.heap.size + 1 := by omega
   have hbS : Hid (Below w1.heap.size w1 (w1.alloc (.cells #[.int .u8 a.kind, .bool a.bool, .int .i64 a.int, .string a.text, .int .u8 b.kind, .bool b.bool, .int .i64 b.int, .string b.text] 25))) := Lib.hid (one_below _ _)
   go_region_held3 (fun w' => w'.cell? ⟨w.heap.size, 0, none⟩ = some (.int .u8 a.kind) ∧ w'.cell? ⟨w.heap.size, 1, none⟩ = some (.bool a.bool) ∧ w'.cell? ⟨w.heap.size, 2, none⟩ = some (.int .i64 a.int) ∧ w'.cell? ⟨w.heap.size, 3, none⟩ = some (.string a.text) ∧ w'.cell? ⟨w.heap.size + 1, 0, none⟩ = some (.int .u8 b.kind) ∧ w'.cell? ⟨w.heap.size + 1, 1, none⟩ = some (.bool b.bool) ∧ w'.cell? ⟨w.heap.size + 1, 2, none⟩ = some (.int .i64 b.int) ∧ w'.cell? ⟨w.heap.size + 1, 3, none⟩ = some (.string b.text))
    (first | go_keep | exact HKEEP.out _ hbS.out | (simp only [cell_set_ne n1, cell_set_ne n2]; exact HKEEP.out _ hbS.out))
    (first
    | (go_at_call 103; refine (over_180 _ _).mono ?_; rintro ev w6 ⟨rfl, rfl⟩)
    | (go_at_call 102; (with_reducible refine (HNUM.out _ _ (by first | exact heap_alloc_new w1 _ | exact heap_new_drew w1 _ | exact heap_new_drewN w1 _ _)).mono ?_); rintro ev w5 ⟨rfl, hb5⟩; have hbS : Hid (Below w1.heap.size w1 w5) := Lib.hid ((one_below w1 _).trans ((show Below (w1.alloc (.cells #[.int .u8 a.kind, .bool a.bool, .int .i64 a.int, .string a.text, .int .u8 b.kind, .bool b.bool, .int .i64 b.int, .string b.text] 25)).heap.size (w1.alloc (.cells #[.int .u8 a.kind, .bool a.bool, .int .i64 a.int, .string a.text, .int .u8 b.kind, .bool b.bool, .int .i64 b.int, .string b.text] 25)) w5 by first | exact hb5 | exact below_undrew hb5 | exact below_undrewN hb5).mono (by simp))); have t5 := (hbS.out.block _ (lt_of_heap T1.out)).trans T1.out; obtain ⟨z0, g0, z1, g1, z2, g2, z3, g3⟩ := cf4 t5; have T5 := Lib.hid t5; clear hb5 t5; unfold resI Dat.agg))
   all_goals go_wp2
   all_goals refine bodyPost_ret (results_row_tmp rfl _ _ (w.heap.size + 1 + 1) 25 _ (0, 0) _ rfl (setRow4_at T5.out) Tryz.underlying25 rfl (by kernel_rfl)) rfl ?_
   all_goals exact ⟨rfl, setRow4_below (HB1.out.trans (hbS.out.mono HB1.out.size)) (by show w.heap.size ≤ w.heap.size + 1 + 1; omega)⟩
theorem rmod_139 (a b : Dat) (w : World) (fa : a.fits) (fb : b.fits) : Calls Tryz.prog 80 #[a.agg, b.agg] w (RefPost (modD a b) w) := by
 obtain ⟨X, eX⟩ : ∃ X, X = modD a b := ⟨_, rfl⟩
 rw [← eX]
 unfold modD at eX
 have fi := fa.2.1
 have fj := fb.2.1
 by_cases h0 : b.int = 0
 ·rw [if_pos h0] at eX
  have q0 : (b.int == 0) = true := by simp [h0]
  have hnum : ∀ (W : World) (g : Nat), W.heap[g]? = some (.cells #[.int .u8 a.kind, .bool a.bool, .int .i64 a.int, .string a.text, .int .u8 b.kind, .bool b.bool, .int .i64 b.int, .string b.text] 25 (0, 0)) → Calls Tryz.prog 102 #[.int .i64 0, .int .i64 11, .slice (some ⟨g, 0, none⟩) 2 2] W (RefPost X W) := fun W g hg => by
   have h := num_two a b fa fb 0 11 (by decide) W g hg
   rw [show numR 0 11 = bad 11 from rfl] at h
   rw [eX]
   exact h
  have HNUM := Lib.hid hnum
  clear hnum eX fa fb fi fj h0
  unfold Dat.agg
  go_enter Tryz.func80, Tryz.ntmps80
  go_wp2_with fail
  have h3 := three_at (w := w) (a := .cells #[.int .u8 a.kind, .bool a.bool, .int .i64 a.int, .string a.text] 25) (b := .cells #[.int .u8 b.kind, .bool b.bool, .int .i64 b.int, .string b.text] 25) (c := .cells #[.int .u8 0, .bool false, .int .i64 0, .string ⟨#[]⟩] 25) (Below.refl _ _)
  have h4 := heap_alloc_new (((w.alloc (.cells #[.int .u8 a.kind, .bool a.bool, .int .i64 a.int, .string a.text] 25)).alloc (.cells #[.int .u8 b.kind, .bool b.bool, .int .i64 b.int, .string b.text] 25)).alloc (.cells #[.int .u8 0, .bool false, .int .i64 0, .string ⟨#[]⟩] 25)) (.cells #[.int .u8 a.kind, .bool a.bool, .int .i64 a.int, .string a.text, .int .u8 b.kind, .bool b.bool, .int .i64 b.int, .string b.text] 25)
  rw [World.size_alloc, World.size_alloc, World.size_alloc] at h4
  have hkeep : ∀ {g : Nat} {y : Obj}, (((w.alloc (.cells #[.int .u8 a.kind, .bool a.bool, .int .i64 a.int, .string a.text] 25)).alloc (.cells #[.int .u8 b.kind, .bool b.bool, .int .i64 b.int, .string b.text] 25)).alloc (.cells #[.int .u8 0, .bool false, .int .i64 0, .string ⟨#[]⟩] 25)).heap[g]? = some y → ((((w.alloc (.cells #[.int .u8 a.kind, .bool a.bool, .int .i64 a.int, .string a.text] 25)).alloc (.cells #[.int .u8 b.kind, .bool b.bool, .int .i64 b.int, .string b.text] 25)).alloc (.cells #[.int .u8 0, .bool false, .int .i64 0, .string ⟨#[]⟩] 25)).alloc (.cells #[.int .u8 a.kind, .bool a.bool, .int .i64 a.int, .string a.text, .int .u8 b.kind, .bool b.bool, .int .i64 b.int, .string b.text] 25)).heap[g]? = some y := fun h => (Below.heap_alloc _ _ _ (lt_of_heap h)).trans h
  refine (HNUM.out _ _ h4).mono ?_
  rintro ev w5 ⟨rfl, hb5⟩
  have t5 := (hb5.block _ (lt_of_heap (hkeep h3.2.2))).trans (hkeep h3.2.2)
  have T5 := Lib.hid t5
  have HB5 := Lib.hid ((four_below _ _ _ _ _).trans (hb5.mono (by simp <;> omega)))
  obtain ⟨z0, g0, z1, g1, z2, g2, z3, g3⟩ := cf4 t5
  clear hb5 t5 h3 h4 hkeep
  unfold resI Dat.agg
  go_wp2
  refine bodyPost_ret (results_row_tmp rfl _ _ (w.heap.size + 1 + 1) 25 _ (0, 0) _ rfl (setRow4_at T5.out) Tryz.underlying25 rfl (by kernel_rfl)) rfl ?_
  exact ⟨rfl, setRow4_below HB5.out (by show w.heap.size ≤ w.heap.size + 1 + 1; omega)⟩
 ·rw [if_neg h0] at eX
  have q0 : (b.int == 0) = false := by simp [h0]
  by_cases h1 : b.int = -1
  ·have q1 : (b.int == -1) = true := by simp [h1]
   have hmd : Int.tmod a.int b.int = 0 := by rw [h1, Int.tmod_neg, Int.tmod_one]
   rw [hmd] at eX
   have hnum : ∀ (W : World) (g : Nat), W.heap[g]? = some (.cells #[.int .u8 a.kind, .bool a.bool, .int .i64 a.int, .string a.text, .int .u8 b.kind, .bool b.bool, .int .i64 b.int, .string b.text] 25 (0, 0)) → Calls Tryz.prog 102 #[.int .i64 0, .int .i64 0, .slice (some ⟨g, 0, none⟩) 2 2] W (RefPost X W) := fun W g hg => by
    have h := num_two a b fa fb 0 0 (by decide) W g hg
    rw [show numR 0 0 = (num 0, 0) from rfl] at h
    rw [eX]
    exact h
   have HNUM := Lib.hid hnum
   clear hnum eX fa fb fi fj h0 h1 hmd
   unfold Dat.agg
   go_enter Tryz.func80, Tryz.ntmps80
   go_wp2_with fail
   have h3 := three_at (w := w) (a := .cells #[.int .u8 a.kind, .bool a.bool, .int .i64 a.int, .string a.text] 25) (b := .cells #[.int .u8 b.kind, .bool b.bool, .int .i64 b.int, .string b.text] 25) (c := .cells #[.int .u8 0, .bool false, .int .i64 0, .string ⟨#[]⟩] 25) (Below.refl _ _)
   have h4 := heap_alloc_new (((w.alloc (.cells #[.int .u8 a.kind, .bool a.bool, .int .i64 a.int, .string a.text] 25)).alloc (.cells #[.int .u8 b.kind, .bool b.bool, .int .i64 b.int, .string b.text] 25)).alloc (.cells #[.int .u8 0, .bool false, .int .i64 0, .string ⟨#[]⟩] 25)) (.cells #[.int .u8 a.kind, .bool a.bool, .int .i64 a.int, .string a.text, .int .u8 b.kind, .bool b.bool, .int .i64 b.int, .string b.text] 25)
   rw [World.size_alloc, World.size_alloc, World.size_alloc] at h4
   have hkeep : ∀ {g : Nat} {y : Obj}, (((w.alloc (.cells #[.int .u8 a.kind, .bool a.bool, .int .i64 a.int, .string a.text] 25)).alloc (.cells #[.int .u8 b.kind, .bool b.bool, .int .i64 b.int, .string b.text] 25)).alloc (.cells #[.int .u8 0, .bool false, .int .i64 0, .string ⟨#[]⟩] 25)).heap[g]? = some y → ((((w.alloc (.cells #[.int .u8 a.kind, .bool a.bool, .int .i64 a.int, .string a.text] 25)).alloc (.cells #[.int .u8 b.kind, .bool b.bool, .int .i64 b.int, .string b.text] 25)).alloc (.cells #[.int .u8 0, .bool false, .int .i64 0, .string ⟨#[]⟩] 25)).alloc (.cells #[.int .u8 a.kind, .bool a.bool, .int .i64 a.int, .string a.text, .int .u8 b.kind, .bool b.bool, .int .i64 b.int, .string b.text] 25)).heap[g]? = some y := fun h => (Below.heap_alloc _ _ _ (lt_of_heap h)).trans h
   refine (HNUM.out _ _ h4).mono ?_
   rintro ev w5 ⟨rfl, hb5⟩
   have t5 := (hb5.block _ (lt_of_heap (hkeep h3.2.2))).trans (hkeep h3.2.2)
   have T5 := Lib.hid t5
   have HB5 := Lib.hid ((four_below _ _ _ _ _).trans (hb5.mono (by simp <;> omega)))
   obtain ⟨z0, g0, z1, g1, z2, g2, z3, g3⟩ := cf4 t5
   clear hb5 t5 h3 h4 hkeep
   unfold resI Dat.agg
   go_wp2
   refine bodyPost_ret (results_row_tmp rfl _ _ (w.heap.size + 1 + 1) 25 _ (0, 0) _ rfl (setRow4_at T5.out) Tryz.underlying25 rfl (by kernel_rfl)) rfl ?_
   exact ⟨rfl, setRow4_below HB5.out (by show w.heap.size ≤ w.heap.size + 1 + 1; omega)⟩
  ·have q1 : (b.int == -1) = false := by simp [h1]
   obtain ⟨n, hn⟩ : ∃ n, Int.tmod a.int b.int = n := ⟨_, rfl⟩
   have hr := tmod_range (y := b.int) fi
   have hn2 : IntKind.i64.wrap n = n := IntWalk.i64_in _ (by rw [← hn]; exact hr)
   rw [hn] at eX
   have hnum : ∀ (W : World) (g : Nat), W.heap[g]? = some (.cells #[.int .u8 a.kind, .bool a.bool, .int .i64 a.int, .string a.text, .int .u8 b.kind, .bool b.bool, .int .i64 b.int, .string b.text] 25 (0, 0)) → Calls Tryz.prog 102 #[.int .i64 n, .int .i64 0, .slice (some ⟨g, 0, none⟩) 2 2] W (RefPost X W) := fun W g hg => by
    have h := num_two a b fa fb n 0 (by decide) W g hg
    rw [show numR n 0 = (num n, 0) from rfl] at h
    rw [eX]
    exact h
   have HNUM := Lib.hid hnum
   clear hnum eX fa fb fi fj h1 hr
   unfold Dat.agg
   obtain ⟨w1, hw1⟩ : ∃ w1, w1 = ((w.alloc (.cells #[.int .u8 a.kind, .bool a.bool, .int .i64 a.int, .string a.text] 25)).alloc (.cells #[.int .u8 b.kind, .bool b.bool, .int .i64 b.int, .string b.text] 25)).alloc (.cells #[.int .u8 0, .bool false, .int .i64 0, .string ⟨#[]⟩] 25) := ⟨_, rfl⟩
   have hb1 : Below w.heap.size w w1 := by rw [hw1]; exact three_below _ _ _ _
   have ht := three_at (w := w) (w1 := w1) (a := .cells #[.int .u8 a.kind, .bool a.bool, .int .i64 a.int, .string a.text] 25) (b := .cells #[.int .u8 b.kind, .bool b.bool, .int .i64 b.int, .string b.text] 25) (c := .cells #[.int .u8 0, .bool false, .int .i64 0, .string ⟨#[]⟩] 25) (by rw [hw1]; exact Below.refl _ _)
   have hs1 : w1.cell? ⟨w.heap.size, 0, none⟩ = some (.int .u8 a.kind) ∧ w1.cell? ⟨w.heap.size, 1, none⟩ = some (.bool a.bool) ∧ w1.cell? ⟨w.heap.size, 2, none⟩ = some (.int .i64 a.int) ∧ w1.cell? ⟨w.heap.size, 3, none⟩ = some (.string a.text) ∧ w1.cell? ⟨w.heap.size + 1, 0, none⟩ = some (.int .u8 b.kind) ∧ w1.cell? ⟨w.heap.size + 1, 1, none⟩ = some (.bool b.bool) ∧ w1.cell? ⟨w.heap.size + 1, 2, none⟩ = some (.int .i64 b.int) ∧ w1.cell? ⟨w.heap.size + 1, 3, none⟩ = some (.string b.text) := ⟨cell_of_heap ht.1 rfl, cell_of_heap ht.1 rfl, cell_of_heap ht.1 rfl, cell_of_heap ht.1 rfl, cell_of_heap ht.2.1 rfl, cell_of_heap ht.2.1 rfl, cell_of_heap ht.2.1 rfl, cell_of_heap ht.2.1 rfl⟩
   have hkeep : ∀ (w' : World), Below w1.heap.size w1 w' → w'.cell? ⟨w.heap.size, 0, none⟩ = some (.int .u8 a.kind) ∧ w'.cell? ⟨w.heap.size, 1, none⟩ = some (.bool a.bool) ∧ w'.cell? ⟨w.heap.size, 2, none⟩ = some (.int .i64 a.int) ∧ w'.cell? ⟨w.heap.size, 3, none⟩ = some (.string a.text) ∧ w'.cell? ⟨w.heap.size + 1, 0, none⟩ = some (.int .u8 b.kind) ∧ w'.cell? ⟨w.heap.size + 1, 1, none⟩ = some (.bool b.bool) ∧ w'.cell? ⟨w.heap.size + 1, 2, none⟩ = some (.int .i64 b.int) ∧ w'.cell? ⟨w.heap.size + 1, 3, none⟩ = some (.string b.text) := fun w' hb => ⟨cell_keep hb hs1.1, cell_keep hb hs1.2.1, cell_keep hb hs1.2.2.1, cell_keep hb hs1.2.2.2.1, cell_keep hb hs1.2.2.2.2.1, cell_keep hb hs1.2.2.2.2.2.1, cell_keep hb hs1.2.2.2.2.2.2.1, cell_keep hb hs1.2.2.2.2.2.2.2⟩
   have HW1 := Lib.hid hw1
   have HB1 := Lib.hid hb1
   have T1 := Lib.hid ht.2.2
   have S1 := Lib.hid hs1
   have HKEEP := Lib.hid hkeep
   clear hw1 hb1 ht hs1 hkeep
   go_enter Tryz.func80, Tryz.ntmps80
   go_wp2_with fail
   rw [← HW1.out]
   obtain ⟨s0, s1, s2, s3, s4, s5, s6, s7⟩ := S1.out
   have n1 : w.heap.size + 1 + 1 ≠ w.heap.size := by omega
   have n2 : w.heap.size + 1 + 1 ≠ w.heap.size + 1 := by omega
   have hbS : Hid (Below w1.heap.size w1 (w1.alloc (.cells #[.int .u8 a.kind, .bool a.bool, .int .i64 a.int, .string a.text, .int .u8 b.kind, .bool b.bool, .int .i64 b.int, .string b.text] 25))) := Lib.hid (one_below _ _)
   go_region_held3 (fun w' => w'.cell? ⟨w.heap.size, 0, none⟩ = some (.int .u8 a.kind) ∧ w'.cell? ⟨w.heap.size, 1, none⟩ = some (.bool a.bool) ∧ w'.cell? ⟨w.heap.size, 2, none⟩ = some (.int .i64 a.int) ∧ w'.cell? ⟨w.heap.size, 3, none⟩ = some (.string a.text) ∧ w'.cell? ⟨w.heap.size + 1, 0, none⟩ = some (.int .u8 b.kind) ∧ w'.cell? ⟨w.heap.size + 1, 1, none⟩ = some (.bool b.bool) ∧ w'.cell? ⟨w.heap.size + 1, 2, none⟩ = some (.int .i64 b.int) ∧ w'.cell? ⟨w.heap.size + 1, 3, none⟩ = some (.string b.text))
    (first | go_keep | exact HKEEP.out _ hbS.out | (simp only [cell_set_ne n1, cell_set_ne n2]; exact HKEEP.out _ hbS.out))
    (first
    | (go_at_call 103; refine (over_180 _ _).mono ?_; rintro ev w6 ⟨rfl, rfl⟩)
    | (go_at_call 102; (with_reducible refine (HNUM.out _ _ (by first | exact heap_alloc_new w1 _ | exact heap_new_drew w1 _ | exact heap_new_drewN w1 _ _)).mono ?_); rintro ev w5 ⟨rfl, hb5⟩; have hbS : Hid (Below w1.heap.size w1 w5) := Lib.hid ((one_below w1 _).trans ((show Below (w1.alloc (.cells #[.int .u8 a.kind, .bool a.bool, .int .i64 a.int, .string a.text, .int .u8 b.kind, .bool b.bool, .int .i64 b.int, .string b.text] 25)).heap.size (w1.alloc (.cells #[.int .u8 a.kind, .bool a.bool, .int .i64 a.int, .string a.text, .int .u8 b.kind, .bool b.bool, .int .i64 b.int, .string b.text] 25)) w5 by first | exact hb5 | exact below_undrew hb5 | exact below_undrewN hb5).mono (by simp))); have t5 := (hbS.out.block _ (lt_of_heap T1.out)).trans T1.out; obtain ⟨z0, g0, z1, g1, z2, g2, z3, g3⟩ := cf4 t5; have T5 := Lib.hid t5; clear hb5 t5; unfold resI Dat.agg))
   all_goals go_wp2
   all_goals refine bodyPost_ret (results_row_tmp rfl _ _ (w.heap.size + 1 + 1) 25 _ (0, 0) _ rfl (setRow4_at T5.out) Tryz.underlying25 rfl (by kernel_rfl)) rfl ?_
   all_goals exact ⟨rfl, setRow4_below (HB1.out.trans (hbS.out.mono HB1.out.size)) (by show w.heap.size ≤ w.heap.size + 1 + 1; omega)⟩
end Go.Proofs.YtmmhedlagnjbiaaGreatDoor
