import Derived.Test.YtmmhedlagnjbiaaGreatDoorVd
import Derived.Test.YtmmhedlagnjbiaaGreatDoorUf
/- our texts, shortened by program (pack.py) -/
set_option maxRecDepth 100000
set_option maxHeartbeats 8000000
namespace Go.Proofs.YtmmhedlagnjbiaaGreatDoor
open Go.RowKit Go.Pen Go.Shelf
attribute [local go_sem ↓] Go.wp_at_zero Go.wp_at_succ
attribute [local go_sem] Oper.semAt_some
theorem done_one (q : Int) (G : Nat) (D : Dat → Res) (hG : (q = 3 ∧ G = 75) ∨ (q = 10 ∧ G = 82) ∨ (q = 17 ∧ G = 83))
  (hcl : ∀ (A : Dat) (W : World), A.fits → Calls Tryz.prog G #[A.agg] W (RefPost (D A) W)) (hR0 : ∀ A, oneD q A = D A) (a : Dat) (v : Value) (w : World) (fa : a.fits) (hv : DatsOn (fun _ => True) w [a] v) : Calls Tryz.prog 41 #[.int .u8 q, v] w (RefPost (oneD q a) w) := by
 obtain ⟨x, cc, rfl, -, hc⟩ := hv
 obtain ⟨g, o, rfl, -, hc⟩ := hc (by simp)
 have hA := hc 0 a rfl
 have s0 : w.cell? ⟨g, o, none⟩ = some (.int .u8 a.kind) := hA.1
 have s1 : w.cell? ⟨g, o + 1, none⟩ = some (.bool a.bool) := hA.2.1
 have s2 : w.cell? ⟨g, o + 2, none⟩ = some (.int .i64 a.int) := hA.2.2.1
 have s3 : w.cell? ⟨g, o + 3, none⟩ = some (.string a.text) := hA.2.2.2
 clear hA
 have hcall := fun (W : World) => hcl a W fa
 obtain ⟨X, eX⟩ : ∃ X, X = D a := ⟨_, rfl⟩
 rw [hR0, ← eX]
 have eX2 := eX
 rw [← eX2] at hcall
 have k0 := fun (O : Obj) => cell_keep (one_below w O) s0
 have k1 := fun (O : Obj) => cell_keep (one_below w O) s1
 have k2 := fun (O : Obj) => cell_keep (one_below w O) s2
 have k3 := fun (O : Obj) => cell_keep (one_below w O) s3
 have HC := Lib.hid hcall
 clear hcl hR0
 clear s0 s1 s2 s3 hc hcall eX eX2 fa
 unfold Dat.agg at HC
 rcases hG with ⟨rfl, rfl⟩ | ⟨rfl, rfl⟩ | ⟨rfl, rfl⟩
 all_goals
  go_enter Tryz.func41, Tryz.ntmps41
  go_wp2_with fail
  refine (HC.out _).mono ?_
  rintro ev w5 ⟨rfl, hb5⟩
  have t5 := one_at hb5
  have HB5 := Lib.hid ((one_below _ _).trans (hb5.mono (by simp)))
  have T5 := Lib.hid t5
  obtain ⟨z0, g0, z1, g1, z2, g2, z3, g3⟩ := cf4 t5
  clear hb5 t5
  unfold resI Dat.agg
  go_wp2
  refine bodyPost_ret (results_row_tmp rfl _ _ (w.heap.size) 25 _ (0, 0) _ rfl (setRow4_at T5.out) Tryz.underlying25 rfl (by kernel_rfl)) rfl ?_
  exact ⟨rfl, setRow4_below HB5.out (by show w.heap.size ≤ w.heap.size; omega)⟩
theorem done_20 (a : Dat) (v : Value) (w : World) (hv : DatsOn (fun _ => True) w [a] v) : Calls Tryz.prog 41 #[.int .u8 20, v] w (RefPost (boo (decide (a.kind = 1)), 0) w) := by
 obtain ⟨x, cc, rfl, -, hc⟩ := hv
 obtain ⟨g, o, rfl, -, hc⟩ := hc (by simp)
 have s0 : w.cell? ⟨g, o, none⟩ = some (.int .u8 a.kind) := (hc 0 a rfl).1
 have k0 := fun (O : Obj) => cell_keep (one_below w O) s0
 clear s0 hc
 go_enter Tryz.func41, Tryz.ntmps41
 go_wp2_with fail
 refine (rbool_133 _ _).mono ?_
 rintro ev w5 ⟨rfl, hb5⟩
 have t5 := one_at hb5
 have HB5 := Lib.hid ((one_below _ _).trans (hb5.mono (by simp)))
 have T5 := Lib.hid t5
 obtain ⟨z0, g0, z1, g1, z2, g2, z3, g3⟩ := cf4 t5
 clear hb5 t5
 unfold boo Dat.agg
 go_wp2
 refine bodyPost_ret (results_row_tmp rfl _ _ (w.heap.size) 25 _ (0, 0) _ rfl (setRow4_at T5.out) Tryz.underlying25 rfl (by kernel_rfl)) rfl ?_
 exact ⟨rfl, setRow4_below HB5.out (by show w.heap.size ≤ w.heap.size; omega)⟩
theorem done_two (q : Int) (G : Nat) (D : Dat → Dat → Res) (hG : (q = 4 ∧ G = 76) ∨ (q = 5 ∧ G = 77) ∨ (q = 6 ∧ G = 78) ∨ (q = 7 ∧ G = 79) ∨ (q = 8 ∧ G = 80) ∨ (q = 9 ∧ G = 81))
  (hcl : ∀ (A B : Dat) (W : World), A.fits → B.fits → Calls Tryz.prog G #[A.agg, B.agg] W (RefPost (D A B) W)) (hR0 : ∀ A B, twoD q A B = D A B) (a b : Dat) (v : Value) (w : World) (fa : a.fits) (fb : b.fits) (hv : DatsOn (fun _ => True) w [a, b] v) : Calls Tryz.prog 41 #[.int .u8 q, v] w (RefPost (twoD q a b) w) := by
 obtain ⟨x, cc, rfl, -, hc⟩ := hv
 obtain ⟨g, o, rfl, -, hc⟩ := hc (by simp)
 have hA := hc 0 a rfl
 have hB := hc 1 b rfl
 have hcall := fun (W : World) => hcl a b W fa fb
 obtain ⟨X, eX⟩ : ∃ X, X = D a b := ⟨_, rfl⟩
 rw [hR0, ← eX]
 have eX2 := eX
 rw [← eX2] at hcall
 have hs0 : w.cell? ⟨g, o, none⟩ = some (.int .u8 a.kind) ∧ w.cell? ⟨g, o + 1, none⟩ = some (.bool a.bool) ∧ w.cell? ⟨g, o + 2, none⟩ = some (.int .i64 a.int) ∧ w.cell? ⟨g, o + 3, none⟩ = some (.string a.text) ∧ w.cell? ⟨g, o + 4, none⟩ = some (.int .u8 b.kind) ∧ w.cell? ⟨g, o + 5, none⟩ = some (.bool b.bool) ∧ w.cell? ⟨g, o + 6, none⟩ = some (.int .i64 b.int) ∧ w.cell? ⟨g, o + 7, none⟩ = some (.string b.text) := ⟨hA.1, hA.2.1, hA.2.2.1, hA.2.2.2, hB.1, hB.2.1, hB.2.2.1, hB.2.2.2⟩
 obtain ⟨w1, hw1⟩ : ∃ w1, w1 = w.alloc (.cells #[.int .u8 0, .bool false, .int .i64 0, .string ⟨#[]⟩] 25) := ⟨_, rfl⟩
 have hb1 : Below w.heap.size w w1 := by rw [hw1]; exact one_below _ _
 have ht : w1.heap[w.heap.size]? = some (.cells #[.int .u8 0, .bool false, .int .i64 0, .string ⟨#[]⟩] 25 (0, 0)) := by rw [hw1]; exact heap_alloc_new _ _
 have hs1 : w1.cell? ⟨g, o, none⟩ = some (.int .u8 a.kind) ∧ w1.cell? ⟨g, o + 1, none⟩ = some (.bool a.bool) ∧ w1.cell? ⟨g, o + 2, none⟩ = some (.int .i64 a.int) ∧ w1.cell? ⟨g, o + 3, none⟩ = some (.string a.text) ∧ w1.cell? ⟨g, o + 4, none⟩ = some (.int .u8 b.kind) ∧ w1.cell? ⟨g, o + 5, none⟩ = some (.bool b.bool) ∧ w1.cell? ⟨g, o + 6, none⟩ = some (.int .i64 b.int) ∧ w1.cell? ⟨g, o + 7, none⟩ = some (.string b.text) := (fun hb => ⟨cell_keep hb hs0.1, cell_keep hb hs0.2.1, cell_keep hb hs0.2.2.1, cell_keep hb hs0.2.2.2.1, cell_keep hb hs0.2.2.2.2.1, cell_keep hb hs0.2.2.2.2.2.1, cell_keep hb hs0.2.2.2.2.2.2.1, cell_keep hb hs0.2.2.2.2.2.2.2⟩) hb1
 have hkeep : ∀ (w' : World), Below w1.heap.size w1 w' → w'.cell? ⟨g, o, none⟩ = some (.int .u8 a.kind) ∧ w'.cell? ⟨g, o + 1, none⟩ = some (.bool a.bool) ∧ w'.cell? ⟨g, o + 2, none⟩ = some (.int .i64 a.int) ∧ w'.cell? ⟨g, o + 3, none⟩ = some (.string a.text) ∧ w'.cell? ⟨g, o + 4, none⟩ = some (.int .u8 b.kind) ∧ w'.cell? ⟨g, o + 5, none⟩ = some (.bool b.bool) ∧ w'.cell? ⟨g, o + 6, none⟩ = some (.int .i64 b.int) ∧ w'.cell? ⟨g, o + 7, none⟩ = some (.string b.text) := fun w' hb => ⟨cell_keep hb hs1.1, cell_keep hb hs1.2.1, cell_keep hb hs1.2.2.1, cell_keep hb hs1.2.2.2.1, cell_keep hb hs1.2.2.2.2.1, cell_keep hb hs1.2.2.2.2.2.1, cell_keep hb hs1.2.2.2.2.2.2.1, cell_keep hb hs1.2.2.2.2.2.2.2⟩
 have lg : g < w.heap.size := World.block_lt_of_cell? w _ hs0.1
 have n1 : w.heap.size ≠ g := by omega
 have HC := Lib.hid hcall
 have HW1 := Lib.hid hw1
 have HB1 := Lib.hid hb1
 have T1 := Lib.hid ht
 have S1 := Lib.hid hs1
 have HKEEP := Lib.hid hkeep
 clear hcl hR0
 clear hw1 hb1 ht hs1 hs0 hkeep hA hB hc hcall eX eX2 fa fb
 unfold Dat.agg at HC
 rcases hG with ⟨rfl, rfl⟩ | ⟨rfl, rfl⟩ | ⟨rfl, rfl⟩ | ⟨rfl, rfl⟩ | ⟨rfl, rfl⟩ | ⟨rfl, rfl⟩
 all_goals
  go_enter Tryz.func41, Tryz.ntmps41
  go_wp2_with fail
  rw [← HW1.out]
  obtain ⟨s0, s1, s2, s3, s4, s5, s6, s7⟩ := S1.out
  have hbS : Hid (Below w1.heap.size w1 w1) := Lib.hid (Below.refl _ _)
  go_region_held3 (fun w' => w'.cell? ⟨g, o, none⟩ = some (.int .u8 a.kind) ∧ w'.cell? ⟨g, o + 1, none⟩ = some (.bool a.bool) ∧ w'.cell? ⟨g, o + 2, none⟩ = some (.int .i64 a.int) ∧ w'.cell? ⟨g, o + 3, none⟩ = some (.string a.text) ∧ w'.cell? ⟨g, o + 4, none⟩ = some (.int .u8 b.kind) ∧ w'.cell? ⟨g, o + 5, none⟩ = some (.bool b.bool) ∧ w'.cell? ⟨g, o + 6, none⟩ = some (.int .i64 b.int) ∧ w'.cell? ⟨g, o + 7, none⟩ = some (.string b.text))
   (first | go_keep | exact HKEEP.out _ hbS.out | (simp only [cell_set_ne n1]; exact HKEEP.out _ hbS.out))
   (first
   | ((first | go_at_call 76 | go_at_call 77 | go_at_call 78 | go_at_call 79 | go_at_call 80 | go_at_call 81); (with_reducible refine (HC.out _).mono ?_); rintro ev w5 ⟨rfl, hb5⟩; have hbS : Hid (Below w1.heap.size w1 w5) := Lib.hid (by first | exact hb5 | exact below_undrew hb5 | exact below_undrewN hb5); have t5 := (hbS.out.block _ (lt_of_heap T1.out)).trans T1.out; obtain ⟨z0, g0, z1, g1, z2, g2, z3, g3⟩ := cf4 t5; have T5 := Lib.hid t5; clear hb5 t5; unfold resI Dat.agg))
  go_wp2
  refine bodyPost_ret (results_row_tmp rfl _ _ (w.heap.size) 25 _ (0, 0) _ rfl (setRow4_at T5.out) Tryz.underlying25 rfl (by kernel_rfl)) rfl ?_
  exact ⟨rfl, setRow4_below (HB1.out.trans (hbS.out.mono HB1.out.size)) (by show w.heap.size ≤ w.heap.size; omega)⟩
theorem done_cmp (q : Int) (hlo : 11 ≤ q) (hhi : q ≤ 16) (a b : Dat) (v : Value) (w : World) (fa : a.fits) (fb : b.fits) (hv : DatsOn (fun _ => True) w [a, b] v) : Calls Tryz.prog 41 #[.int .u8 q, v] w (RefPost (twoD q a b) w) := by
 obtain ⟨x, cc, rfl, -, hc⟩ := hv
 obtain ⟨g, o, rfl, -, hc⟩ := hc (by simp)
 have hA := hc 0 a rfl
 have hB := hc 1 b rfl
 have hcall := fun (W : World) => rcompare_143 q a b W hlo hhi fa fb
 obtain ⟨X, eX⟩ : ∃ X, X = compD q a b := ⟨_, rfl⟩
 rw [twoD_cmp hlo, ← eX]
 have eX2 := eX
 rw [← eX2] at hcall
 have hs0 : w.cell? ⟨g, o, none⟩ = some (.int .u8 a.kind) ∧ w.cell? ⟨g, o + 1, none⟩ = some (.bool a.bool) ∧ w.cell? ⟨g, o + 2, none⟩ = some (.int .i64 a.int) ∧ w.cell? ⟨g, o + 3, none⟩ = some (.string a.text) ∧ w.cell? ⟨g, o + 4, none⟩ = some (.int .u8 b.kind) ∧ w.cell? ⟨g, o + 5, none⟩ = some (.bool b.bool) ∧ w.cell? ⟨g, o + 6, none⟩ = some (.int .i64 b.int) ∧ w.cell? ⟨g, o + 7, none⟩ = some (.string b.text) := ⟨hA.1, hA.2.1, hA.2.2.1, hA.2.2.2, hB.1, hB.2.1, hB.2.2.1, hB.2.2.2⟩
 obtain ⟨w1, hw1⟩ : ∃ w1, w1 = w.alloc (.cells #[.int .u8 0, .bool false, .int .i64 0, .string ⟨#[]⟩] 25) := ⟨_, rfl⟩
 have hb1 : Below w.heap.size w w1 := by rw [hw1]; exact one_below _ _
 have ht : w1.heap[w.heap.size]? = some (.cells #[.int .u8 0, .bool false, .int .i64 0, .string ⟨#[]⟩] 25 (0, 0)) := by rw [hw1]; exact heap_alloc_new _ _
 have hs1 : w1.cell? ⟨g, o, none⟩ = some (.int .u8 a.kind) ∧ w1.cell? ⟨g, o + 1, none⟩ = some (.bool a.bool) ∧ w1.cell? ⟨g, o + 2, none⟩ = some (.int .i64 a.int) ∧ w1.cell? ⟨g, o + 3, none⟩ = some (.string a.text) ∧ w1.cell? ⟨g, o + 4, none⟩ = some (.int .u8 b.kind) ∧ w1.cell? ⟨g, o + 5, none⟩ = some (.bool b.bool) ∧ w1.cell? ⟨g, o + 6, none⟩ = some (.int .i64 b.int) ∧ w1.cell? ⟨g, o + 7, none⟩ = some (.string b.text) := (fun hb => ⟨cell_keep hb hs0.1, cell_keep hb hs0.2.1, cell_keep hb hs0.2.2.1, cell_keep hb hs0.2.2.2.1, cell_keep hb hs0.2.2.2.2.1, cell_keep hb hs0.2.2.2.2.2.1, cell_keep hb hs0.2.2.2.2.2.2.1, cell_keep hb hs0.2.2.2.2.2.2.2⟩) hb1
 have hkeep : ∀ (w' : World), Below w1.heap.size w1 w' → w'.cell? ⟨g, o, none⟩ = some (.int .u8 a.kind) ∧ w'.cell? ⟨g, o + 1, none⟩ = some (.bool a.bool) ∧ w'.cell? ⟨g, o + 2, none⟩ = some (.int .i64 a.int) ∧ w'.cell? ⟨g, o + 3, none⟩ = some (.string a.text) ∧ w'.cell? ⟨g, o + 4, none⟩ = some (.int .u8 b.kind) ∧ w'.cell? ⟨g, o + 5, none⟩ = some (.bool b.bool) ∧ w'.cell? ⟨g, o + 6, none⟩ = some (.int .i64 b.int) ∧ w'.cell? ⟨g, o + 7, none⟩ = some (.string b.text) := fun w' hb => ⟨cell_keep hb hs1.1, cell_keep hb hs1.2.1, cell_keep hb hs1.2.2.1, cell_keep hb hs1.2.2.2.1, cell_keep hb hs1.2.2.2.2.1, cell_keep hb hs1.2.2.2.2.2.1, cell_keep hb hs1.2.2.2.2.2.2.1, cell_keep hb hs1.2.2.2.2.2.2.2⟩
 have lg : g < w.heap.size := World.block_lt_of_cell? w _ hs0.1
 have n1 : w.heap.size ≠ g := by omega
 have HC := Lib.hid hcall
 have HW1 := Lib.hid hw1
 have HB1 := Lib.hid hb1
 have T1 := Lib.hid ht
 have S1 := Lib.hid hs1
 have HKEEP := Lib.hid hkeep
 clear hw1 hb1 ht hs1 hs0 hkeep hA hB hc hcall eX eX2 fa fb
 unfold Dat.agg at HC
 rcases (show q = 11 ∨ q = 12 ∨ q = 13 ∨ q = 14 ∨ q = 15 ∨ q = 16 by omega) with rfl | rfl | rfl | rfl | rfl | rfl
 all_goals
  go_enter Tryz.func41, Tryz.ntmps41
  go_wp2_with fail
  rw [← HW1.out]
  obtain ⟨s0, s1, s2, s3, s4, s5, s6, s7⟩ := S1.out
  have hbS : Hid (Below w1.heap.size w1 w1) := Lib.hid (Below.refl _ _)
  go_region_held3 (fun w' => w'.cell? ⟨g, o, none⟩ = some (.int .u8 a.kind) ∧ w'.cell? ⟨g, o + 1, none⟩ = some (.bool a.bool) ∧ w'.cell? ⟨g, o + 2, none⟩ = some (.int .i64 a.int) ∧ w'.cell? ⟨g, o + 3, none⟩ = some (.string a.text) ∧ w'.cell? ⟨g, o + 4, none⟩ = some (.int .u8 b.kind) ∧ w'.cell? ⟨g, o + 5, none⟩ = some (.bool b.bool) ∧ w'.cell? ⟨g, o + 6, none⟩ = some (.int .i64 b.int) ∧ w'.cell? ⟨g, o + 7, none⟩ = some (.string b.text))
   (first | go_keep | exact HKEEP.out _ hbS.out | (simp only [cell_set_ne n1]; exact HKEEP.out _ hbS.out))
   (first
   | (go_at_call 84; (with_reducible refine (HC.out _).mono ?_); rintro ev w5 ⟨rfl, hb5⟩; have hbS : Hid (Below w1.heap.size w1 w5) := Lib.hid (by first | exact hb5 | exact below_undrew hb5 | exact below_undrewN hb5); have t5 := (hbS.out.block _ (lt_of_heap T1.out)).trans T1.out; obtain ⟨z0, g0, z1, g1, z2, g2, z3, g3⟩ := cf4 t5; have T5 := Lib.hid t5; clear hb5 t5; unfold resI Dat.agg))
  go_wp2
  refine bodyPost_ret (results_row_tmp rfl _ _ (w.heap.size) 25 _ (0, 0) _ rfl (setRow4_at T5.out) Tryz.underlying25 rfl (by kernel_rfl)) rfl ?_
  exact ⟨rfl, setRow4_below (HB1.out.trans (hbS.out.mono HB1.out.size)) (by show w.heap.size ≤ w.heap.size; omega)⟩
end Go.Proofs.YtmmhedlagnjbiaaGreatDoor
