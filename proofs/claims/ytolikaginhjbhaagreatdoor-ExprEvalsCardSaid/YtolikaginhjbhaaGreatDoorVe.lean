import Derived.Test.YtolikaginhjbhaaGreatDoorVd
/- The reference's done. -/
namespace Go.Proofs.YtolikaginhjbhaaGreatDoor
open Go.RowKit Go.Pen Go.Shelf
attribute [local go_sem ↓] Go.wp_at_zero Go.wp_at_succ
attribute [local go_sem] Oper.semAt_some

set_option maxRecDepth 100000 in
set_option maxHeartbeats 2000000 in
theorem done_3 (a : Dat) (v : Value) (w : World) (fa : a.fits) (hv : DatsOn (fun _ => True) w [a] v) : Calls Tryz.prog 93 #[.int .u8 3, v] w (RefPost (oneD 3 a) w) := by
  obtain ⟨x, cc, rfl, -, hc⟩ := hv
  obtain ⟨g, o, rfl, -, hc⟩ := hc (by simp)
  have hA := hc 0 a rfl
  have s0 : w.cell? ⟨g, o, none⟩ = some (.int .u8 a.kind) := hA.1
  have s1 : w.cell? ⟨g, o + 1, none⟩ = some (.bool a.bool) := hA.2.1
  have s2 : w.cell? ⟨g, o + 2, none⟩ = some (.int .i64 a.int) := hA.2.2.1
  have s3 : w.cell? ⟨g, o + 3, none⟩ = some (.string a.text) := hA.2.2.2
  clear hA
  have hcall := fun (W : World) => rneg_134 a W fa
  obtain ⟨X, eX⟩ : ∃ X, X = oneD 3 a := ⟨_, rfl⟩
  rw [← eX]
  have eX2 : X = negD a := eX
  rw [← eX2] at hcall
  have k0 := fun (O : Obj) => cell_keep (one_below w O) s0
  have k1 := fun (O : Obj) => cell_keep (one_below w O) s1
  have k2 := fun (O : Obj) => cell_keep (one_below w O) s2
  have k3 := fun (O : Obj) => cell_keep (one_below w O) s3
  have HC := Lib.hid hcall
  clear s0 s1 s2 s3 hc hcall eX eX2 fa
  unfold Dat.agg at HC
  go_enter Tryz.func93, Tryz.ntmps93
  go_wp2_with fail
  refine (HC.out _).mono ?_
  rintro ev w5 ⟨rfl, hb5⟩
  have t5 := one_at hb5
  have HB5 := Lib.hid ((one_below _ _).trans (hb5.mono (by simp)))
  have T5 := Lib.hid t5
  have z0 := cell_of_heap (o := 0) t5 rfl
  have g0 := frozen_of_heap (o := 0) t5
  have z1 := cell_of_heap (o := 1) t5 rfl
  have g1 := frozen_of_heap (o := 1) t5
  have z2 := cell_of_heap (o := 2) t5 rfl
  have g2 := frozen_of_heap (o := 2) t5
  have z3 := cell_of_heap (o := 3) t5 rfl
  have g3 := frozen_of_heap (o := 3) t5
  clear hb5 t5
  unfold resI Dat.agg
  go_wp2
  refine bodyPost_ret (results_row_tmp rfl _ _ (w.heap.size) 25 _ (0, 0) _ rfl (setRow4_at T5.out) Tryz.underlying25 rfl (by kernel_rfl)) rfl ?_
  exact ⟨rfl, setRow4_below HB5.out (by show w.heap.size ≤ w.heap.size; omega)⟩

set_option maxRecDepth 100000 in
set_option maxHeartbeats 2000000 in
theorem done_10 (a : Dat) (v : Value) (w : World) (fa : a.fits) (hv : DatsOn (fun _ => True) w [a] v) : Calls Tryz.prog 93 #[.int .u8 10, v] w (RefPost (oneD 10 a) w) := by
  obtain ⟨x, cc, rfl, -, hc⟩ := hv
  obtain ⟨g, o, rfl, -, hc⟩ := hc (by simp)
  have hA := hc 0 a rfl
  have s0 : w.cell? ⟨g, o, none⟩ = some (.int .u8 a.kind) := hA.1
  have s1 : w.cell? ⟨g, o + 1, none⟩ = some (.bool a.bool) := hA.2.1
  have s2 : w.cell? ⟨g, o + 2, none⟩ = some (.int .i64 a.int) := hA.2.2.1
  have s3 : w.cell? ⟨g, o + 3, none⟩ = some (.string a.text) := hA.2.2.2
  clear hA
  have hcall := fun (W : World) => rlen_141 a W fa
  obtain ⟨X, eX⟩ : ∃ X, X = oneD 10 a := ⟨_, rfl⟩
  rw [← eX]
  have eX2 : X = lenD a := eX
  rw [← eX2] at hcall
  have k0 := fun (O : Obj) => cell_keep (one_below w O) s0
  have k1 := fun (O : Obj) => cell_keep (one_below w O) s1
  have k2 := fun (O : Obj) => cell_keep (one_below w O) s2
  have k3 := fun (O : Obj) => cell_keep (one_below w O) s3
  have HC := Lib.hid hcall
  clear s0 s1 s2 s3 hc hcall eX eX2 fa
  unfold Dat.agg at HC
  go_enter Tryz.func93, Tryz.ntmps93
  go_wp2_with fail
  refine (HC.out _).mono ?_
  rintro ev w5 ⟨rfl, hb5⟩
  have t5 := one_at hb5
  have HB5 := Lib.hid ((one_below _ _).trans (hb5.mono (by simp)))
  have T5 := Lib.hid t5
  have z0 := cell_of_heap (o := 0) t5 rfl
  have g0 := frozen_of_heap (o := 0) t5
  have z1 := cell_of_heap (o := 1) t5 rfl
  have g1 := frozen_of_heap (o := 1) t5
  have z2 := cell_of_heap (o := 2) t5 rfl
  have g2 := frozen_of_heap (o := 2) t5
  have z3 := cell_of_heap (o := 3) t5 rfl
  have g3 := frozen_of_heap (o := 3) t5
  clear hb5 t5
  unfold resI Dat.agg
  go_wp2
  refine bodyPost_ret (results_row_tmp rfl _ _ (w.heap.size) 25 _ (0, 0) _ rfl (setRow4_at T5.out) Tryz.underlying25 rfl (by kernel_rfl)) rfl ?_
  exact ⟨rfl, setRow4_below HB5.out (by show w.heap.size ≤ w.heap.size; omega)⟩

set_option maxRecDepth 100000 in
set_option maxHeartbeats 2000000 in
theorem done_17 (a : Dat) (v : Value) (w : World) (fa : a.fits) (hv : DatsOn (fun _ => True) w [a] v) : Calls Tryz.prog 93 #[.int .u8 17, v] w (RefPost (oneD 17 a) w) := by
  obtain ⟨x, cc, rfl, -, hc⟩ := hv
  obtain ⟨g, o, rfl, -, hc⟩ := hc (by simp)
  have hA := hc 0 a rfl
  have s0 : w.cell? ⟨g, o, none⟩ = some (.int .u8 a.kind) := hA.1
  have s1 : w.cell? ⟨g, o + 1, none⟩ = some (.bool a.bool) := hA.2.1
  have s2 : w.cell? ⟨g, o + 2, none⟩ = some (.int .i64 a.int) := hA.2.2.1
  have s3 : w.cell? ⟨g, o + 3, none⟩ = some (.string a.text) := hA.2.2.2
  clear hA
  have hcall := fun (W : World) => rnot_142 a W fa
  obtain ⟨X, eX⟩ : ∃ X, X = oneD 17 a := ⟨_, rfl⟩
  rw [← eX]
  have eX2 : X = notD a := eX
  rw [← eX2] at hcall
  have k0 := fun (O : Obj) => cell_keep (one_below w O) s0
  have k1 := fun (O : Obj) => cell_keep (one_below w O) s1
  have k2 := fun (O : Obj) => cell_keep (one_below w O) s2
  have k3 := fun (O : Obj) => cell_keep (one_below w O) s3
  have HC := Lib.hid hcall
  clear s0 s1 s2 s3 hc hcall eX eX2 fa
  unfold Dat.agg at HC
  go_enter Tryz.func93, Tryz.ntmps93
  go_wp2_with fail
  refine (HC.out _).mono ?_
  rintro ev w5 ⟨rfl, hb5⟩
  have t5 := one_at hb5
  have HB5 := Lib.hid ((one_below _ _).trans (hb5.mono (by simp)))
  have T5 := Lib.hid t5
  have z0 := cell_of_heap (o := 0) t5 rfl
  have g0 := frozen_of_heap (o := 0) t5
  have z1 := cell_of_heap (o := 1) t5 rfl
  have g1 := frozen_of_heap (o := 1) t5
  have z2 := cell_of_heap (o := 2) t5 rfl
  have g2 := frozen_of_heap (o := 2) t5
  have z3 := cell_of_heap (o := 3) t5 rfl
  have g3 := frozen_of_heap (o := 3) t5
  clear hb5 t5
  unfold resI Dat.agg
  go_wp2
  refine bodyPost_ret (results_row_tmp rfl _ _ (w.heap.size) 25 _ (0, 0) _ rfl (setRow4_at T5.out) Tryz.underlying25 rfl (by kernel_rfl)) rfl ?_
  exact ⟨rfl, setRow4_below HB5.out (by show w.heap.size ≤ w.heap.size; omega)⟩

set_option maxRecDepth 100000 in
set_option maxHeartbeats 2000000 in
theorem done_20 (a : Dat) (v : Value) (w : World) (hv : DatsOn (fun _ => True) w [a] v) : Calls Tryz.prog 93 #[.int .u8 20, v] w (RefPost (boo (decide (a.kind = 1)), 0) w) := by
  obtain ⟨x, cc, rfl, -, hc⟩ := hv
  obtain ⟨g, o, rfl, -, hc⟩ := hc (by simp)
  have s0 : w.cell? ⟨g, o, none⟩ = some (.int .u8 a.kind) := (hc 0 a rfl).1
  have k0 := fun (O : Obj) => cell_keep (one_below w O) s0
  clear s0 hc
  go_enter Tryz.func93, Tryz.ntmps93
  go_wp2_with fail
  refine (rbool_133 _ _).mono ?_
  rintro ev w5 ⟨rfl, hb5⟩
  have t5 := one_at hb5
  have HB5 := Lib.hid ((one_below _ _).trans (hb5.mono (by simp)))
  have T5 := Lib.hid t5
  have z0 := cell_of_heap (o := 0) t5 rfl
  have g0 := frozen_of_heap (o := 0) t5
  have z1 := cell_of_heap (o := 1) t5 rfl
  have g1 := frozen_of_heap (o := 1) t5
  have z2 := cell_of_heap (o := 2) t5 rfl
  have g2 := frozen_of_heap (o := 2) t5
  have z3 := cell_of_heap (o := 3) t5 rfl
  have g3 := frozen_of_heap (o := 3) t5
  clear hb5 t5
  unfold boo Dat.agg
  go_wp2
  refine bodyPost_ret (results_row_tmp rfl _ _ (w.heap.size) 25 _ (0, 0) _ rfl (setRow4_at T5.out) Tryz.underlying25 rfl (by kernel_rfl)) rfl ?_
  exact ⟨rfl, setRow4_below HB5.out (by show w.heap.size ≤ w.heap.size; omega)⟩

set_option maxRecDepth 100000 in
set_option maxHeartbeats 2000000 in
theorem done_4 (a b : Dat) (v : Value) (w : World) (fa : a.fits) (fb : b.fits) (hv : DatsOn (fun _ => True) w [a, b] v) : Calls Tryz.prog 93 #[.int .u8 4, v] w (RefPost (twoD 4 a b) w) := by
  obtain ⟨x, cc, rfl, -, hc⟩ := hv
  obtain ⟨g, o, rfl, -, hc⟩ := hc (by simp)
  have hA := hc 0 a rfl
  have hB := hc 1 b rfl
  have hcall := fun (W : World) => radd_135 a b W fa fb
  obtain ⟨X, eX⟩ : ∃ X, X = twoD 4 a b := ⟨_, rfl⟩
  rw [← eX]
  have eX2 : X = addD a b := eX
  rw [← eX2] at hcall
  have hs0 : w.cell? ⟨g, o, none⟩ = some (.int .u8 a.kind) ∧ w.cell? ⟨g, o + 1, none⟩ = some (.bool a.bool) ∧ w.cell? ⟨g, o + 2, none⟩ = some (.int .i64 a.int) ∧ w.cell? ⟨g, o + 3, none⟩ = some (.string a.text) ∧ w.cell? ⟨g, o + 4, none⟩ = some (.int .u8 b.kind) ∧ w.cell? ⟨g, o + 5, none⟩ = some (.bool b.bool) ∧ w.cell? ⟨g, o + 6, none⟩ = some (.int .i64 b.int) ∧ w.cell? ⟨g, o + 7, none⟩ = some (.string b.text) := ⟨hA.1, hA.2.1, hA.2.2.1, hA.2.2.2, hB.1, hB.2.1, hB.2.2.1, hB.2.2.2⟩
  obtain ⟨w1, hw1⟩ : ∃ w1, w1 = w.alloc (.cells #[.int .u8 0, .bool false, .int .i64 0, .string ⟨#[]⟩] 25) := ⟨_, rfl⟩
  have hb1 : Below w.heap.size w w1 := by rw [hw1]; exact one_below _ _
  have ht : w1.heap[w.heap.size]? = some (.cells #[.int .u8 0, .bool false, .int .i64 0, .string ⟨#[]⟩] 25 (0, 0)) := by rw [hw1]; exact heap_alloc_new _ _
  have hs1 : w1.cell? ⟨g, o, none⟩ = some (.int .u8 a.kind) ∧ w1.cell? ⟨g, o + 1, none⟩ = some (.bool a.bool) ∧ w1.cell? ⟨g, o + 2, none⟩ = some (.int .i64 a.int) ∧ w1.cell? ⟨g, o + 3, none⟩ = some (.string a.text) ∧ w1.cell? ⟨g, o + 4, none⟩ = some (.int .u8 b.kind) ∧ w1.cell? ⟨g, o + 5, none⟩ = some (.bool b.bool) ∧ w1.cell? ⟨g, o + 6, none⟩ = some (.int .i64 b.int) ∧ w1.cell? ⟨g, o + 7, none⟩ = some (.string b.text) := (fun hb => ⟨cell_keep hb hs0.1, cell_keep hb hs0.2.1, cell_keep hb hs0.2.2.1, cell_keep hb hs0.2.2.2.1, cell_keep hb hs0.2.2.2.2.1, cell_keep hb hs0.2.2.2.2.2.1, cell_keep hb hs0.2.2.2.2.2.2.1, cell_keep hb hs0.2.2.2.2.2.2.2⟩) hb1
  have hkeep : ∀ (w' : World), Below w1.heap.size w1 w' → w'.cell? ⟨g, o, none⟩ = some (.int .u8 a.kind) ∧ w'.cell? ⟨g, o + 1, none⟩ = some (.bool a.bool) ∧ w'.cell? ⟨g, o + 2, none⟩ = some (.int .i64 a.int) ∧ w'.cell? ⟨g, o + 3, none⟩ = some (.string a.text) ∧ w'.cell? ⟨g, o + 4, none⟩ = some (.int .u8 b.kind) ∧ w'.cell? ⟨g, o + 5, none⟩ = some (.bool b.bool) ∧ w'.cell? ⟨g, o + 6, none⟩ = some (.int .i64 b.int) ∧ w'.cell? ⟨g, o + 7, none⟩ = some (.string b.text) := fun w' hb => ⟨cell_keep hb hs1.1, cell_keep hb hs1.2.1, cell_keep hb hs1.2.2.1, cell_keep hb hs1.2.2.2.1, cell_keep hb hs1.2.2.2.2.1, cell_keep hb hs1.2.2.2.2.2.1, cell_keep hb hs1.2.2.2.2.2.2.1, cell_keep hb hs1.2.2.2.2.2.2.2⟩
  have lg : g < w.heap.size := World.block_lt_of_cell? w _ hs0.1
  have n1 : w.heap.size ≠ g := by omega
  have HC := Lib.hid hcall
  have HW1 := Lib.hid hw1
  have HB1 := Lib.hid hb1
  have T1 := Lib.hid ht
  have S1 := Lib.hid hs1
  have HKEEP := Lib.hid hkeep
  clear hw1 hb1 ht hs1 hs0 hkeep hA hB hc hcall eX eX2 fa fb
  unfold Dat.agg at HC
  go_enter Tryz.func93, Tryz.ntmps93
  go_wp2_with fail
  rw [← HW1.out]
  obtain ⟨s0, s1, s2, s3, s4, s5, s6, s7⟩ := S1.out
  have hbS : Hid (Below w1.heap.size w1 w1) := Lib.hid (Below.refl _ _)
  go_region_held3 (fun w' => w'.cell? ⟨g, o, none⟩ = some (.int .u8 a.kind) ∧ w'.cell? ⟨g, o + 1, none⟩ = some (.bool a.bool) ∧ w'.cell? ⟨g, o + 2, none⟩ = some (.int .i64 a.int) ∧ w'.cell? ⟨g, o + 3, none⟩ = some (.string a.text) ∧ w'.cell? ⟨g, o + 4, none⟩ = some (.int .u8 b.kind) ∧ w'.cell? ⟨g, o + 5, none⟩ = some (.bool b.bool) ∧ w'.cell? ⟨g, o + 6, none⟩ = some (.int .i64 b.int) ∧ w'.cell? ⟨g, o + 7, none⟩ = some (.string b.text))
    (first | go_keep | exact HKEEP.out _ hbS.out | (simp only [cell_set_ne n1]; exact HKEEP.out _ hbS.out))
    (first
    | (go_at_call 135; (with_reducible refine (HC.out _).mono ?_); rintro ev w5 ⟨rfl, hb5⟩; have hbS : Hid (Below w1.heap.size w1 w5) := Lib.hid (by first | exact hb5 | exact below_undrew hb5 | exact below_undrewN hb5); have t5 := (hbS.out.block _ (lt_of_heap T1.out)).trans T1.out; have z0 := cell_of_heap (o := 0) t5 rfl; have g0 := frozen_of_heap (o := 0) t5; have z1 := cell_of_heap (o := 1) t5 rfl; have g1 := frozen_of_heap (o := 1) t5; have z2 := cell_of_heap (o := 2) t5 rfl; have g2 := frozen_of_heap (o := 2) t5; have z3 := cell_of_heap (o := 3) t5 rfl; have g3 := frozen_of_heap (o := 3) t5; have T5 := Lib.hid t5; clear hb5 t5; unfold resI Dat.agg))
  go_wp2
  refine bodyPost_ret (results_row_tmp rfl _ _ (w.heap.size) 25 _ (0, 0) _ rfl (setRow4_at T5.out) Tryz.underlying25 rfl (by kernel_rfl)) rfl ?_
  exact ⟨rfl, setRow4_below (HB1.out.trans (hbS.out.mono HB1.out.size)) (by show w.heap.size ≤ w.heap.size; omega)⟩

set_option maxRecDepth 100000 in
set_option maxHeartbeats 2000000 in
theorem done_5 (a b : Dat) (v : Value) (w : World) (fa : a.fits) (fb : b.fits) (hv : DatsOn (fun _ => True) w [a, b] v) : Calls Tryz.prog 93 #[.int .u8 5, v] w (RefPost (twoD 5 a b) w) := by
  obtain ⟨x, cc, rfl, -, hc⟩ := hv
  obtain ⟨g, o, rfl, -, hc⟩ := hc (by simp)
  have hA := hc 0 a rfl
  have hB := hc 1 b rfl
  have hcall := fun (W : World) => rsub_136 a b W fa fb
  obtain ⟨X, eX⟩ : ∃ X, X = twoD 5 a b := ⟨_, rfl⟩
  rw [← eX]
  have eX2 : X = subD a b := eX
  rw [← eX2] at hcall
  have hs0 : w.cell? ⟨g, o, none⟩ = some (.int .u8 a.kind) ∧ w.cell? ⟨g, o + 1, none⟩ = some (.bool a.bool) ∧ w.cell? ⟨g, o + 2, none⟩ = some (.int .i64 a.int) ∧ w.cell? ⟨g, o + 3, none⟩ = some (.string a.text) ∧ w.cell? ⟨g, o + 4, none⟩ = some (.int .u8 b.kind) ∧ w.cell? ⟨g, o + 5, none⟩ = some (.bool b.bool) ∧ w.cell? ⟨g, o + 6, none⟩ = some (.int .i64 b.int) ∧ w.cell? ⟨g, o + 7, none⟩ = some (.string b.text) := ⟨hA.1, hA.2.1, hA.2.2.1, hA.2.2.2, hB.1, hB.2.1, hB.2.2.1, hB.2.2.2⟩
  obtain ⟨w1, hw1⟩ : ∃ w1, w1 = w.alloc (.cells #[.int .u8 0, .bool false, .int .i64 0, .string ⟨#[]⟩] 25) := ⟨_, rfl⟩
  have hb1 : Below w.heap.size w w1 := by rw [hw1]; exact one_below _ _
  have ht : w1.heap[w.heap.size]? = some (.cells #[.int .u8 0, .bool false, .int .i64 0, .string ⟨#[]⟩] 25 (0, 0)) := by rw [hw1]; exact heap_alloc_new _ _
  have hs1 : w1.cell? ⟨g, o, none⟩ = some (.int .u8 a.kind) ∧ w1.cell? ⟨g, o + 1, none⟩ = some (.bool a.bool) ∧ w1.cell? ⟨g, o + 2, none⟩ = some (.int .i64 a.int) ∧ w1.cell? ⟨g, o + 3, none⟩ = some (.string a.text) ∧ w1.cell? ⟨g, o + 4, none⟩ = some (.int .u8 b.kind) ∧ w1.cell? ⟨g, o + 5, none⟩ = some (.bool b.bool) ∧ w1.cell? ⟨g, o + 6, none⟩ = some (.int .i64 b.int) ∧ w1.cell? ⟨g, o + 7, none⟩ = some (.string b.text) := (fun hb => ⟨cell_keep hb hs0.1, cell_keep hb hs0.2.1, cell_keep hb hs0.2.2.1, cell_keep hb hs0.2.2.2.1, cell_keep hb hs0.2.2.2.2.1, cell_keep hb hs0.2.2.2.2.2.1, cell_keep hb hs0.2.2.2.2.2.2.1, cell_keep hb hs0.2.2.2.2.2.2.2⟩) hb1
  have hkeep : ∀ (w' : World), Below w1.heap.size w1 w' → w'.cell? ⟨g, o, none⟩ = some (.int .u8 a.kind) ∧ w'.cell? ⟨g, o + 1, none⟩ = some (.bool a.bool) ∧ w'.cell? ⟨g, o + 2, none⟩ = some (.int .i64 a.int) ∧ w'.cell? ⟨g, o + 3, none⟩ = some (.string a.text) ∧ w'.cell? ⟨g, o + 4, none⟩ = some (.int .u8 b.kind) ∧ w'.cell? ⟨g, o + 5, none⟩ = some (.bool b.bool) ∧ w'.cell? ⟨g, o + 6, none⟩ = some (.int .i64 b.int) ∧ w'.cell? ⟨g, o + 7, none⟩ = some (.string b.text) := fun w' hb => ⟨cell_keep hb hs1.1, cell_keep hb hs1.2.1, cell_keep hb hs1.2.2.1, cell_keep hb hs1.2.2.2.1, cell_keep hb hs1.2.2.2.2.1, cell_keep hb hs1.2.2.2.2.2.1, cell_keep hb hs1.2.2.2.2.2.2.1, cell_keep hb hs1.2.2.2.2.2.2.2⟩
  have lg : g < w.heap.size := World.block_lt_of_cell? w _ hs0.1
  have n1 : w.heap.size ≠ g := by omega
  have HC := Lib.hid hcall
  have HW1 := Lib.hid hw1
  have HB1 := Lib.hid hb1
  have T1 := Lib.hid ht
  have S1 := Lib.hid hs1
  have HKEEP := Lib.hid hkeep
  clear hw1 hb1 ht hs1 hs0 hkeep hA hB hc hcall eX eX2 fa fb
  unfold Dat.agg at HC
  go_enter Tryz.func93, Tryz.ntmps93
  go_wp2_with fail
  rw [← HW1.out]
  obtain ⟨s0, s1, s2, s3, s4, s5, s6, s7⟩ := S1.out
  have hbS : Hid (Below w1.heap.size w1 w1) := Lib.hid (Below.refl _ _)
  go_region_held3 (fun w' => w'.cell? ⟨g, o, none⟩ = some (.int .u8 a.kind) ∧ w'.cell? ⟨g, o + 1, none⟩ = some (.bool a.bool) ∧ w'.cell? ⟨g, o + 2, none⟩ = some (.int .i64 a.int) ∧ w'.cell? ⟨g, o + 3, none⟩ = some (.string a.text) ∧ w'.cell? ⟨g, o + 4, none⟩ = some (.int .u8 b.kind) ∧ w'.cell? ⟨g, o + 5, none⟩ = some (.bool b.bool) ∧ w'.cell? ⟨g, o + 6, none⟩ = some (.int .i64 b.int) ∧ w'.cell? ⟨g, o + 7, none⟩ = some (.string b.text))
    (first | go_keep | exact HKEEP.out _ hbS.out | (simp only [cell_set_ne n1]; exact HKEEP.out _ hbS.out))
    (first
    | (go_at_call 136; (with_reducible refine (HC.out _).mono ?_); rintro ev w5 ⟨rfl, hb5⟩; have hbS : Hid (Below w1.heap.size w1 w5) := Lib.hid (by first | exact hb5 | exact below_undrew hb5 | exact below_undrewN hb5); have t5 := (hbS.out.block _ (lt_of_heap T1.out)).trans T1.out; have z0 := cell_of_heap (o := 0) t5 rfl; have g0 := frozen_of_heap (o := 0) t5; have z1 := cell_of_heap (o := 1) t5 rfl; have g1 := frozen_of_heap (o := 1) t5; have z2 := cell_of_heap (o := 2) t5 rfl; have g2 := frozen_of_heap (o := 2) t5; have z3 := cell_of_heap (o := 3) t5 rfl; have g3 := frozen_of_heap (o := 3) t5; have T5 := Lib.hid t5; clear hb5 t5; unfold resI Dat.agg))
  go_wp2
  refine bodyPost_ret (results_row_tmp rfl _ _ (w.heap.size) 25 _ (0, 0) _ rfl (setRow4_at T5.out) Tryz.underlying25 rfl (by kernel_rfl)) rfl ?_
  exact ⟨rfl, setRow4_below (HB1.out.trans (hbS.out.mono HB1.out.size)) (by show w.heap.size ≤ w.heap.size; omega)⟩

set_option maxRecDepth 100000 in
set_option maxHeartbeats 2000000 in
theorem done_6 (a b : Dat) (v : Value) (w : World) (fa : a.fits) (fb : b.fits) (hv : DatsOn (fun _ => True) w [a, b] v) : Calls Tryz.prog 93 #[.int .u8 6, v] w (RefPost (twoD 6 a b) w) := by
  obtain ⟨x, cc, rfl, -, hc⟩ := hv
  obtain ⟨g, o, rfl, -, hc⟩ := hc (by simp)
  have hA := hc 0 a rfl
  have hB := hc 1 b rfl
  have hcall := fun (W : World) => rmul_137 a b W fa fb
  obtain ⟨X, eX⟩ : ∃ X, X = twoD 6 a b := ⟨_, rfl⟩
  rw [← eX]
  have eX2 : X = mulD a b := eX
  rw [← eX2] at hcall
  have hs0 : w.cell? ⟨g, o, none⟩ = some (.int .u8 a.kind) ∧ w.cell? ⟨g, o + 1, none⟩ = some (.bool a.bool) ∧ w.cell? ⟨g, o + 2, none⟩ = some (.int .i64 a.int) ∧ w.cell? ⟨g, o + 3, none⟩ = some (.string a.text) ∧ w.cell? ⟨g, o + 4, none⟩ = some (.int .u8 b.kind) ∧ w.cell? ⟨g, o + 5, none⟩ = some (.bool b.bool) ∧ w.cell? ⟨g, o + 6, none⟩ = some (.int .i64 b.int) ∧ w.cell? ⟨g, o + 7, none⟩ = some (.string b.text) := ⟨hA.1, hA.2.1, hA.2.2.1, hA.2.2.2, hB.1, hB.2.1, hB.2.2.1, hB.2.2.2⟩
  obtain ⟨w1, hw1⟩ : ∃ w1, w1 = w.alloc (.cells #[.int .u8 0, .bool false, .int .i64 0, .string ⟨#[]⟩] 25) := ⟨_, rfl⟩
  have hb1 : Below w.heap.size w w1 := by rw [hw1]; exact one_below _ _
  have ht : w1.heap[w.heap.size]? = some (.cells #[.int .u8 0, .bool false, .int .i64 0, .string ⟨#[]⟩] 25 (0, 0)) := by rw [hw1]; exact heap_alloc_new _ _
  have hs1 : w1.cell? ⟨g, o, none⟩ = some (.int .u8 a.kind) ∧ w1.cell? ⟨g, o + 1, none⟩ = some (.bool a.bool) ∧ w1.cell? ⟨g, o + 2, none⟩ = some (.int .i64 a.int) ∧ w1.cell? ⟨g, o + 3, none⟩ = some (.string a.text) ∧ w1.cell? ⟨g, o + 4, none⟩ = some (.int .u8 b.kind) ∧ w1.cell? ⟨g, o + 5, none⟩ = some (.bool b.bool) ∧ w1.cell? ⟨g, o + 6, none⟩ = some (.int .i64 b.int) ∧ w1.cell? ⟨g, o + 7, none⟩ = some (.string b.text) := (fun hb => ⟨cell_keep hb hs0.1, cell_keep hb hs0.2.1, cell_keep hb hs0.2.2.1, cell_keep hb hs0.2.2.2.1, cell_keep hb hs0.2.2.2.2.1, cell_keep hb hs0.2.2.2.2.2.1, cell_keep hb hs0.2.2.2.2.2.2.1, cell_keep hb hs0.2.2.2.2.2.2.2⟩) hb1
  have hkeep : ∀ (w' : World), Below w1.heap.size w1 w' → w'.cell? ⟨g, o, none⟩ = some (.int .u8 a.kind) ∧ w'.cell? ⟨g, o + 1, none⟩ = some (.bool a.bool) ∧ w'.cell? ⟨g, o + 2, none⟩ = some (.int .i64 a.int) ∧ w'.cell? ⟨g, o + 3, none⟩ = some (.string a.text) ∧ w'.cell? ⟨g, o + 4, none⟩ = some (.int .u8 b.kind) ∧ w'.cell? ⟨g, o + 5, none⟩ = some (.bool b.bool) ∧ w'.cell? ⟨g, o + 6, none⟩ = some (.int .i64 b.int) ∧ w'.cell? ⟨g, o + 7, none⟩ = some (.string b.text) := fun w' hb => ⟨cell_keep hb hs1.1, cell_keep hb hs1.2.1, cell_keep hb hs1.2.2.1, cell_keep hb hs1.2.2.2.1, cell_keep hb hs1.2.2.2.2.1, cell_keep hb hs1.2.2.2.2.2.1, cell_keep hb hs1.2.2.2.2.2.2.1, cell_keep hb hs1.2.2.2.2.2.2.2⟩
  have lg : g < w.heap.size := World.block_lt_of_cell? w _ hs0.1
  have n1 : w.heap.size ≠ g := by omega
  have HC := Lib.hid hcall
  have HW1 := Lib.hid hw1
  have HB1 := Lib.hid hb1
  have T1 := Lib.hid ht
  have S1 := Lib.hid hs1
  have HKEEP := Lib.hid hkeep
  clear hw1 hb1 ht hs1 hs0 hkeep hA hB hc hcall eX eX2 fa fb
  unfold Dat.agg at HC
  go_enter Tryz.func93, Tryz.ntmps93
  go_wp2_with fail
  rw [← HW1.out]
  obtain ⟨s0, s1, s2, s3, s4, s5, s6, s7⟩ := S1.out
  have hbS : Hid (Below w1.heap.size w1 w1) := Lib.hid (Below.refl _ _)
  go_region_held3 (fun w' => w'.cell? ⟨g, o, none⟩ = some (.int .u8 a.kind) ∧ w'.cell? ⟨g, o + 1, none⟩ = some (.bool a.bool) ∧ w'.cell? ⟨g, o + 2, none⟩ = some (.int .i64 a.int) ∧ w'.cell? ⟨g, o + 3, none⟩ = some (.string a.text) ∧ w'.cell? ⟨g, o + 4, none⟩ = some (.int .u8 b.kind) ∧ w'.cell? ⟨g, o + 5, none⟩ = some (.bool b.bool) ∧ w'.cell? ⟨g, o + 6, none⟩ = some (.int .i64 b.int) ∧ w'.cell? ⟨g, o + 7, none⟩ = some (.string b.text))
    (first | go_keep | exact HKEEP.out _ hbS.out | (simp only [cell_set_ne n1]; exact HKEEP.out _ hbS.out))
    (first
    | (go_at_call 137; (with_reducible refine (HC.out _).mono ?_); rintro ev w5 ⟨rfl, hb5⟩; have hbS : Hid (Below w1.heap.size w1 w5) := Lib.hid (by first | exact hb5 | exact below_undrew hb5 | exact below_undrewN hb5); have t5 := (hbS.out.block _ (lt_of_heap T1.out)).trans T1.out; have z0 := cell_of_heap (o := 0) t5 rfl; have g0 := frozen_of_heap (o := 0) t5; have z1 := cell_of_heap (o := 1) t5 rfl; have g1 := frozen_of_heap (o := 1) t5; have z2 := cell_of_heap (o := 2) t5 rfl; have g2 := frozen_of_heap (o := 2) t5; have z3 := cell_of_heap (o := 3) t5 rfl; have g3 := frozen_of_heap (o := 3) t5; have T5 := Lib.hid t5; clear hb5 t5; unfold resI Dat.agg))
  go_wp2
  refine bodyPost_ret (results_row_tmp rfl _ _ (w.heap.size) 25 _ (0, 0) _ rfl (setRow4_at T5.out) Tryz.underlying25 rfl (by kernel_rfl)) rfl ?_
  exact ⟨rfl, setRow4_below (HB1.out.trans (hbS.out.mono HB1.out.size)) (by show w.heap.size ≤ w.heap.size; omega)⟩

set_option maxRecDepth 100000 in
set_option maxHeartbeats 2000000 in
theorem done_7 (a b : Dat) (v : Value) (w : World) (fa : a.fits) (fb : b.fits) (hv : DatsOn (fun _ => True) w [a, b] v) : Calls Tryz.prog 93 #[.int .u8 7, v] w (RefPost (twoD 7 a b) w) := by
  obtain ⟨x, cc, rfl, -, hc⟩ := hv
  obtain ⟨g, o, rfl, -, hc⟩ := hc (by simp)
  have hA := hc 0 a rfl
  have hB := hc 1 b rfl
  have hcall := fun (W : World) => rdiv_138 a b W fa fb
  obtain ⟨X, eX⟩ : ∃ X, X = twoD 7 a b := ⟨_, rfl⟩
  rw [← eX]
  have eX2 : X = divD a b := eX
  rw [← eX2] at hcall
  have hs0 : w.cell? ⟨g, o, none⟩ = some (.int .u8 a.kind) ∧ w.cell? ⟨g, o + 1, none⟩ = some (.bool a.bool) ∧ w.cell? ⟨g, o + 2, none⟩ = some (.int .i64 a.int) ∧ w.cell? ⟨g, o + 3, none⟩ = some (.string a.text) ∧ w.cell? ⟨g, o + 4, none⟩ = some (.int .u8 b.kind) ∧ w.cell? ⟨g, o + 5, none⟩ = some (.bool b.bool) ∧ w.cell? ⟨g, o + 6, none⟩ = some (.int .i64 b.int) ∧ w.cell? ⟨g, o + 7, none⟩ = some (.string b.text) := ⟨hA.1, hA.2.1, hA.2.2.1, hA.2.2.2, hB.1, hB.2.1, hB.2.2.1, hB.2.2.2⟩
  obtain ⟨w1, hw1⟩ : ∃ w1, w1 = w.alloc (.cells #[.int .u8 0, .bool false, .int .i64 0, .string ⟨#[]⟩] 25) := ⟨_, rfl⟩
  have hb1 : Below w.heap.size w w1 := by rw [hw1]; exact one_below _ _
  have ht : w1.heap[w.heap.size]? = some (.cells #[.int .u8 0, .bool false, .int .i64 0, .string ⟨#[]⟩] 25 (0, 0)) := by rw [hw1]; exact heap_alloc_new _ _
  have hs1 : w1.cell? ⟨g, o, none⟩ = some (.int .u8 a.kind) ∧ w1.cell? ⟨g, o + 1, none⟩ = some (.bool a.bool) ∧ w1.cell? ⟨g, o + 2, none⟩ = some (.int .i64 a.int) ∧ w1.cell? ⟨g, o + 3, none⟩ = some (.string a.text) ∧ w1.cell? ⟨g, o + 4, none⟩ = some (.int .u8 b.kind) ∧ w1.cell? ⟨g, o + 5, none⟩ = some (.bool b.bool) ∧ w1.cell? ⟨g, o + 6, none⟩ = some (.int .i64 b.int) ∧ w1.cell? ⟨g, o + 7, none⟩ = some (.string b.text) := (fun hb => ⟨cell_keep hb hs0.1, cell_keep hb hs0.2.1, cell_keep hb hs0.2.2.1, cell_keep hb hs0.2.2.2.1, cell_keep hb hs0.2.2.2.2.1, cell_keep hb hs0.2.2.2.2.2.1, cell_keep hb hs0.2.2.2.2.2.2.1, cell_keep hb hs0.2.2.2.2.2.2.2⟩) hb1
  have hkeep : ∀ (w' : World), Below w1.heap.size w1 w' → w'.cell? ⟨g, o, none⟩ = some (.int .u8 a.kind) ∧ w'.cell? ⟨g, o + 1, none⟩ = some (.bool a.bool) ∧ w'.cell? ⟨g, o + 2, none⟩ = some (.int .i64 a.int) ∧ w'.cell? ⟨g, o + 3, none⟩ = some (.string a.text) ∧ w'.cell? ⟨g, o + 4, none⟩ = some (.int .u8 b.kind) ∧ w'.cell? ⟨g, o + 5, none⟩ = some (.bool b.bool) ∧ w'.cell? ⟨g, o + 6, none⟩ = some (.int .i64 b.int) ∧ w'.cell? ⟨g, o + 7, none⟩ = some (.string b.text) := fun w' hb => ⟨cell_keep hb hs1.1, cell_keep hb hs1.2.1, cell_keep hb hs1.2.2.1, cell_keep hb hs1.2.2.2.1, cell_keep hb hs1.2.2.2.2.1, cell_keep hb hs1.2.2.2.2.2.1, cell_keep hb hs1.2.2.2.2.2.2.1, cell_keep hb hs1.2.2.2.2.2.2.2⟩
  have lg : g < w.heap.size := World.block_lt_of_cell? w _ hs0.1
  have n1 : w.heap.size ≠ g := by omega
  have HC := Lib.hid hcall
  have HW1 := Lib.hid hw1
  have HB1 := Lib.hid hb1
  have T1 := Lib.hid ht
  have S1 := Lib.hid hs1
  have HKEEP := Lib.hid hkeep
  clear hw1 hb1 ht hs1 hs0 hkeep hA hB hc hcall eX eX2 fa fb
  unfold Dat.agg at HC
  go_enter Tryz.func93, Tryz.ntmps93
  go_wp2_with fail
  rw [← HW1.out]
  obtain ⟨s0, s1, s2, s3, s4, s5, s6, s7⟩ := S1.out
  have hbS : Hid (Below w1.heap.size w1 w1) := Lib.hid (Below.refl _ _)
  go_region_held3 (fun w' => w'.cell? ⟨g, o, none⟩ = some (.int .u8 a.kind) ∧ w'.cell? ⟨g, o + 1, none⟩ = some (.bool a.bool) ∧ w'.cell? ⟨g, o + 2, none⟩ = some (.int .i64 a.int) ∧ w'.cell? ⟨g, o + 3, none⟩ = some (.string a.text) ∧ w'.cell? ⟨g, o + 4, none⟩ = some (.int .u8 b.kind) ∧ w'.cell? ⟨g, o + 5, none⟩ = some (.bool b.bool) ∧ w'.cell? ⟨g, o + 6, none⟩ = some (.int .i64 b.int) ∧ w'.cell? ⟨g, o + 7, none⟩ = some (.string b.text))
    (first | go_keep | exact HKEEP.out _ hbS.out | (simp only [cell_set_ne n1]; exact HKEEP.out _ hbS.out))
    (first
    | (go_at_call 138; (with_reducible refine (HC.out _).mono ?_); rintro ev w5 ⟨rfl, hb5⟩; have hbS : Hid (Below w1.heap.size w1 w5) := Lib.hid (by first | exact hb5 | exact below_undrew hb5 | exact below_undrewN hb5); have t5 := (hbS.out.block _ (lt_of_heap T1.out)).trans T1.out; have z0 := cell_of_heap (o := 0) t5 rfl; have g0 := frozen_of_heap (o := 0) t5; have z1 := cell_of_heap (o := 1) t5 rfl; have g1 := frozen_of_heap (o := 1) t5; have z2 := cell_of_heap (o := 2) t5 rfl; have g2 := frozen_of_heap (o := 2) t5; have z3 := cell_of_heap (o := 3) t5 rfl; have g3 := frozen_of_heap (o := 3) t5; have T5 := Lib.hid t5; clear hb5 t5; unfold resI Dat.agg))
  go_wp2
  refine bodyPost_ret (results_row_tmp rfl _ _ (w.heap.size) 25 _ (0, 0) _ rfl (setRow4_at T5.out) Tryz.underlying25 rfl (by kernel_rfl)) rfl ?_
  exact ⟨rfl, setRow4_below (HB1.out.trans (hbS.out.mono HB1.out.size)) (by show w.heap.size ≤ w.heap.size; omega)⟩

set_option maxRecDepth 100000 in
set_option maxHeartbeats 2000000 in
theorem done_8 (a b : Dat) (v : Value) (w : World) (fa : a.fits) (fb : b.fits) (hv : DatsOn (fun _ => True) w [a, b] v) : Calls Tryz.prog 93 #[.int .u8 8, v] w (RefPost (twoD 8 a b) w) := by
  obtain ⟨x, cc, rfl, -, hc⟩ := hv
  obtain ⟨g, o, rfl, -, hc⟩ := hc (by simp)
  have hA := hc 0 a rfl
  have hB := hc 1 b rfl
  have hcall := fun (W : World) => rmod_139 a b W fa fb
  obtain ⟨X, eX⟩ : ∃ X, X = twoD 8 a b := ⟨_, rfl⟩
  rw [← eX]
  have eX2 : X = modD a b := eX
  rw [← eX2] at hcall
  have hs0 : w.cell? ⟨g, o, none⟩ = some (.int .u8 a.kind) ∧ w.cell? ⟨g, o + 1, none⟩ = some (.bool a.bool) ∧ w.cell? ⟨g, o + 2, none⟩ = some (.int .i64 a.int) ∧ w.cell? ⟨g, o + 3, none⟩ = some (.string a.text) ∧ w.cell? ⟨g, o + 4, none⟩ = some (.int .u8 b.kind) ∧ w.cell? ⟨g, o + 5, none⟩ = some (.bool b.bool) ∧ w.cell? ⟨g, o + 6, none⟩ = some (.int .i64 b.int) ∧ w.cell? ⟨g, o + 7, none⟩ = some (.string b.text) := ⟨hA.1, hA.2.1, hA.2.2.1, hA.2.2.2, hB.1, hB.2.1, hB.2.2.1, hB.2.2.2⟩
  obtain ⟨w1, hw1⟩ : ∃ w1, w1 = w.alloc (.cells #[.int .u8 0, .bool false, .int .i64 0, .string ⟨#[]⟩] 25) := ⟨_, rfl⟩
  have hb1 : Below w.heap.size w w1 := by rw [hw1]; exact one_below _ _
  have ht : w1.heap[w.heap.size]? = some (.cells #[.int .u8 0, .bool false, .int .i64 0, .string ⟨#[]⟩] 25 (0, 0)) := by rw [hw1]; exact heap_alloc_new _ _
  have hs1 : w1.cell? ⟨g, o, none⟩ = some (.int .u8 a.kind) ∧ w1.cell? ⟨g, o + 1, none⟩ = some (.bool a.bool) ∧ w1.cell? ⟨g, o + 2, none⟩ = some (.int .i64 a.int) ∧ w1.cell? ⟨g, o + 3, none⟩ = some (.string a.text) ∧ w1.cell? ⟨g, o + 4, none⟩ = some (.int .u8 b.kind) ∧ w1.cell? ⟨g, o + 5, none⟩ = some (.bool b.bool) ∧ w1.cell? ⟨g, o + 6, none⟩ = some (.int .i64 b.int) ∧ w1.cell? ⟨g, o + 7, none⟩ = some (.string b.text) := (fun hb => ⟨cell_keep hb hs0.1, cell_keep hb hs0.2.1, cell_keep hb hs0.2.2.1, cell_keep hb hs0.2.2.2.1, cell_keep hb hs0.2.2.2.2.1, cell_keep hb hs0.2.2.2.2.2.1, cell_keep hb hs0.2.2.2.2.2.2.1, cell_keep hb hs0.2.2.2.2.2.2.2⟩) hb1
  have hkeep : ∀ (w' : World), Below w1.heap.size w1 w' → w'.cell? ⟨g, o, none⟩ = some (.int .u8 a.kind) ∧ w'.cell? ⟨g, o + 1, none⟩ = some (.bool a.bool) ∧ w'.cell? ⟨g, o + 2, none⟩ = some (.int .i64 a.int) ∧ w'.cell? ⟨g, o + 3, none⟩ = some (.string a.text) ∧ w'.cell? ⟨g, o + 4, none⟩ = some (.int .u8 b.kind) ∧ w'.cell? ⟨g, o + 5, none⟩ = some (.bool b.bool) ∧ w'.cell? ⟨g, o + 6, none⟩ = some (.int .i64 b.int) ∧ w'.cell? ⟨g, o + 7, none⟩ = some (.string b.text) := fun w' hb => ⟨cell_keep hb hs1.1, cell_keep hb hs1.2.1, cell_keep hb hs1.2.2.1, cell_keep hb hs1.2.2.2.1, cell_keep hb hs1.2.2.2.2.1, cell_keep hb hs1.2.2.2.2.2.1, cell_keep hb hs1.2.2.2.2.2.2.1, cell_keep hb hs1.2.2.2.2.2.2.2⟩
  have lg : g < w.heap.size := World.block_lt_of_cell? w _ hs0.1
  have n1 : w.heap.size ≠ g := by omega
  have HC := Lib.hid hcall
  have HW1 := Lib.hid hw1
  have HB1 := Lib.hid hb1
  have T1 := Lib.hid ht
  have S1 := Lib.hid hs1
  have HKEEP := Lib.hid hkeep
  clear hw1 hb1 ht hs1 hs0 hkeep hA hB hc hcall eX eX2 fa fb
  unfold Dat.agg at HC
  go_enter Tryz.func93, Tryz.ntmps93
  go_wp2_with fail
  rw [← HW1.out]
  obtain ⟨s0, s1, s2, s3, s4, s5, s6, s7⟩ := S1.out
  have hbS : Hid (Below w1.heap.size w1 w1) := Lib.hid (Below.refl _ _)
  go_region_held3 (fun w' => w'.cell? ⟨g, o, none⟩ = some (.int .u8 a.kind) ∧ w'.cell? ⟨g, o + 1, none⟩ = some (.bool a.bool) ∧ w'.cell? ⟨g, o + 2, none⟩ = some (.int .i64 a.int) ∧ w'.cell? ⟨g, o + 3, none⟩ = some (.string a.text) ∧ w'.cell? ⟨g, o + 4, none⟩ = some (.int .u8 b.kind) ∧ w'.cell? ⟨g, o + 5, none⟩ = some (.bool b.bool) ∧ w'.cell? ⟨g, o + 6, none⟩ = some (.int .i64 b.int) ∧ w'.cell? ⟨g, o + 7, none⟩ = some (.string b.text))
    (first | go_keep | exact HKEEP.out _ hbS.out | (simp only [cell_set_ne n1]; exact HKEEP.out _ hbS.out))
    (first
    | (go_at_call 139; (with_reducible refine (HC.out _).mono ?_); rintro ev w5 ⟨rfl, hb5⟩; have hbS : Hid (Below w1.heap.size w1 w5) := Lib.hid (by first | exact hb5 | exact below_undrew hb5 | exact below_undrewN hb5); have t5 := (hbS.out.block _ (lt_of_heap T1.out)).trans T1.out; have z0 := cell_of_heap (o := 0) t5 rfl; have g0 := frozen_of_heap (o := 0) t5; have z1 := cell_of_heap (o := 1) t5 rfl; have g1 := frozen_of_heap (o := 1) t5; have z2 := cell_of_heap (o := 2) t5 rfl; have g2 := frozen_of_heap (o := 2) t5; have z3 := cell_of_heap (o := 3) t5 rfl; have g3 := frozen_of_heap (o := 3) t5; have T5 := Lib.hid t5; clear hb5 t5; unfold resI Dat.agg))
  go_wp2
  refine bodyPost_ret (results_row_tmp rfl _ _ (w.heap.size) 25 _ (0, 0) _ rfl (setRow4_at T5.out) Tryz.underlying25 rfl (by kernel_rfl)) rfl ?_
  exact ⟨rfl, setRow4_below (HB1.out.trans (hbS.out.mono HB1.out.size)) (by show w.heap.size ≤ w.heap.size; omega)⟩

set_option maxRecDepth 100000 in
set_option maxHeartbeats 2000000 in
theorem done_9 (a b : Dat) (v : Value) (w : World) (fa : a.fits) (fb : b.fits) (hv : DatsOn (fun _ => True) w [a, b] v) : Calls Tryz.prog 93 #[.int .u8 9, v] w (RefPost (twoD 9 a b) w) := by
  obtain ⟨x, cc, rfl, -, hc⟩ := hv
  obtain ⟨g, o, rfl, -, hc⟩ := hc (by simp)
  have hA := hc 0 a rfl
  have hB := hc 1 b rfl
  have hcall := fun (W : World) => rcat_140 a b W fa fb
  obtain ⟨X, eX⟩ : ∃ X, X = twoD 9 a b := ⟨_, rfl⟩
  rw [← eX]
  have eX2 : X = catD a b := eX
  rw [← eX2] at hcall
  have hs0 : w.cell? ⟨g, o, none⟩ = some (.int .u8 a.kind) ∧ w.cell? ⟨g, o + 1, none⟩ = some (.bool a.bool) ∧ w.cell? ⟨g, o + 2, none⟩ = some (.int .i64 a.int) ∧ w.cell? ⟨g, o + 3, none⟩ = some (.string a.text) ∧ w.cell? ⟨g, o + 4, none⟩ = some (.int .u8 b.kind) ∧ w.cell? ⟨g, o + 5, none⟩ = some (.bool b.bool) ∧ w.cell? ⟨g, o + 6, none⟩ = some (.int .i64 b.int) ∧ w.cell? ⟨g, o + 7, none⟩ = some (.string b.text) := ⟨hA.1, hA.2.1, hA.2.2.1, hA.2.2.2, hB.1, hB.2.1, hB.2.2.1, hB.2.2.2⟩
  obtain ⟨w1, hw1⟩ : ∃ w1, w1 = w.alloc (.cells #[.int .u8 0, .bool false, .int .i64 0, .string ⟨#[]⟩] 25) := ⟨_, rfl⟩
  have hb1 : Below w.heap.size w w1 := by rw [hw1]; exact one_below _ _
  have ht : w1.heap[w.heap.size]? = some (.cells #[.int .u8 0, .bool false, .int .i64 0, .string ⟨#[]⟩] 25 (0, 0)) := by rw [hw1]; exact heap_alloc_new _ _
  have hs1 : w1.cell? ⟨g, o, none⟩ = some (.int .u8 a.kind) ∧ w1.cell? ⟨g, o + 1, none⟩ = some (.bool a.bool) ∧ w1.cell? ⟨g, o + 2, none⟩ = some (.int .i64 a.int) ∧ w1.cell? ⟨g, o + 3, none⟩ = some (.string a.text) ∧ w1.cell? ⟨g, o + 4, none⟩ = some (.int .u8 b.kind) ∧ w1.cell? ⟨g, o + 5, none⟩ = some (.bool b.bool) ∧ w1.cell? ⟨g, o + 6, none⟩ = some (.int .i64 b.int) ∧ w1.cell? ⟨g, o + 7, none⟩ = some (.string b.text) := (fun hb => ⟨cell_keep hb hs0.1, cell_keep hb hs0.2.1, cell_keep hb hs0.2.2.1, cell_keep hb hs0.2.2.2.1, cell_keep hb hs0.2.2.2.2.1, cell_keep hb hs0.2.2.2.2.2.1, cell_keep hb hs0.2.2.2.2.2.2.1, cell_keep hb hs0.2.2.2.2.2.2.2⟩) hb1
  have hkeep : ∀ (w' : World), Below w1.heap.size w1 w' → w'.cell? ⟨g, o, none⟩ = some (.int .u8 a.kind) ∧ w'.cell? ⟨g, o + 1, none⟩ = some (.bool a.bool) ∧ w'.cell? ⟨g, o + 2, none⟩ = some (.int .i64 a.int) ∧ w'.cell? ⟨g, o + 3, none⟩ = some (.string a.text) ∧ w'.cell? ⟨g, o + 4, none⟩ = some (.int .u8 b.kind) ∧ w'.cell? ⟨g, o + 5, none⟩ = some (.bool b.bool) ∧ w'.cell? ⟨g, o + 6, none⟩ = some (.int .i64 b.int) ∧ w'.cell? ⟨g, o + 7, none⟩ = some (.string b.text) := fun w' hb => ⟨cell_keep hb hs1.1, cell_keep hb hs1.2.1, cell_keep hb hs1.2.2.1, cell_keep hb hs1.2.2.2.1, cell_keep hb hs1.2.2.2.2.1, cell_keep hb hs1.2.2.2.2.2.1, cell_keep hb hs1.2.2.2.2.2.2.1, cell_keep hb hs1.2.2.2.2.2.2.2⟩
  have lg : g < w.heap.size := World.block_lt_of_cell? w _ hs0.1
  have n1 : w.heap.size ≠ g := by omega
  have HC := Lib.hid hcall
  have HW1 := Lib.hid hw1
  have HB1 := Lib.hid hb1
  have T1 := Lib.hid ht
  have S1 := Lib.hid hs1
  have HKEEP := Lib.hid hkeep
  clear hw1 hb1 ht hs1 hs0 hkeep hA hB hc hcall eX eX2 fa fb
  unfold Dat.agg at HC
  go_enter Tryz.func93, Tryz.ntmps93
  go_wp2_with fail
  rw [← HW1.out]
  obtain ⟨s0, s1, s2, s3, s4, s5, s6, s7⟩ := S1.out
  have hbS : Hid (Below w1.heap.size w1 w1) := Lib.hid (Below.refl _ _)
  go_region_held3 (fun w' => w'.cell? ⟨g, o, none⟩ = some (.int .u8 a.kind) ∧ w'.cell? ⟨g, o + 1, none⟩ = some (.bool a.bool) ∧ w'.cell? ⟨g, o + 2, none⟩ = some (.int .i64 a.int) ∧ w'.cell? ⟨g, o + 3, none⟩ = some (.string a.text) ∧ w'.cell? ⟨g, o + 4, none⟩ = some (.int .u8 b.kind) ∧ w'.cell? ⟨g, o + 5, none⟩ = some (.bool b.bool) ∧ w'.cell? ⟨g, o + 6, none⟩ = some (.int .i64 b.int) ∧ w'.cell? ⟨g, o + 7, none⟩ = some (.string b.text))
    (first | go_keep | exact HKEEP.out _ hbS.out | (simp only [cell_set_ne n1]; exact HKEEP.out _ hbS.out))
    (first
    | (go_at_call 140; (with_reducible refine (HC.out _).mono ?_); rintro ev w5 ⟨rfl, hb5⟩; have hbS : Hid (Below w1.heap.size w1 w5) := Lib.hid (by first | exact hb5 | exact below_undrew hb5 | exact below_undrewN hb5); have t5 := (hbS.out.block _ (lt_of_heap T1.out)).trans T1.out; have z0 := cell_of_heap (o := 0) t5 rfl; have g0 := frozen_of_heap (o := 0) t5; have z1 := cell_of_heap (o := 1) t5 rfl; have g1 := frozen_of_heap (o := 1) t5; have z2 := cell_of_heap (o := 2) t5 rfl; have g2 := frozen_of_heap (o := 2) t5; have z3 := cell_of_heap (o := 3) t5 rfl; have g3 := frozen_of_heap (o := 3) t5; have T5 := Lib.hid t5; clear hb5 t5; unfold resI Dat.agg))
  go_wp2
  refine bodyPost_ret (results_row_tmp rfl _ _ (w.heap.size) 25 _ (0, 0) _ rfl (setRow4_at T5.out) Tryz.underlying25 rfl (by kernel_rfl)) rfl ?_
  exact ⟨rfl, setRow4_below (HB1.out.trans (hbS.out.mono HB1.out.size)) (by show w.heap.size ≤ w.heap.size; omega)⟩

set_option maxRecDepth 100000 in
set_option maxHeartbeats 2000000 in
theorem done_11 (a b : Dat) (v : Value) (w : World) (fa : a.fits) (fb : b.fits) (hv : DatsOn (fun _ => True) w [a, b] v) : Calls Tryz.prog 93 #[.int .u8 11, v] w (RefPost (twoD 11 a b) w) := by
  obtain ⟨x, cc, rfl, -, hc⟩ := hv
  obtain ⟨g, o, rfl, -, hc⟩ := hc (by simp)
  have hA := hc 0 a rfl
  have hB := hc 1 b rfl
  have hcall := fun (W : World) => rcompare_143 11 a b W (by decide) (by decide) fa fb
  obtain ⟨X, eX⟩ : ∃ X, X = twoD 11 a b := ⟨_, rfl⟩
  rw [← eX]
  have eX2 : X = compD 11 a b := eX
  rw [← eX2] at hcall
  have hs0 : w.cell? ⟨g, o, none⟩ = some (.int .u8 a.kind) ∧ w.cell? ⟨g, o + 1, none⟩ = some (.bool a.bool) ∧ w.cell? ⟨g, o + 2, none⟩ = some (.int .i64 a.int) ∧ w.cell? ⟨g, o + 3, none⟩ = some (.string a.text) ∧ w.cell? ⟨g, o + 4, none⟩ = some (.int .u8 b.kind) ∧ w.cell? ⟨g, o + 5, none⟩ = some (.bool b.bool) ∧ w.cell? ⟨g, o + 6, none⟩ = some (.int .i64 b.int) ∧ w.cell? ⟨g, o + 7, none⟩ = some (.string b.text) := ⟨hA.1, hA.2.1, hA.2.2.1, hA.2.2.2, hB.1, hB.2.1, hB.2.2.1, hB.2.2.2⟩
  obtain ⟨w1, hw1⟩ : ∃ w1, w1 = w.alloc (.cells #[.int .u8 0, .bool false, .int .i64 0, .string ⟨#[]⟩] 25) := ⟨_, rfl⟩
  have hb1 : Below w.heap.size w w1 := by rw [hw1]; exact one_below _ _
  have ht : w1.heap[w.heap.size]? = some (.cells #[.int .u8 0, .bool false, .int .i64 0, .string ⟨#[]⟩] 25 (0, 0)) := by rw [hw1]; exact heap_alloc_new _ _
  have hs1 : w1.cell? ⟨g, o, none⟩ = some (.int .u8 a.kind) ∧ w1.cell? ⟨g, o + 1, none⟩ = some (.bool a.bool) ∧ w1.cell? ⟨g, o + 2, none⟩ = some (.int .i64 a.int) ∧ w1.cell? ⟨g, o + 3, none⟩ = some (.string a.text) ∧ w1.cell? ⟨g, o + 4, none⟩ = some (.int .u8 b.kind) ∧ w1.cell? ⟨g, o + 5, none⟩ = some (.bool b.bool) ∧ w1.cell? ⟨g, o + 6, none⟩ = some (.int .i64 b.int) ∧ w1.cell? ⟨g, o + 7, none⟩ = some (.string b.text) := (fun hb => ⟨cell_keep hb hs0.1, cell_keep hb hs0.2.1, cell_keep hb hs0.2.2.1, cell_keep hb hs0.2.2.2.1, cell_keep hb hs0.2.2.2.2.1, cell_keep hb hs0.2.2.2.2.2.1, cell_keep hb hs0.2.2.2.2.2.2.1, cell_keep hb hs0.2.2.2.2.2.2.2⟩) hb1
  have hkeep : ∀ (w' : World), Below w1.heap.size w1 w' → w'.cell? ⟨g, o, none⟩ = some (.int .u8 a.kind) ∧ w'.cell? ⟨g, o + 1, none⟩ = some (.bool a.bool) ∧ w'.cell? ⟨g, o + 2, none⟩ = some (.int .i64 a.int) ∧ w'.cell? ⟨g, o + 3, none⟩ = some (.string a.text) ∧ w'.cell? ⟨g, o + 4, none⟩ = some (.int .u8 b.kind) ∧ w'.cell? ⟨g, o + 5, none⟩ = some (.bool b.bool) ∧ w'.cell? ⟨g, o + 6, none⟩ = some (.int .i64 b.int) ∧ w'.cell? ⟨g, o + 7, none⟩ = some (.string b.text) := fun w' hb => ⟨cell_keep hb hs1.1, cell_keep hb hs1.2.1, cell_keep hb hs1.2.2.1, cell_keep hb hs1.2.2.2.1, cell_keep hb hs1.2.2.2.2.1, cell_keep hb hs1.2.2.2.2.2.1, cell_keep hb hs1.2.2.2.2.2.2.1, cell_keep hb hs1.2.2.2.2.2.2.2⟩
  have lg : g < w.heap.size := World.block_lt_of_cell? w _ hs0.1
  have n1 : w.heap.size ≠ g := by omega
  have HC := Lib.hid hcall
  have HW1 := Lib.hid hw1
  have HB1 := Lib.hid hb1
  have T1 := Lib.hid ht
  have S1 := Lib.hid hs1
  have HKEEP := Lib.hid hkeep
  clear hw1 hb1 ht hs1 hs0 hkeep hA hB hc hcall eX eX2 fa fb
  unfold Dat.agg at HC
  go_enter Tryz.func93, Tryz.ntmps93
  go_wp2_with fail
  rw [← HW1.out]
  obtain ⟨s0, s1, s2, s3, s4, s5, s6, s7⟩ := S1.out
  have hbS : Hid (Below w1.heap.size w1 w1) := Lib.hid (Below.refl _ _)
  go_region_held3 (fun w' => w'.cell? ⟨g, o, none⟩ = some (.int .u8 a.kind) ∧ w'.cell? ⟨g, o + 1, none⟩ = some (.bool a.bool) ∧ w'.cell? ⟨g, o + 2, none⟩ = some (.int .i64 a.int) ∧ w'.cell? ⟨g, o + 3, none⟩ = some (.string a.text) ∧ w'.cell? ⟨g, o + 4, none⟩ = some (.int .u8 b.kind) ∧ w'.cell? ⟨g, o + 5, none⟩ = some (.bool b.bool) ∧ w'.cell? ⟨g, o + 6, none⟩ = some (.int .i64 b.int) ∧ w'.cell? ⟨g, o + 7, none⟩ = some (.string b.text))
    (first | go_keep | exact HKEEP.out _ hbS.out | (simp only [cell_set_ne n1]; exact HKEEP.out _ hbS.out))
    (first
    | (go_at_call 143; (with_reducible refine (HC.out _).mono ?_); rintro ev w5 ⟨rfl, hb5⟩; have hbS : Hid (Below w1.heap.size w1 w5) := Lib.hid (by first | exact hb5 | exact below_undrew hb5 | exact below_undrewN hb5); have t5 := (hbS.out.block _ (lt_of_heap T1.out)).trans T1.out; have z0 := cell_of_heap (o := 0) t5 rfl; have g0 := frozen_of_heap (o := 0) t5; have z1 := cell_of_heap (o := 1) t5 rfl; have g1 := frozen_of_heap (o := 1) t5; have z2 := cell_of_heap (o := 2) t5 rfl; have g2 := frozen_of_heap (o := 2) t5; have z3 := cell_of_heap (o := 3) t5 rfl; have g3 := frozen_of_heap (o := 3) t5; have T5 := Lib.hid t5; clear hb5 t5; unfold resI Dat.agg))
  go_wp2
  refine bodyPost_ret (results_row_tmp rfl _ _ (w.heap.size) 25 _ (0, 0) _ rfl (setRow4_at T5.out) Tryz.underlying25 rfl (by kernel_rfl)) rfl ?_
  exact ⟨rfl, setRow4_below (HB1.out.trans (hbS.out.mono HB1.out.size)) (by show w.heap.size ≤ w.heap.size; omega)⟩

set_option maxRecDepth 100000 in
set_option maxHeartbeats 2000000 in
theorem done_12 (a b : Dat) (v : Value) (w : World) (fa : a.fits) (fb : b.fits) (hv : DatsOn (fun _ => True) w [a, b] v) : Calls Tryz.prog 93 #[.int .u8 12, v] w (RefPost (twoD 12 a b) w) := by
  obtain ⟨x, cc, rfl, -, hc⟩ := hv
  obtain ⟨g, o, rfl, -, hc⟩ := hc (by simp)
  have hA := hc 0 a rfl
  have hB := hc 1 b rfl
  have hcall := fun (W : World) => rcompare_143 12 a b W (by decide) (by decide) fa fb
  obtain ⟨X, eX⟩ : ∃ X, X = twoD 12 a b := ⟨_, rfl⟩
  rw [← eX]
  have eX2 : X = compD 12 a b := eX
  rw [← eX2] at hcall
  have hs0 : w.cell? ⟨g, o, none⟩ = some (.int .u8 a.kind) ∧ w.cell? ⟨g, o + 1, none⟩ = some (.bool a.bool) ∧ w.cell? ⟨g, o + 2, none⟩ = some (.int .i64 a.int) ∧ w.cell? ⟨g, o + 3, none⟩ = some (.string a.text) ∧ w.cell? ⟨g, o + 4, none⟩ = some (.int .u8 b.kind) ∧ w.cell? ⟨g, o + 5, none⟩ = some (.bool b.bool) ∧ w.cell? ⟨g, o + 6, none⟩ = some (.int .i64 b.int) ∧ w.cell? ⟨g, o + 7, none⟩ = some (.string b.text) := ⟨hA.1, hA.2.1, hA.2.2.1, hA.2.2.2, hB.1, hB.2.1, hB.2.2.1, hB.2.2.2⟩
  obtain ⟨w1, hw1⟩ : ∃ w1, w1 = w.alloc (.cells #[.int .u8 0, .bool false, .int .i64 0, .string ⟨#[]⟩] 25) := ⟨_, rfl⟩
  have hb1 : Below w.heap.size w w1 := by rw [hw1]; exact one_below _ _
  have ht : w1.heap[w.heap.size]? = some (.cells #[.int .u8 0, .bool false, .int .i64 0, .string ⟨#[]⟩] 25 (0, 0)) := by rw [hw1]; exact heap_alloc_new _ _
  have hs1 : w1.cell? ⟨g, o, none⟩ = some (.int .u8 a.kind) ∧ w1.cell? ⟨g, o + 1, none⟩ = some (.bool a.bool) ∧ w1.cell? ⟨g, o + 2, none⟩ = some (.int .i64 a.int) ∧ w1.cell? ⟨g, o + 3, none⟩ = some (.string a.text) ∧ w1.cell? ⟨g, o + 4, none⟩ = some (.int .u8 b.kind) ∧ w1.cell? ⟨g, o + 5, none⟩ = some (.bool b.bool) ∧ w1.cell? ⟨g, o + 6, none⟩ = some (.int .i64 b.int) ∧ w1.cell? ⟨g, o + 7, none⟩ = some (.string b.text) := (fun hb => ⟨cell_keep hb hs0.1, cell_keep hb hs0.2.1, cell_keep hb hs0.2.2.1, cell_keep hb hs0.2.2.2.1, cell_keep hb hs0.2.2.2.2.1, cell_keep hb hs0.2.2.2.2.2.1, cell_keep hb hs0.2.2.2.2.2.2.1, cell_keep hb hs0.2.2.2.2.2.2.2⟩) hb1
  have hkeep : ∀ (w' : World), Below w1.heap.size w1 w' → w'.cell? ⟨g, o, none⟩ = some (.int .u8 a.kind) ∧ w'.cell? ⟨g, o + 1, none⟩ = some (.bool a.bool) ∧ w'.cell? ⟨g, o + 2, none⟩ = some (.int .i64 a.int) ∧ w'.cell? ⟨g, o + 3, none⟩ = some (.string a.text) ∧ w'.cell? ⟨g, o + 4, none⟩ = some (.int .u8 b.kind) ∧ w'.cell? ⟨g, o + 5, none⟩ = some (.bool b.bool) ∧ w'.cell? ⟨g, o + 6, none⟩ = some (.int .i64 b.int) ∧ w'.cell? ⟨g, o + 7, none⟩ = some (.string b.text) := fun w' hb => ⟨cell_keep hb hs1.1, cell_keep hb hs1.2.1, cell_keep hb hs1.2.2.1, cell_keep hb hs1.2.2.2.1, cell_keep hb hs1.2.2.2.2.1, cell_keep hb hs1.2.2.2.2.2.1, cell_keep hb hs1.2.2.2.2.2.2.1, cell_keep hb hs1.2.2.2.2.2.2.2⟩
  have lg : g < w.heap.size := World.block_lt_of_cell? w _ hs0.1
  have n1 : w.heap.size ≠ g := by omega
  have HC := Lib.hid hcall
  have HW1 := Lib.hid hw1
  have HB1 := Lib.hid hb1
  have T1 := Lib.hid ht
  have S1 := Lib.hid hs1
  have HKEEP := Lib.hid hkeep
  clear hw1 hb1 ht hs1 hs0 hkeep hA hB hc hcall eX eX2 fa fb
  unfold Dat.agg at HC
  go_enter Tryz.func93, Tryz.ntmps93
  go_wp2_with fail
  rw [← HW1.out]
  obtain ⟨s0, s1, s2, s3, s4, s5, s6, s7⟩ := S1.out
  have hbS : Hid (Below w1.heap.size w1 w1) := Lib.hid (Below.refl _ _)
  go_region_held3 (fun w' => w'.cell? ⟨g, o, none⟩ = some (.int .u8 a.kind) ∧ w'.cell? ⟨g, o + 1, none⟩ = some (.bool a.bool) ∧ w'.cell? ⟨g, o + 2, none⟩ = some (.int .i64 a.int) ∧ w'.cell? ⟨g, o + 3, none⟩ = some (.string a.text) ∧ w'.cell? ⟨g, o + 4, none⟩ = some (.int .u8 b.kind) ∧ w'.cell? ⟨g, o + 5, none⟩ = some (.bool b.bool) ∧ w'.cell? ⟨g, o + 6, none⟩ = some (.int .i64 b.int) ∧ w'.cell? ⟨g, o + 7, none⟩ = some (.string b.text))
    (first | go_keep | exact HKEEP.out _ hbS.out | (simp only [cell_set_ne n1]; exact HKEEP.out _ hbS.out))
    (first
    | (go_at_call 143; (with_reducible refine (HC.out _).mono ?_); rintro ev w5 ⟨rfl, hb5⟩; have hbS : Hid (Below w1.heap.size w1 w5) := Lib.hid (by first | exact hb5 | exact below_undrew hb5 | exact below_undrewN hb5); have t5 := (hbS.out.block _ (lt_of_heap T1.out)).trans T1.out; have z0 := cell_of_heap (o := 0) t5 rfl; have g0 := frozen_of_heap (o := 0) t5; have z1 := cell_of_heap (o := 1) t5 rfl; have g1 := frozen_of_heap (o := 1) t5; have z2 := cell_of_heap (o := 2) t5 rfl; have g2 := frozen_of_heap (o := 2) t5; have z3 := cell_of_heap (o := 3) t5 rfl; have g3 := frozen_of_heap (o := 3) t5; have T5 := Lib.hid t5; clear hb5 t5; unfold resI Dat.agg))
  go_wp2
  refine bodyPost_ret (results_row_tmp rfl _ _ (w.heap.size) 25 _ (0, 0) _ rfl (setRow4_at T5.out) Tryz.underlying25 rfl (by kernel_rfl)) rfl ?_
  exact ⟨rfl, setRow4_below (HB1.out.trans (hbS.out.mono HB1.out.size)) (by show w.heap.size ≤ w.heap.size; omega)⟩

set_option maxRecDepth 100000 in
set_option maxHeartbeats 2000000 in
theorem done_13 (a b : Dat) (v : Value) (w : World) (fa : a.fits) (fb : b.fits) (hv : DatsOn (fun _ => True) w [a, b] v) : Calls Tryz.prog 93 #[.int .u8 13, v] w (RefPost (twoD 13 a b) w) := by
  obtain ⟨x, cc, rfl, -, hc⟩ := hv
  obtain ⟨g, o, rfl, -, hc⟩ := hc (by simp)
  have hA := hc 0 a rfl
  have hB := hc 1 b rfl
  have hcall := fun (W : World) => rcompare_143 13 a b W (by decide) (by decide) fa fb
  obtain ⟨X, eX⟩ : ∃ X, X = twoD 13 a b := ⟨_, rfl⟩
  rw [← eX]
  have eX2 : X = compD 13 a b := eX
  rw [← eX2] at hcall
  have hs0 : w.cell? ⟨g, o, none⟩ = some (.int .u8 a.kind) ∧ w.cell? ⟨g, o + 1, none⟩ = some (.bool a.bool) ∧ w.cell? ⟨g, o + 2, none⟩ = some (.int .i64 a.int) ∧ w.cell? ⟨g, o + 3, none⟩ = some (.string a.text) ∧ w.cell? ⟨g, o + 4, none⟩ = some (.int .u8 b.kind) ∧ w.cell? ⟨g, o + 5, none⟩ = some (.bool b.bool) ∧ w.cell? ⟨g, o + 6, none⟩ = some (.int .i64 b.int) ∧ w.cell? ⟨g, o + 7, none⟩ = some (.string b.text) := ⟨hA.1, hA.2.1, hA.2.2.1, hA.2.2.2, hB.1, hB.2.1, hB.2.2.1, hB.2.2.2⟩
  obtain ⟨w1, hw1⟩ : ∃ w1, w1 = w.alloc (.cells #[.int .u8 0, .bool false, .int .i64 0, .string ⟨#[]⟩] 25) := ⟨_, rfl⟩
  have hb1 : Below w.heap.size w w1 := by rw [hw1]; exact one_below _ _
  have ht : w1.heap[w.heap.size]? = some (.cells #[.int .u8 0, .bool false, .int .i64 0, .string ⟨#[]⟩] 25 (0, 0)) := by rw [hw1]; exact heap_alloc_new _ _
  have hs1 : w1.cell? ⟨g, o, none⟩ = some (.int .u8 a.kind) ∧ w1.cell? ⟨g, o + 1, none⟩ = some (.bool a.bool) ∧ w1.cell? ⟨g, o + 2, none⟩ = some (.int .i64 a.int) ∧ w1.cell? ⟨g, o + 3, none⟩ = some (.string a.text) ∧ w1.cell? ⟨g, o + 4, none⟩ = some (.int .u8 b.kind) ∧ w1.cell? ⟨g, o + 5, none⟩ = some (.bool b.bool) ∧ w1.cell? ⟨g, o + 6, none⟩ = some (.int .i64 b.int) ∧ w1.cell? ⟨g, o + 7, none⟩ = some (.string b.text) := (fun hb => ⟨cell_keep hb hs0.1, cell_keep hb hs0.2.1, cell_keep hb hs0.2.2.1, cell_keep hb hs0.2.2.2.1, cell_keep hb hs0.2.2.2.2.1, cell_keep hb hs0.2.2.2.2.2.1, cell_keep hb hs0.2.2.2.2.2.2.1, cell_keep hb hs0.2.2.2.2.2.2.2⟩) hb1
  have hkeep : ∀ (w' : World), Below w1.heap.size w1 w' → w'.cell? ⟨g, o, none⟩ = some (.int .u8 a.kind) ∧ w'.cell? ⟨g, o + 1, none⟩ = some (.bool a.bool) ∧ w'.cell? ⟨g, o + 2, none⟩ = some (.int .i64 a.int) ∧ w'.cell? ⟨g, o + 3, none⟩ = some (.string a.text) ∧ w'.cell? ⟨g, o + 4, none⟩ = some (.int .u8 b.kind) ∧ w'.cell? ⟨g, o + 5, none⟩ = some (.bool b.bool) ∧ w'.cell? ⟨g, o + 6, none⟩ = some (.int .i64 b.int) ∧ w'.cell? ⟨g, o + 7, none⟩ = some (.string b.text) := fun w' hb => ⟨cell_keep hb hs1.1, cell_keep hb hs1.2.1, cell_keep hb hs1.2.2.1, cell_keep hb hs1.2.2.2.1, cell_keep hb hs1.2.2.2.2.1, cell_keep hb hs1.2.2.2.2.2.1, cell_keep hb hs1.2.2.2.2.2.2.1, cell_keep hb hs1.2.2.2.2.2.2.2⟩
  have lg : g < w.heap.size := World.block_lt_of_cell? w _ hs0.1
  have n1 : w.heap.size ≠ g := by omega
  have HC := Lib.hid hcall
  have HW1 := Lib.hid hw1
  have HB1 := Lib.hid hb1
  have T1 := Lib.hid ht
  have S1 := Lib.hid hs1
  have HKEEP := Lib.hid hkeep
  clear hw1 hb1 ht hs1 hs0 hkeep hA hB hc hcall eX eX2 fa fb
  unfold Dat.agg at HC
  go_enter Tryz.func93, Tryz.ntmps93
  go_wp2_with fail
  rw [← HW1.out]
  obtain ⟨s0, s1, s2, s3, s4, s5, s6, s7⟩ := S1.out
  have hbS : Hid (Below w1.heap.size w1 w1) := Lib.hid (Below.refl _ _)
  go_region_held3 (fun w' => w'.cell? ⟨g, o, none⟩ = some (.int .u8 a.kind) ∧ w'.cell? ⟨g, o + 1, none⟩ = some (.bool a.bool) ∧ w'.cell? ⟨g, o + 2, none⟩ = some (.int .i64 a.int) ∧ w'.cell? ⟨g, o + 3, none⟩ = some (.string a.text) ∧ w'.cell? ⟨g, o + 4, none⟩ = some (.int .u8 b.kind) ∧ w'.cell? ⟨g, o + 5, none⟩ = some (.bool b.bool) ∧ w'.cell? ⟨g, o + 6, none⟩ = some (.int .i64 b.int) ∧ w'.cell? ⟨g, o + 7, none⟩ = some (.string b.text))
    (first | go_keep | exact HKEEP.out _ hbS.out | (simp only [cell_set_ne n1]; exact HKEEP.out _ hbS.out))
    (first
    | (go_at_call 143; (with_reducible refine (HC.out _).mono ?_); rintro ev w5 ⟨rfl, hb5⟩; have hbS : Hid (Below w1.heap.size w1 w5) := Lib.hid (by first | exact hb5 | exact below_undrew hb5 | exact below_undrewN hb5); have t5 := (hbS.out.block _ (lt_of_heap T1.out)).trans T1.out; have z0 := cell_of_heap (o := 0) t5 rfl; have g0 := frozen_of_heap (o := 0) t5; have z1 := cell_of_heap (o := 1) t5 rfl; have g1 := frozen_of_heap (o := 1) t5; have z2 := cell_of_heap (o := 2) t5 rfl; have g2 := frozen_of_heap (o := 2) t5; have z3 := cell_of_heap (o := 3) t5 rfl; have g3 := frozen_of_heap (o := 3) t5; have T5 := Lib.hid t5; clear hb5 t5; unfold resI Dat.agg))
  go_wp2
  refine bodyPost_ret (results_row_tmp rfl _ _ (w.heap.size) 25 _ (0, 0) _ rfl (setRow4_at T5.out) Tryz.underlying25 rfl (by kernel_rfl)) rfl ?_
  exact ⟨rfl, setRow4_below (HB1.out.trans (hbS.out.mono HB1.out.size)) (by show w.heap.size ≤ w.heap.size; omega)⟩

set_option maxRecDepth 100000 in
set_option maxHeartbeats 2000000 in
theorem done_14 (a b : Dat) (v : Value) (w : World) (fa : a.fits) (fb : b.fits) (hv : DatsOn (fun _ => True) w [a, b] v) : Calls Tryz.prog 93 #[.int .u8 14, v] w (RefPost (twoD 14 a b) w) := by
  obtain ⟨x, cc, rfl, -, hc⟩ := hv
  obtain ⟨g, o, rfl, -, hc⟩ := hc (by simp)
  have hA := hc 0 a rfl
  have hB := hc 1 b rfl
  have hcall := fun (W : World) => rcompare_143 14 a b W (by decide) (by decide) fa fb
  obtain ⟨X, eX⟩ : ∃ X, X = twoD 14 a b := ⟨_, rfl⟩
  rw [← eX]
  have eX2 : X = compD 14 a b := eX
  rw [← eX2] at hcall
  have hs0 : w.cell? ⟨g, o, none⟩ = some (.int .u8 a.kind) ∧ w.cell? ⟨g, o + 1, none⟩ = some (.bool a.bool) ∧ w.cell? ⟨g, o + 2, none⟩ = some (.int .i64 a.int) ∧ w.cell? ⟨g, o + 3, none⟩ = some (.string a.text) ∧ w.cell? ⟨g, o + 4, none⟩ = some (.int .u8 b.kind) ∧ w.cell? ⟨g, o + 5, none⟩ = some (.bool b.bool) ∧ w.cell? ⟨g, o + 6, none⟩ = some (.int .i64 b.int) ∧ w.cell? ⟨g, o + 7, none⟩ = some (.string b.text) := ⟨hA.1, hA.2.1, hA.2.2.1, hA.2.2.2, hB.1, hB.2.1, hB.2.2.1, hB.2.2.2⟩
  obtain ⟨w1, hw1⟩ : ∃ w1, w1 = w.alloc (.cells #[.int .u8 0, .bool false, .int .i64 0, .string ⟨#[]⟩] 25) := ⟨_, rfl⟩
  have hb1 : Below w.heap.size w w1 := by rw [hw1]; exact one_below _ _
  have ht : w1.heap[w.heap.size]? = some (.cells #[.int .u8 0, .bool false, .int .i64 0, .string ⟨#[]⟩] 25 (0, 0)) := by rw [hw1]; exact heap_alloc_new _ _
  have hs1 : w1.cell? ⟨g, o, none⟩ = some (.int .u8 a.kind) ∧ w1.cell? ⟨g, o + 1, none⟩ = some (.bool a.bool) ∧ w1.cell? ⟨g, o + 2, none⟩ = some (.int .i64 a.int) ∧ w1.cell? ⟨g, o + 3, none⟩ = some (.string a.text) ∧ w1.cell? ⟨g, o + 4, none⟩ = some (.int .u8 b.kind) ∧ w1.cell? ⟨g, o + 5, none⟩ = some (.bool b.bool) ∧ w1.cell? ⟨g, o + 6, none⟩ = some (.int .i64 b.int) ∧ w1.cell? ⟨g, o + 7, none⟩ = some (.string b.text) := (fun hb => ⟨cell_keep hb hs0.1, cell_keep hb hs0.2.1, cell_keep hb hs0.2.2.1, cell_keep hb hs0.2.2.2.1, cell_keep hb hs0.2.2.2.2.1, cell_keep hb hs0.2.2.2.2.2.1, cell_keep hb hs0.2.2.2.2.2.2.1, cell_keep hb hs0.2.2.2.2.2.2.2⟩) hb1
  have hkeep : ∀ (w' : World), Below w1.heap.size w1 w' → w'.cell? ⟨g, o, none⟩ = some (.int .u8 a.kind) ∧ w'.cell? ⟨g, o + 1, none⟩ = some (.bool a.bool) ∧ w'.cell? ⟨g, o + 2, none⟩ = some (.int .i64 a.int) ∧ w'.cell? ⟨g, o + 3, none⟩ = some (.string a.text) ∧ w'.cell? ⟨g, o + 4, none⟩ = some (.int .u8 b.kind) ∧ w'.cell? ⟨g, o + 5, none⟩ = some (.bool b.bool) ∧ w'.cell? ⟨g, o + 6, none⟩ = some (.int .i64 b.int) ∧ w'.cell? ⟨g, o + 7, none⟩ = some (.string b.text) := fun w' hb => ⟨cell_keep hb hs1.1, cell_keep hb hs1.2.1, cell_keep hb hs1.2.2.1, cell_keep hb hs1.2.2.2.1, cell_keep hb hs1.2.2.2.2.1, cell_keep hb hs1.2.2.2.2.2.1, cell_keep hb hs1.2.2.2.2.2.2.1, cell_keep hb hs1.2.2.2.2.2.2.2⟩
  have lg : g < w.heap.size := World.block_lt_of_cell? w _ hs0.1
  have n1 : w.heap.size ≠ g := by omega
  have HC := Lib.hid hcall
  have HW1 := Lib.hid hw1
  have HB1 := Lib.hid hb1
  have T1 := Lib.hid ht
  have S1 := Lib.hid hs1
  have HKEEP := Lib.hid hkeep
  clear hw1 hb1 ht hs1 hs0 hkeep hA hB hc hcall eX eX2 fa fb
  unfold Dat.agg at HC
  go_enter Tryz.func93, Tryz.ntmps93
  go_wp2_with fail
  rw [← HW1.out]
  obtain ⟨s0, s1, s2, s3, s4, s5, s6, s7⟩ := S1.out
  have hbS : Hid (Below w1.heap.size w1 w1) := Lib.hid (Below.refl _ _)
  go_region_held3 (fun w' => w'.cell? ⟨g, o, none⟩ = some (.int .u8 a.kind) ∧ w'.cell? ⟨g, o + 1, none⟩ = some (.bool a.bool) ∧ w'.cell? ⟨g, o + 2, none⟩ = some (.int .i64 a.int) ∧ w'.cell? ⟨g, o + 3, none⟩ = some (.string a.text) ∧ w'.cell? ⟨g, o + 4, none⟩ = some (.int .u8 b.kind) ∧ w'.cell? ⟨g, o + 5, none⟩ = some (.bool b.bool) ∧ w'.cell? ⟨g, o + 6, none⟩ = some (.int .i64 b.int) ∧ w'.cell? ⟨g, o + 7, none⟩ = some (.string b.text))
    (first | go_keep | exact HKEEP.out _ hbS.out | (simp only [cell_set_ne n1]; exact HKEEP.out _ hbS.out))
    (first
    | (go_at_call 143; (with_reducible refine (HC.out _).mono ?_); rintro ev w5 ⟨rfl, hb5⟩; have hbS : Hid (Below w1.heap.size w1 w5) := Lib.hid (by first | exact hb5 | exact below_undrew hb5 | exact below_undrewN hb5); have t5 := (hbS.out.block _ (lt_of_heap T1.out)).trans T1.out; have z0 := cell_of_heap (o := 0) t5 rfl; have g0 := frozen_of_heap (o := 0) t5; have z1 := cell_of_heap (o := 1) t5 rfl; have g1 := frozen_of_heap (o := 1) t5; have z2 := cell_of_heap (o := 2) t5 rfl; have g2 := frozen_of_heap (o := 2) t5; have z3 := cell_of_heap (o := 3) t5 rfl; have g3 := frozen_of_heap (o := 3) t5; have T5 := Lib.hid t5; clear hb5 t5; unfold resI Dat.agg))
  go_wp2
  refine bodyPost_ret (results_row_tmp rfl _ _ (w.heap.size) 25 _ (0, 0) _ rfl (setRow4_at T5.out) Tryz.underlying25 rfl (by kernel_rfl)) rfl ?_
  exact ⟨rfl, setRow4_below (HB1.out.trans (hbS.out.mono HB1.out.size)) (by show w.heap.size ≤ w.heap.size; omega)⟩

set_option maxRecDepth 100000 in
set_option maxHeartbeats 2000000 in
theorem done_15 (a b : Dat) (v : Value) (w : World) (fa : a.fits) (fb : b.fits) (hv : DatsOn (fun _ => True) w [a, b] v) : Calls Tryz.prog 93 #[.int .u8 15, v] w (RefPost (twoD 15 a b) w) := by
  obtain ⟨x, cc, rfl, -, hc⟩ := hv
  obtain ⟨g, o, rfl, -, hc⟩ := hc (by simp)
  have hA := hc 0 a rfl
  have hB := hc 1 b rfl
  have hcall := fun (W : World) => rcompare_143 15 a b W (by decide) (by decide) fa fb
  obtain ⟨X, eX⟩ : ∃ X, X = twoD 15 a b := ⟨_, rfl⟩
  rw [← eX]
  have eX2 : X = compD 15 a b := eX
  rw [← eX2] at hcall
  have hs0 : w.cell? ⟨g, o, none⟩ = some (.int .u8 a.kind) ∧ w.cell? ⟨g, o + 1, none⟩ = some (.bool a.bool) ∧ w.cell? ⟨g, o + 2, none⟩ = some (.int .i64 a.int) ∧ w.cell? ⟨g, o + 3, none⟩ = some (.string a.text) ∧ w.cell? ⟨g, o + 4, none⟩ = some (.int .u8 b.kind) ∧ w.cell? ⟨g, o + 5, none⟩ = some (.bool b.bool) ∧ w.cell? ⟨g, o + 6, none⟩ = some (.int .i64 b.int) ∧ w.cell? ⟨g, o + 7, none⟩ = some (.string b.text) := ⟨hA.1, hA.2.1, hA.2.2.1, hA.2.2.2, hB.1, hB.2.1, hB.2.2.1, hB.2.2.2⟩
  obtain ⟨w1, hw1⟩ : ∃ w1, w1 = w.alloc (.cells #[.int .u8 0, .bool false, .int .i64 0, .string ⟨#[]⟩] 25) := ⟨_, rfl⟩
  have hb1 : Below w.heap.size w w1 := by rw [hw1]; exact one_below _ _
  have ht : w1.heap[w.heap.size]? = some (.cells #[.int .u8 0, .bool false, .int .i64 0, .string ⟨#[]⟩] 25 (0, 0)) := by rw [hw1]; exact heap_alloc_new _ _
  have hs1 : w1.cell? ⟨g, o, none⟩ = some (.int .u8 a.kind) ∧ w1.cell? ⟨g, o + 1, none⟩ = some (.bool a.bool) ∧ w1.cell? ⟨g, o + 2, none⟩ = some (.int .i64 a.int) ∧ w1.cell? ⟨g, o + 3, none⟩ = some (.string a.text) ∧ w1.cell? ⟨g, o + 4, none⟩ = some (.int .u8 b.kind) ∧ w1.cell? ⟨g, o + 5, none⟩ = some (.bool b.bool) ∧ w1.cell? ⟨g, o + 6, none⟩ = some (.int .i64 b.int) ∧ w1.cell? ⟨g, o + 7, none⟩ = some (.string b.text) := (fun hb => ⟨cell_keep hb hs0.1, cell_keep hb hs0.2.1, cell_keep hb hs0.2.2.1, cell_keep hb hs0.2.2.2.1, cell_keep hb hs0.2.2.2.2.1, cell_keep hb hs0.2.2.2.2.2.1, cell_keep hb hs0.2.2.2.2.2.2.1, cell_keep hb hs0.2.2.2.2.2.2.2⟩) hb1
  have hkeep : ∀ (w' : World), Below w1.heap.size w1 w' → w'.cell? ⟨g, o, none⟩ = some (.int .u8 a.kind) ∧ w'.cell? ⟨g, o + 1, none⟩ = some (.bool a.bool) ∧ w'.cell? ⟨g, o + 2, none⟩ = some (.int .i64 a.int) ∧ w'.cell? ⟨g, o + 3, none⟩ = some (.string a.text) ∧ w'.cell? ⟨g, o + 4, none⟩ = some (.int .u8 b.kind) ∧ w'.cell? ⟨g, o + 5, none⟩ = some (.bool b.bool) ∧ w'.cell? ⟨g, o + 6, none⟩ = some (.int .i64 b.int) ∧ w'.cell? ⟨g, o + 7, none⟩ = some (.string b.text) := fun w' hb => ⟨cell_keep hb hs1.1, cell_keep hb hs1.2.1, cell_keep hb hs1.2.2.1, cell_keep hb hs1.2.2.2.1, cell_keep hb hs1.2.2.2.2.1, cell_keep hb hs1.2.2.2.2.2.1, cell_keep hb hs1.2.2.2.2.2.2.1, cell_keep hb hs1.2.2.2.2.2.2.2⟩
  have lg : g < w.heap.size := World.block_lt_of_cell? w _ hs0.1
  have n1 : w.heap.size ≠ g := by omega
  have HC := Lib.hid hcall
  have HW1 := Lib.hid hw1
  have HB1 := Lib.hid hb1
  have T1 := Lib.hid ht
  have S1 := Lib.hid hs1
  have HKEEP := Lib.hid hkeep
  clear hw1 hb1 ht hs1 hs0 hkeep hA hB hc hcall eX eX2 fa fb
  unfold Dat.agg at HC
  go_enter Tryz.func93, Tryz.ntmps93
  go_wp2_with fail
  rw [← HW1.out]
  obtain ⟨s0, s1, s2, s3, s4, s5, s6, s7⟩ := S1.out
  have hbS : Hid (Below w1.heap.size w1 w1) := Lib.hid (Below.refl _ _)
  go_region_held3 (fun w' => w'.cell? ⟨g, o, none⟩ = some (.int .u8 a.kind) ∧ w'.cell? ⟨g, o + 1, none⟩ = some (.bool a.bool) ∧ w'.cell? ⟨g, o + 2, none⟩ = some (.int .i64 a.int) ∧ w'.cell? ⟨g, o + 3, none⟩ = some (.string a.text) ∧ w'.cell? ⟨g, o + 4, none⟩ = some (.int .u8 b.kind) ∧ w'.cell? ⟨g, o + 5, none⟩ = some (.bool b.bool) ∧ w'.cell? ⟨g, o + 6, none⟩ = some (.int .i64 b.int) ∧ w'.cell? ⟨g, o + 7, none⟩ = some (.string b.text))
    (first | go_keep | exact HKEEP.out _ hbS.out | (simp only [cell_set_ne n1]; exact HKEEP.out _ hbS.out))
    (first
    | (go_at_call 143; (with_reducible refine (HC.out _).mono ?_); rintro ev w5 ⟨rfl, hb5⟩; have hbS : Hid (Below w1.heap.size w1 w5) := Lib.hid (by first | exact hb5 | exact below_undrew hb5 | exact below_undrewN hb5); have t5 := (hbS.out.block _ (lt_of_heap T1.out)).trans T1.out; have z0 := cell_of_heap (o := 0) t5 rfl; have g0 := frozen_of_heap (o := 0) t5; have z1 := cell_of_heap (o := 1) t5 rfl; have g1 := frozen_of_heap (o := 1) t5; have z2 := cell_of_heap (o := 2) t5 rfl; have g2 := frozen_of_heap (o := 2) t5; have z3 := cell_of_heap (o := 3) t5 rfl; have g3 := frozen_of_heap (o := 3) t5; have T5 := Lib.hid t5; clear hb5 t5; unfold resI Dat.agg))
  go_wp2
  refine bodyPost_ret (results_row_tmp rfl _ _ (w.heap.size) 25 _ (0, 0) _ rfl (setRow4_at T5.out) Tryz.underlying25 rfl (by kernel_rfl)) rfl ?_
  exact ⟨rfl, setRow4_below (HB1.out.trans (hbS.out.mono HB1.out.size)) (by show w.heap.size ≤ w.heap.size; omega)⟩

set_option maxRecDepth 100000 in
set_option maxHeartbeats 2000000 in
theorem done_16 (a b : Dat) (v : Value) (w : World) (fa : a.fits) (fb : b.fits) (hv : DatsOn (fun _ => True) w [a, b] v) : Calls Tryz.prog 93 #[.int .u8 16, v] w (RefPost (twoD 16 a b) w) := by
  obtain ⟨x, cc, rfl, -, hc⟩ := hv
  obtain ⟨g, o, rfl, -, hc⟩ := hc (by simp)
  have hA := hc 0 a rfl
  have hB := hc 1 b rfl
  have hcall := fun (W : World) => rcompare_143 16 a b W (by decide) (by decide) fa fb
  obtain ⟨X, eX⟩ : ∃ X, X = twoD 16 a b := ⟨_, rfl⟩
  rw [← eX]
  have eX2 : X = compD 16 a b := eX
  rw [← eX2] at hcall
  have hs0 : w.cell? ⟨g, o, none⟩ = some (.int .u8 a.kind) ∧ w.cell? ⟨g, o + 1, none⟩ = some (.bool a.bool) ∧ w.cell? ⟨g, o + 2, none⟩ = some (.int .i64 a.int) ∧ w.cell? ⟨g, o + 3, none⟩ = some (.string a.text) ∧ w.cell? ⟨g, o + 4, none⟩ = some (.int .u8 b.kind) ∧ w.cell? ⟨g, o + 5, none⟩ = some (.bool b.bool) ∧ w.cell? ⟨g, o + 6, none⟩ = some (.int .i64 b.int) ∧ w.cell? ⟨g, o + 7, none⟩ = some (.string b.text) := ⟨hA.1, hA.2.1, hA.2.2.1, hA.2.2.2, hB.1, hB.2.1, hB.2.2.1, hB.2.2.2⟩
  obtain ⟨w1, hw1⟩ : ∃ w1, w1 = w.alloc (.cells #[.int .u8 0, .bool false, .int .i64 0, .string ⟨#[]⟩] 25) := ⟨_, rfl⟩
  have hb1 : Below w.heap.size w w1 := by rw [hw1]; exact one_below _ _
  have ht : w1.heap[w.heap.size]? = some (.cells #[.int .u8 0, .bool false, .int .i64 0, .string ⟨#[]⟩] 25 (0, 0)) := by rw [hw1]; exact heap_alloc_new _ _
  have hs1 : w1.cell? ⟨g, o, none⟩ = some (.int .u8 a.kind) ∧ w1.cell? ⟨g, o + 1, none⟩ = some (.bool a.bool) ∧ w1.cell? ⟨g, o + 2, none⟩ = some (.int .i64 a.int) ∧ w1.cell? ⟨g, o + 3, none⟩ = some (.string a.text) ∧ w1.cell? ⟨g, o + 4, none⟩ = some (.int .u8 b.kind) ∧ w1.cell? ⟨g, o + 5, none⟩ = some (.bool b.bool) ∧ w1.cell? ⟨g, o + 6, none⟩ = some (.int .i64 b.int) ∧ w1.cell? ⟨g, o + 7, none⟩ = some (.string b.text) := (fun hb => ⟨cell_keep hb hs0.1, cell_keep hb hs0.2.1, cell_keep hb hs0.2.2.1, cell_keep hb hs0.2.2.2.1, cell_keep hb hs0.2.2.2.2.1, cell_keep hb hs0.2.2.2.2.2.1, cell_keep hb hs0.2.2.2.2.2.2.1, cell_keep hb hs0.2.2.2.2.2.2.2⟩) hb1
  have hkeep : ∀ (w' : World), Below w1.heap.size w1 w' → w'.cell? ⟨g, o, none⟩ = some (.int .u8 a.kind) ∧ w'.cell? ⟨g, o + 1, none⟩ = some (.bool a.bool) ∧ w'.cell? ⟨g, o + 2, none⟩ = some (.int .i64 a.int) ∧ w'.cell? ⟨g, o + 3, none⟩ = some (.string a.text) ∧ w'.cell? ⟨g, o + 4, none⟩ = some (.int .u8 b.kind) ∧ w'.cell? ⟨g, o + 5, none⟩ = some (.bool b.bool) ∧ w'.cell? ⟨g, o + 6, none⟩ = some (.int .i64 b.int) ∧ w'.cell? ⟨g, o + 7, none⟩ = some (.string b.text) := fun w' hb => ⟨cell_keep hb hs1.1, cell_keep hb hs1.2.1, cell_keep hb hs1.2.2.1, cell_keep hb hs1.2.2.2.1, cell_keep hb hs1.2.2.2.2.1, cell_keep hb hs1.2.2.2.2.2.1, cell_keep hb hs1.2.2.2.2.2.2.1, cell_keep hb hs1.2.2.2.2.2.2.2⟩
  have lg : g < w.heap.size := World.block_lt_of_cell? w _ hs0.1
  have n1 : w.heap.size ≠ g := by omega
  have HC := Lib.hid hcall
  have HW1 := Lib.hid hw1
  have HB1 := Lib.hid hb1
  have T1 := Lib.hid ht
  have S1 := Lib.hid hs1
  have HKEEP := Lib.hid hkeep
  clear hw1 hb1 ht hs1 hs0 hkeep hA hB hc hcall eX eX2 fa fb
  unfold Dat.agg at HC
  go_enter Tryz.func93, Tryz.ntmps93
  go_wp2_with fail
  rw [← HW1.out]
  obtain ⟨s0, s1, s2, s3, s4, s5, s6, s7⟩ := S1.out
  have hbS : Hid (Below w1.heap.size w1 w1) := Lib.hid (Below.refl _ _)
  go_region_held3 (fun w' => w'.cell? ⟨g, o, none⟩ = some (.int .u8 a.kind) ∧ w'.cell? ⟨g, o + 1, none⟩ = some (.bool a.bool) ∧ w'.cell? ⟨g, o + 2, none⟩ = some (.int .i64 a.int) ∧ w'.cell? ⟨g, o + 3, none⟩ = some (.string a.text) ∧ w'.cell? ⟨g, o + 4, none⟩ = some (.int .u8 b.kind) ∧ w'.cell? ⟨g, o + 5, none⟩ = some (.bool b.bool) ∧ w'.cell? ⟨g, o + 6, none⟩ = some (.int .i64 b.int) ∧ w'.cell? ⟨g, o + 7, none⟩ = some (.string b.text))
    (first | go_keep | exact HKEEP.out _ hbS.out | (simp only [cell_set_ne n1]; exact HKEEP.out _ hbS.out))
    (first
    | (go_at_call 143; (with_reducible refine (HC.out _).mono ?_); rintro ev w5 ⟨rfl, hb5⟩; have hbS : Hid (Below w1.heap.size w1 w5) := Lib.hid (by first | exact hb5 | exact below_undrew hb5 | exact below_undrewN hb5); have t5 := (hbS.out.block _ (lt_of_heap T1.out)).trans T1.out; have z0 := cell_of_heap (o := 0) t5 rfl; have g0 := frozen_of_heap (o := 0) t5; have z1 := cell_of_heap (o := 1) t5 rfl; have g1 := frozen_of_heap (o := 1) t5; have z2 := cell_of_heap (o := 2) t5 rfl; have g2 := frozen_of_heap (o := 2) t5; have z3 := cell_of_heap (o := 3) t5 rfl; have g3 := frozen_of_heap (o := 3) t5; have T5 := Lib.hid t5; clear hb5 t5; unfold resI Dat.agg))
  go_wp2
  refine bodyPost_ret (results_row_tmp rfl _ _ (w.heap.size) 25 _ (0, 0) _ rfl (setRow4_at T5.out) Tryz.underlying25 rfl (by kernel_rfl)) rfl ?_
  exact ⟨rfl, setRow4_below (HB1.out.trans (hbS.out.mono HB1.out.size)) (by show w.heap.size ≤ w.heap.size; omega)⟩

end Go.Proofs.YtolikaginhjbhaaGreatDoor
