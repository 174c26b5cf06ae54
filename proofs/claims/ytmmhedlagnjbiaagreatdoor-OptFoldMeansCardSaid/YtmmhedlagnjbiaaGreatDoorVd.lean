import Derived.Test.YtmmhedlagnjbiaaGreatDoorVc
/- our texts, shortened by program (pack.py) -/
set_option maxRecDepth 100000
set_option maxHeartbeats 16000000
namespace Go.Proofs.YtmmhedlagnjbiaaGreatDoor
open Go.RowKit Go.Pen Go.Shelf
attribute [local go_sem ↓] Go.wp_at_zero Go.wp_at_succ
attribute [local go_sem] Oper.semAt_some
theorem rsub_136 (a b : Dat) (w : World) (fa : a.fits) (fb : b.fits) : Calls Tryz.prog 77 #[a.agg, b.agg] w (RefPost (subD a b) w) := by
 obtain ⟨X, eX⟩ : ∃ X, X = subD a b := ⟨_, rfl⟩
 rw [← eX]
 have fi := fa.2.1
 have fj := fb.2.1
 obtain ⟨s, hs⟩ : ∃ s, wrap64 (a.int - b.int) = s := ⟨_, rfl⟩
 have hs2 : s = wrap64 (a.int - b.int) := hs.symm
 have HS := Lib.hid hs2
 obtain ⟨w1, hw1⟩ : ∃ w1, w1 = ((w.alloc (.cells #[.int .u8 a.kind, .bool a.bool, .int .i64 a.int, .string a.text] 25)).alloc (.cells #[.int .u8 b.kind, .bool b.bool, .int .i64 b.int, .string b.text] 25)).alloc (.cells #[.int .u8 0, .bool false, .int .i64 0, .string ⟨#[]⟩] 25) := ⟨_, rfl⟩
 have hb1 : Below w.heap.size w w1 := by rw [hw1]; exact three_below _ _ _ _
 have ht := three_at (w := w) (w1 := w1) (a := .cells #[.int .u8 a.kind, .bool a.bool, .int .i64 a.int, .string a.text] 25) (b := .cells #[.int .u8 b.kind, .bool b.bool, .int .i64 b.int, .string b.text] 25) (c := .cells #[.int .u8 0, .bool false, .int .i64 0, .string ⟨#[]⟩] 25) (by rw [hw1]; exact Below.refl _ _)
 have hs1 : w1.cell? ⟨w.heap.size, 0, none⟩ = some (.int .u8 a.kind) ∧ w1.cell? ⟨w.heap.size, 1, none⟩ = some (.bool a.bool) ∧ w1.cell? ⟨w.heap.size, 2, none⟩ = some (.int .i64 a.int) ∧ w1.cell? ⟨w.heap.size, 3, none⟩ = some (.string a.text) ∧ w1.cell? ⟨w.heap.size + 1, 0, none⟩ = some (.int .u8 b.kind) ∧ w1.cell? ⟨w.heap.size + 1, 1, none⟩ = some (.bool b.bool) ∧ w1.cell? ⟨w.heap.size + 1, 2, none⟩ = some (.int .i64 b.int) ∧ w1.cell? ⟨w.heap.size + 1, 3, none⟩ = some (.string b.text) := ⟨cell_of_heap ht.1 rfl, cell_of_heap ht.1 rfl, cell_of_heap ht.1 rfl, cell_of_heap ht.1 rfl, cell_of_heap ht.2.1 rfl, cell_of_heap ht.2.1 rfl, cell_of_heap ht.2.1 rfl, cell_of_heap ht.2.1 rfl⟩
 have hkeep : ∀ (w' : World), Below w1.heap.size w1 w' → w'.cell? ⟨w.heap.size, 0, none⟩ = some (.int .u8 a.kind) ∧ w'.cell? ⟨w.heap.size, 1, none⟩ = some (.bool a.bool) ∧ w'.cell? ⟨w.heap.size, 2, none⟩ = some (.int .i64 a.int) ∧ w'.cell? ⟨w.heap.size, 3, none⟩ = some (.string a.text) ∧ w'.cell? ⟨w.heap.size + 1, 0, none⟩ = some (.int .u8 b.kind) ∧ w'.cell? ⟨w.heap.size + 1, 1, none⟩ = some (.bool b.bool) ∧ w'.cell? ⟨w.heap.size + 1, 2, none⟩ = some (.int .i64 b.int) ∧ w'.cell? ⟨w.heap.size + 1, 3, none⟩ = some (.string b.text) := fun w' hb => ⟨cell_keep hb hs1.1, cell_keep hb hs1.2.1, cell_keep hb hs1.2.2.1, cell_keep hb hs1.2.2.2.1, cell_keep hb hs1.2.2.2.2.1, cell_keep hb hs1.2.2.2.2.2.1, cell_keep hb hs1.2.2.2.2.2.2.1, cell_keep hb hs1.2.2.2.2.2.2.2⟩
 have HW1 := Lib.hid hw1
 have HB1 := Lib.hid hb1
 have T1 := Lib.hid ht.2.2
 have S1 := Lib.hid hs1
 have HKEEP := Lib.hid hkeep
 clear hw1 hb1 ht hs1 hkeep
 unfold Dat.agg
 cases d0 : decide (0 ≤ a.int) <;> cases d2 : decide (s < 0) <;> cases d4 : decide (b.int < 0) <;> cases d5 : decide (0 < b.int)
 all_goals (try (exfalso; have := HS.out; unfold wrap64 at this; simp at d0 d2 d4 d5; omega))
 all_goals
  first | (have d1 : decide (a.int < 0) = true := by simp at d0; simp; omega) | (have d1 : decide (a.int < 0) = false := by simp at d0; simp; omega)
  first | (have d3 : decide (0 ≤ s) = true := by simp at d2; simp; omega) | (have d3 : decide (0 ≤ s) = false := by simp at d2; simp; omega)
  first
   | (have hnum : ∀ (W : World) (g : Nat), W.heap[g]? = some (.cells #[.int .u8 a.kind, .bool a.bool, .int .i64 a.int, .string a.text, .int .u8 b.kind, .bool b.bool, .int .i64 b.int, .string b.text] 25 (0, 0)) → Calls Tryz.prog 102 #[.int .i64 s, .int .i64 10, .slice (some ⟨g, 0, none⟩) 2 2] W (RefPost X W) := fun W g hg => (by
    have h := num_two a b fa fb s 10 (by decide) W g hg
    rw [show numR s 10 = ov (a.int - b.int) from (numR_over (by have := HS.out; unfold wrap64 at this; simp at d0 d2 d4 d5; omega))] at h
    rw [eX]
    exact h))
   | (have hnum : ∀ (W : World) (g : Nat), W.heap[g]? = some (.cells #[.int .u8 a.kind, .bool a.bool, .int .i64 a.int, .string a.text, .int .u8 b.kind, .bool b.bool, .int .i64 b.int, .string b.text] 25 (0, 0)) → Calls Tryz.prog 102 #[.int .i64 s, .int .i64 0, .slice (some ⟨g, 0, none⟩) 2 2] W (RefPost X W) := fun W g hg => (by
    have h := num_two a b fa fb s 0 (by decide) W g hg
    rw [show numR s 0 = ov (a.int - b.int) from (numR_ok (by have := HS.out; unfold wrap64 at this; simp at d0 d2 d4 d5; omega) (by have := HS.out; unfold wrap64 at this; simp at d0 d2 d4 d5; omega))] at h
    rw [eX]
    exact h))
  have HNUM := Lib.hid hnum
  clear hnum eX fa fb fi fj hs2
  go_enter Tryz.func77, Tryz.ntmps77
  go_wp2_with fail
  rw [← HW1.out]
  obtain ⟨s0, s1, s2, s3, s4, s5, s6, s7⟩ := S1.out
  have n1 : w.heap.size + 1 + 1 ≠ w.heap.size := by omega
  have n2 : w.heap.size + 1 + 1 ≠ w.heap.size + 1 := by omega
  have hbA : Hid (Below w1.heap.size w1 (w1.alloc (.cells #[.int .u8 a.kind, .bool a.bool, .int .i64 a.int, .string a.text, .int .u8 b.kind, .bool b.bool, .int .i64 b.int, .string b.text] 25)).drew) := Lib.hid (below_drew1 (one_below _ _))
  refine wp_region_held_drew (S := fun w' => w'.cell? ⟨w.heap.size, 0, none⟩ = some (.int .u8 a.kind) ∧ w'.cell? ⟨w.heap.size, 1, none⟩ = some (.bool a.bool) ∧ w'.cell? ⟨w.heap.size, 2, none⟩ = some (.int .i64 a.int) ∧ w'.cell? ⟨w.heap.size, 3, none⟩ = some (.string a.text) ∧ w'.cell? ⟨w.heap.size + 1, 0, none⟩ = some (.int .u8 b.kind) ∧ w'.cell? ⟨w.heap.size + 1, 1, none⟩ = some (.bool b.bool) ∧ w'.cell? ⟨w.heap.size + 1, 2, none⟩ = some (.int .i64 b.int) ∧ w'.cell? ⟨w.heap.size + 1, 3, none⟩ = some (.string b.text)) (by kernel_rfl) ⟨s0, s1, s2, s3, s4, s5, s6, s7⟩ (fun hHeld => ?_)
  first | (refine wpAnyH_take (i := 0) (oi := ⟨some 12, _, _, _, _, _⟩) (v := ?_) rfl (by kernel_rfl) (by kernel_rfl) (by kernel_rfl) (fun _ _ _ h => h) (Or.inl ⟨by rfl, ?_⟩) (by assumption) ?_; rotate_left; (intro w hSw; (try dsimp only at hSw); go_simp; (try with_reducible rfl)); simp only [Act.put, sA, sB, sC]) | (refine wpAnyH_take (i := 0) (oi := ⟨some 12, _, _, _, _, _⟩) (v := undef) rfl (by kernel_rfl) (by kernel_rfl) (by kernel_rfl) (fun _ _ _ h => h) (Or.inr ⟨by rfl, rfl⟩) (by assumption) ?_; simp only [Act.put, sA, sB, sC])
  first | (refine wpAnyH_take (i := 1) (oi := ⟨some 13, _, _, _, _, _⟩) (v := ?_) rfl (by kernel_rfl) (by kernel_rfl) (by kernel_rfl) (fun _ _ _ h => h) (Or.inl ⟨by rfl, ?_⟩) (by assumption) ?_; rotate_left; (intro w hSw; (try dsimp only at hSw); go_simp; (try with_reducible rfl)); simp only [Act.put, sA, sB, sC]) | (refine wpAnyH_take (i := 1) (oi := ⟨some 13, _, _, _, _, _⟩) (v := undef) rfl (by kernel_rfl) (by kernel_rfl) (by kernel_rfl) (fun _ _ _ h => h) (Or.inr ⟨by rfl, rfl⟩) (by assumption) ?_; simp only [Act.put, sA, sB, sC])
  first | (refine wpAnyH_take (i := 2) (oi := ⟨some 14, _, _, _, _, _⟩) (v := ?_) rfl (by kernel_rfl) (by kernel_rfl) (by kernel_rfl) (fun _ _ _ h => h) (Or.inl ⟨by rfl, ?_⟩) (by assumption) ?_; rotate_left; (intro w hSw; (try dsimp only at hSw); go_simp; (try with_reducible rfl)); simp only [Act.put, sA, sB, sC]) | (refine wpAnyH_take (i := 2) (oi := ⟨some 14, _, _, _, _, _⟩) (v := undef) rfl (by kernel_rfl) (by kernel_rfl) (by kernel_rfl) (fun _ _ _ h => h) (Or.inr ⟨by rfl, rfl⟩) (by assumption) ?_; simp only [Act.put, sA, sB, sC])
  first | (refine wpAnyH_take (i := 3) (oi := ⟨some 15, _, _, _, _, _⟩) (v := ?_) rfl (by kernel_rfl) (by kernel_rfl) (by kernel_rfl) (fun _ _ _ h => h) (Or.inl ⟨by rfl, ?_⟩) (by assumption) ?_; rotate_left; (intro w hSw; (try dsimp only at hSw); go_simp; (try with_reducible rfl)); simp only [Act.put, sA, sB, sC]) | (refine wpAnyH_take (i := 3) (oi := ⟨some 15, _, _, _, _, _⟩) (v := undef) rfl (by kernel_rfl) (by kernel_rfl) (by kernel_rfl) (fun _ _ _ h => h) (Or.inr ⟨by rfl, rfl⟩) (by assumption) ?_; simp only [Act.put, sA, sB, sC])
  first | (refine wpAnyH_take (i := 4) (oi := ⟨some 16, _, _, _, _, _⟩) (v := ?_) rfl (by kernel_rfl) (by kernel_rfl) (by kernel_rfl) (fun _ _ _ h => h) (Or.inl ⟨by rfl, ?_⟩) (by assumption) ?_; rotate_left; (intro w hSw; (try dsimp only at hSw); go_simp; (try with_reducible rfl)); simp only [Act.put, sA, sB, sC]) | (refine wpAnyH_take (i := 4) (oi := ⟨some 16, _, _, _, _, _⟩) (v := undef) rfl (by kernel_rfl) (by kernel_rfl) (by kernel_rfl) (fun _ _ _ h => h) (Or.inr ⟨by rfl, rfl⟩) (by assumption) ?_; simp only [Act.put, sA, sB, sC])
  first | (refine wpAnyH_take (i := 5) (oi := ⟨some 17, _, _, _, _, _⟩) (v := ?_) rfl (by kernel_rfl) (by kernel_rfl) (by kernel_rfl) (fun _ _ _ h => h) (Or.inl ⟨by rfl, ?_⟩) (by assumption) ?_; rotate_left; (intro w hSw; (try dsimp only at hSw); go_simp; (try with_reducible rfl)); simp only [Act.put, sA, sB, sC]) | (refine wpAnyH_take (i := 5) (oi := ⟨some 17, _, _, _, _, _⟩) (v := undef) rfl (by kernel_rfl) (by kernel_rfl) (by kernel_rfl) (fun _ _ _ h => h) (Or.inr ⟨by rfl, rfl⟩) (by assumption) ?_; simp only [Act.put, sA, sB, sC])
  first | (refine wpAnyH_take (i := 6) (oi := ⟨some 18, _, _, _, _, _⟩) (v := ?_) rfl (by kernel_rfl) (by kernel_rfl) (by kernel_rfl) (fun _ _ _ h => h) (Or.inl ⟨by rfl, ?_⟩) (by assumption) ?_; rotate_left; (intro w hSw; (try dsimp only at hSw); go_simp; (try with_reducible rfl)); simp only [Act.put, sA, sB, sC]) | (refine wpAnyH_take (i := 6) (oi := ⟨some 18, _, _, _, _, _⟩) (v := undef) rfl (by kernel_rfl) (by kernel_rfl) (by kernel_rfl) (fun _ _ _ h => h) (Or.inr ⟨by rfl, rfl⟩) (by assumption) ?_; simp only [Act.put, sA, sB, sC])
  first | (refine wpAnyH_take (i := 7) (oi := ⟨some 19, _, _, _, _, _⟩) (v := ?_) rfl (by kernel_rfl) (by kernel_rfl) (by kernel_rfl) (fun _ _ _ h => h) (Or.inl ⟨by rfl, ?_⟩) (by assumption) ?_; rotate_left; (intro w hSw; (try dsimp only at hSw); go_simp; (try with_reducible rfl)); simp only [Act.put, sA, sB, sC]) | (refine wpAnyH_take (i := 7) (oi := ⟨some 19, _, _, _, _, _⟩) (v := undef) rfl (by kernel_rfl) (by kernel_rfl) (by kernel_rfl) (fun _ _ _ h => h) (Or.inr ⟨by rfl, rfl⟩) (by assumption) ?_; simp only [Act.put, sA, sB, sC])
  first | (refine wpAnyH_take (i := 8) (oi := ⟨some 20, _, _, _, _, _⟩) (v := ?_) rfl (by kernel_rfl) (by kernel_rfl) (by kernel_rfl) (fun _ _ _ h => h) (Or.inl ⟨by rfl, ?_⟩) (by assumption) ?_; rotate_left; (intro w hSw; (try dsimp only at hSw); go_simp; (try with_reducible rfl)); simp only [Act.put, sA, sB, sC]) | (refine wpAnyH_take (i := 8) (oi := ⟨some 20, _, _, _, _, _⟩) (v := undef) rfl (by kernel_rfl) (by kernel_rfl) (by kernel_rfl) (fun _ _ _ h => h) (Or.inr ⟨by rfl, rfl⟩) (by assumption) ?_; simp only [Act.put, sA, sB, sC])
  first | (refine wpAnyH_take (i := 9) (oi := ⟨some 21, _, _, _, _, _⟩) (v := ?_) rfl (by kernel_rfl) (by kernel_rfl) (by kernel_rfl) (fun _ _ _ h => h) (Or.inl ⟨by rfl, ?_⟩) (by assumption) ?_; rotate_left; (intro w hSw; (try dsimp only at hSw); go_simp; (try with_reducible rfl)); simp only [Act.put, sA, sB, sC]) | (refine wpAnyH_take (i := 9) (oi := ⟨some 21, _, _, _, _, _⟩) (v := undef) rfl (by kernel_rfl) (by kernel_rfl) (by kernel_rfl) (fun _ _ _ h => h) (Or.inr ⟨by rfl, rfl⟩) (by assumption) ?_; simp only [Act.put, sA, sB, sC])
  first | (refine wpAnyH_take (i := 10) (oi := ⟨some 22, _, _, _, _, _⟩) (v := ?_) rfl (by kernel_rfl) (by kernel_rfl) (by kernel_rfl) (fun _ _ _ h => h) (Or.inl ⟨by rfl, ?_⟩) (by assumption) ?_; rotate_left; (intro w hSw; (try dsimp only at hSw); go_simp; (try with_reducible rfl)); simp only [Act.put, sA, sB, sC]) | (refine wpAnyH_take (i := 10) (oi := ⟨some 22, _, _, _, _, _⟩) (v := undef) rfl (by kernel_rfl) (by kernel_rfl) (by kernel_rfl) (fun _ _ _ h => h) (Or.inr ⟨by rfl, rfl⟩) (by assumption) ?_; simp only [Act.put, sA, sB, sC])
  first | (refine wpAnyH_take (i := 11) (oi := ⟨some 23, _, _, _, _, _⟩) (v := ?_) rfl (by kernel_rfl) (by kernel_rfl) (by kernel_rfl) (fun _ _ _ h => h) (Or.inl ⟨by rfl, ?_⟩) (by assumption) ?_; rotate_left; (intro w hSw; (try dsimp only at hSw); go_simp; (try with_reducible rfl)); simp only [Act.put, sA, sB, sC]) | (refine wpAnyH_take (i := 11) (oi := ⟨some 23, _, _, _, _, _⟩) (v := undef) rfl (by kernel_rfl) (by kernel_rfl) (by kernel_rfl) (fun _ _ _ h => h) (Or.inr ⟨by rfl, rfl⟩) (by assumption) ?_; simp only [Act.put, sA, sB, sC])
  first | (refine wpAnyH_take (i := 12) (oi := ⟨some 24, _, _, _, _, _⟩) (v := ?_) rfl (by kernel_rfl) (by kernel_rfl) (by kernel_rfl) (fun _ _ _ h => h) (Or.inl ⟨by rfl, ?_⟩) (by assumption) ?_; rotate_left; (intro w hSw; (try dsimp only at hSw); go_simp; (try with_reducible rfl)); simp only [Act.put, sA, sB, sC]) | (refine wpAnyH_take (i := 12) (oi := ⟨some 24, _, _, _, _, _⟩) (v := undef) rfl (by kernel_rfl) (by kernel_rfl) (by kernel_rfl) (fun _ _ _ h => h) (Or.inr ⟨by rfl, rfl⟩) (by assumption) ?_; simp only [Act.put, sA, sB, sC])
  first | (refine wpAnyH_take (i := 13) (oi := ⟨some 25, _, _, _, _, _⟩) (v := ?_) rfl (by kernel_rfl) (by kernel_rfl) (by kernel_rfl) (fun _ _ _ h => h) (Or.inl ⟨by rfl, ?_⟩) (by assumption) ?_; rotate_left; (intro w hSw; (try dsimp only at hSw); go_simp; (try with_reducible rfl)); simp only [Act.put, sA, sB, sC]) | (refine wpAnyH_take (i := 13) (oi := ⟨some 25, _, _, _, _, _⟩) (v := undef) rfl (by kernel_rfl) (by kernel_rfl) (by kernel_rfl) (fun _ _ _ h => h) (Or.inr ⟨by rfl, rfl⟩) (by assumption) ?_; simp only [Act.put, sA, sB, sC])
  first | (refine wpAnyH_take (i := 14) (oi := ⟨some 26, _, _, _, _, _⟩) (v := ?_) rfl (by kernel_rfl) (by kernel_rfl) (by kernel_rfl) (fun _ _ _ h => h) (Or.inl ⟨by rfl, ?_⟩) (by assumption) ?_; rotate_left; (intro w hSw; (try dsimp only at hSw); go_simp; (try with_reducible rfl)); simp only [Act.put, sA, sB, sC]) | (refine wpAnyH_take (i := 14) (oi := ⟨some 26, _, _, _, _, _⟩) (v := undef) rfl (by kernel_rfl) (by kernel_rfl) (by kernel_rfl) (fun _ _ _ h => h) (Or.inr ⟨by rfl, rfl⟩) (by assumption) ?_; simp only [Act.put, sA, sB, sC])
  first | (refine wpAnyH_take (i := 15) (oi := ⟨some 27, _, _, _, _, _⟩) (v := ?_) rfl (by kernel_rfl) (by kernel_rfl) (by kernel_rfl) (fun _ _ _ h => h) (Or.inl ⟨by rfl, ?_⟩) (by assumption) ?_; rotate_left; (intro w hSw; (try dsimp only at hSw); go_simp; (try with_reducible rfl)); simp only [Act.put, sA, sB, sC]) | (refine wpAnyH_take (i := 15) (oi := ⟨some 27, _, _, _, _, _⟩) (v := undef) rfl (by kernel_rfl) (by kernel_rfl) (by kernel_rfl) (fun _ _ _ h => h) (Or.inr ⟨by rfl, rfl⟩) (by assumption) ?_; simp only [Act.put, sA, sB, sC])
  first | (refine wpAnyH_take (i := 16) (oi := ⟨some 28, _, _, _, _, _⟩) (v := ?_) rfl (by kernel_rfl) (by kernel_rfl) (by kernel_rfl) (fun _ _ _ h => h) (Or.inl ⟨by rfl, ?_⟩) (by assumption) ?_; rotate_left; (intro w hSw; (try dsimp only at hSw); go_simp; (try with_reducible rfl)); simp only [Act.put, sA, sB, sC]) | (refine wpAnyH_take (i := 16) (oi := ⟨some 28, _, _, _, _, _⟩) (v := undef) rfl (by kernel_rfl) (by kernel_rfl) (by kernel_rfl) (fun _ _ _ h => h) (Or.inr ⟨by rfl, rfl⟩) (by assumption) ?_; simp only [Act.put, sA, sB, sC])
  first | (refine wpAnyH_take (i := 17) (oi := ⟨some 29, _, _, _, _, _⟩) (v := ?_) rfl (by kernel_rfl) (by kernel_rfl) (by kernel_rfl) (fun _ _ _ h => h) (Or.inl ⟨by rfl, ?_⟩) (by assumption) ?_; rotate_left; (intro w hSw; (try dsimp only at hSw); go_simp; (try with_reducible rfl)); simp only [Act.put, sA, sB, sC]) | (refine wpAnyH_take (i := 17) (oi := ⟨some 29, _, _, _, _, _⟩) (v := undef) rfl (by kernel_rfl) (by kernel_rfl) (by kernel_rfl) (fun _ _ _ h => h) (Or.inr ⟨by rfl, rfl⟩) (by assumption) ?_; simp only [Act.put, sA, sB, sC])
  first | (refine wpAnyH_take (i := 18) (oi := ⟨some 30, _, _, _, _, _⟩) (v := ?_) rfl (by kernel_rfl) (by kernel_rfl) (by kernel_rfl) (fun _ _ _ h => h) (Or.inl ⟨by rfl, ?_⟩) (by assumption) ?_; rotate_left; (intro w hSw; (try dsimp only at hSw); go_simp; (try with_reducible rfl)); simp only [Act.put, sA, sB, sC]) | (refine wpAnyH_take (i := 18) (oi := ⟨some 30, _, _, _, _, _⟩) (v := undef) rfl (by kernel_rfl) (by kernel_rfl) (by kernel_rfl) (fun _ _ _ h => h) (Or.inr ⟨by rfl, rfl⟩) (by assumption) ?_; simp only [Act.put, sA, sB, sC])
  first | (refine wpAnyH_take (i := 19) (oi := ⟨some 31, _, _, _, _, _⟩) (v := ?_) rfl (by kernel_rfl) (by kernel_rfl) (by kernel_rfl) (fun _ _ _ h => h) (Or.inl ⟨by rfl, ?_⟩) (by assumption) ?_; rotate_left; (intro w hSw; (try dsimp only at hSw); go_simp; (try with_reducible rfl)); simp only [Act.put, sA, sB, sC]) | (refine wpAnyH_take (i := 19) (oi := ⟨some 31, _, _, _, _, _⟩) (v := undef) rfl (by kernel_rfl) (by kernel_rfl) (by kernel_rfl) (fun _ _ _ h => h) (Or.inr ⟨by rfl, rfl⟩) (by assumption) ?_; simp only [Act.put, sA, sB, sC])
  first | (refine wpAnyH_take (i := 20) (oi := ⟨some 32, _, _, _, _, _⟩) (v := ?_) rfl (by kernel_rfl) (by kernel_rfl) (by kernel_rfl) (fun _ _ _ h => h) (Or.inl ⟨by rfl, ?_⟩) (by assumption) ?_; rotate_left; (intro w hSw; (try dsimp only at hSw); go_simp; (try with_reducible rfl)); simp only [Act.put, sA, sB, sC]) | (refine wpAnyH_take (i := 20) (oi := ⟨some 32, _, _, _, _, _⟩) (v := undef) rfl (by kernel_rfl) (by kernel_rfl) (by kernel_rfl) (fun _ _ _ h => h) (Or.inr ⟨by rfl, rfl⟩) (by assumption) ?_; simp only [Act.put, sA, sB, sC])
  first | (refine wpAnyH_take (i := 21) (oi := ⟨some 33, _, _, _, _, _⟩) (v := ?_) rfl (by kernel_rfl) (by kernel_rfl) (by kernel_rfl) (fun _ _ _ h => h) (Or.inl ⟨by rfl, ?_⟩) (by assumption) ?_; rotate_left; (intro w hSw; (try dsimp only at hSw); go_simp; (try with_reducible rfl)); simp only [Act.put, sA, sB, sC]) | (refine wpAnyH_take (i := 21) (oi := ⟨some 33, _, _, _, _, _⟩) (v := undef) rfl (by kernel_rfl) (by kernel_rfl) (by kernel_rfl) (fun _ _ _ h => h) (Or.inr ⟨by rfl, rfl⟩) (by assumption) ?_; simp only [Act.put, sA, sB, sC])
  first | (refine wpAnyH_take (i := 22) (oi := ⟨some 34, _, _, _, _, _⟩) (v := ?_) rfl (by kernel_rfl) (by kernel_rfl) (by kernel_rfl) (fun _ _ _ h => h) (Or.inl ⟨by rfl, ?_⟩) (by assumption) ?_; rotate_left; (intro w hSw; (try dsimp only at hSw); go_simp; (try with_reducible rfl)); simp only [Act.put, sA, sB, sC]) | (refine wpAnyH_take (i := 22) (oi := ⟨some 34, _, _, _, _, _⟩) (v := undef) rfl (by kernel_rfl) (by kernel_rfl) (by kernel_rfl) (fun _ _ _ h => h) (Or.inr ⟨by rfl, rfl⟩) (by assumption) ?_; simp only [Act.put, sA, sB, sC])
  first | (refine wpAnyH_take (i := 23) (oi := ⟨some 35, _, _, _, _, _⟩) (v := ?_) rfl (by kernel_rfl) (by kernel_rfl) (by kernel_rfl) (fun _ _ _ h => h) (Or.inl ⟨by rfl, ?_⟩) (by assumption) ?_; rotate_left; (intro w hSw; (try dsimp only at hSw); go_simp; (try with_reducible rfl)); simp only [Act.put, sA, sB, sC]) | (refine wpAnyH_take (i := 23) (oi := ⟨some 35, _, _, _, _, _⟩) (v := undef) rfl (by kernel_rfl) (by kernel_rfl) (by kernel_rfl) (fun _ _ _ h => h) (Or.inr ⟨by rfl, rfl⟩) (by assumption) ?_; simp only [Act.put, sA, sB, sC])
  first | (refine wpAnyH_take (i := 24) (oi := ⟨some 36, _, _, _, _, _⟩) (v := ?_) rfl (by kernel_rfl) (by kernel_rfl) (by kernel_rfl) (fun _ _ _ h => h) (Or.inl ⟨by rfl, ?_⟩) (by assumption) ?_; rotate_left; (intro w hSw; (try dsimp only at hSw); go_simp; (try with_reducible rfl)); simp only [Act.put, sA, sB, sC]) | (refine wpAnyH_take (i := 24) (oi := ⟨some 36, _, _, _, _, _⟩) (v := undef) rfl (by kernel_rfl) (by kernel_rfl) (by kernel_rfl) (fun _ _ _ h => h) (Or.inr ⟨by rfl, rfl⟩) (by assumption) ?_; simp only [Act.put, sA, sB, sC])
  first | (refine wpAnyH_take (i := 25) (oi := ⟨some 37, _, _, _, _, _⟩) (v := ?_) rfl (by kernel_rfl) (by kernel_rfl) (by kernel_rfl) (fun _ _ _ h => h) (Or.inl ⟨by rfl, ?_⟩) (by assumption) ?_; rotate_left; (intro w hSw; (try dsimp only at hSw); go_simp; (try with_reducible rfl)); simp only [Act.put, sA, sB, sC]) | (refine wpAnyH_take (i := 25) (oi := ⟨some 37, _, _, _, _, _⟩) (v := undef) rfl (by kernel_rfl) (by kernel_rfl) (by kernel_rfl) (fun _ _ _ h => h) (Or.inr ⟨by rfl, rfl⟩) (by assumption) ?_; simp only [Act.put, sA, sB, sC])
  first | (refine wpAnyH_take (i := 26) (oi := ⟨some 38, _, _, _, _, _⟩) (v := ?_) rfl (by kernel_rfl) (by kernel_rfl) (by kernel_rfl) (fun _ _ _ h => h) (Or.inl ⟨by rfl, ?_⟩) (by assumption) ?_; rotate_left; (intro w hSw; (try dsimp only at hSw); go_simp; (try with_reducible rfl)); simp only [Act.put, sA, sB, sC]) | (refine wpAnyH_take (i := 26) (oi := ⟨some 38, _, _, _, _, _⟩) (v := undef) rfl (by kernel_rfl) (by kernel_rfl) (by kernel_rfl) (fun _ _ _ h => h) (Or.inr ⟨by rfl, rfl⟩) (by assumption) ?_; simp only [Act.put, sA, sB, sC])
  first | (refine wpAnyH_take (i := 28) (oi := ⟨some 40, _, _, _, _, _⟩) (v := ?_) rfl (by kernel_rfl) (by kernel_rfl) (by kernel_rfl) (fun _ _ _ h => h) (Or.inl ⟨by rfl, ?_⟩) (by assumption) ?_; rotate_left; (intro w hSw; (try dsimp only at hSw); go_simp; (try with_reducible rfl)); simp only [Act.put, sA, sB, sC]) | (refine wpAnyH_take (i := 28) (oi := ⟨some 40, _, _, _, _, _⟩) (v := undef) rfl (by kernel_rfl) (by kernel_rfl) (by kernel_rfl) (fun _ _ _ h => h) (Or.inr ⟨by rfl, rfl⟩) (by assumption) ?_; simp only [Act.put, sA, sB, sC])
  first | (refine wpAnyH_take (i := 29) (oi := ⟨some 41, _, _, _, _, _⟩) (v := ?_) rfl (by kernel_rfl) (by kernel_rfl) (by kernel_rfl) (fun _ _ _ h => h) (Or.inl ⟨by rfl, ?_⟩) (by assumption) ?_; rotate_left; (intro w hSw; (try dsimp only at hSw); go_simp; (try with_reducible rfl)); simp only [Act.put, sA, sB, sC]) | (refine wpAnyH_take (i := 29) (oi := ⟨some 41, _, _, _, _, _⟩) (v := undef) rfl (by kernel_rfl) (by kernel_rfl) (by kernel_rfl) (fun _ _ _ h => h) (Or.inr ⟨by rfl, rfl⟩) (by assumption) ?_; simp only [Act.put, sA, sB, sC])
  refine wpAnyH_ready (rs := [27, 30]) (by kernel_rfl) (by simp) ?_
  refine AllReadyH.cons (o := ⟨some 39, _, _, _, _, _⟩) rfl (fun K hK => ?_) (AllReadyH.cons (o := ⟨some 42, _, _, _, _, _⟩) rfl (fun K hK => ?_) AllReadyH.nil)
  ·go_simp
   go_at_call 103
   refine (over_180 _ _).mono ?_
   rintro ev w6 ⟨rfl, rfl⟩
   go_wp2_with fail
   refine hK.out _ _ (⟨s0, s1, s2, s3, s4, s5, s6, s7⟩) (fun hHeld => ?_)
   clear hK K
   try simp only [Act.put, sA, sB, sC]
   refine wpAnyH_ready (rs := [30]) (by kernel_rfl) (by simp) ?_
   refine AllReadyH.cons (o := ⟨some 42, _, _, _, _, _⟩) rfl (fun K hK => ?_) AllReadyH.nil
   go_simp
   refine hK.out _ _ (HKEEP.out _ hbA.out) (fun hHeld => ?_)
   clear hK K
   try simp only [Act.put, sA, sB, sC]
   refine wpAnyH_ready (rs := [31]) (by kernel_rfl) (by simp) ?_
   refine AllReadyH.cons (o := ⟨some 43, _, _, _, _, _⟩) rfl (fun K hK => ?_) AllReadyH.nil
   go_simp
   go_at_call 102
   (with_reducible refine (HNUM.out _ _ (by first | exact heap_alloc_new w1 _ | exact heap_new_drew w1 _ | exact heap_new_drewN w1 _ _)).mono ?_)
   rintro ev w5 ⟨rfl, hb5⟩
   have hbS : Hid (Below w1.heap.size w1 w5) := Lib.hid ((one_below w1 _).trans ((show Below (w1.alloc (.cells #[.int .u8 a.kind, .bool a.bool, .int .i64 a.int, .string a.text, .int .u8 b.kind, .bool b.bool, .int .i64 b.int, .string b.text] 25)).heap.size (w1.alloc (.cells #[.int .u8 a.kind, .bool a.bool, .int .i64 a.int, .string a.text, .int .u8 b.kind, .bool b.bool, .int .i64 b.int, .string b.text] 25)) w5 by first | exact hb5 | exact below_undrew hb5 | exact below_undrewN hb5).mono (by simp)))
   have t5 := (hbS.out.block _ (lt_of_heap T1.out)).trans T1.out
   obtain ⟨z0, g0, z1, g1, z2, g2, z3, g3⟩ := cf4 t5
   have T5 := Lib.hid t5
   clear hb5 t5
   unfold resI Dat.agg
   go_wp2_with fail
   refine hK.out _ _ (HKEEP.out _ hbS.out) (fun hHeld => ?_)
   clear hK K
   try simp only [Act.put, sA, sB, sC]
   (refine wpAnyH_take (i := 32) (oi := ⟨some 44, _, _, _, _, _⟩) (v := ?_) rfl (by kernel_rfl) (by kernel_rfl) (by kernel_rfl) (fun _ _ _ h => h) (Or.inl ⟨by rfl, ?_⟩) (by assumption) ?_; rotate_left; (intro w hSw; (try dsimp only at hSw); go_simp; (try with_reducible rfl)); simp only [Act.put, sA, sB, sC])
   (refine wpAnyH_take (i := 33) (oi := ⟨some 45, _, _, _, _, _⟩) (v := ?_) rfl (by kernel_rfl) (by kernel_rfl) (by kernel_rfl) (fun _ _ _ h => h) (Or.inl ⟨by rfl, ?_⟩) (by assumption) ?_; rotate_left; (intro w hSw; (try dsimp only at hSw); go_simp; (try with_reducible rfl)); simp only [Act.put, sA, sB, sC])
   refine wpAnyH_ready (rs := [34]) (by kernel_rfl) (by simp) ?_
   refine AllReadyH.cons (o := ⟨none, _, _, _, _, _⟩) rfl (fun K hK => ?_) AllReadyH.nil
   go_simp
   refine hK.out _ _ (by simp only [cell_set_ne n1, cell_set_ne n2]; exact HKEEP.out _ hbS.out) (fun hHeld => ?_)
   clear hK K
   try simp only [Act.put, sA, sB, sC]
   (refine wpAnyH_take (i := 35) (oi := ⟨some 5, _, _, _, _, _⟩) (v := ?_) rfl (by kernel_rfl) (by kernel_rfl) (by kernel_rfl) (fun _ _ _ h => h) (Or.inl ⟨by rfl, ?_⟩) (by assumption) ?_; rotate_left; (intro w hSw; (try dsimp only at hSw); go_simp; (try with_reducible rfl)); simp only [Act.put, sA, sB, sC])
   refine wpAnyH_done (by kernel_rfl) ?_ _
   go_wp2
   refine bodyPost_ret (results_row_tmp rfl _ _ (w.heap.size + 1 + 1) 25 _ (0, 0) _ rfl (setRow4_at T5.out) Tryz.underlying25 rfl (by kernel_rfl)) rfl ?_
   exact ⟨rfl, setRow4_below (HB1.out.trans (hbS.out.mono HB1.out.size)) (by show w.heap.size ≤ w.heap.size + 1 + 1; omega)⟩
  ·go_simp
   refine hK.out _ _ (HKEEP.out _ hbA.out) (fun hHeld => ?_)
   clear hK K
   try simp only [Act.put, sA, sB, sC]
   refine wpAnyH_ready (rs := [27]) (by kernel_rfl) (by simp) ?_
   refine AllReadyH.cons (o := ⟨some 39, _, _, _, _, _⟩) rfl (fun K hK => ?_) AllReadyH.nil
   go_simp
   go_at_call 103
   refine (over_180 _ _).mono ?_
   rintro ev w6 ⟨rfl, rfl⟩
   go_wp2_with fail
   refine hK.out _ _ (HKEEP.out _ hbA.out) (fun hHeld => ?_)
   clear hK K
   try simp only [Act.put, sA, sB, sC]
   refine wpAnyH_ready (rs := [31]) (by kernel_rfl) (by simp) ?_
   refine AllReadyH.cons (o := ⟨some 43, _, _, _, _, _⟩) rfl (fun K hK => ?_) AllReadyH.nil
   go_simp
   go_at_call 102
   (with_reducible refine (HNUM.out _ _ (by first | exact heap_alloc_new w1 _ | exact heap_new_drew w1 _ | exact heap_new_drewN w1 _ _)).mono ?_)
   rintro ev w5 ⟨rfl, hb5⟩
   have hbS : Hid (Below w1.heap.size w1 w5) := Lib.hid ((one_below w1 _).trans ((show Below (w1.alloc (.cells #[.int .u8 a.kind, .bool a.bool, .int .i64 a.int, .string a.text, .int .u8 b.kind, .bool b.bool, .int .i64 b.int, .string b.text] 25)).heap.size (w1.alloc (.cells #[.int .u8 a.kind, .bool a.bool, .int .i64 a.int, .string a.text, .int .u8 b.kind, .bool b.bool, .int .i64 b.int, .string b.text] 25)) w5 by first | exact hb5 | exact below_undrew hb5 | exact below_undrewN hb5).mono (by simp)))
   have t5 := (hbS.out.block _ (lt_of_heap T1.out)).trans T1.out
   obtain ⟨z0, g0, z1, g1, z2, g2, z3, g3⟩ := cf4 t5
   have T5 := Lib.hid t5
   clear hb5 t5
   unfold resI Dat.agg
   go_wp2_with fail
   refine hK.out _ _ (HKEEP.out _ hbS.out) (fun hHeld => ?_)
   clear hK K
   try simp only [Act.put, sA, sB, sC]
   (refine wpAnyH_take (i := 32) (oi := ⟨some 44, _, _, _, _, _⟩) (v := ?_) rfl (by kernel_rfl) (by kernel_rfl) (by kernel_rfl) (fun _ _ _ h => h) (Or.inl ⟨by rfl, ?_⟩) (by assumption) ?_; rotate_left; (intro w hSw; (try dsimp only at hSw); go_simp; (try with_reducible rfl)); simp only [Act.put, sA, sB, sC])
   (refine wpAnyH_take (i := 33) (oi := ⟨some 45, _, _, _, _, _⟩) (v := ?_) rfl (by kernel_rfl) (by kernel_rfl) (by kernel_rfl) (fun _ _ _ h => h) (Or.inl ⟨by rfl, ?_⟩) (by assumption) ?_; rotate_left; (intro w hSw; (try dsimp only at hSw); go_simp; (try with_reducible rfl)); simp only [Act.put, sA, sB, sC])
   refine wpAnyH_ready (rs := [34]) (by kernel_rfl) (by simp) ?_
   refine AllReadyH.cons (o := ⟨none, _, _, _, _, _⟩) rfl (fun K hK => ?_) AllReadyH.nil
   go_simp
   refine hK.out _ _ (by simp only [cell_set_ne n1, cell_set_ne n2]; exact HKEEP.out _ hbS.out) (fun hHeld => ?_)
   clear hK K
   try simp only [Act.put, sA, sB, sC]
   (refine wpAnyH_take (i := 35) (oi := ⟨some 5, _, _, _, _, _⟩) (v := ?_) rfl (by kernel_rfl) (by kernel_rfl) (by kernel_rfl) (fun _ _ _ h => h) (Or.inl ⟨by rfl, ?_⟩) (by assumption) ?_; rotate_left; (intro w hSw; (try dsimp only at hSw); go_simp; (try with_reducible rfl)); simp only [Act.put, sA, sB, sC])
   refine wpAnyH_done (by kernel_rfl) ?_ _
   go_wp2
   refine bodyPost_ret (results_row_tmp rfl _ _ (w.heap.size + 1 + 1) 25 _ (0, 0) _ rfl (setRow4_at T5.out) Tryz.underlying25 rfl (by kernel_rfl)) rfl ?_
   exact ⟨rfl, setRow4_below (HB1.out.trans (hbS.out.mono HB1.out.size)) (by show w.heap.size ≤ w.heap.size + 1 + 1; omega)⟩
theorem wrap_id {p : Int} (h : -9223372036854775808 ≤ p ∧ p ≤ 9223372036854775807) : wrap64 p = p := by unfold wrap64; omega
theorem mul_wide {x y : Int} (h0 : x ≠ 0) (hx : -9223372036854775808 ≤ x ∧ x ≤ 9223372036854775807) (hy : -9223372036854775808 ≤ y ∧ y ≤ 9223372036854775807) :
  ((wrap64 (Int.tdiv (wrap64 (x * y)) x) ≠ y ∨ (y = -1 ∧ x = -9223372036854775808)) ∨ (x = -1 ∧ y = -9223372036854775808)) ↔ ¬ (-9223372036854775808 ≤ x * y ∧ x * y ≤ 9223372036854775807) := by
 rw [Int.mul_comm x y]
 exact mul_law h0 hy hx
theorem mul_cases (x y s : Int) (hs : s = wrap64 (x * y)) (hx : -9223372036854775808 ≤ x ∧ x ≤ 9223372036854775807) (hy : -9223372036854775808 ≤ y ∧ y ≤ 9223372036854775807) :
  ((x == -1) = true ∧ (y == -9223372036854775808) = true ∧ numR s 10 = ov (x * y)) ∨
  ((x == -1) = true ∧ (y == -9223372036854775808) = false ∧ (y == -1) = true ∧ (x == -9223372036854775808) = false ∧ (x != 0) = true ∧ (x != -1) = false ∧ numR s 0 = ov (x * y)) ∨
  ((x == -1) = true ∧ (y == -9223372036854775808) = false ∧ (y == -1) = false ∧ (x != 0) = true ∧ (x != -1) = false ∧ numR s 0 = ov (x * y)) ∨
  ((x == -1) = false ∧ (y == -1) = true ∧ (x == -9223372036854775808) = true ∧ numR s 10 = ov (x * y)) ∨
  ((x == -1) = false ∧ (y == -1) = true ∧ (x == -9223372036854775808) = false ∧ (x != 0) = false ∧ numR s 0 = ov (x * y)) ∨
  ((x == -1) = false ∧ (y == -1) = false ∧ (x != 0) = false ∧ numR s 0 = ov (x * y)) ∨
  ((x == -1) = false ∧ (y == -1) = true ∧ (x == -9223372036854775808) = false ∧ (x != 0) = true ∧ (x == 0) = false ∧ (x != -1) = true ∧ (wrap64 (Int.tdiv s x) != y) = true ∧ (IntKind.i64.wrap (Int.tdiv s x) != y) = true ∧ ¬ x = 0 ∧ numR s 10 = ov (x * y)) ∨
  ((x == -1) = false ∧ (y == -1) = true ∧ (x == -9223372036854775808) = false ∧ (x != 0) = true ∧ (x == 0) = false ∧ (x != -1) = true ∧ (wrap64 (Int.tdiv s x) != y) = false ∧ (IntKind.i64.wrap (Int.tdiv s x) != y) = false ∧ ¬ x = 0 ∧ numR s 0 = ov (x * y)) ∨
  ((x == -1) = false ∧ (y == -1) = false ∧ (x != 0) = true ∧ (x == 0) = false ∧ (x != -1) = true ∧ (wrap64 (Int.tdiv s x) != y) = true ∧ (IntKind.i64.wrap (Int.tdiv s x) != y) = true ∧ ¬ x = 0 ∧ numR s 10 = ov (x * y)) ∨
  ((x == -1) = false ∧ (y == -1) = false ∧ (x != 0) = true ∧ (x == 0) = false ∧ (x != -1) = true ∧ (wrap64 (Int.tdiv s x) != y) = false ∧ (IntKind.i64.wrap (Int.tdiv s x) != y) = false ∧ ¬ x = 0 ∧ numR s 0 = ov (x * y)) := by
 by_cases h1 : x = -1
 ·by_cases h2 : y = -9223372036854775808
  ·exact .inl ⟨(by simp [h1]), (by simp [h2]), numR_over (by rw [h1, h2]; decide)⟩
  ·by_cases h3 : y = -1
   ·exact .inr (.inl ⟨(by simp [h1]), (by simp [h2]), (by simp [h3]), (by rw [h1]; rfl), (by rw [h1]; rfl), (by simp [h1]), numR_ok (by rw [hs]; exact wrap_id (by rw [h1]; omega)) (by rw [h1]; omega)⟩)
   ·exact .inr (.inr (.inl ⟨(by simp [h1]), (by simp [h2]), (by simp [h3]), (by rw [h1]; rfl), (by simp [h1]), numR_ok (by rw [hs]; exact wrap_id (by rw [h1]; omega)) (by rw [h1]; omega)⟩))
 ·by_cases h3 : y = -1
  ·by_cases h4 : x = -9223372036854775808
   ·exact .inr (.inr (.inr (.inl ⟨(by simp [h1]), (by simp [h3]), (by simp [h4]), numR_over (by rw [h3, h4]; decide)⟩)))
   ·by_cases h5 : x = 0
    ·exact .inr (.inr (.inr (.inr (.inl ⟨(by simp [h1]), (by simp [h3]), (by simp [h4]), (by simp [h5]), numR_ok (by rw [hs]; exact wrap_id (by rw [h5]; simp)) (by rw [h5]; simp)⟩))))
    ·rcases (Bool.eq_false_or_eq_true (wrap64 (Int.tdiv s x) != y)).symm with hD | hD
     ·have hr : -9223372036854775808 ≤ x * y ∧ x * y ≤ 9223372036854775807 := Decidable.byContradiction fun hn => by rcases (mul_wide h5 hx hy).2 hn with (h | h) | h; (rw [← hs] at h; simp at hD; exact h hD); exact absurd h.2 h4; exact h1 h.1
      exact .inr (.inr (.inr (.inr (.inr (.inr (.inr (.inl ⟨(by simp [h1]), (by simp [h3]), (by simp [h4]), (by simp [h5]), (by simp [h5]), (by simp [h1]), hD, (by rw [IntWalk.i64_left]; exact hD), h5, numR_ok (by rw [hs]; exact wrap_id (hr)) (hr)⟩)))))))
     ·exact .inr (.inr (.inr (.inr (.inr (.inr (.inl ⟨(by simp [h1]), (by simp [h3]), (by simp [h4]), (by simp [h5]), (by simp [h5]), (by simp [h1]), hD, (by rw [IntWalk.i64_left]; exact hD), h5, numR_over ((mul_wide h5 hx hy).1 (.inl (.inl (by rw [← hs]; simpa using hD))))⟩))))))
  ·by_cases h5 : x = 0
   ·exact .inr (.inr (.inr (.inr (.inr (.inl ⟨(by simp [h1]), (by simp [h3]), (by simp [h5]), numR_ok (by rw [hs]; exact wrap_id (by rw [h5]; simp)) (by rw [h5]; simp)⟩)))))
   ·rcases (Bool.eq_false_or_eq_true (wrap64 (Int.tdiv s x) != y)).symm with hD | hD
    ·have hr : -9223372036854775808 ≤ x * y ∧ x * y ≤ 9223372036854775807 := Decidable.byContradiction fun hn => by rcases (mul_wide h5 hx hy).2 hn with (h | h) | h; (rw [← hs] at h; simp at hD; exact h hD); exact absurd h.1 h3; exact h1 h.1
     exact .inr (.inr (.inr (.inr (.inr (.inr (.inr (.inr (.inr (⟨(by simp [h1]), (by simp [h3]), (by simp [h5]), (by simp [h5]), (by simp [h1]), hD, (by rw [IntWalk.i64_left]; exact hD), h5, numR_ok (by rw [hs]; exact wrap_id (hr)) (hr)⟩)))))))))
    ·exact .inr (.inr (.inr (.inr (.inr (.inr (.inr (.inr (.inl ⟨(by simp [h1]), (by simp [h3]), (by simp [h5]), (by simp [h5]), (by simp [h1]), hD, (by rw [IntWalk.i64_left]; exact hD), h5, numR_over ((mul_wide h5 hx hy).1 (.inl (.inl (by rw [← hs]; simpa using hD))))⟩))))))))
theorem rmul_137 (a b : Dat) (w : World) (fa : a.fits) (fb : b.fits) : Calls Tryz.prog 78 #[a.agg, b.agg] w (RefPost (mulD a b) w) := by
 obtain ⟨X, eX⟩ : ∃ X, X = mulD a b := ⟨_, rfl⟩
 rw [← eX]
 obtain ⟨s, hs⟩ : ∃ s, wrap64 (a.int * b.int) = s := ⟨_, rfl⟩
 have hc := mul_cases a.int b.int s hs.symm fa.2.1 fb.2.1
 obtain ⟨w1, hw1⟩ : ∃ w1, w1 = ((w.alloc (.cells #[.int .u8 a.kind, .bool a.bool, .int .i64 a.int, .string a.text] 25)).alloc (.cells #[.int .u8 b.kind, .bool b.bool, .int .i64 b.int, .string b.text] 25)).alloc (.cells #[.int .u8 0, .bool false, .int .i64 0, .string ⟨#[]⟩] 25) := ⟨_, rfl⟩
 have hb1 : Below w.heap.size w w1 := by rw [hw1]; exact three_below _ _ _ _
 have ht := three_at (w := w) (w1 := w1) (a := .cells #[.int .u8 a.kind, .bool a.bool, .int .i64 a.int, .string a.text] 25) (b := .cells #[.int .u8 b.kind, .bool b.bool, .int .i64 b.int, .string b.text] 25) (c := .cells #[.int .u8 0, .bool false, .int .i64 0, .string ⟨#[]⟩] 25) (by rw [hw1]; exact Below.refl _ _)
 have hs1 : w1.cell? ⟨w.heap.size, 0, none⟩ = some (.int .u8 a.kind) ∧ w1.cell? ⟨w.heap.size, 1, none⟩ = some (.bool a.bool) ∧ w1.cell? ⟨w.heap.size, 2, none⟩ = some (.int .i64 a.int) ∧ w1.cell? ⟨w.heap.size, 3, none⟩ = some (.string a.text) ∧ w1.cell? ⟨w.heap.size + 1, 0, none⟩ = some (.int .u8 b.kind) ∧ w1.cell? ⟨w.heap.size + 1, 1, none⟩ = some (.bool b.bool) ∧ w1.cell? ⟨w.heap.size + 1, 2, none⟩ = some (.int .i64 b.int) ∧ w1.cell? ⟨w.heap.size + 1, 3, none⟩ = some (.string b.text) := ⟨cell_of_heap ht.1 rfl, cell_of_heap ht.1 rfl, cell_of_heap ht.1 rfl, cell_of_heap ht.1 rfl, cell_of_heap ht.2.1 rfl, cell_of_heap ht.2.1 rfl, cell_of_heap ht.2.1 rfl, cell_of_heap ht.2.1 rfl⟩
 have hkeep : ∀ (w' : World), Below w1.heap.size w1 w' → w'.cell? ⟨w.heap.size, 0, none⟩ = some (.int .u8 a.kind) ∧ w'.cell? ⟨w.heap.size, 1, none⟩ = some (.bool a.bool) ∧ w'.cell? ⟨w.heap.size, 2, none⟩ = some (.int .i64 a.int) ∧ w'.cell? ⟨w.heap.size, 3, none⟩ = some (.string a.text) ∧ w'.cell? ⟨w.heap.size + 1, 0, none⟩ = some (.int .u8 b.kind) ∧ w'.cell? ⟨w.heap.size + 1, 1, none⟩ = some (.bool b.bool) ∧ w'.cell? ⟨w.heap.size + 1, 2, none⟩ = some (.int .i64 b.int) ∧ w'.cell? ⟨w.heap.size + 1, 3, none⟩ = some (.string b.text) := fun w' hb => ⟨cell_keep hb hs1.1, cell_keep hb hs1.2.1, cell_keep hb hs1.2.2.1, cell_keep hb hs1.2.2.2.1, cell_keep hb hs1.2.2.2.2.1, cell_keep hb hs1.2.2.2.2.2.1, cell_keep hb hs1.2.2.2.2.2.2.1, cell_keep hb hs1.2.2.2.2.2.2.2⟩
 have HW1 := Lib.hid hw1
 have HB1 := Lib.hid hb1
 have T1 := Lib.hid ht.2.2
 have S1 := Lib.hid hs1
 have HKEEP := Lib.hid hkeep
 clear hw1 hb1 ht hs1 hkeep
 unfold Dat.agg
 rcases hc with ⟨q0, q1, HN⟩ | ⟨q0, q1, q2, q3, q4, q5, HN⟩ | ⟨q0, q1, q2, q3, q4, HN⟩ | ⟨q0, q1, q2, HN⟩ | ⟨q0, q1, q2, q3, HN⟩ | ⟨q0, q1, q2, HN⟩ | ⟨q0, q1, q2, q3, q4, q5, q6, q7, q8, HN⟩ | ⟨q0, q1, q2, q3, q4, q5, q6, q7, q8, HN⟩ | ⟨q0, q1, q2, q3, q4, q5, q6, q7, HN⟩ | ⟨q0, q1, q2, q3, q4, q5, q6, q7, HN⟩
 all_goals
  first
   | (have hnum : ∀ (W : World) (g : Nat), W.heap[g]? = some (.cells #[.int .u8 a.kind, .bool a.bool, .int .i64 a.int, .string a.text, .int .u8 b.kind, .bool b.bool, .int .i64 b.int, .string b.text] 25 (0, 0)) → Calls Tryz.prog 102 #[.int .i64 s, .int .i64 10, .slice (some ⟨g, 0, none⟩) 2 2] W (RefPost X W) := fun W g hg => (by
    have h := num_two a b fa fb s 10 (by decide) W g hg
    rw [show numR s 10 = ov (a.int * b.int) from HN] at h
    rw [eX]
    exact h))
   | (have hnum : ∀ (W : World) (g : Nat), W.heap[g]? = some (.cells #[.int .u8 a.kind, .bool a.bool, .int .i64 a.int, .string a.text, .int .u8 b.kind, .bool b.bool, .int .i64 b.int, .string b.text] 25 (0, 0)) → Calls Tryz.prog 102 #[.int .i64 s, .int .i64 0, .slice (some ⟨g, 0, none⟩) 2 2] W (RefPost X W) := fun W g hg => (by
    have h := num_two a b fa fb s 0 (by decide) W g hg
    rw [show numR s 0 = ov (a.int * b.int) from HN] at h
    rw [eX]
    exact h))
  have HNUM := Lib.hid hnum
  clear hnum eX fa fb HN
  go_enter Tryz.func78, Tryz.ntmps78
  go_wp2_with fail
  rw [← HW1.out]
  obtain ⟨s0, s1, s2, s3, s4, s5, s6, s7⟩ := S1.out
  go_quiet (fail)
  go_wp2_with fail
  obtain ⟨w2, hw2⟩ : ∃ w2, w2 = w1.drewN nq := ⟨_, rfl⟩
  rw [← hw2]
  have hs2 : w2.cell? ⟨w.heap.size, 0, none⟩ = some (.int .u8 a.kind) ∧ w2.cell? ⟨w.heap.size, 1, none⟩ = some (.bool a.bool) ∧ w2.cell? ⟨w.heap.size, 2, none⟩ = some (.int .i64 a.int) ∧ w2.cell? ⟨w.heap.size, 3, none⟩ = some (.string a.text) ∧ w2.cell? ⟨w.heap.size + 1, 0, none⟩ = some (.int .u8 b.kind) ∧ w2.cell? ⟨w.heap.size + 1, 1, none⟩ = some (.bool b.bool) ∧ w2.cell? ⟨w.heap.size + 1, 2, none⟩ = some (.int .i64 b.int) ∧ w2.cell? ⟨w.heap.size + 1, 3, none⟩ = some (.string b.text) := by rw [hw2]; exact S1.out
  have hkeep2 : ∀ (w' : World), Below w2.heap.size w2 w' → w'.cell? ⟨w.heap.size, 0, none⟩ = some (.int .u8 a.kind) ∧ w'.cell? ⟨w.heap.size, 1, none⟩ = some (.bool a.bool) ∧ w'.cell? ⟨w.heap.size, 2, none⟩ = some (.int .i64 a.int) ∧ w'.cell? ⟨w.heap.size, 3, none⟩ = some (.string a.text) ∧ w'.cell? ⟨w.heap.size + 1, 0, none⟩ = some (.int .u8 b.kind) ∧ w'.cell? ⟨w.heap.size + 1, 1, none⟩ = some (.bool b.bool) ∧ w'.cell? ⟨w.heap.size + 1, 2, none⟩ = some (.int .i64 b.int) ∧ w'.cell? ⟨w.heap.size + 1, 3, none⟩ = some (.string b.text) := fun w' hb => ⟨cell_keep hb hs2.1, cell_keep hb hs2.2.1, cell_keep hb hs2.2.2.1, cell_keep hb hs2.2.2.2.1, cell_keep hb hs2.2.2.2.2.1, cell_keep hb hs2.2.2.2.2.2.1, cell_keep hb hs2.2.2.2.2.2.2.1, cell_keep hb hs2.2.2.2.2.2.2.2⟩
  have hb2 : Below w.heap.size w w2 := by rw [hw2]; exact Go.Pen.below_drewN HB1.out
  have ht2 : w2.heap[w.heap.size + 1 + 1]? = w1.heap[w.heap.size + 1 + 1]? := by rw [hw2]; rfl
  have T2 := Lib.hid (ht2.trans T1.out)
  have S2 := Lib.hid hs2
  have HKEEP2 := Lib.hid hkeep2
  have HB2 := Lib.hid hb2
  clear s0 s1 s2 s3 s4 s5 s6 s7 hs2 hkeep2 hb2 ht2 hw2
  obtain ⟨s0, s1, s2, s3, s4, s5, s6, s7⟩ := S2.out
  have n1 : w.heap.size + 1 + 1 ≠ w.heap.size := by omega
  have n2 : w.heap.size + 1 + 1 ≠ w.heap.size + 1 := by omega
  have hbS : Hid (Below w2.heap.size w2 (w2.alloc (.cells #[.int .u8 a.kind, .bool a.bool, .int .i64 a.int, .string a.text, .int .u8 b.kind, .bool b.bool, .int .i64 b.int, .string b.text] 25))) := Lib.hid (one_below _ _)
  go_region_held3 (fun w' => w'.cell? ⟨w.heap.size, 0, none⟩ = some (.int .u8 a.kind) ∧ w'.cell? ⟨w.heap.size, 1, none⟩ = some (.bool a.bool) ∧ w'.cell? ⟨w.heap.size, 2, none⟩ = some (.int .i64 a.int) ∧ w'.cell? ⟨w.heap.size, 3, none⟩ = some (.string a.text) ∧ w'.cell? ⟨w.heap.size + 1, 0, none⟩ = some (.int .u8 b.kind) ∧ w'.cell? ⟨w.heap.size + 1, 1, none⟩ = some (.bool b.bool) ∧ w'.cell? ⟨w.heap.size + 1, 2, none⟩ = some (.int .i64 b.int) ∧ w'.cell? ⟨w.heap.size + 1, 3, none⟩ = some (.string b.text))
   (first | go_keep | exact HKEEP2.out _ hbS.out | (simp only [cell_set_ne n1, cell_set_ne n2]; exact HKEEP2.out _ hbS.out))
   (first
   | (go_at_call 103; refine (over_180 _ _).mono ?_; rintro ev w6 ⟨rfl, rfl⟩)
   | (go_at_call 102; (with_reducible refine (HNUM.out _ _ (by first | exact heap_alloc_new w2 _ | exact heap_new_drew w2 _ | exact heap_new_drewN w2 _ _)).mono ?_); rintro ev w5 ⟨rfl, hb5⟩; have hbS : Hid (Below w2.heap.size w2 w5) := Lib.hid ((one_below w2 _).trans ((show Below (w2.alloc (.cells #[.int .u8 a.kind, .bool a.bool, .int .i64 a.int, .string a.text, .int .u8 b.kind, .bool b.bool, .int .i64 b.int, .string b.text] 25)).heap.size (w2.alloc (.cells #[.int .u8 a.kind, .bool a.bool, .int .i64 a.int, .string a.text, .int .u8 b.kind, .bool b.bool, .int .i64 b.int, .string b.text] 25)) w5 by first | exact hb5 | exact below_undrew hb5 | exact below_undrewN hb5).mono (by simp))); have t5 := (hbS.out.block _ (lt_of_heap T2.out)).trans T2.out; obtain ⟨z0, g0, z1, g1, z2, g2, z3, g3⟩ := cf4 t5; have T5 := Lib.hid t5; clear hb5 t5; unfold resI Dat.agg))
  all_goals go_wp2
  all_goals refine bodyPost_ret (results_row_tmp rfl _ _ (w.heap.size + 1 + 1) 25 _ (0, 0) _ rfl (setRow4_at T5.out) Tryz.underlying25 rfl (by kernel_rfl)) rfl ?_
  all_goals exact ⟨rfl, setRow4_below (HB2.out.trans (hbS.out.mono HB2.out.size)) (by show w.heap.size ≤ w.heap.size + 1 + 1; omega)⟩
end Go.Proofs.YtmmhedlagnjbiaaGreatDoor
