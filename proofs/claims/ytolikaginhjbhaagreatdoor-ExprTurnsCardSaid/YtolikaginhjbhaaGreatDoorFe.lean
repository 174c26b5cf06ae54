import Derived.Test.YtolikaginhjbhaaGreatDoorFd
/- What is known: the walk. -/
namespace Go.Proofs.YtolikaginhjbhaaGreatDoor
open Go.RowKit Go.Pen Go.Shelf
attribute [local go_sem] Oper.semAt_some

set_option maxRecDepth 100000 in
set_option maxHeartbeats 16000000 in
theorem known_14 (w : World) (hT : Lib.Utf8Tabs 1 2 w) (hE : ErrTy w) (h11 : 3 ≤ w.heap.size) :
    Calls Tryz.prog 14 #[] w fun ev w' => ev = .returned (.bool true) ∧ Below w.heap.size w w' := by
  have HT := Lib.hid hT
  have HE := Lib.hid hE
  have HB : Hid (Below w.heap.size w w) := Lib.hid (Below.refl _ _)
  clear hT hE
  go_enter Tryz.func14, Tryz.ntmps14
  go_wp2_with (first | (go_at_call 46; refine (col_46 _ _).mono ?_; rintro ev w1 ⟨rfl, hb1⟩; (try (have RD := Lib.hid (one_at hb1))); (try (have RD := Lib.hid (keepAt RD.out (by first | exact hb1 | exact (one_below _ _).trans (hb1.mono (by simp)))))); (try (have RG := Lib.hid (keepAt RG.out (by first | exact hb1 | exact (one_below _ _).trans (hb1.mono (by simp)))))); have HB := Lib.hid (below_step HB.out (by first | exact hb1 | exact (one_below _ _).trans (hb1.mono (by simp)))); clear hb1) | (go_at_call 24; refine (op_24 _ _ _ _ _).mono ?_; rintro ev w1 ⟨rfl, hb1⟩; (try (have RD := Lib.hid (keepAt RD.out (by first | exact hb1 | exact (one_below _ _).trans (hb1.mono (by simp)))))); (try (have RG := Lib.hid (keepAt RG.out (by first | exact hb1 | exact (one_below _ _).trans (hb1.mono (by simp)))))); have HB := Lib.hid (below_step HB.out (by first | exact hb1 | exact (one_below _ _).trans (hb1.mono (by simp)))); have RG := Lib.hid (one_at hb1); clear hb1) | (go_at_call 47; refine (int_47 _ _).mono ?_; rintro ev w1 ⟨rfl, hb1⟩; (try (have RD := Lib.hid (keepAt RD.out (by first | exact hb1 | exact (one_below _ _).trans (hb1.mono (by simp)))))); (try (have RG := Lib.hid (keepAt RG.out (by first | exact hb1 | exact (one_below _ _).trans (hb1.mono (by simp)))))); have HB := Lib.hid (below_step HB.out (by first | exact hb1 | exact (one_below _ _).trans (hb1.mono (by simp)))); clear hb1) | (go_at_call 12; refine (kn_12 7 2 (num 3, 0) (.tuple #[.agg #[.int .u8 3, .bool false, .int .i64 3, .string ⟨#[]⟩], .int .u16 0]) eval_72 rfl (by decide) (by decide) HB.out RG.out HT.out HE.out h11).mono ?_; rintro ev w1 ⟨rfl, hb1⟩; have HB := Lib.hid (below_step HB.out hb1); (try (have RD := Lib.hid (keepAt RD.out hb1))); clear hb1) | (go_at_call 12; refine (kn_12 7 0 (bad 11) (.tuple #[.agg #[.int .u8 0, .bool false, .int .i64 0, .string ⟨#[]⟩], .int .u16 11]) eval_70 rfl (by decide) (by decide) HB.out RG.out HT.out HE.out h11).mono ?_; rintro ev w1 ⟨rfl, hb1⟩; have HB := Lib.hid (below_step HB.out hb1); (try (have RD := Lib.hid (keepAt RD.out hb1))); clear hb1))
  have hw1 : Below w.heap.size w w1 := HB.out
  have HW1 := Lib.hid hw1
  have y0 := fun A => cell_of_heap (o := 0) (keepAt RD.out (one_below _ A)) rfl
  have y1 := fun A => cell_of_heap (o := 1) (keepAt RD.out (one_below _ A)) rfl
  have y2 := fun A => cell_of_heap (o := 2) (keepAt RD.out (one_below _ A)) rfl
  have y3 := fun A => cell_of_heap (o := 3) (keepAt RD.out (one_below _ A)) rfl
  clear hw1 RG HT HE HB
  go_region_with (go_at_call 47; refine (int_47 _ _).mono ?_; rintro ev w9 ⟨rfl, hb9⟩; have hb9' : Below w1.heap.size w1 w9 := (by first | exact (one_below _ _).trans (hb9.mono (by simp)) | exact (one_below _ _).trans ((below_undrew hb9).mono (by simp)) | exact (one_below _ _).trans ((below_undrewN hb9).mono (by simp))); have rd9 := keepAt RD.out hb9'; have u0 := cell_of_heap (o := 0) rd9 rfl; have u1 := cell_of_heap (o := 1) rd9 rfl; have u2 := cell_of_heap (o := 2) rd9 rfl; have u3 := cell_of_heap (o := 3) rd9 rfl; have HB9 := Lib.hid (below_step HW1.out hb9'); clear hb9 hb9' rd9)
  all_goals
    go_wp2
    go_ret
    exact ⟨rfl, by first | exact HB9.out | exact Go.Pen.below_drewN (n := 1) HB9.out | exact Go.Pen.below_drewN HB9.out⟩
end Go.Proofs.YtolikaginhjbhaaGreatDoor
