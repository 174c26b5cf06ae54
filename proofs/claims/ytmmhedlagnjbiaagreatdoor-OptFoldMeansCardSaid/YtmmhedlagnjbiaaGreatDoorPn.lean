import Derived.Test.YtmmhedlagnjbiaaGreatDoorPm
/- our texts, shortened by program (pack.py) -/
set_option maxRecDepth 100000
set_option maxHeartbeats 4000000
namespace Go.Proofs.YtmmhedlagnjbiaaGreatDoor
open Go.RowKit Go.Pen
attribute [local go_sem] Oper.semAt_some
theorem rule_97_leaf (kd a i : Int) (o : Addr) (w : World)  : Calls Tryz.prog 97 #[.pointer (some o), .agg #[.int .u8 kd, .int .i64 a, .int .i64 i, .slice none 0 0, .slice none 0 0, .slice none 0 0, .slice none 0 0, .slice none 0 0, .slice none 0 0, .slice none 0 0, .int .i64 0, .int .i64 0, .slice none 0 0]] w (StayPost (.leaf kd a i) (.slice none 0 0) (.slice none 0 0) w) := by
 have hta := ta_216_177
 obtain ⟨H, eH⟩ : ∃ H, H = w.heap.size := ⟨_, rfl⟩
 obtain ⟨w1, hw1⟩ : ∃ w1, w1 = (w.alloc (.cells #[.int .u8 kd, .int .i64 a, .int .i64 i, .slice none 0 0, .slice none 0 0, .slice none 0 0, .slice none 0 0, .slice none 0 0, .slice none 0 0, .slice none 0 0, .int .i64 0, .int .i64 0, .slice none 0 0] 56)).alloc (.cells #[.int .u8 0, .int .i64 0, .int .i64 0, .slice none 0 0, .slice none 0 0, .slice none 0 0, .slice none 0 0, .slice none 0 0, .slice none 0 0, .slice none 0 0, .int .i64 0, .int .i64 0, .slice none 0 0] 56) := ⟨_, rfl⟩
 have ht := two_at (w := w) (w1 := w1) (a := .cells #[.int .u8 kd, .int .i64 a, .int .i64 i, .slice none 0 0, .slice none 0 0, .slice none 0 0, .slice none 0 0, .slice none 0 0, .slice none 0 0, .slice none 0 0, .int .i64 0, .int .i64 0, .slice none 0 0] 56) (b := .cells #[.int .u8 0, .int .i64 0, .int .i64 0, .slice none 0 0, .slice none 0 0, .slice none 0 0, .slice none 0 0, .slice none 0 0, .slice none 0 0, .slice none 0 0, .int .i64 0, .int .i64 0, .slice none 0 0] 56) (by rw [hw1]; exact Below.refl _ _)
 rw [← eH] at ht
 have hb1 : Below w.heap.size w w1 := by rw [hw1]; exact two_below _ _ _
 have HS := Lib.hid (seen_leaf kd a i w1)
 have T0 := Lib.hid ht.1
 have T1 := Lib.hid ht.2
 have HB1 := Lib.hid hb1
 have HW1 := Lib.hid hw1
 have EH := Lib.hid eH
 clear ht hb1 hw1 eH
 go_enter Tryz.func97, Tryz.ntmps97
 obtain ⟨T, eT⟩ : ∃ T : TypeId, T = 177 := ⟨_, rfl⟩
 try rw [← eT] at HS
 rw [← eT] at hta
 rw [← eT]
 have ET := Lib.hid eT
 clear eT
 go_wp2_with fail
 rw [← HW1.out, ← EH.out]
 refine HS.out.mono ?_
 rintro ev w2 ⟨rfl, hb⟩
 have u0 := (hb.block _ (lt_of_heap T0.out)).trans T0.out
 have u1 := (hb.block _ (lt_of_heap T1.out)).trans T1.out
 have HB2 := Lib.hid (HB1.out.trans (hb.mono HB1.out.size))
 have U0 := Lib.hid u0
 have U1 := Lib.hid u1
 have s0 := lt_of_heap u0
 have s1 := lt_of_heap u1
 clear u0 u1 hb HS HW1 s0 s1
 go_wp2_with fail
 obtain ⟨w3, hw3⟩ : ∃ w3, w3 = w2.alloc (.cells #[.int .u8 0, .int .i64 0, .int .i64 0, .slice none 0 0, .slice none 0 0, .slice none 0 0, .slice none 0 0, .slice none 0 0, .slice none 0 0, .slice none 0 0, .int .i64 0, .int .i64 0, .slice none 0 0, .int .u8 0, .int .i64 0, .int .i64 0, .slice none 0 0, .slice none 0 0, .slice none 0 0, .slice none 0 0, .slice none 0 0, .slice none 0 0, .slice none 0 0, .int .i64 0, .int .i64 0, .slice none 0 0] 177) := ⟨_, rfl⟩
 have eT := ET.out
 subst eT
 rw [Tryz.zeroValue177]
 simp only [Result.andThen]
 rw [Oper.upon_value, ← hw3]
 rename_i K0 hK0
 obtain ⟨M, eM⟩ : ∃ M, M = w2.heap.size := ⟨_, rfl⟩
 have tm : w3.heap[M]? = some (.cells #[.int .u8 0, .int .i64 0, .int .i64 0, .slice none 0 0, .slice none 0 0, .slice none 0 0, .slice none 0 0, .slice none 0 0, .slice none 0 0, .slice none 0 0, .int .i64 0, .int .i64 0, .slice none 0 0, .int .u8 0, .int .i64 0, .int .i64 0, .slice none 0 0, .slice none 0 0, .slice none 0 0, .slice none 0 0, .slice none 0 0, .slice none 0 0, .slice none 0 0, .int .i64 0, .int .i64 0, .slice none 0 0] 177 (0, 0)) := by rw [hw3, eM]; exact heap_alloc_new w2 _
 have hb3 : Below w2.heap.size w2 w3 := by rw [hw3]; exact (Below.refl _ _).alloc (Nat.le_refl _) _
 have m0 := lt_of_heap U0.out
 have m1 := lt_of_heap U1.out
 have u0 := (hb3.block _ m0).trans U0.out
 have u1 := (hb3.block _ m1).trans U1.out
 rw [← eM] at m0 m1
 rw [← eM]
 refine hK0 _ _ ?_
 simp only [Act.put, sA, sB, sC]
 refine wpList_store_row rfl 177 _ _ rfl M _ #[.int .u8 0, .int .i64 0, .int .i64 0, .slice none 0 0, .slice none 0 0, .slice none 0 0, .slice none 0 0, .slice none 0 0, .slice none 0 0, .slice none 0 0, .int .i64 0, .int .i64 0, .slice none 0 0, .int .u8 0, .int .i64 0, .int .i64 0, .slice none 0 0, .slice none 0 0, .slice none 0 0, .slice none 0 0, .slice none 0 0, .slice none 0 0, .slice none 0 0, .int .i64 0, .int .i64 0, .slice none 0 0] rfl rfl tm (by kernel_rfl) rfl (by simp [Value.oneCell']) ?_
 simp only [Act.put]
 have hb4 : Below M w3 (w3.setRow M #[.int .u8 0, .int .i64 0, .int .i64 0, .slice none 0 0, .slice none 0 0, .slice none 0 0, .slice none 0 0, .slice none 0 0, .slice none 0 0, .slice none 0 0, .int .i64 0, .int .i64 0, .slice none 0 0, .int .u8 0, .int .i64 0, .int .i64 0, .slice none 0 0, .slice none 0 0, .slice none 0 0, .slice none 0 0, .slice none 0 0, .slice none 0 0, .slice none 0 0, .int .i64 0, .int .i64 0, .slice none 0 0]) := setRow_below M _
 have x0 := (setRow_ne (w := w3) (c := #[.int .u8 0, .int .i64 0, .int .i64 0, .slice none 0 0, .slice none 0 0, .slice none 0 0, .slice none 0 0, .slice none 0 0, .slice none 0 0, .slice none 0 0, .int .i64 0, .int .i64 0, .slice none 0 0, .int .u8 0, .int .i64 0, .int .i64 0, .slice none 0 0, .slice none 0 0, .slice none 0 0, .slice none 0 0, .slice none 0 0, .slice none 0 0, .slice none 0 0, .int .i64 0, .int .i64 0, .slice none 0 0]) (show H ≠ M by omega)).trans u0
 have x1 := (setRow_ne (w := w3) (c := #[.int .u8 0, .int .i64 0, .int .i64 0, .slice none 0 0, .slice none 0 0, .slice none 0 0, .slice none 0 0, .slice none 0 0, .slice none 0 0, .slice none 0 0, .int .i64 0, .int .i64 0, .slice none 0 0, .int .u8 0, .int .i64 0, .int .i64 0, .slice none 0 0, .slice none 0 0, .slice none 0 0, .slice none 0 0, .slice none 0 0, .slice none 0 0, .slice none 0 0, .int .i64 0, .int .i64 0, .slice none 0 0]) (show H + 1 ≠ M by omega)).trans u1
 have xm := setRow_at (c := #[.int .u8 0, .int .i64 0, .int .i64 0, .slice none 0 0, .slice none 0 0, .slice none 0 0, .slice none 0 0, .slice none 0 0, .slice none 0 0, .slice none 0 0, .int .i64 0, .int .i64 0, .slice none 0 0, .int .u8 0, .int .i64 0, .int .i64 0, .slice none 0 0, .slice none 0 0, .slice none 0 0, .slice none 0 0, .slice none 0 0, .slice none 0 0, .slice none 0 0, .int .i64 0, .int .i64 0, .slice none 0 0]) tm
 obtain ⟨w4, hw4⟩ : ∃ w4, w4 = w3.setRow M #[.int .u8 0, .int .i64 0, .int .i64 0, .slice none 0 0, .slice none 0 0, .slice none 0 0, .slice none 0 0, .slice none 0 0, .slice none 0 0, .slice none 0 0, .int .i64 0, .int .i64 0, .slice none 0 0, .int .u8 0, .int .i64 0, .int .i64 0, .slice none 0 0, .slice none 0 0, .slice none 0 0, .slice none 0 0, .slice none 0 0, .slice none 0 0, .slice none 0 0, .int .i64 0, .int .i64 0, .slice none 0 0] := ⟨_, rfl⟩
 rw [← hw4] at hb4 x0 x1 xm ⊢
 have HB4 : Hid (Below w.heap.size w w4) := Lib.hid (HB2.out.trans ((hb3.trans (hb4.mono (Nat.le_of_eq eM.symm))).mono HB2.out.size))
 have X1 := Lib.hid x1
 clear tm u0 u1 hb3 hw3 eM hta HB2 U0 U1 T0 T1 HB1 hw4 hb4 xm
 obtain ⟨y0, y1, y2, y3, y4, y5, y6, y7, y8, y9, y10, y11, y12⟩ := cs13 x0
 obtain ⟨z0, g0, z1, g1, z2, g2, z3, g3, z4, g4, z5, g5, z6, g6, z7, g7, z8, g8, z9, g9, z10, g10, z11, g11, z12, g12⟩ := cf13 x1
 clear x0 x1
 go_wp2_with fail
 refine bodyPost_ret (results_row_tmp rfl _ _ (H + 1) 56 _ (0, 0) _ rfl (setRow13_at X1.out) Tryz.underlying56 rfl (by kernel_rfl)) rfl ?_
 exact ⟨rfl, setRow13_below HB4.out (by have := EH.out; omega)⟩
theorem wide_leaf (a i : Int) (o : Addr) (w : World) : Calls Tryz.prog 129 #[.pointer (some o), .agg #[.int .u8 1, .int .i64 a, .int .i64 i, .slice none 0 0, .slice none 0 0, .slice none 0 0, .slice none 0 0, .slice none 0 0, .slice none 0 0, .slice none 0 0, .int .i64 0, .int .i64 0, .slice none 0 0]] w fun ev w' => ev = .returned (.int .i64 a) ∧ Below w.heap.size w w' := by
 go_enter Tryz.func129, Tryz.ntmps129
 go_wp2_with fail
 go_ret
 exact ⟨rfl, allocs_below [_] w⟩
theorem wide_proj (ca : Option Addr) (cn cc kb kc : Nat) (o : Addr) (w : World) : Calls Tryz.prog 129 #[.pointer (some o), .agg #[.int .u8 5, .int .i64 0, .int .i64 0, .slice none 0 0, .slice ca cn cc, .slice none 0 0, .slice none 0 0, .slice none 0 0, .slice none 0 0, .slice none 0 0, .int .i64 0, .int .i64 0, .slice (some ⟨kb, 0, none⟩) 1 kc]] w fun ev w' => ev = .returned (.int .i64 cn) ∧ Below w.heap.size w w' := by
 go_enter Tryz.func129, Tryz.ntmps129
 go_wp2_with fail
 go_ret
 exact ⟨rfl, allocs_below [_] w⟩
theorem identity_no (K : Nat) (cb cc : Nat) (c n : Int) (w : World) (hK : 0 < K) (z0 : w.cell? ⟨cb, 0, none⟩ = some (.int .i64 c)) (hc : c ≠ 0) : Calls Tryz.prog 128 #[.slice (some ⟨cb, 0, none⟩) K cc, .int .i64 n] w fun ev w' => ev = .returned (.bool false) ∧ w' = w := by
 have sB := World.block_lt_of_cell? w _ z0
 go_enter Tryz.func128, Tryz.ntmps128
 go_wp2_with fail
 go_loopg [9] 0 (fun _ s9 wr => s9 = .int .i64 0 ∧ wr = w)
 case atStart => exact ⟨rfl, rfl⟩
 case round =>
  obtain ⟨rfl, rfl⟩ := hrel
  go_wp2
  go_ret
  exact ⟨rfl, rfl⟩
theorem identity_zero (cb cc : Nat) (n : Int) (w : World) (z0 : w.cell? ⟨cb, 0, none⟩ = some (.int .i64 0)) (hn : n ≠ 1) : Calls Tryz.prog 128 #[.slice (some ⟨cb, 0, none⟩) 1 cc, .int .i64 n] w fun ev w' => ev = .returned (.bool false) ∧ w' = w := by
 have sB := World.block_lt_of_cell? w _ z0
 have hn' : ¬ (1 : Int) = n := fun h => hn h.symm
 go_enter Tryz.func128, Tryz.ntmps128
 go_wp2_with fail
 go_loopg [9] 1 (fun g s9 wr => (g = 1 ∧ s9 = .int .i64 0 ∧ wr = w) ∨ (g = 0 ∧ s9 = .int .i64 1 ∧ wr = w))
 case atStart => exact .inl ⟨rfl, rfl, rfl⟩
 case round =>
  rcases hrel with ⟨rfl, rfl, rfl⟩ | ⟨rfl, rfl, rfl⟩
  ·go_wp2
   go_roundg 0
   case measure => omega
   case rel => exact .inr ⟨rfl, by go_num, rfl⟩
  ·go_wp2
   go_ret
   exact ⟨by simp [hn'], rfl⟩
end Go.Proofs.YtmmhedlagnjbiaaGreatDoor
