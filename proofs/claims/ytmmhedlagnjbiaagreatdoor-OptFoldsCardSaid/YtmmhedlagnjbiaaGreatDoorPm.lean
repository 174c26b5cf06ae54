import Derived.Test.YtmmhedlagnjbiaaGreatDoorPl
import Derived.Deep.WholeRow
/- our texts, shortened by program (pack.py) -/
set_option maxRecDepth 100000
set_option maxHeartbeats 4000000
namespace Go.Proofs.YtmmhedlagnjbiaaGreatDoor
open Go.RowKit Go.Pen
attribute [local go_sem] Oper.semAt_some
theorem setRow_at {w : World} {g : Nat} {c0 c : Array Value} {t : TypeId} {f : Nat × Nat} (h : w.heap[g]? = some (.cells c0 t f)) : (w.setRow g c).heap[g]? = some (.cells c t f) := by
 simp [World.setRow, Array.getElem?_modify, h]
theorem setRow_ne {w : World} {g q : Nat} {c : Array Value} (h : q ≠ g) : (w.setRow g c).heap[q]? = w.heap[q]? := by
 simp [World.setRow, Array.getElem?_modify, Ne.symm h]
theorem setRow_below {w : World} (g : Nat) (c : Array Value) : Below g w (w.setRow g c) := ⟨rfl, rfl, rfl, by simp [World.setRow], fun k hk => setRow_ne (by omega)⟩
theorem wpList_store_row {w : World} {ops : Array Oper} {rest : List Oper} {o : Oper} {a : Act} {Q : Exit → Act → World → Prop} (hg : o.guard = none) (ty : TypeId) (x y : Operand) (hop : o.op = .store ty x y) (g : Nat)
  (c c' : Array Value) (hx : a.eval x = .pointer (some ⟨g, 0, none⟩)) (hy : a.eval y = .agg c') (hb : w.heap[g]? = some (.cells c ty (0, 0))) (hi : (Tryz.prog.info? ty).map (·.size) = some c'.size) (hs : c.size = c'.size) (h1 : c'.all (·.oneCell') = true)
  (hK : wpList Tryz.prog ops Q rest (a.put o.dst undef) (w.setRow g c')) : wpList Tryz.prog ops Q (o :: rest) a w :=
 wpList_plain hg fun _ hK' => wp_store_row ty x y hop g c' hx hy ty c hb hi hs h1 (hK' _ _ hK)
theorem rule_98_leaf (kd a i : Int) (o : Addr) (w : World)  : Calls Tryz.prog 98 #[.pointer (some o), .agg #[.int .u8 kd, .int .i64 a, .int .i64 i, .slice none 0 0, .slice none 0 0, .slice none 0 0, .slice none 0 0, .slice none 0 0, .slice none 0 0, .slice none 0 0, .int .i64 0, .int .i64 0, .slice none 0 0]] w (StayPost (.leaf kd a i) (.slice none 0 0) (.slice none 0 0) w) := by
 have hta := ta_216_183
 obtain ⟨H, eH⟩ : ∃ H, H = w.heap.size := ⟨_, rfl⟩
 obtain ⟨w1, hw1⟩ : ∃ w1, w1 = (w.alloc (.cells #[.int .u8 kd, .int .i64 a, .int .i64 i, .slice none 0 0, .slice none 0 0, .slice none 0 0, .slice none 0 0, .slice none 0 0, .slice none 0 0, .slice none 0 0, .int .i64 0, .int .i64 0, .slice none 0 0] 56)).alloc (.cells #[.int .u8 0, .int .i64 0, .int .i64 0, .slice none 0 0, .slice none 0 0, .slice none 0 0, .slice none 0 0, .slice none 0 0, .slice none 0 0, .slice none 0 0, .int .i64 0, .int .i64 0, .slice none 0 0] 56) := ⟨_, rfl⟩
 have ht := two_at (w := w) (w1 := w1) (a := .cells #[.int .u8 kd, .int .i64 a, .int .i64 i, .slice none 0 0, .slice none 0 0, .slice none 0 0, .slice none 0 0, .slice none 0 0, .slice none 0 0, .slice none 0 0, .int .i64 0, .int .i64 0, .slice none 0 0] 56) (b := .cells #[.int .u8 0, .int .i64 0, .int .i64 0, .slice none 0 0, .slice none 0 0, .slice none 0 0, .slice none 0 0, .slice none 0 0, .slice none 0 0, .slice none 0 0, .int .i64 0, .int .i64 0, .slice none 0 0] 56) (by rw [hw1]; exact Below.refl _ _)
 rw [← eH] at ht
 have hb1 : Below w.heap.size w w1 := by rw [hw1]; exact two_below _ _ _
 have HS := Lib.hid (seen_leaf kd a i w1)
 have T0 := Lib.hid ht.1
 have T1 := Lib.hid ht.2
 have HB1 := Lib.hid hb1
 have HW1 := Lib.hid hw1
 have EH := Lib.hid eH
 clear ht hb1 hw1 eH
 go_enter Tryz.func98, Tryz.ntmps98
 go_wp2_with fail
 rw [← HW1.out, ← EH.out]
 refine HS.out.mono ?_
 rintro ev w2 ⟨rfl, hb⟩
 have u0 := (hb.block _ (lt_of_heap T0.out)).trans T0.out
 have u1 := (hb.block _ (lt_of_heap T1.out)).trans T1.out
 have HB2 := Lib.hid (HB1.out.trans (hb.mono HB1.out.size))
 have U0 := Lib.hid u0
 have U1 := Lib.hid u1
 have s0 := lt_of_heap u0
 have s1 := lt_of_heap u1
 clear u0 u1 hb HS HW1 s0 s1
 go_upto_region 2 with (refine wpList_store_new rfl 183 _ _ rfl _ _ rfl rfl (by kernel_rfl) rfl (by rfl) ?_)
 obtain ⟨w3, hw3⟩ : ∃ w3, w3 = w2.alloc (.cells #[.int .u8 0, .int .i64 0, .int .i64 0, .slice none 0 0, .slice none 0 0, .slice none 0 0, .slice none 0 0, .slice none 0 0, .slice none 0 0, .slice none 0 0, .int .i64 0, .int .i64 0, .slice none 0 0] 183) := ⟨_, rfl⟩
 have hb3 : Below w2.heap.size w2 w3 := by rw [hw3]; exact (Below.refl _ _).alloc (Nat.le_refl _) _
 obtain ⟨M, eM⟩ : ∃ M, M = w2.heap.size := ⟨_, rfl⟩
 have u0 := (hb3.block _ (lt_of_heap U0.out)).trans U0.out
 have u1 := (hb3.block _ (lt_of_heap U1.out)).trans U1.out
 have HB3 := Lib.hid (HB2.out.trans (hb3.mono HB2.out.size))
 have V1 := Lib.hid u1
 rw [← hw3, ← eM]
 obtain ⟨y0, y1, y2, y3, y4, y5, y6, y7, y8, y9, y10, y11, y12⟩ := cs13 u0
 obtain ⟨z0, g0, z1, g1, z2, g2, z3, g3, z4, g4, z5, g5, z6, g6, z7, g7, z8, g8, z9, g9, z10, g10, z11, g11, z12, g12⟩ := cf13 u1
 clear u0 u1 hb3 hw3 eM hta HB2 U0 U1 T0 T1 HB1
 go_wp2_with fail
 refine bodyPost_ret (results_row_tmp rfl _ _ (H + 1) 56 _ (0, 0) _ rfl (setRow13_at V1.out) Tryz.underlying56 rfl (by kernel_rfl)) rfl ?_
 exact ⟨rfl, setRow13_below HB3.out (by have := EH.out; omega)⟩
theorem rule_100_leaf (kd a i : Int) (o : Addr) (w : World)  : Calls Tryz.prog 100 #[.pointer (some o), .agg #[.int .u8 kd, .int .i64 a, .int .i64 i, .slice none 0 0, .slice none 0 0, .slice none 0 0, .slice none 0 0, .slice none 0 0, .slice none 0 0, .slice none 0 0, .int .i64 0, .int .i64 0, .slice none 0 0]] w (StayPost (.leaf kd a i) (.slice none 0 0) (.slice none 0 0) w) := by
 have hta := ta_216_177
 obtain ⟨H, eH⟩ : ∃ H, H = w.heap.size := ⟨_, rfl⟩
 obtain ⟨w1, hw1⟩ : ∃ w1, w1 = (w.alloc (.cells #[.int .u8 kd, .int .i64 a, .int .i64 i, .slice none 0 0, .slice none 0 0, .slice none 0 0, .slice none 0 0, .slice none 0 0, .slice none 0 0, .slice none 0 0, .int .i64 0, .int .i64 0, .slice none 0 0] 56)).alloc (.cells #[.int .u8 0, .int .i64 0, .int .i64 0, .slice none 0 0, .slice none 0 0, .slice none 0 0, .slice none 0 0, .slice none 0 0, .slice none 0 0, .slice none 0 0, .int .i64 0, .int .i64 0, .slice none 0 0] 56) := ⟨_, rfl⟩
 have ht := two_at (w := w) (w1 := w1) (a := .cells #[.int .u8 kd, .int .i64 a, .int .i64 i, .slice none 0 0, .slice none 0 0, .slice none 0 0, .slice none 0 0, .slice none 0 0, .slice none 0 0, .slice none 0 0, .int .i64 0, .int .i64 0, .slice none 0 0] 56) (b := .cells #[.int .u8 0, .int .i64 0, .int .i64 0, .slice none 0 0, .slice none 0 0, .slice none 0 0, .slice none 0 0, .slice none 0 0, .slice none 0 0, .slice none 0 0, .int .i64 0, .int .i64 0, .slice none 0 0] 56) (by rw [hw1]; exact Below.refl _ _)
 rw [← eH] at ht
 have hb1 : Below w.heap.size w w1 := by rw [hw1]; exact two_below _ _ _
 have HS := Lib.hid (seen_leaf kd a i w1)
 have T0 := Lib.hid ht.1
 have T1 := Lib.hid ht.2
 have HB1 := Lib.hid hb1
 have HW1 := Lib.hid hw1
 have EH := Lib.hid eH
 clear ht hb1 hw1 eH
 go_enter Tryz.func100, Tryz.ntmps100
 obtain ⟨T, eT⟩ : ∃ T : TypeId, T = 177 := ⟨_, rfl⟩
 try rw [← eT] at HS
 rw [← eT] at hta
 rw [← eT]
 have ET := Lib.hid eT
 clear eT
 go_wp2_with fail
 rw [← HW1.out, ← EH.out]
 refine HS.out.mono ?_
 rintro ev w2 ⟨rfl, hb⟩
 have u0 := (hb.block _ (lt_of_heap T0.out)).trans T0.out
 have u1 := (hb.block _ (lt_of_heap T1.out)).trans T1.out
 have HB2 := Lib.hid (HB1.out.trans (hb.mono HB1.out.size))
 have U0 := Lib.hid u0
 have U1 := Lib.hid u1
 have s0 := lt_of_heap u0
 have s1 := lt_of_heap u1
 clear u0 u1 hb HS HW1 s0 s1
 go_wp2_with fail
 obtain ⟨w3, hw3⟩ : ∃ w3, w3 = w2.alloc (.cells #[.int .u8 0, .int .i64 0, .int .i64 0, .slice none 0 0, .slice none 0 0, .slice none 0 0, .slice none 0 0, .slice none 0 0, .slice none 0 0, .slice none 0 0, .int .i64 0, .int .i64 0, .slice none 0 0, .int .u8 0, .int .i64 0, .int .i64 0, .slice none 0 0, .slice none 0 0, .slice none 0 0, .slice none 0 0, .slice none 0 0, .slice none 0 0, .slice none 0 0, .int .i64 0, .int .i64 0, .slice none 0 0] 177) := ⟨_, rfl⟩
 have eT := ET.out
 subst eT
 rw [Tryz.zeroValue177]
 simp only [Result.andThen]
 rw [Oper.upon_value, ← hw3]
 rename_i K0 hK0
 obtain ⟨M, eM⟩ : ∃ M, M = w2.heap.size := ⟨_, rfl⟩
 have tm : w3.heap[M]? = some (.cells #[.int .u8 0, .int .i64 0, .int .i64 0, .slice none 0 0, .slice none 0 0, .slice none 0 0, .slice none 0 0, .slice none 0 0, .slice none 0 0, .slice none 0 0, .int .i64 0, .int .i64 0, .slice none 0 0, .int .u8 0, .int .i64 0, .int .i64 0, .slice none 0 0, .slice none 0 0, .slice none 0 0, .slice none 0 0, .slice none 0 0, .slice none 0 0, .slice none 0 0, .int .i64 0, .int .i64 0, .slice none 0 0] 177 (0, 0)) := by rw [hw3, eM]; exact heap_alloc_new w2 _
 have hb3 : Below w2.heap.size w2 w3 := by rw [hw3]; exact (Below.refl _ _).alloc (Nat.le_refl _) _
 have m0 := lt_of_heap U0.out
 have m1 := lt_of_heap U1.out
 have u0 := (hb3.block _ m0).trans U0.out
 have u1 := (hb3.block _ m1).trans U1.out
 rw [← eM] at m0 m1
 rw [← eM]
 refine hK0 _ _ ?_
 simp only [Act.put, sA, sB, sC]
 refine wpList_store_row rfl 177 _ _ rfl M _ #[.int .u8 0, .int .i64 0, .int .i64 0, .slice none 0 0, .slice none 0 0, .slice none 0 0, .slice none 0 0, .slice none 0 0, .slice none 0 0, .slice none 0 0, .int .i64 0, .int .i64 0, .slice none 0 0, .int .u8 0, .int .i64 0, .int .i64 0, .slice none 0 0, .slice none 0 0, .slice none 0 0, .slice none 0 0, .slice none 0 0, .slice none 0 0, .slice none 0 0, .int .i64 0, .int .i64 0, .slice none 0 0] rfl rfl tm (by kernel_rfl) rfl (by simp [Value.oneCell']) ?_
 simp only [Act.put]
 have hb4 : Below M w3 (w3.setRow M #[.int .u8 0, .int .i64 0, .int .i64 0, .slice none 0 0, .slice none 0 0, .slice none 0 0, .slice none 0 0, .slice none 0 0, .slice none 0 0, .slice none 0 0, .int .i64 0, .int .i64 0, .slice none 0 0, .int .u8 0, .int .i64 0, .int .i64 0, .slice none 0 0, .slice none 0 0, .slice none 0 0, .slice none 0 0, .slice none 0 0, .slice none 0 0, .slice none 0 0, .int .i64 0, .int .i64 0, .slice none 0 0]) := setRow_below M _
 have x0 := (setRow_ne (w := w3) (c := #[.int .u8 0, .int .i64 0, .int .i64 0, .slice none 0 0, .slice none 0 0, .slice none 0 0, .slice none 0 0, .slice none 0 0, .slice none 0 0, .slice none 0 0, .int .i64 0, .int .i64 0, .slice none 0 0, .int .u8 0, .int .i64 0, .int .i64 0, .slice none 0 0, .slice none 0 0, .slice none 0 0, .slice none 0 0, .slice none 0 0, .slice none 0 0, .slice none 0 0, .int .i64 0, .int .i64 0, .slice none 0 0]) (show H ≠ M by omega)).trans u0
 have x1 := (setRow_ne (w := w3) (c := #[.int .u8 0, .int .i64 0, .int .i64 0, .slice none 0 0, .slice none 0 0, .slice none 0 0, .slice none 0 0, .slice none 0 0, .slice none 0 0, .slice none 0 0, .int .i64 0, .int .i64 0, .slice none 0 0, .int .u8 0, .int .i64 0, .int .i64 0, .slice none 0 0, .slice none 0 0, .slice none 0 0, .slice none 0 0, .slice none 0 0, .slice none 0 0, .slice none 0 0, .int .i64 0, .int .i64 0, .slice none 0 0]) (show H + 1 ≠ M by omega)).trans u1
 have xm := setRow_at (c := #[.int .u8 0, .int .i64 0, .int .i64 0, .slice none 0 0, .slice none 0 0, .slice none 0 0, .slice none 0 0, .slice none 0 0, .slice none 0 0, .slice none 0 0, .int .i64 0, .int .i64 0, .slice none 0 0, .int .u8 0, .int .i64 0, .int .i64 0, .slice none 0 0, .slice none 0 0, .slice none 0 0, .slice none 0 0, .slice none 0 0, .slice none 0 0, .slice none 0 0, .int .i64 0, .int .i64 0, .slice none 0 0]) tm
 obtain ⟨w4, hw4⟩ : ∃ w4, w4 = w3.setRow M #[.int .u8 0, .int .i64 0, .int .i64 0, .slice none 0 0, .slice none 0 0, .slice none 0 0, .slice none 0 0, .slice none 0 0, .slice none 0 0, .slice none 0 0, .int .i64 0, .int .i64 0, .slice none 0 0, .int .u8 0, .int .i64 0, .int .i64 0, .slice none 0 0, .slice none 0 0, .slice none 0 0, .slice none 0 0, .slice none 0 0, .slice none 0 0, .slice none 0 0, .int .i64 0, .int .i64 0, .slice none 0 0] := ⟨_, rfl⟩
 rw [← hw4] at hb4 x0 x1 xm ⊢
 have HB4 : Hid (Below w.heap.size w w4) := Lib.hid (HB2.out.trans ((hb3.trans (hb4.mono (Nat.le_of_eq eM.symm))).mono HB2.out.size))
 have X1 := Lib.hid x1
 clear tm u0 u1 hb3 hw3 eM hta HB2 U0 U1 T0 T1 HB1 hw4 hb4 xm
 obtain ⟨y0, y1, y2, y3, y4, y5, y6, y7, y8, y9, y10, y11, y12⟩ := cs13 x0
 obtain ⟨z0, g0, z1, g1, z2, g2, z3, g3, z4, g4, z5, g5, z6, g6, z7, g7, z8, g8, z9, g9, z10, g10, z11, g11, z12, g12⟩ := cf13 x1
 clear x0 x1
 go_wp2_with fail
 refine bodyPost_ret (results_row_tmp rfl _ _ (H + 1) 56 _ (0, 0) _ rfl (setRow13_at X1.out) Tryz.underlying56 rfl (by kernel_rfl)) rfl ?_
 exact ⟨rfl, setRow13_below HB4.out (by have := EH.out; omega)⟩
theorem rule_98_proj (ca : Option Addr) (cn cc kb kc : Nat) (k : RT) (xa ya : Option Addr) (xn xc yn yc : Nat) (cs : List Int) (o : Addr) (w : World) (hk : RCells w kb k (.slice xa xn xc) (.slice ya yn yc)) : Calls Tryz.prog 98 #[.pointer (some o), .agg #[.int .u8 5, .int .i64 0, .int .i64 0, .slice none 0 0, .slice ca cn cc, .slice none 0 0, .slice none 0 0, .slice none 0 0, .slice none 0 0, .slice none 0 0, .int .i64 0, .int .i64 0, .slice (some ⟨kb, 0, none⟩) 1 kc]] w (StayPost (.proj cs k) (.slice ca cn cc) (.slice (some ⟨kb, 0, none⟩) 1 kc) w) := by
 have hta := ta_177_183
 obtain ⟨H, eH⟩ : ∃ H, H = w.heap.size := ⟨_, rfl⟩
 obtain ⟨w1, hw1⟩ : ∃ w1, w1 = (w.alloc (.cells #[.int .u8 5, .int .i64 0, .int .i64 0, .slice none 0 0, .slice ca cn cc, .slice none 0 0, .slice none 0 0, .slice none 0 0, .slice none 0 0, .slice none 0 0, .int .i64 0, .int .i64 0, .slice (some ⟨kb, 0, none⟩) 1 kc] 56)).alloc (.cells #[.int .u8 0, .int .i64 0, .int .i64 0, .slice none 0 0, .slice none 0 0, .slice none 0 0, .slice none 0 0, .slice none 0 0, .slice none 0 0, .slice none 0 0, .int .i64 0, .int .i64 0, .slice none 0 0] 56) := ⟨_, rfl⟩
 have ht := two_at (w := w) (w1 := w1) (a := .cells #[.int .u8 5, .int .i64 0, .int .i64 0, .slice none 0 0, .slice ca cn cc, .slice none 0 0, .slice none 0 0, .slice none 0 0, .slice none 0 0, .slice none 0 0, .int .i64 0, .int .i64 0, .slice (some ⟨kb, 0, none⟩) 1 kc] 56) (b := .cells #[.int .u8 0, .int .i64 0, .int .i64 0, .slice none 0 0, .slice none 0 0, .slice none 0 0, .slice none 0 0, .slice none 0 0, .slice none 0 0, .slice none 0 0, .int .i64 0, .int .i64 0, .slice none 0 0] 56) (by rw [hw1]; exact Below.refl _ _)
 rw [← eH] at ht
 have hb1 : Below w.heap.size w w1 := by rw [hw1]; exact two_below _ _ _
 have HS := Lib.hid (seen_proj ca cn cc kb kc k xa ya xn xc yn yc w1 (hk.below hb1))
 have T0 := Lib.hid ht.1
 have T1 := Lib.hid ht.2
 have HB1 := Lib.hid hb1
 have HW1 := Lib.hid hw1
 have EH := Lib.hid eH
 clear ht hb1 hw1 eH
 go_enter Tryz.func98, Tryz.ntmps98
 go_wp2_with fail
 rw [← HW1.out, ← EH.out]
 refine HS.out.mono ?_
 rintro ev w2 ⟨rfl, hb⟩
 have u0 := (hb.block _ (lt_of_heap T0.out)).trans T0.out
 have u1 := (hb.block _ (lt_of_heap T1.out)).trans T1.out
 have HB2 := Lib.hid (HB1.out.trans (hb.mono HB1.out.size))
 have U0 := Lib.hid u0
 have U1 := Lib.hid u1
 have s0 := lt_of_heap u0
 have s1 := lt_of_heap u1
 clear u0 u1 hb HS HW1 s0 s1
 go_upto_region 2 with (refine wpList_store_new rfl 183 _ _ rfl _ _ rfl rfl (by kernel_rfl) rfl (by rfl) ?_)
 obtain ⟨w3, hw3⟩ : ∃ w3, w3 = w2.alloc (.cells #[.int .u8 0, .int .i64 0, .int .i64 0, .slice none 0 0, .slice none 0 0, .slice none 0 0, .slice none 0 0, .slice none 0 0, .slice none 0 0, .slice none 0 0, .int .i64 0, .int .i64 0, .slice none 0 0] 183) := ⟨_, rfl⟩
 have hb3 : Below w2.heap.size w2 w3 := by rw [hw3]; exact (Below.refl _ _).alloc (Nat.le_refl _) _
 obtain ⟨M, eM⟩ : ∃ M, M = w2.heap.size := ⟨_, rfl⟩
 have u0 := (hb3.block _ (lt_of_heap U0.out)).trans U0.out
 have u1 := (hb3.block _ (lt_of_heap U1.out)).trans U1.out
 have HB3 := Lib.hid (HB2.out.trans (hb3.mono HB2.out.size))
 have V1 := Lib.hid u1
 rw [← hw3, ← eM]
 obtain ⟨y0, y1, y2, y3, y4, y5, y6, y7, y8, y9, y10, y11, y12⟩ := cs13 u0
 obtain ⟨z0, g0, z1, g1, z2, g2, z3, g3, z4, g4, z5, g5, z6, g6, z7, g7, z8, g8, z9, g9, z10, g10, z11, g11, z12, g12⟩ := cf13 u1
 clear u0 u1 hb3 hw3 eM hta HB2 U0 U1 T0 T1 HB1
 go_wp2_with fail
 refine bodyPost_ret (results_row_tmp rfl _ _ (H + 1) 56 _ (0, 0) _ rfl (setRow13_at V1.out) Tryz.underlying56 rfl (by kernel_rfl)) rfl ?_
 exact ⟨rfl, setRow13_below HB3.out (by have := EH.out; omega)⟩
theorem rule_100_proj (ca : Option Addr) (cn cc kb kc : Nat) (k : RT) (xa ya : Option Addr) (xn xc yn yc : Nat) (cs : List Int) (o : Addr) (w : World) (hk : RCells w kb k (.slice xa xn xc) (.slice ya yn yc)) (hk3 : k.kind ≠ 3) : Calls Tryz.prog 100 #[.pointer (some o), .agg #[.int .u8 5, .int .i64 0, .int .i64 0, .slice none 0 0, .slice ca cn cc, .slice none 0 0, .slice none 0 0, .slice none 0 0, .slice none 0 0, .slice none 0 0, .int .i64 0, .int .i64 0, .slice (some ⟨kb, 0, none⟩) 1 kc]] w (StayPost (.proj cs k) (.slice ca cn cc) (.slice (some ⟨kb, 0, none⟩) 1 kc) w) := by
 have hta := ta_177_177
 obtain ⟨H, eH⟩ : ∃ H, H = w.heap.size := ⟨_, rfl⟩
 obtain ⟨w1, hw1⟩ : ∃ w1, w1 = (w.alloc (.cells #[.int .u8 5, .int .i64 0, .int .i64 0, .slice none 0 0, .slice ca cn cc, .slice none 0 0, .slice none 0 0, .slice none 0 0, .slice none 0 0, .slice none 0 0, .int .i64 0, .int .i64 0, .slice (some ⟨kb, 0, none⟩) 1 kc] 56)).alloc (.cells #[.int .u8 0, .int .i64 0, .int .i64 0, .slice none 0 0, .slice none 0 0, .slice none 0 0, .slice none 0 0, .slice none 0 0, .slice none 0 0, .slice none 0 0, .int .i64 0, .int .i64 0, .slice none 0 0] 56) := ⟨_, rfl⟩
 have ht := two_at (w := w) (w1 := w1) (a := .cells #[.int .u8 5, .int .i64 0, .int .i64 0, .slice none 0 0, .slice ca cn cc, .slice none 0 0, .slice none 0 0, .slice none 0 0, .slice none 0 0, .slice none 0 0, .int .i64 0, .int .i64 0, .slice (some ⟨kb, 0, none⟩) 1 kc] 56) (b := .cells #[.int .u8 0, .int .i64 0, .int .i64 0, .slice none 0 0, .slice none 0 0, .slice none 0 0, .slice none 0 0, .slice none 0 0, .slice none 0 0, .slice none 0 0, .int .i64 0, .int .i64 0, .slice none 0 0] 56) (by rw [hw1]; exact Below.refl _ _)
 rw [← eH] at ht
 have hb1 : Below w.heap.size w w1 := by rw [hw1]; exact two_below _ _ _
 have HS := Lib.hid (seen_proj ca cn cc kb kc k xa ya xn xc yn yc w1 (hk.below hb1))
 have T0 := Lib.hid ht.1
 have T1 := Lib.hid ht.2
 have HB1 := Lib.hid hb1
 have HW1 := Lib.hid hw1
 have EH := Lib.hid eH
 clear ht hb1 hw1 eH
 go_enter Tryz.func100, Tryz.ntmps100
 obtain ⟨T, eT⟩ : ∃ T : TypeId, T = 177 := ⟨_, rfl⟩
 try rw [← eT] at HS
 rw [← eT] at hta
 rw [← eT]
 have ET := Lib.hid eT
 clear eT
 go_wp2_with fail
 rw [← HW1.out, ← EH.out]
 refine HS.out.mono ?_
 rintro ev w2 ⟨rfl, hb⟩
 have u0 := (hb.block _ (lt_of_heap T0.out)).trans T0.out
 have u1 := (hb.block _ (lt_of_heap T1.out)).trans T1.out
 have HB2 := Lib.hid (HB1.out.trans (hb.mono HB1.out.size))
 have U0 := Lib.hid u0
 have U1 := Lib.hid u1
 have s0 := lt_of_heap u0
 have s1 := lt_of_heap u1
 clear u0 u1 hb HS HW1 s0 s1
 go_wp2_with fail
 obtain ⟨w3, hw3⟩ : ∃ w3, w3 = w2.alloc (.cells #[.int .u8 0, .int .i64 0, .int .i64 0, .slice none 0 0, .slice none 0 0, .slice none 0 0, .slice none 0 0, .slice none 0 0, .slice none 0 0, .slice none 0 0, .int .i64 0, .int .i64 0, .slice none 0 0, .int .u8 0, .int .i64 0, .int .i64 0, .slice none 0 0, .slice none 0 0, .slice none 0 0, .slice none 0 0, .slice none 0 0, .slice none 0 0, .slice none 0 0, .int .i64 0, .int .i64 0, .slice none 0 0] 177) := ⟨_, rfl⟩
 have eT := ET.out
 subst eT
 rw [Tryz.zeroValue177]
 simp only [Result.andThen]
 rw [Oper.upon_value, ← hw3]
 rename_i K0 hK0
 obtain ⟨M, eM⟩ : ∃ M, M = w2.heap.size := ⟨_, rfl⟩
 have tm : w3.heap[M]? = some (.cells #[.int .u8 0, .int .i64 0, .int .i64 0, .slice none 0 0, .slice none 0 0, .slice none 0 0, .slice none 0 0, .slice none 0 0, .slice none 0 0, .slice none 0 0, .int .i64 0, .int .i64 0, .slice none 0 0, .int .u8 0, .int .i64 0, .int .i64 0, .slice none 0 0, .slice none 0 0, .slice none 0 0, .slice none 0 0, .slice none 0 0, .slice none 0 0, .slice none 0 0, .int .i64 0, .int .i64 0, .slice none 0 0] 177 (0, 0)) := by rw [hw3, eM]; exact heap_alloc_new w2 _
 have hb3 : Below w2.heap.size w2 w3 := by rw [hw3]; exact (Below.refl _ _).alloc (Nat.le_refl _) _
 have m0 := lt_of_heap U0.out
 have m1 := lt_of_heap U1.out
 have u0 := (hb3.block _ m0).trans U0.out
 have u1 := (hb3.block _ m1).trans U1.out
 rw [← eM] at m0 m1
 rw [← eM]
 refine hK0 _ _ ?_
 simp only [Act.put, sA, sB, sC]
 refine wpList_store_row rfl 177 _ _ rfl M _ #[.int .u8 5, .int .i64 0, .int .i64 0, .slice none 0 0, .slice ca cn cc, .slice none 0 0, .slice none 0 0, .slice none 0 0, .slice none 0 0, .slice none 0 0, .int .i64 0, .int .i64 0, .slice (some ⟨kb, 0, none⟩) 1 kc, .int .u8 k.kind, .int .i64 k.ar, .int .i64 k.id, .slice none 0 0, .slice xa xn xc, .slice none 0 0, .slice none 0 0, .slice none 0 0, .slice none 0 0, .slice none 0 0, .int .i64 0, .int .i64 0, .slice ya yn yc] rfl rfl tm (by kernel_rfl) rfl (by simp [Value.oneCell']) ?_
 simp only [Act.put]
 have hb4 : Below M w3 (w3.setRow M #[.int .u8 5, .int .i64 0, .int .i64 0, .slice none 0 0, .slice ca cn cc, .slice none 0 0, .slice none 0 0, .slice none 0 0, .slice none 0 0, .slice none 0 0, .int .i64 0, .int .i64 0, .slice (some ⟨kb, 0, none⟩) 1 kc, .int .u8 k.kind, .int .i64 k.ar, .int .i64 k.id, .slice none 0 0, .slice xa xn xc, .slice none 0 0, .slice none 0 0, .slice none 0 0, .slice none 0 0, .slice none 0 0, .int .i64 0, .int .i64 0, .slice ya yn yc]) := setRow_below M _
 have x0 := (setRow_ne (w := w3) (c := #[.int .u8 5, .int .i64 0, .int .i64 0, .slice none 0 0, .slice ca cn cc, .slice none 0 0, .slice none 0 0, .slice none 0 0, .slice none 0 0, .slice none 0 0, .int .i64 0, .int .i64 0, .slice (some ⟨kb, 0, none⟩) 1 kc, .int .u8 k.kind, .int .i64 k.ar, .int .i64 k.id, .slice none 0 0, .slice xa xn xc, .slice none 0 0, .slice none 0 0, .slice none 0 0, .slice none 0 0, .slice none 0 0, .int .i64 0, .int .i64 0, .slice ya yn yc]) (show H ≠ M by omega)).trans u0
 have x1 := (setRow_ne (w := w3) (c := #[.int .u8 5, .int .i64 0, .int .i64 0, .slice none 0 0, .slice ca cn cc, .slice none 0 0, .slice none 0 0, .slice none 0 0, .slice none 0 0, .slice none 0 0, .int .i64 0, .int .i64 0, .slice (some ⟨kb, 0, none⟩) 1 kc, .int .u8 k.kind, .int .i64 k.ar, .int .i64 k.id, .slice none 0 0, .slice xa xn xc, .slice none 0 0, .slice none 0 0, .slice none 0 0, .slice none 0 0, .slice none 0 0, .int .i64 0, .int .i64 0, .slice ya yn yc]) (show H + 1 ≠ M by omega)).trans u1
 have xm := setRow_at (c := #[.int .u8 5, .int .i64 0, .int .i64 0, .slice none 0 0, .slice ca cn cc, .slice none 0 0, .slice none 0 0, .slice none 0 0, .slice none 0 0, .slice none 0 0, .int .i64 0, .int .i64 0, .slice (some ⟨kb, 0, none⟩) 1 kc, .int .u8 k.kind, .int .i64 k.ar, .int .i64 k.id, .slice none 0 0, .slice xa xn xc, .slice none 0 0, .slice none 0 0, .slice none 0 0, .slice none 0 0, .slice none 0 0, .int .i64 0, .int .i64 0, .slice ya yn yc]) tm
 obtain ⟨w4, hw4⟩ : ∃ w4, w4 = w3.setRow M #[.int .u8 5, .int .i64 0, .int .i64 0, .slice none 0 0, .slice ca cn cc, .slice none 0 0, .slice none 0 0, .slice none 0 0, .slice none 0 0, .slice none 0 0, .int .i64 0, .int .i64 0, .slice (some ⟨kb, 0, none⟩) 1 kc, .int .u8 k.kind, .int .i64 k.ar, .int .i64 k.id, .slice none 0 0, .slice xa xn xc, .slice none 0 0, .slice none 0 0, .slice none 0 0, .slice none 0 0, .slice none 0 0, .int .i64 0, .int .i64 0, .slice ya yn yc] := ⟨_, rfl⟩
 rw [← hw4] at hb4 x0 x1 xm ⊢
 have HB4 : Hid (Below w.heap.size w w4) := Lib.hid (HB2.out.trans ((hb3.trans (hb4.mono (Nat.le_of_eq eM.symm))).mono HB2.out.size))
 have x13 : w4.cell? ⟨M, 13, none⟩ = some (.int .u8 k.kind) := cell_of_heap xm rfl
 have X1 := Lib.hid x1
 clear tm u0 u1 hb3 hw3 eM hta HB2 U0 U1 T0 T1 HB1 hw4 hb4 xm
 obtain ⟨y0, y1, y2, y3, y4, y5, y6, y7, y8, y9, y10, y11, y12⟩ := cs13 x0
 obtain ⟨z0, g0, z1, g1, z2, g2, z3, g3, z4, g4, z5, g5, z6, g6, z7, g7, z8, g8, z9, g9, z10, g10, z11, g11, z12, g12⟩ := cf13 x1
 clear x0 x1
 go_wp2_with fail
 refine bodyPost_ret (results_row_tmp rfl _ _ (H + 1) 56 _ (0, 0) _ rfl (setRow13_at X1.out) Tryz.underlying56 rfl (by kernel_rfl)) rfl ?_
 exact ⟨rfl, setRow13_below HB4.out (by have := EH.out; omega)⟩
end Go.Proofs.YtmmhedlagnjbiaaGreatDoor
