import Derived.Test.YtmmhedlagnjbiaaGreatDoorPq
/- our texts, shortened by program (pack.py) -/
set_option maxRecDepth 100000
set_option maxHeartbeats 4000000
namespace Go.Proofs.YtmmhedlagnjbiaaGreatDoor
open Go.RowKit Go.Pen
attribute [local go_sem] Oper.semAt_some
theorem row13_lt {w : World} {b g : Nat} {v0 v1 v2 v3 v4 v5 v6 v7 v8 v9 v10 v11 v12 : Value} (h : g < w.heap.size) : g < (setRow13 w b v0 v1 v2 v3 v4 v5 v6 v7 v8 v9 v10 v11 v12).heap.size := by rw [setRow13_size]; exact h
theorem seen_proj5 (ca : Option Addr) (cn cc kb kc : Nat) (k : RT) (xa ya : Option Addr) (xn xc yn yc : Nat) (w : World) (hk : RCells w kb k (.slice xa xn xc) (.slice ya yn yc)) (hk5 : k.kind = 5) : Calls Tryz.prog 127 #[.agg #[.int .u8 5, .int .i64 0, .int .i64 0, .slice none 0 0, .slice ca cn cc, .slice none 0 0, .slice none 0 0, .slice none 0 0, .slice none 0 0, .slice none 0 0, .int .i64 0, .int .i64 0, .slice (some ⟨kb, 0, none⟩) 1 kc]] w fun ev w' => ev = .returned (.iface 177 (.agg #[.int .u8 5, .int .i64 0, .int .i64 0, .slice none 0 0, .slice ca cn cc, .slice none 0 0, .slice none 0 0, .slice none 0 0, .slice none 0 0, .slice none 0 0, .int .i64 0, .int .i64 0, .slice (some ⟨kb, 0, none⟩) 1 kc, .int .u8 5, .int .i64 k.ar, .int .i64 k.id, .slice none 0 0, .slice xa xn xc, .slice none 0 0, .slice none 0 0, .slice none 0 0, .slice none 0 0, .slice none 0 0, .int .i64 0, .int .i64 0, .slice ya yn yc])) ∧ Below w.heap.size w w' := by
 have h := seen_proj ca cn cc kb kc k xa ya xn xc yn yc w hk
 rw [hk5] at h
 exact h
theorem rule_97_two (cb cc kb kc : Nat) (k : RT) (xb : Nat) (ya : Option Addr) (xc yn yc : Nat) (o : Addr) (w : World) (hk : RCells w kb k (.slice (some ⟨xb, 0, none⟩) 2 xc) (.slice ya yn yc)) (hk5 : k.kind = 5) (hc : w.cell? ⟨cb, 0, none⟩ = some (.int .i64 1)) (hx : w.cell? ⟨xb, 1, none⟩ = some (.int .i64 0)) (n : Int) (hwd : ∀ W, Calls Tryz.prog 129 #[.pointer (some o), .agg #[.int .u8 5, .int .i64 k.ar, .int .i64 k.id, .slice none 0 0, .slice (some ⟨xb, 0, none⟩) 2 xc, .slice none 0 0, .slice none 0 0, .slice none 0 0, .slice none 0 0, .slice none 0 0, .int .i64 0, .int .i64 0, .slice ya yn yc]] W fun ev w' => ev = .returned (.int .i64 n) ∧ Below W.heap.size W w') (hid : ∀ W, Below w.heap.size w W → Calls Tryz.prog 128 #[.slice (some ⟨cb, 0, none⟩) 1 cc, .int .i64 n] W fun ev w' => ev = .returned (.bool false) ∧ Below W.heap.size W w') : Calls Tryz.prog 97 #[.pointer (some o), .agg #[.int .u8 5, .int .i64 0, .int .i64 0, .slice none 0 0, .slice (some ⟨cb, 0, none⟩) 1 cc, .slice none 0 0, .slice none 0 0, .slice none 0 0, .slice none 0 0, .slice none 0 0, .int .i64 0, .int .i64 0, .slice (some ⟨kb, 0, none⟩) 1 kc]] w (fun ev w' => ∃ g, w.heap.size ≤ g ∧ g < w'.heap.size ∧ ev = .returned (.tuple #[.agg #[.int .u8 5, .int .i64 0, .int .i64 0, .slice none 0 0, .slice (some ⟨g, 0, none⟩) 1 1, .slice none 0 0, .slice none 0 0, .slice none 0 0, .slice none 0 0, .slice none 0 0, .int .i64 0, .int .i64 0, .slice ya yn yc], .bool true]) ∧ w'.cell? ⟨g, 0, none⟩ = some (.int .i64 0) ∧ Below w.heap.size w w') := by
 have HC := Lib.hid hc
 have HX := Lib.hid hx
 clear hc hx
 have hta := ta_177_177
 obtain ⟨H, eH⟩ : ∃ H, H = w.heap.size := ⟨_, rfl⟩
 obtain ⟨w1, hw1⟩ : ∃ w1, w1 = (w.alloc (.cells #[.int .u8 5, .int .i64 0, .int .i64 0, .slice none 0 0, .slice (some ⟨cb, 0, none⟩) 1 cc, .slice none 0 0, .slice none 0 0, .slice none 0 0, .slice none 0 0, .slice none 0 0, .int .i64 0, .int .i64 0, .slice (some ⟨kb, 0, none⟩) 1 kc] 56)).alloc (.cells #[.int .u8 0, .int .i64 0, .int .i64 0, .slice none 0 0, .slice none 0 0, .slice none 0 0, .slice none 0 0, .slice none 0 0, .slice none 0 0, .slice none 0 0, .int .i64 0, .int .i64 0, .slice none 0 0] 56) := ⟨_, rfl⟩
 have ht := two_at (w := w) (w1 := w1) (a := .cells #[.int .u8 5, .int .i64 0, .int .i64 0, .slice none 0 0, .slice (some ⟨cb, 0, none⟩) 1 cc, .slice none 0 0, .slice none 0 0, .slice none 0 0, .slice none 0 0, .slice none 0 0, .int .i64 0, .int .i64 0, .slice (some ⟨kb, 0, none⟩) 1 kc] 56) (b := .cells #[.int .u8 0, .int .i64 0, .int .i64 0, .slice none 0 0, .slice none 0 0, .slice none 0 0, .slice none 0 0, .slice none 0 0, .slice none 0 0, .slice none 0 0, .int .i64 0, .int .i64 0, .slice none 0 0] 56) (by rw [hw1]; exact Below.refl _ _)
 rw [← eH] at ht
 have hb1 : Below w.heap.size w w1 := by rw [hw1]; exact two_below _ _ _
 have HS := Lib.hid (seen_proj5 (some ⟨cb, 0, none⟩) 1 cc kb kc k (some ⟨xb, 0, none⟩) ya 2 xc yn yc w1 (hk.below hb1) hk5)
 have T0 := Lib.hid ht.1
 have T1 := Lib.hid ht.2
 have HB1 := Lib.hid hb1
 have HW1 := Lib.hid hw1
 have EH := Lib.hid eH
 clear ht hb1 hw1 eH hk hk5
 go_enter Tryz.func97, Tryz.ntmps97
 obtain ⟨T, eT⟩ : ∃ T : TypeId, T = 177 := ⟨_, rfl⟩
 try rw [← eT] at HS
 rw [← eT] at hta
 rw [← eT]
 have ET := Lib.hid eT
 clear eT
 go_wp2_with fail
 rw [← HW1.out, ← EH.out]
 refine HS.out.mono ?_
 rintro ev w2 ⟨rfl, hb⟩
 have u0 := (hb.block _ (lt_of_heap T0.out)).trans T0.out
 have u1 := (hb.block _ (lt_of_heap T1.out)).trans T1.out
 have HB2 := Lib.hid (HB1.out.trans (hb.mono HB1.out.size))
 have U0 := Lib.hid u0
 have U1 := Lib.hid u1
 have s0 := lt_of_heap u0
 have s1 := lt_of_heap u1
 clear u0 u1 hb HS HW1 s0 s1
 go_wp2_with fail
 obtain ⟨w3, hw3⟩ : ∃ w3, w3 = w2.alloc (.cells #[.int .u8 0, .int .i64 0, .int .i64 0, .slice none 0 0, .slice none 0 0, .slice none 0 0, .slice none 0 0, .slice none 0 0, .slice none 0 0, .slice none 0 0, .int .i64 0, .int .i64 0, .slice none 0 0, .int .u8 0, .int .i64 0, .int .i64 0, .slice none 0 0, .slice none 0 0, .slice none 0 0, .slice none 0 0, .slice none 0 0, .slice none 0 0, .slice none 0 0, .int .i64 0, .int .i64 0, .slice none 0 0] 177) := ⟨_, rfl⟩
 have eT := ET.out
 subst eT
 rw [Tryz.zeroValue177]
 simp only [Result.andThen]
 rw [Oper.upon_value, ← hw3]
 rename_i K0 hK0
 obtain ⟨M, eM⟩ : ∃ M, M = w2.heap.size := ⟨_, rfl⟩
 have tm : w3.heap[M]? = some (.cells #[.int .u8 0, .int .i64 0, .int .i64 0, .slice none 0 0, .slice none 0 0, .slice none 0 0, .slice none 0 0, .slice none 0 0, .slice none 0 0, .slice none 0 0, .int .i64 0, .int .i64 0, .slice none 0 0, .int .u8 0, .int .i64 0, .int .i64 0, .slice none 0 0, .slice none 0 0, .slice none 0 0, .slice none 0 0, .slice none 0 0, .slice none 0 0, .slice none 0 0, .int .i64 0, .int .i64 0, .slice none 0 0] 177 (0, 0)) := by rw [hw3, eM]; exact heap_alloc_new w2 _
 have hb3 : Below w2.heap.size w2 w3 := by rw [hw3]; exact (Below.refl _ _).alloc (Nat.le_refl _) _
 have m0 := lt_of_heap U0.out
 have m1 := lt_of_heap U1.out
 have u0 := (hb3.block _ m0).trans U0.out
 have u1 := (hb3.block _ m1).trans U1.out
 rw [← eM] at m0 m1
 rw [← eM]
 refine hK0 _ _ ?_
 simp only [Act.put, sA, sB, sC]
 refine wpList_store_row rfl 177 _ _ rfl M _ #[.int .u8 5, .int .i64 0, .int .i64 0, .slice none 0 0, .slice (some ⟨cb, 0, none⟩) 1 cc, .slice none 0 0, .slice none 0 0, .slice none 0 0, .slice none 0 0, .slice none 0 0, .int .i64 0, .int .i64 0, .slice (some ⟨kb, 0, none⟩) 1 kc, .int .u8 5, .int .i64 k.ar, .int .i64 k.id, .slice none 0 0, .slice (some ⟨xb, 0, none⟩) 2 xc, .slice none 0 0, .slice none 0 0, .slice none 0 0, .slice none 0 0, .slice none 0 0, .int .i64 0, .int .i64 0, .slice ya yn yc] rfl rfl tm (by kernel_rfl) rfl (by simp [Value.oneCell']) ?_
 simp only [Act.put]
 have hb4 : Below M w3 (w3.setRow M #[.int .u8 5, .int .i64 0, .int .i64 0, .slice none 0 0, .slice (some ⟨cb, 0, none⟩) 1 cc, .slice none 0 0, .slice none 0 0, .slice none 0 0, .slice none 0 0, .slice none 0 0, .int .i64 0, .int .i64 0, .slice (some ⟨kb, 0, none⟩) 1 kc, .int .u8 5, .int .i64 k.ar, .int .i64 k.id, .slice none 0 0, .slice (some ⟨xb, 0, none⟩) 2 xc, .slice none 0 0, .slice none 0 0, .slice none 0 0, .slice none 0 0, .slice none 0 0, .int .i64 0, .int .i64 0, .slice ya yn yc]) := setRow_below M _
 have x0 := (setRow_ne (w := w3) (c := #[.int .u8 5, .int .i64 0, .int .i64 0, .slice none 0 0, .slice (some ⟨cb, 0, none⟩) 1 cc, .slice none 0 0, .slice none 0 0, .slice none 0 0, .slice none 0 0, .slice none 0 0, .int .i64 0, .int .i64 0, .slice (some ⟨kb, 0, none⟩) 1 kc, .int .u8 5, .int .i64 k.ar, .int .i64 k.id, .slice none 0 0, .slice (some ⟨xb, 0, none⟩) 2 xc, .slice none 0 0, .slice none 0 0, .slice none 0 0, .slice none 0 0, .slice none 0 0, .int .i64 0, .int .i64 0, .slice ya yn yc]) (show H ≠ M by omega)).trans u0
 have x1 := (setRow_ne (w := w3) (c := #[.int .u8 5, .int .i64 0, .int .i64 0, .slice none 0 0, .slice (some ⟨cb, 0, none⟩) 1 cc, .slice none 0 0, .slice none 0 0, .slice none 0 0, .slice none 0 0, .slice none 0 0, .int .i64 0, .int .i64 0, .slice (some ⟨kb, 0, none⟩) 1 kc, .int .u8 5, .int .i64 k.ar, .int .i64 k.id, .slice none 0 0, .slice (some ⟨xb, 0, none⟩) 2 xc, .slice none 0 0, .slice none 0 0, .slice none 0 0, .slice none 0 0, .slice none 0 0, .int .i64 0, .int .i64 0, .slice ya yn yc]) (show H + 1 ≠ M by omega)).trans u1
 have xm := setRow_at (c := #[.int .u8 5, .int .i64 0, .int .i64 0, .slice none 0 0, .slice (some ⟨cb, 0, none⟩) 1 cc, .slice none 0 0, .slice none 0 0, .slice none 0 0, .slice none 0 0, .slice none 0 0, .int .i64 0, .int .i64 0, .slice (some ⟨kb, 0, none⟩) 1 kc, .int .u8 5, .int .i64 k.ar, .int .i64 k.id, .slice none 0 0, .slice (some ⟨xb, 0, none⟩) 2 xc, .slice none 0 0, .slice none 0 0, .slice none 0 0, .slice none 0 0, .slice none 0 0, .int .i64 0, .int .i64 0, .slice ya yn yc]) tm
 obtain ⟨w4, hw4⟩ : ∃ w4, w4 = w3.setRow M #[.int .u8 5, .int .i64 0, .int .i64 0, .slice none 0 0, .slice (some ⟨cb, 0, none⟩) 1 cc, .slice none 0 0, .slice none 0 0, .slice none 0 0, .slice none 0 0, .slice none 0 0, .int .i64 0, .int .i64 0, .slice (some ⟨kb, 0, none⟩) 1 kc, .int .u8 5, .int .i64 k.ar, .int .i64 k.id, .slice none 0 0, .slice (some ⟨xb, 0, none⟩) 2 xc, .slice none 0 0, .slice none 0 0, .slice none 0 0, .slice none 0 0, .slice none 0 0, .int .i64 0, .int .i64 0, .slice ya yn yc] := ⟨_, rfl⟩
 rw [← hw4] at hb4 x0 x1 xm ⊢
 have HB4 : Hid (Below w.heap.size w w4) := Lib.hid (HB2.out.trans ((hb3.trans (hb4.mono (Nat.le_of_eq eM.symm))).mono HB2.out.size))
 have x13 : w4.cell? ⟨M, 13, none⟩ = some (.int .u8 5) := cell_of_heap xm rfl
 have x14 : w4.cell? ⟨M, 14, none⟩ = some (.int .i64 k.ar) := cell_of_heap xm rfl
 have x15 : w4.cell? ⟨M, 15, none⟩ = some (.int .i64 k.id) := cell_of_heap xm rfl
 have x16 : w4.cell? ⟨M, 16, none⟩ = some (.slice none 0 0) := cell_of_heap xm rfl
 have x17 : w4.cell? ⟨M, 17, none⟩ = some (.slice (some ⟨xb, 0, none⟩) 2 xc) := cell_of_heap xm rfl
 have x18 : w4.cell? ⟨M, 18, none⟩ = some (.slice none 0 0) := cell_of_heap xm rfl
 have x19 : w4.cell? ⟨M, 19, none⟩ = some (.slice none 0 0) := cell_of_heap xm rfl
 have x20 : w4.cell? ⟨M, 20, none⟩ = some (.slice none 0 0) := cell_of_heap xm rfl
 have x21 : w4.cell? ⟨M, 21, none⟩ = some (.slice none 0 0) := cell_of_heap xm rfl
 have x22 : w4.cell? ⟨M, 22, none⟩ = some (.slice none 0 0) := cell_of_heap xm rfl
 have x23 : w4.cell? ⟨M, 23, none⟩ = some (.int .i64 0) := cell_of_heap xm rfl
 have x24 : w4.cell? ⟨M, 24, none⟩ = some (.int .i64 0) := cell_of_heap xm rfl
 have x25 : w4.cell? ⟨M, 25, none⟩ = some (.slice ya yn yc) := cell_of_heap xm rfl
 have sM := lt_of_heap xm
 have X1 := Lib.hid x1
 clear tm u0 u1 hb3 hw3 eM hta HB2 U0 U1 T0 T1 HB1 hw4 hb4 xm
 obtain ⟨y0, y1, y2, y3, y4, y5, y6, y7, y8, y9, y10, y11, y12⟩ := cs13 x0
 obtain ⟨z0, g0, z1, g1, z2, g2, z3, g3, z4, g4, z5, g5, z6, g6, z7, g7, z8, g8, z9, g9, z10, g10, z11, g11, z12, g12⟩ := cf13 x1
 have s0 := lt_of_heap x0
 have s1 := lt_of_heap x1
 clear x0 x1
 have HWD := Lib.hid hwd
 have HID : Hid (∀ W, Below w4.heap.size w4 W → Calls Tryz.prog 128 #[.slice (some ⟨cb, 0, none⟩) 1 cc, .int .i64 n] W fun ev w' => ev = .returned (.bool false) ∧ Below W.heap.size W w') := Lib.hid fun W hb => hid W (HB4.out.trans (hb.mono HB4.out.size))
 clear hwd hid
 go_upto_region 9 with fail
 go_quiet (fail)
 go_upto_region 11 with fail
 obtain ⟨N, eN⟩ : ∃ N, N = w4.heap.size := ⟨_, rfl⟩
 obtain ⟨wr, hwr⟩ : ∃ wr, wr = ((w4.alloc (.cells #[.int .u8 5, .int .i64 k.ar, .int .i64 k.id, .slice none 0 0, .slice (some ⟨xb, 0, none⟩) 2 xc, .slice none 0 0, .slice none 0 0, .slice none 0 0, .slice none 0 0, .slice none 0 0, .int .i64 0, .int .i64 0, .slice ya yn yc] 56)).drewN nq).drew := ⟨_, rfl⟩
 have hbr : Below w4.heap.size w4 wr := by rw [hwr]; exact (Go.Pen.below_drewN ((Below.refl _ _).alloc (Nat.le_refl _) _)).drew
 have nN : wr.heap[N]? = some (.cells #[.int .u8 5, .int .i64 k.ar, .int .i64 k.id, .slice none 0 0, .slice (some ⟨xb, 0, none⟩) 2 xc, .slice none 0 0, .slice none 0 0, .slice none 0 0, .slice none 0 0, .slice none 0 0, .int .i64 0, .int .i64 0, .slice ya yn yc] 56 (0, 0)) := by rw [hwr, eN]; exact heap_alloc_new w4 _
 have HS : Hid (∀ W, Below wr.heap.size wr W → W.cell? ⟨H, 0, none⟩ = some (.int .u8 5) ∧ W.cell? ⟨H, 4, none⟩ = some (.slice (some ⟨cb, 0, none⟩) 1 cc) ∧ W.cell? ⟨N, 0, none⟩ = some (.int .u8 5) ∧ W.cell? ⟨N, 1, none⟩ = some (.int .i64 k.ar) ∧ W.cell? ⟨N, 2, none⟩ = some (.int .i64 k.id) ∧ W.cell? ⟨N, 3, none⟩ = some (.slice none 0 0) ∧ W.cell? ⟨N, 4, none⟩ = some (.slice (some ⟨xb, 0, none⟩) 2 xc) ∧ W.cell? ⟨N, 5, none⟩ = some (.slice none 0 0) ∧ W.cell? ⟨N, 6, none⟩ = some (.slice none 0 0) ∧ W.cell? ⟨N, 7, none⟩ = some (.slice none 0 0) ∧ W.cell? ⟨N, 8, none⟩ = some (.slice none 0 0) ∧ W.cell? ⟨N, 9, none⟩ = some (.slice none 0 0) ∧ W.cell? ⟨N, 10, none⟩ = some (.int .i64 0) ∧ W.cell? ⟨N, 11, none⟩ = some (.int .i64 0) ∧ W.cell? ⟨N, 12, none⟩ = some (.slice ya yn yc)) := Lib.hid fun W hb => by
  have hbw := hbr.trans (hb.mono hbr.size)
  have h := (hb.block _ (lt_of_heap nN)).trans nN
  exact ⟨cell_below hbw s0 y0, cell_below hbw s0 y4, cell_of_heap h rfl, cell_of_heap h rfl, cell_of_heap h rfl, cell_of_heap h rfl, cell_of_heap h rfl, cell_of_heap h rfl, cell_of_heap h rfl, cell_of_heap h rfl, cell_of_heap h rfl, cell_of_heap h rfl, cell_of_heap h rfl, cell_of_heap h rfl, cell_of_heap h rfl⟩
 have HBR := Lib.hid hbr
 have HIDD := HID
 clear HID
 have HID : Hid (∀ W, Below wr.heap.size wr W → Calls Tryz.prog 128 #[.slice (some ⟨cb, 0, none⟩) 1 cc, .int .i64 n] W fun ev w' => ev = .returned (.bool false) ∧ Below W.heap.size W w') := Lib.hid fun W hb => HIDD.out W (HBR.out.trans (hb.mono HBR.out.size))
 have CB0 := Lib.hid (Below.refl wr.heap.size wr)
 rw [← eN]
 refine wp_region_held_drew (S := fun W => W.cell? ⟨H, 0, none⟩ = some (.int .u8 5) ∧ W.cell? ⟨H, 4, none⟩ = some (.slice (some ⟨cb, 0, none⟩) 1 cc) ∧ W.cell? ⟨N, 0, none⟩ = some (.int .u8 5) ∧ W.cell? ⟨N, 1, none⟩ = some (.int .i64 k.ar) ∧ W.cell? ⟨N, 2, none⟩ = some (.int .i64 k.id) ∧ W.cell? ⟨N, 3, none⟩ = some (.slice none 0 0) ∧ W.cell? ⟨N, 4, none⟩ = some (.slice (some ⟨xb, 0, none⟩) 2 xc) ∧ W.cell? ⟨N, 5, none⟩ = some (.slice none 0 0) ∧ W.cell? ⟨N, 6, none⟩ = some (.slice none 0 0) ∧ W.cell? ⟨N, 7, none⟩ = some (.slice none 0 0) ∧ W.cell? ⟨N, 8, none⟩ = some (.slice none 0 0) ∧ W.cell? ⟨N, 9, none⟩ = some (.slice none 0 0) ∧ W.cell? ⟨N, 10, none⟩ = some (.int .i64 0) ∧ W.cell? ⟨N, 11, none⟩ = some (.int .i64 0) ∧ W.cell? ⟨N, 12, none⟩ = some (.slice ya yn yc)) (by kernel_rfl) (by rw [← hwr]; exact HS.out wr (Below.refl _ _)) (fun hHeld => ?_)
 rw [← hwr] at hHeld ⊢
 clear hwr hbr nN HIDD eN
 refine wpAnyH_take (i := 0) (oi := ⟨some 76, _, _, _, _, _⟩) (v := ?_) rfl (by kernel_rfl) (by kernel_rfl) (by kernel_rfl) (fun _ _ _ h => h) (Or.inl ⟨by rfl, ?_⟩) (by assumption) ?_; rotate_left; (intro w hSw; (try dsimp only at hSw); go_simp; (try with_reducible rfl)); (try simp only [Act.put, sA, sB, sC])
 refine wpAnyH_take (i := 1) (oi := ⟨some 77, _, _, _, _, _⟩) (v := ?_) rfl (by kernel_rfl) (by kernel_rfl) (by kernel_rfl) (fun _ _ _ h => h) (Or.inl ⟨by rfl, ?_⟩) (by assumption) ?_; rotate_left; (intro w hSw; (try dsimp only at hSw); go_simp; (try with_reducible rfl)); (try simp only [Act.put, sA, sB, sC])
 refine wpAnyH_take (i := 2) (oi := ⟨some 78, _, _, _, _, _⟩) (v := ?_) rfl (by kernel_rfl) (by kernel_rfl) (by kernel_rfl) (fun _ _ _ h => h) (Or.inl ⟨by rfl, ?_⟩) (by assumption) ?_; rotate_left; (intro w hSw; (try dsimp only at hSw); go_simp; (try with_reducible rfl)); (try simp only [Act.put, sA, sB, sC])
 refine wpAnyH_take (i := 3) (oi := ⟨some 79, _, _, _, _, _⟩) (v := ?_) rfl (by kernel_rfl) (by kernel_rfl) (by kernel_rfl) (fun _ _ _ h => h) (Or.inl ⟨by rfl, ?_⟩) (by assumption) ?_; rotate_left; (intro w hSw; (try dsimp only at hSw); go_simp; (try with_reducible rfl)); (try simp only [Act.put, sA, sB, sC])
 refine wpAnyH_take (i := 4) (oi := ⟨some 80, _, _, _, _, _⟩) (v := ?_) rfl (by kernel_rfl) (by kernel_rfl) (by kernel_rfl) (fun _ _ _ h => h) (Or.inl ⟨by rfl, ?_⟩) (by assumption) ?_; rotate_left; (intro w hSw; (try dsimp only at hSw); go_simp; (try with_reducible rfl)); (try simp only [Act.put, sA, sB, sC])
 refine wpAnyH_take (i := 5) (oi := ⟨some 81, _, _, _, _, _⟩) (v := ?_) rfl (by kernel_rfl) (by kernel_rfl) (by kernel_rfl) (fun _ _ _ h => h) (Or.inl ⟨by rfl, ?_⟩) (by assumption) ?_; rotate_left; (intro w hSw; (try dsimp only at hSw); go_simp; (try with_reducible rfl)); (try simp only [Act.put, sA, sB, sC])
 refine wpAnyH_take (i := 6) (oi := ⟨some 82, _, _, _, _, _⟩) (v := ?_) rfl (by kernel_rfl) (by kernel_rfl) (by kernel_rfl) (fun _ _ _ h => h) (Or.inl ⟨by rfl, ?_⟩) (by assumption) ?_; rotate_left; (intro w hSw; (try dsimp only at hSw); go_simp; (try with_reducible rfl)); (try simp only [Act.put, sA, sB, sC])
 refine wpAnyH_take (i := 7) (oi := ⟨some 83, _, _, _, _, _⟩) (v := ?_) rfl (by kernel_rfl) (by kernel_rfl) (by kernel_rfl) (fun _ _ _ h => h) (Or.inl ⟨by rfl, ?_⟩) (by assumption) ?_; rotate_left; (intro w hSw; (try dsimp only at hSw); go_simp; (try with_reducible rfl)); (try simp only [Act.put, sA, sB, sC])
 refine wpAnyH_ready (rs := [8]) (by kernel_rfl) (by simp) ?_
 refine AllReadyH.cons (o := ⟨some 84, _, _, _, _, _⟩) rfl (fun KK hK => ?_) (AllReadyH.nil)
 go_simp
 go_at_call 129
 with_reducible refine (HWD.out _).mono ?_
 rintro ev Z1 ⟨rfl, hb⟩
 have CB1 := Lib.hid (CB0.out.trans (hb.mono CB0.out.size))
 clear hb
 go_wp2_with fail
 refine hK.out _ _ (HS.out _ CB1.out) (fun hHeld => ?_)
 clear hK KK
 skip
 refine wpAnyH_ready (rs := [9]) (by kernel_rfl) (by simp) ?_
 refine AllReadyH.cons (o := ⟨some 85, _, _, _, _, _⟩) rfl (fun KK hK => ?_) (AllReadyH.nil)
 go_simp
 go_at_call 128
 with_reducible refine (HID.out _ CB1.out).mono ?_
 rintro ev Z2 ⟨rfl, hb⟩
 have CB2 := Lib.hid (CB1.out.trans (hb.mono CB1.out.size))
 clear hb
 go_wp2_with fail
 refine hK.out _ _ (HS.out _ CB2.out) (fun hHeld => ?_)
 clear hK KK
 skip
 refine wpAnyH_take (i := 10) (oi := ⟨some 86, _, _, _, _, _⟩) (v := ?_) rfl (by kernel_rfl) (by kernel_rfl) (by kernel_rfl) (fun _ _ _ h => h) (Or.inl ⟨by rfl, ?_⟩) (by assumption) ?_; rotate_left; (intro w hSw; (try dsimp only at hSw); go_simp; (try with_reducible rfl)); (try simp only [Act.put, sA, sB, sC])
 refine wpAnyH_take (i := 11) (oi := ⟨some 75, _, _, _, _, _⟩) (v := ?_) rfl (by kernel_rfl) (by kernel_rfl) (by kernel_rfl) (fun _ _ _ h => h) (Or.inl ⟨by rfl, ?_⟩) (by assumption) ?_; rotate_left; (intro w hSw; (try dsimp only at hSw); go_simp; (try with_reducible rfl)); (try simp only [Act.put, sA, sB, sC])
 refine wpAnyH_done (by kernel_rfl) ?_ _
 have hbw := HBR.out.trans (CB2.out.mono HBR.out.size)
 have x1f := (hbw.block _ s1).trans X1.out
 have hN := (HS.out _ CB2.out).2.2
 have h4 := (HS.out _ CB2.out).2.1
 have s0f := Nat.lt_of_lt_of_le s0 hbw.size
 have hbf := HB4.out.trans (hbw.mono HB4.out.size)
 have hc2 := cell_below hbf (World.block_lt_of_cell? w _ HC.out) HC.out
 have hx2 := cell_below hbf (World.block_lt_of_cell? w _ HX.out) HX.out
 have sN := World.block_lt_of_cell? Z2 _ hN.1
 have sC := World.block_lt_of_cell? Z2 _ hc2
 have sX := World.block_lt_of_cell? Z2 _ hx2
 have HZ : Hid (∀ W, Below Z2.heap.size Z2 W → W.cell? ⟨H, 4, none⟩ = some (.slice (some ⟨cb, 0, none⟩) 1 cc) ∧ W.cell? ⟨N, 4, none⟩ = some (.slice (some ⟨xb, 0, none⟩) 2 xc) ∧ W.cell? ⟨N, 12, none⟩ = some (.slice ya yn yc) ∧ W.cell? ⟨cb, 0, none⟩ = some (.int .i64 1) ∧ W.cell? ⟨xb, 1, none⟩ = some (.int .i64 0) ∧ W.heap[H + 1]? = some (.cells #[.int .u8 0, .int .i64 0, .int .i64 0, .slice none 0 0, .slice none 0 0, .slice none 0 0, .slice none 0 0, .slice none 0 0, .slice none 0 0, .slice none 0 0, .int .i64 0, .int .i64 0, .slice none 0 0] 56 (0, 0))) := Lib.hid fun W hb => ⟨cell_below hb s0f h4, cell_below hb sN hN.2.2.2.2.1, cell_below hb sN hN.2.2.2.2.2.2.2.2.2.2.2.2, cell_below hb sC hc2, cell_below hb sX hx2, (hb.block _ (lt_of_heap x1f)).trans x1f⟩
 have n0 := hN.1
 have HBf := Lib.hid hbf
 have SZ := Lib.hid (show H + 1 < Z2.heap.size from lt_of_heap x1f)
 obtain ⟨i0, hi0, hz0, hz1, hz2⟩ := info_parts info3
 clear hbw hbf x1f hN s0f hc2 hx2 sN sC sX y0 z0 g0 y1 z1 g1 y2 z2 g2 y3 z3 g3 y4 z4 g4 y5 z5 g5 y6 z6 g6 y7 z7 g7 y8 z8 g8 y9 z9 g9 y10 z10 g10 y11 z11 g11 y12 z12 g12
 go_wp2_with (at_make; refine wpList_make_full _ rfl _ _ 49 rfl Z2.heap.size 3 i0 _ 1 Tryz.underlying49 hi0 hz0 hz1 .i64 .i64 (1 : Int) (1 : Int) 1 rfl rfl rfl rfl (by rw [hz2]; omega) (by unfold maxLen; omega) (by simp) ?_)
 intro w5 ho5 hg5
 have hb5 : Below Z2.heap.size Z2 w5 := (Below.refl _ _).grown hg5 (Nat.le_refl _) (by intro k hk; cases hk)
 obtain ⟨G, eG⟩ : ∃ G, G = Z2.heap.size := ⟨_, rfl⟩
 rw [← eG] at ho5 ⊢
 rcases ho5.2 with ⟨e5, -⟩ | ⟨g5, cap5, cur5, e5, -, g2, -, -, -, -⟩
 ·cases e5
 cases e5
 have o0 : w5.cell? ⟨G, 0, none⟩ = some (.int .i64 0) := (ho5.cellAt 0 (by decide)).trans (by simp [madeCells])
 have hb6 : Below Z2.heap.size Z2 (w5.setCell ⟨G, 0, none⟩ (.int .i64 0)) := hb5.setCell (p := ⟨G, 0, none⟩) (Nat.le_of_eq eG.symm) _
 have o1 := World.cell?_setCell_same' w5 ⟨G, 0, none⟩ (.int .i64 0) (by rw [o0]; rfl)
 have HB5 := Lib.hid hb5
 have HB6 := Lib.hid hb6
 have EG := Lib.hid eG
 have G2 := Lib.hid g2
 have O0 := Lib.hid o0
 have O1 := Lib.hid o1
 clear ho5 hg5 hb5 hb6 eG g2 o0 o1 h4 n0
 obtain ⟨h4, n4, n12, c0, x1, b1⟩ := HZ.out w5 HB5.out
 have sH := World.block_lt_of_cell? w5 _ h4
 go_wp2_with fail
 clear h4 n4 n12 c0 x1 b1 sH
 go_loopg [104] 1 (fun g s104 wr => (g = 1 ∧ s104 = .int .i64 0 ∧ wr = w5) ∨ (g = 0 ∧ s104 = .int .i64 1 ∧ wr = w5.setCell ⟨G, 0, none⟩ (.int .i64 0)))
 case atStart => exact .inl ⟨rfl, rfl, rfl⟩
 case round =>
  rcases hrel with ⟨rfl, rfl, rfl⟩ | ⟨rfl, rfl, rfl⟩
  ·obtain ⟨h4, n4, n12, c0, x1, b1⟩ := HZ.out wr HB5.out
   have o0 := O0.out
   have sG := lt_of_heap G2.out
   have fG := frozen_of_heap (o := 0) G2.out
   have sC := World.block_lt_of_cell? wr _ c0
   have sX := World.block_lt_of_cell? wr _ x1
   have sN := World.block_lt_of_cell? wr _ n4
   go_wp2_with fail
   go_roundg 0
   case measure => omega
   case rel => exact .inr ⟨rfl, by go_num, rfl⟩
  ·obtain ⟨w6, hw6⟩ : ∃ w6, w6 = w5.setCell ⟨G, 0, none⟩ (.int .i64 0) := ⟨_, rfl⟩
   rw [← hw6] at HB6 O1 ⊢
   obtain ⟨h4, n4, n12, c0, x1, b1⟩ := HZ.out w6 HB6.out
   have B1 := Lib.hid b1
   have sN := World.block_lt_of_cell? w6 _ n4
   have sB := lt_of_heap b1
   obtain ⟨zz0, gg0, zz1, gg1, zz2, gg2, zz3, gg3, zz4, gg4, zz5, gg5, zz6, gg6, zz7, gg7, zz8, gg8, zz9, gg9, zz10, gg10, zz11, gg11, zz12, gg12⟩ := cf13 b1
   clear b1 hw6
   go_wp2_with fail
   refine bodyPost_ret (results_row_tmp rfl _ _ (H + 1) 56 _ (0, 0) _ rfl (setRow13_at B1.out) Tryz.underlying56 rfl (by kernel_rfl)) rfl ?_
   refine ⟨G, ?_, ?_, rfl, ?_, ?_⟩
   ·have := EG.out; have := EH.out; have := HBf.out.size; omega
   ·exact row13_lt (World.block_lt_of_cell? w6 _ O1.out)
   ·exact cell_keep1 O1.out fun _ => setRow13_ne (by have := EG.out; have := SZ.out; show G ≠ H + 1; omega)
   ·exact setRow13_below (HBf.out.trans (HB6.out.mono HBf.out.size)) (by have := EH.out; omega)
end Go.Proofs.YtmmhedlagnjbiaaGreatDoor
