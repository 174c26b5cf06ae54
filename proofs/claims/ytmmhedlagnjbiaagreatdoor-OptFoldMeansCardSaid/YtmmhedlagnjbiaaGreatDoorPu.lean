import Derived.Test.YtmmhedlagnjbiaaGreatDoorPt
/- our texts, shortened by program (pack.py) -/
set_option maxRecDepth 100000
set_option maxHeartbeats 4000000
namespace Go.Proofs.YtmmhedlagnjbiaaGreatDoor
open Go.RowKit Go.Pen
def L4 : RT := .leaf 1 3 4
def P1 : RT := .proj [2, 0] L4
def R1 : RT := .proj [1] P1
def X1 : RT := .proj [0] L4
theorem stay_leaf (o : Addr) : StayAll L4 o := by
 intro f hf S cv kv w hat _
 obtain ⟨rfl, rfl⟩ := hat
 simp only [List.mem_cons, List.not_mem_nil, or_false] at hf
 rcases hf with rfl | rfl | rfl | rfl | rfl | rfl
 ·exact rule_96 L4 none none 0 0 0 0 o w
 ·exact rule_97_leaf 1 3 4 o w
 ·exact rule_98_leaf 1 3 4 o w
 ·exact rule_99 L4 (by decide) none none 0 0 0 0 o w
 ·exact rule_100_leaf 1 3 4 o w
 ·exact rule_101 L4 (by decide) none none 0 0 0 0 o w
theorem stay_proj (cs : List Int) (hid : ∀ (cb cc : Nat) (w : World), (∀ (i : Nat) (c : Int), cs[i]? = some c → w.cell? ⟨cb, i, none⟩ = some (.int .i64 c)) → Calls Tryz.prog 128 #[.slice (some ⟨cb, 0, none⟩) cs.length cc, .int .i64 3] w fun ev w' => ev = .returned (.bool false) ∧ w' = w) (o : Addr) : StayAll (.proj cs L4) o := by
 intro f hf S cv kv w hat _
 obtain ⟨cb, cc, kb, kc, ccv, ckv, rfl, rfl, -, -, -, -, -, hcs, hkk, hon⟩ := hat
 obtain ⟨rfl, rfl⟩ := hon
 simp only [List.mem_cons, List.not_mem_nil, or_false] at hf
 rcases hf with rfl | rfl | rfl | rfl | rfl | rfl
 ·exact rule_96 (.proj cs L4) _ _ _ _ _ _ o w
 ·exact rule_97_stay (some ⟨cb, 0, none⟩) cs.length cc kb kc L4 none none 0 0 0 0 cs o w hkk (by decide) 3 (fun W => wide_leaf 3 4 o W) fun W hb =>
   (hid cb cc W fun i c hi => cell_below hb (World.block_lt_of_cell? w _ (hcs i c hi)) (hcs i c hi)).mono fun ev w' ⟨h1, h2⟩ => ⟨h1, by rw [h2]; exact Below.refl _ _⟩
 ·exact rule_98_proj (some ⟨cb, 0, none⟩) cs.length cc kb kc L4 none none 0 0 0 0 cs o w hkk
 ·exact rule_99 (.proj cs L4) (by show (5 : Int) ≠ 4; decide) _ _ _ _ _ _ o w
 ·exact rule_100_proj (some ⟨cb, 0, none⟩) cs.length cc kb kc L4 none none 0 0 0 0 cs o w hkk (by decide)
 ·exact rule_101 (.proj cs L4) (by show (5 : Int) ≠ 12; decide) _ _ _ _ _ _ o w
theorem opt_leaf (o : Addr) : OptOk L4 L4 o := of_stay L4 o (stay_leaf o) fun cs k h => by cases h
theorem id_20 (cb cc : Nat) (w : World) (h : ∀ (i : Nat) (c : Int), [2, 0][i]? = some c → w.cell? ⟨cb, i, none⟩ = some (.int .i64 c)) : Calls Tryz.prog 128 #[.slice (some ⟨cb, 0, none⟩) 2 cc, .int .i64 3] w fun ev w' => ev = .returned (.bool false) ∧ w' = w :=
 identity_no 2 cb cc 2 3 w (by decide) (h 0 2 rfl) (by decide)
theorem id_0 (cb cc : Nat) (w : World) (h : ∀ (i : Nat) (c : Int), [0][i]? = some c → w.cell? ⟨cb, i, none⟩ = some (.int .i64 c)) : Calls Tryz.prog 128 #[.slice (some ⟨cb, 0, none⟩) 1 cc, .int .i64 3] w fun ev w' => ev = .returned (.bool false) ∧ w' = w :=
 identity_zero cb cc 3 w (h 0 0 rfl) (by decide)
theorem opt_p1 (o : Addr) : OptOk P1 P1 o := of_stay P1 o (stay_proj [2, 0] id_20 o) fun cs k h => by cases h; exact opt_leaf o
theorem two_97 (o : Addr) (S : Nat → Prop) (cv kv : Value) (w : World) (hat : R1.On S w cv kv) (_ : ∀ g, S g → g < w.heap.size) : Calls Tryz.prog 97 #[.pointer (some o), R1.agg cv kv] w (TwoPost S X1 w) := by
 obtain ⟨cb, cc, kb, kc, ccv, ckv, rfl, rfl, -, -, -, -, -, hcs, hkk, hon⟩ := hat
 obtain ⟨xb, xc, yb, yc, c2, k2, rfl, rfl, -, hSy, -, hyc, -, hxs, hyy, hon2⟩ := hon
 obtain ⟨rfl, rfl⟩ := hon2
 refine (rule_97_two cb cc kb kc P1 xb (some ⟨yb, 0, none⟩) xc 1 yc o w hkk rfl (hcs 0 1 rfl) (hxs 1 0 rfl) 2 (fun W => wide_proj (some ⟨xb, 0, none⟩) 2 xc yb yc o W) fun W hb =>
  (identity_no 1 cb cc 1 2 W (by decide) (cell_below hb (World.block_lt_of_cell? w _ (hcs 0 1 rfl)) (hcs 0 1 rfl)) (by decide)).mono fun ev w' ⟨h1, h2⟩ => ⟨h1, by rw [h2]; exact Below.refl _ _⟩).mono ?_
 rintro ev w' ⟨g, h1, h2, rfl, h3, hb⟩
 refine ⟨.slice (some ⟨g, 0, none⟩) 1 1, .slice (some ⟨yb, 0, none⟩) 1 yc, rfl, ⟨g, 1, yb, yc, .slice none 0 0, .slice none 0 0, rfl, rfl, .inr ⟨h1, h2⟩, .inl hSy, by decide, hyc, by decide, ?_, hyy.below hb, ⟨rfl, rfl⟩⟩, hb⟩
 intro i c hi
 match i, hi with
 | 0, hi => cases hi; exact h3
theorem opt_r1 (o : Addr) : OptOk R1 X1 o :=
 of_two R1 X1 o (fun S cv kv w hat _ => by
  obtain ⟨⟨ca, cn, cc, rfl⟩, ka, kn, kc, rfl⟩ := hat.kids
  exact rule_96 R1 ca ka cn cc kn kc o w) (two_97 o) (fun cs k h => by cases h; exact opt_p1 o) (stay_proj [0] id_0 o) (fun cs k h => by cases h; exact opt_leaf o)
theorem of_r1 (cv kv : Value) (w : World) (hat : R1.On (fun g => g < w.heap.size) w cv kv) : Calls Tryz.prog 22 #[R1.agg cv kv] w (Of22 X1 w) :=
 of_22 R1 X1 opt_r1 (by simp [R1, P1, L4, RT.ok, RT.wide]) (by simp [X1, L4, RT.ok, RT.wide]) (by decide) (by decide) (by decide) (by decide) (by decide) cv kv w hat
end Go.Proofs.YtmmhedlagnjbiaaGreatDoor
namespace Go.Proofs.YtmmhedlagnjbiaaGreatDoor
open Go.RowKit Go.Pen
attribute [local go_sem] Oper.semAt_some
theorem of_22_no (w : World) : Calls Tryz.prog 22 #[.agg #[.int .u8 0, .int .i64 0, .int .i64 0, .slice none 0 0, .slice none 0 0, .slice none 0 0, .slice none 0 0, .slice none 0 0, .slice none 0 0, .slice none 0 0, .int .i64 0, .int .i64 0, .slice none 0 0]] w fun ev w' => ev = .returned (.tuple #[.agg #[.int .u8 0, .int .i64 0, .int .i64 0, .slice none 0 0, .slice none 0 0, .slice none 0 0, .slice none 0 0, .slice none 0 0, .slice none 0 0, .slice none 0 0, .int .i64 0, .int .i64 0, .slice none 0 0], .int .u16 210]) ∧ Below w.heap.size w w' := by
 obtain ⟨H, eH⟩ : ∃ H, H = w.heap.size := ⟨_, rfl⟩
 have ht := two_at (w := w) (a := .cells #[.int .u8 0, .int .i64 0, .int .i64 0, .slice none 0 0, .slice none 0 0, .slice none 0 0, .slice none 0 0, .slice none 0 0, .slice none 0 0, .slice none 0 0, .int .i64 0, .int .i64 0, .slice none 0 0] 56) (b := .cells #[.int .u8 0, .int .i64 0, .int .i64 0, .slice none 0 0, .slice none 0 0, .slice none 0 0, .slice none 0 0, .slice none 0 0, .slice none 0 0, .slice none 0 0, .int .i64 0, .int .i64 0, .slice none 0 0] 56) (Below.refl _ _)
 have hb0 := two_below w (.cells #[.int .u8 0, .int .i64 0, .int .i64 0, .slice none 0 0, .slice none 0 0, .slice none 0 0, .slice none 0 0, .slice none 0 0, .slice none 0 0, .slice none 0 0, .int .i64 0, .int .i64 0, .slice none 0 0] 56) (.cells #[.int .u8 0, .int .i64 0, .int .i64 0, .slice none 0 0, .slice none 0 0, .slice none 0 0, .slice none 0 0, .slice none 0 0, .slice none 0 0, .slice none 0 0, .int .i64 0, .int .i64 0, .slice none 0 0] 56)
 rw [← eH] at ht
 obtain ⟨wr, hwr⟩ : ∃ wr, wr = ((w.alloc (.cells #[.int .u8 0, .int .i64 0, .int .i64 0, .slice none 0 0, .slice none 0 0, .slice none 0 0, .slice none 0 0, .slice none 0 0, .slice none 0 0, .slice none 0 0, .int .i64 0, .int .i64 0, .slice none 0 0] 56)).alloc (.cells #[.int .u8 0, .int .i64 0, .int .i64 0, .slice none 0 0, .slice none 0 0, .slice none 0 0, .slice none 0 0, .slice none 0 0, .slice none 0 0, .slice none 0 0, .int .i64 0, .int .i64 0, .slice none 0 0] 56)).drew := ⟨_, rfl⟩
 have hd : Below ((w.alloc (.cells #[.int .u8 0, .int .i64 0, .int .i64 0, .slice none 0 0, .slice none 0 0, .slice none 0 0, .slice none 0 0, .slice none 0 0, .slice none 0 0, .slice none 0 0, .int .i64 0, .int .i64 0, .slice none 0 0] 56)).alloc (.cells #[.int .u8 0, .int .i64 0, .int .i64 0, .slice none 0 0, .slice none 0 0, .slice none 0 0, .slice none 0 0, .slice none 0 0, .slice none 0 0, .slice none 0 0, .int .i64 0, .int .i64 0, .slice none 0 0] 56)).heap.size ((w.alloc (.cells #[.int .u8 0, .int .i64 0, .int .i64 0, .slice none 0 0, .slice none 0 0, .slice none 0 0, .slice none 0 0, .slice none 0 0, .slice none 0 0, .slice none 0 0, .int .i64 0, .int .i64 0, .slice none 0 0] 56)).alloc (.cells #[.int .u8 0, .int .i64 0, .int .i64 0, .slice none 0 0, .slice none 0 0, .slice none 0 0, .slice none 0 0, .slice none 0 0, .slice none 0 0, .slice none 0 0, .int .i64 0, .int .i64 0, .slice none 0 0] 56)) wr := by rw [hwr]; exact (Below.refl _ _).drew
 have T0 := Lib.hid ((hd.block _ (lt_of_heap ht.1)).trans ht.1)
 have T1 := Lib.hid ((hd.block _ (lt_of_heap ht.2)).trans ht.2)
 have HB0 := Lib.hid (hb0.trans (hd.mono hb0.size))
 have h34 := fun (W : World) (_ : Below wr.heap.size wr W) => arities_34 (.leaf 0 0 0) (.slice none 0 0) (.slice none 0 0) W ⟨rfl, rfl⟩
 have h33 := fun (W : World) (b m : Nat) (_ : Below wr.heap.size wr W) (_ : ArFun W b m (arOf (RT.leaf 0 0 0).pre)) => arity_33_no (.func (.func 61) #[] #[.pointer (some ⟨b, 0, none⟩)]) W
 rw [show (RT.leaf 0 0 0).agg (.slice none 0 0) (.slice none 0 0) = .agg #[.int .u8 0, .int .i64 0, .int .i64 0, .slice none 0 0, .slice none 0 0, .slice none 0 0, .slice none 0 0, .slice none 0 0, .slice none 0 0, .slice none 0 0, .int .i64 0, .int .i64 0, .slice none 0 0] from rfl] at h34
 have H34N := Lib.hid h34
 have H33N := Lib.hid h33
 have EH := Lib.hid eH
 clear h34 h33 ht hb0 hd eH
 go_enter Tryz.func22, Tryz.ntmps22
 go_upto_region 1 with fail
 rw [← EH.out]
 have HSN : Hid (∀ W, Below wr.heap.size wr W → W.cell? ⟨H, 0, none⟩ = some (.int .u8 0) ∧ W.cell? ⟨H, 1, none⟩ = some (.int .i64 0) ∧ W.cell? ⟨H, 2, none⟩ = some (.int .i64 0) ∧ W.cell? ⟨H, 3, none⟩ = some (.slice none 0 0) ∧ W.cell? ⟨H, 4, none⟩ = some (.slice none 0 0) ∧ W.cell? ⟨H, 5, none⟩ = some (.slice none 0 0) ∧ W.cell? ⟨H, 6, none⟩ = some (.slice none 0 0) ∧ W.cell? ⟨H, 7, none⟩ = some (.slice none 0 0) ∧ W.cell? ⟨H, 8, none⟩ = some (.slice none 0 0) ∧ W.cell? ⟨H, 9, none⟩ = some (.slice none 0 0) ∧ W.cell? ⟨H, 10, none⟩ = some (.int .i64 0) ∧ W.cell? ⟨H, 11, none⟩ = some (.int .i64 0) ∧ W.cell? ⟨H, 12, none⟩ = some (.slice none 0 0)) := Lib.hid fun W hb => by
  have h := (hb.block _ (lt_of_heap T0.out)).trans T0.out
  exact ⟨cell_of_heap h rfl, cell_of_heap h rfl, cell_of_heap h rfl, cell_of_heap h rfl, cell_of_heap h rfl, cell_of_heap h rfl, cell_of_heap h rfl, cell_of_heap h rfl, cell_of_heap h rfl, cell_of_heap h rfl, cell_of_heap h rfl, cell_of_heap h rfl, cell_of_heap h rfl⟩
 have CB0 := Lib.hid (Below.refl wr.heap.size wr)
 refine wp_calm ?_
 refine wp_region_held_drew (S := fun W => W.cell? ⟨H, 0, none⟩ = some (.int .u8 0) ∧ W.cell? ⟨H, 1, none⟩ = some (.int .i64 0) ∧ W.cell? ⟨H, 2, none⟩ = some (.int .i64 0) ∧ W.cell? ⟨H, 3, none⟩ = some (.slice none 0 0) ∧ W.cell? ⟨H, 4, none⟩ = some (.slice none 0 0) ∧ W.cell? ⟨H, 5, none⟩ = some (.slice none 0 0) ∧ W.cell? ⟨H, 6, none⟩ = some (.slice none 0 0) ∧ W.cell? ⟨H, 7, none⟩ = some (.slice none 0 0) ∧ W.cell? ⟨H, 8, none⟩ = some (.slice none 0 0) ∧ W.cell? ⟨H, 9, none⟩ = some (.slice none 0 0) ∧ W.cell? ⟨H, 10, none⟩ = some (.int .i64 0) ∧ W.cell? ⟨H, 11, none⟩ = some (.int .i64 0) ∧ W.cell? ⟨H, 12, none⟩ = some (.slice none 0 0)) (by kernel_rfl) (by rw [← hwr]; exact HSN.out wr (Below.refl _ _)) (fun hHeld => ?_)
 rw [← hwr] at hHeld ⊢
 clear hwr
 refine wpAnyH_take (i := 0) (oi := ⟨some 12, _, _, _, _, _⟩) (v := ?_) rfl (by kernel_rfl) (by kernel_rfl) (by kernel_rfl) (fun _ _ _ h => Exit.noConfusion h.1) (Or.inl ⟨by rfl, ?_⟩) (by assumption) ?_; rotate_left; (intro w hSw; (try dsimp only at hSw); go_simp; (try with_reducible rfl)); (try simp only [Act.put, sA, sB, sC])
 refine wpAnyH_take (i := 1) (oi := ⟨some 13, _, _, _, _, _⟩) (v := ?_) rfl (by kernel_rfl) (by kernel_rfl) (by kernel_rfl) (fun _ _ _ h => Exit.noConfusion h.1) (Or.inl ⟨by rfl, ?_⟩) (by assumption) ?_; rotate_left; (intro w hSw; (try dsimp only at hSw); go_simp; (try with_reducible rfl)); (try simp only [Act.put, sA, sB, sC])
 refine wpAnyH_ready (rs := [2]) (by kernel_rfl) (by simp) ?_
 refine AllReadyH.cons (o := ⟨some 14, _, _, _, _, _⟩) rfl (fun KK hK => ?_) (AllReadyH.nil)
 go_simp
 go_at_call 34
 with_reducible refine (H34N.out _ CB0.out).mono ?_
 rintro ev Z1 ⟨b, m, rfl, har, -, -, hb⟩
 have CBN1 := Lib.hid (CB0.out.trans (hb.mono CB0.out.size))
 have ARN := Lib.hid har
 clear hb har
 go_wp2_with fail
 refine hK.out _ _ (HSN.out _ CBN1.out) (fun hHeld => ?_)
 clear hK KK
 skip
 refine wpAnyH_ready (rs := [3]) (by kernel_rfl) (by simp) ?_
 refine AllReadyH.cons (o := ⟨some 15, _, _, _, _, _⟩) rfl (fun KK hK => ?_) (AllReadyH.nil)
 go_simp
 go_at_call 33
 with_reducible refine (H33N.out _ _ _ CBN1.out ARN.out).mono ?_
 rintro ev Z2 ⟨rfl, hb⟩
 have CBN2 := Lib.hid (CBN1.out.trans (hb.mono CBN1.out.size))
 clear hb
 go_wp2_with fail
 refine hK.out _ _ (HSN.out _ CBN2.out) (fun hHeld => ?_)
 clear hK KK
 skip
 refine wpAnyH_take (i := 4) (oi := ⟨some 11, _, _, _, _, _⟩) (v := ?_) rfl (by kernel_rfl) (by kernel_rfl) (by kernel_rfl) (fun _ _ _ h => Exit.noConfusion h.1) (Or.inl ⟨by rfl, ?_⟩) (by assumption) ?_; rotate_left; (intro w hSw; (try dsimp only at hSw); go_simp; (try with_reducible rfl)); (try simp only [Act.put, sA, sB, sC])
 refine wpAnyH_take (i := 5) (oi := ⟨some 16, _, _, _, _, _⟩) (v := ?_) rfl (by kernel_rfl) (by kernel_rfl) (by kernel_rfl) (fun _ _ _ h => Exit.noConfusion h.1) (Or.inl ⟨by rfl, ?_⟩) (by assumption) ?_; rotate_left; (intro w hSw; (try dsimp only at hSw); go_simp; (try with_reducible rfl)); (try simp only [Act.put, sA, sB, sC])
 refine wpAnyH_take (i := 6) (oi := ⟨some 17, _, _, _, _, _⟩) (v := ?_) rfl (by kernel_rfl) (by kernel_rfl) (by kernel_rfl) (fun _ _ _ h => Exit.noConfusion h.1) (Or.inl ⟨by rfl, ?_⟩) (by assumption) ?_; rotate_left; (intro w hSw; (try dsimp only at hSw); go_simp; (try with_reducible rfl)); (try simp only [Act.put, sA, sB, sC])
 refine wpAnyH_take (i := 7) (oi := ⟨some 4, _, _, _, _, _⟩) (v := ?_) rfl (by kernel_rfl) (by kernel_rfl) (by kernel_rfl) (fun _ _ _ h => Exit.noConfusion h.1) (Or.inl ⟨by rfl, ?_⟩) (by assumption) ?_; rotate_left; (intro w hSw; (try dsimp only at hSw); go_simp; (try with_reducible rfl)); (try simp only [Act.put, sA, sB, sC])
 refine wpAnyH_take (i := 8) (oi := ⟨some 5, _, _, _, _, _⟩) (v := ?_) rfl (by kernel_rfl) (by kernel_rfl) (by kernel_rfl) (fun _ _ _ h => Exit.noConfusion h.1) (Or.inl ⟨by rfl, ?_⟩) (by assumption) ?_; rotate_left; (intro w hSw; (try dsimp only at hSw); go_simp; (try with_reducible rfl)); (try simp only [Act.put, sA, sB, sC])
 refine wpAnyH_done (by kernel_rfl) ?_ _
 refine ⟨rfl, ?_⟩
 obtain ⟨W2, hW2⟩ : ∃ W2, W2 = Z2 := ⟨_, rfl⟩
 have HB2 : Hid (Below wr.heap.size wr W2) := Lib.hid (by rw [hW2]; exact CBN2.out)
 have b1 : W2.heap[H + 1]? = some (.cells #[.int .u8 0, .int .i64 0, .int .i64 0, .slice none 0 0, .slice none 0 0, .slice none 0 0, .slice none 0 0, .slice none 0 0, .slice none 0 0, .slice none 0 0, .int .i64 0, .int .i64 0, .slice none 0 0] 56 (0, 0)) := (HB2.out.block _ (lt_of_heap T1.out)).trans T1.out
 rw [← hW2]
 clear hW2
 have B1 := Lib.hid b1
 have sB := lt_of_heap b1
 obtain ⟨z0, g0, z1, g1, z2, g2, z3, g3, z4, g4, z5, g5, z6, g6, z7, g7, z8, g8, z9, g9, z10, g10, z11, g11, z12, g12⟩ := cf13 b1
 clear b1
 go_wp2_with fail
 refine bodyPost_ret (results_row_tmp rfl _ _ (H + 1) 56 _ (0, 0) _ rfl (setRow13_at B1.out) Tryz.underlying56 rfl (by kernel_rfl)) rfl ?_
 exact ⟨rfl, setRow13_below (HB0.out.trans (HB2.out.mono HB0.out.size)) (by have := EH.out; omega)⟩
theorem get_21 (i a : Int) (w : World) : Calls Tryz.prog 21 #[.int .i64 i, .int .i64 a] w fun ev w' => ev = .returned (.agg #[.int .u8 1, .int .i64 a, .int .i64 i, .slice none 0 0, .slice none 0 0, .slice none 0 0, .slice none 0 0, .slice none 0 0, .slice none 0 0, .slice none 0 0, .int .i64 0, .int .i64 0, .slice none 0 0]) ∧ w' = w.alloc (.cells #[.int .u8 1, .int .i64 a, .int .i64 i, .slice none 0 0, .slice none 0 0, .slice none 0 0, .slice none 0 0, .slice none 0 0, .slice none 0 0, .slice none 0 0, .int .i64 0, .int .i64 0, .slice none 0 0] 56) := by
 go_enter Tryz.func21, Tryz.ntmps21
 go_wp2_with fail
 exact bodyPost_ret (results_cell_row rfl _ _ w.heap.size 56 _ (0, 0) _ rfl (heap_alloc_new _ _) Tryz.underlying56 rfl (by kernel_rfl)) rfl ⟨rfl, rfl⟩
def litB (b : Bool) : ET := .mk 2 0 ⟨2, b, 0, ⟨#[]⟩⟩ []
def notE : ET := .mk 17 0 ⟨0, false, 0, ⟨#[]⟩⟩ [litB false]
theorem foldE_not : foldE notE = litB true := by kernel_rfl
theorem foldN_not : foldN notE = 0 := by kernel_rfl
theorem r1_on (w : World) (H : Nat) (eH : H = w.heap.size) : R1.On (fun g => g < ((((((w.alloc (.cells #[.int .i64 1] 3)).alloc (.cells #[.int .i64 2, .int .i64 0] 3)).alloc (.cells #[.int .u8 1, .int .i64 3, .int .i64 4, .slice none 0 0, .slice none 0 0, .slice none 0 0, .slice none 0 0, .slice none 0 0, .slice none 0 0, .slice none 0 0, .int .i64 0, .int .i64 0, .slice none 0 0] 56)).alloc (.cells #[.int .u8 1, .int .i64 3, .int .i64 4, .slice none 0 0, .slice none 0 0, .slice none 0 0, .slice none 0 0, .slice none 0 0, .slice none 0 0, .slice none 0 0, .int .i64 0, .int .i64 0, .slice none 0 0] 56)).alloc (.cells #[.int .u8 5, .int .i64 0, .int .i64 0, .slice none 0 0, .slice (some ⟨H + 1, 0, none⟩) 2 2, .slice none 0 0, .slice none 0 0, .slice none 0 0, .slice none 0 0, .slice none 0 0, .int .i64 0, .int .i64 0, .slice (some ⟨H + 1 + 1 + 1, 0, none⟩) 1 1] 56)).alloc (.cells #[.int .u8 5, .int .i64 0, .int .i64 0, .slice none 0 0, .slice (some ⟨H, 0, none⟩) 1 1, .slice none 0 0, .slice none 0 0, .slice none 0 0, .slice none 0 0, .slice none 0 0, .int .i64 0, .int .i64 0, .slice (some ⟨H + 1 + 1 + 1 + 1, 0, none⟩) 1 1] 56)).heap.size) ((((((w.alloc (.cells #[.int .i64 1] 3)).alloc (.cells #[.int .i64 2, .int .i64 0] 3)).alloc (.cells #[.int .u8 1, .int .i64 3, .int .i64 4, .slice none 0 0, .slice none 0 0, .slice none 0 0, .slice none 0 0, .slice none 0 0, .slice none 0 0, .slice none 0 0, .int .i64 0, .int .i64 0, .slice none 0 0] 56)).alloc (.cells #[.int .u8 1, .int .i64 3, .int .i64 4, .slice none 0 0, .slice none 0 0, .slice none 0 0, .slice none 0 0, .slice none 0 0, .slice none 0 0, .slice none 0 0, .int .i64 0, .int .i64 0, .slice none 0 0] 56)).alloc (.cells #[.int .u8 5, .int .i64 0, .int .i64 0, .slice none 0 0, .slice (some ⟨H + 1, 0, none⟩) 2 2, .slice none 0 0, .slice none 0 0, .slice none 0 0, .slice none 0 0, .slice none 0 0, .int .i64 0, .int .i64 0, .slice (some ⟨H + 1 + 1 + 1, 0, none⟩) 1 1] 56)).alloc (.cells #[.int .u8 5, .int .i64 0, .int .i64 0, .slice none 0 0, .slice (some ⟨H, 0, none⟩) 1 1, .slice none 0 0, .slice none 0 0, .slice none 0 0, .slice none 0 0, .slice none 0 0, .int .i64 0, .int .i64 0, .slice (some ⟨H + 1 + 1 + 1 + 1, 0, none⟩) 1 1] 56)) (.slice (some ⟨H, 0, none⟩) 1 1) (.slice (some ⟨H + 1 + 1 + 1 + 1, 0, none⟩) 1 1) := by
 have f := fun k => allocs_at [.cells #[.int .i64 1] 3, .cells #[.int .i64 2, .int .i64 0] 3, .cells #[.int .u8 1, .int .i64 3, .int .i64 4, .slice none 0 0, .slice none 0 0, .slice none 0 0, .slice none 0 0, .slice none 0 0, .slice none 0 0, .slice none 0 0, .int .i64 0, .int .i64 0, .slice none 0 0] 56, .cells #[.int .u8 1, .int .i64 3, .int .i64 4, .slice none 0 0, .slice none 0 0, .slice none 0 0, .slice none 0 0, .slice none 0 0, .slice none 0 0, .slice none 0 0, .int .i64 0, .int .i64 0, .slice none 0 0] 56, .cells #[.int .u8 5, .int .i64 0, .int .i64 0, .slice none 0 0, .slice (some ⟨H + 1, 0, none⟩) 2 2, .slice none 0 0, .slice none 0 0, .slice none 0 0, .slice none 0 0, .slice none 0 0, .int .i64 0, .int .i64 0, .slice (some ⟨H + 1 + 1 + 1, 0, none⟩) 1 1] 56, .cells #[.int .u8 5, .int .i64 0, .int .i64 0, .slice none 0 0, .slice (some ⟨H, 0, none⟩) 1 1, .slice none 0 0, .slice none 0 0, .slice none 0 0, .slice none 0 0, .slice none 0 0, .int .i64 0, .int .i64 0, .slice (some ⟨H + 1 + 1 + 1 + 1, 0, none⟩) 1 1] 56] w k
 simp only [List.foldl_cons, List.foldl_nil] at f
 have s : ((((((w.alloc (.cells #[.int .i64 1] 3)).alloc (.cells #[.int .i64 2, .int .i64 0] 3)).alloc (.cells #[.int .u8 1, .int .i64 3, .int .i64 4, .slice none 0 0, .slice none 0 0, .slice none 0 0, .slice none 0 0, .slice none 0 0, .slice none 0 0, .slice none 0 0, .int .i64 0, .int .i64 0, .slice none 0 0] 56)).alloc (.cells #[.int .u8 1, .int .i64 3, .int .i64 4, .slice none 0 0, .slice none 0 0, .slice none 0 0, .slice none 0 0, .slice none 0 0, .slice none 0 0, .slice none 0 0, .int .i64 0, .int .i64 0, .slice none 0 0] 56)).alloc (.cells #[.int .u8 5, .int .i64 0, .int .i64 0, .slice none 0 0, .slice (some ⟨H + 1, 0, none⟩) 2 2, .slice none 0 0, .slice none 0 0, .slice none 0 0, .slice none 0 0, .slice none 0 0, .int .i64 0, .int .i64 0, .slice (some ⟨H + 1 + 1 + 1, 0, none⟩) 1 1] 56)).alloc (.cells #[.int .u8 5, .int .i64 0, .int .i64 0, .slice none 0 0, .slice (some ⟨H, 0, none⟩) 1 1, .slice none 0 0, .slice none 0 0, .slice none 0 0, .slice none 0 0, .slice none 0 0, .int .i64 0, .int .i64 0, .slice (some ⟨H + 1 + 1 + 1 + 1, 0, none⟩) 1 1] 56)).heap.size = H + 6 := by rw [eH]; simp
 have f0 := f 0
 have f1 := f 1
 have f3 := f 3
 have f4 := f 4
 rw [← eH] at f0 f1 f3 f4
 refine ⟨H, 1, H + 1 + 1 + 1 + 1, 1, .slice (some ⟨H + 1, 0, none⟩) 2 2, .slice (some ⟨H + 1 + 1 + 1, 0, none⟩) 1 1, rfl, rfl, by rw [s]; omega, by rw [s]; omega, by decide, by decide, by decide, fun i c hi => ?_, ⟨cell_of_heap f4 rfl, cell_of_heap f4 rfl, cell_of_heap f4 rfl, cell_of_heap f4 rfl, cell_of_heap f4 rfl, cell_of_heap f4 rfl, cell_of_heap f4 rfl, cell_of_heap f4 rfl, cell_of_heap f4 rfl, cell_of_heap f4 rfl, cell_of_heap f4 rfl, cell_of_heap f4 rfl, cell_of_heap f4 rfl⟩,
  H + 1, 2, H + 1 + 1 + 1, 1, .slice none 0 0, .slice none 0 0, rfl, rfl, by rw [s]; omega, by rw [s]; omega, by decide, by decide, by decide, fun i c hi => ?_, ⟨cell_of_heap f3 rfl, cell_of_heap f3 rfl, cell_of_heap f3 rfl, cell_of_heap f3 rfl, cell_of_heap f3 rfl, cell_of_heap f3 rfl, cell_of_heap f3 rfl, cell_of_heap f3 rfl, cell_of_heap f3 rfl, cell_of_heap f3 rfl, cell_of_heap f3 rfl, cell_of_heap f3 rfl, cell_of_heap f3 rfl⟩, rfl, rfl⟩
 ·match i, hi with
  | 0, hi => cases hi; exact cell_of_heap f0 rfl
 ·match i, hi with
  | 0, hi => cases hi; exact cell_of_heap f1 rfl
  | 1, hi => cases hi; exact cell_of_heap f1 rfl
theorem not_at (w : World) (X : Nat) (h : w.heap[X + 1]? = some (.cells #[.int .u8 2, .slice none 0 0, .int .i64 0, .int .u8 2, .bool false, .int .i64 0, .string ⟨#[]⟩] 27 (0, 0))) : notE.At w (.slice (some ⟨X + 1, 0, none⟩) 1 1) := by
 refine ET.On.iff.2 ⟨_, _, rfl, (fun e => by cases e), fun _ => ⟨_, _, rfl, trivial, ET.Ons.mk fun i k hk => ?_⟩⟩
 match i, hk with
 | 0, hk =>
  cases hk
  exact ⟨.slice none 0 0, ⟨cell_of_heap h rfl, cell_of_heap h rfl, cell_of_heap h rfl, cell_of_heap h rfl, cell_of_heap h rfl, cell_of_heap h rfl, cell_of_heap h rfl⟩, ET.On.iff.2 ⟨_, _, rfl, fun _ => rfl, fun h => absurd rfl h⟩⟩
theorem not_fits : notE.fits := by simp [notE, litB, ET.fits, ET.fitss, Dat.fits]; decide
theorem known_9 (w : World) (hT : Lib.Utf8Tabs 0 1 w) (hE : ErrTy w) (h3 : 3 ≤ w.heap.size) : Calls Tryz.prog 9 #[] w fun ev w' => ev = .returned (.bool true) ∧ Below w.heap.size w w' := by
 obtain ⟨H, eH⟩ : ∃ H, H = w.heap.size := ⟨_, rfl⟩
 obtain ⟨W1, hW1⟩ : ∃ W1, W1 = ((((((w.alloc (.cells #[.int .i64 1] 3)).alloc (.cells #[.int .i64 2, .int .i64 0] 3)).alloc (.cells #[.int .u8 1, .int .i64 3, .int .i64 4, .slice none 0 0, .slice none 0 0, .slice none 0 0, .slice none 0 0, .slice none 0 0, .slice none 0 0, .slice none 0 0, .int .i64 0, .int .i64 0, .slice none 0 0] 56)).alloc (.cells #[.int .u8 1, .int .i64 3, .int .i64 4, .slice none 0 0, .slice none 0 0, .slice none 0 0, .slice none 0 0, .slice none 0 0, .slice none 0 0, .slice none 0 0, .int .i64 0, .int .i64 0, .slice none 0 0] 56)).alloc (.cells #[.int .u8 5, .int .i64 0, .int .i64 0, .slice none 0 0, .slice (some ⟨H + 1, 0, none⟩) 2 2, .slice none 0 0, .slice none 0 0, .slice none 0 0, .slice none 0 0, .slice none 0 0, .int .i64 0, .int .i64 0, .slice (some ⟨H + 1 + 1 + 1, 0, none⟩) 1 1] 56)).alloc (.cells #[.int .u8 5, .int .i64 0, .int .i64 0, .slice none 0 0, .slice (some ⟨H, 0, none⟩) 1 1, .slice none 0 0, .slice none 0 0, .slice none 0 0, .slice none 0 0, .slice none 0 0, .int .i64 0, .int .i64 0, .slice (some ⟨H + 1 + 1 + 1 + 1, 0, none⟩) 1 1] 56)) := ⟨_, rfl⟩
 have hon := r1_on w H eH
 have hb1 : Below w.heap.size w W1 := by rw [hW1]; exact allocs_below [.cells #[.int .i64 1] 3, .cells #[.int .i64 2, .int .i64 0] 3, .cells #[.int .u8 1, .int .i64 3, .int .i64 4, .slice none 0 0, .slice none 0 0, .slice none 0 0, .slice none 0 0, .slice none 0 0, .slice none 0 0, .slice none 0 0, .int .i64 0, .int .i64 0, .slice none 0 0] 56, .cells #[.int .u8 1, .int .i64 3, .int .i64 4, .slice none 0 0, .slice none 0 0, .slice none 0 0, .slice none 0 0, .slice none 0 0, .slice none 0 0, .slice none 0 0, .int .i64 0, .int .i64 0, .slice none 0 0] 56, .cells #[.int .u8 5, .int .i64 0, .int .i64 0, .slice none 0 0, .slice (some ⟨H + 1, 0, none⟩) 2 2, .slice none 0 0, .slice none 0 0, .slice none 0 0, .slice none 0 0, .slice none 0 0, .int .i64 0, .int .i64 0, .slice (some ⟨H + 1 + 1 + 1, 0, none⟩) 1 1] 56, .cells #[.int .u8 5, .int .i64 0, .int .i64 0, .slice none 0 0, .slice (some ⟨H, 0, none⟩) 1 1, .slice none 0 0, .slice none 0 0, .slice none 0 0, .slice none 0 0, .slice none 0 0, .int .i64 0, .int .i64 0, .slice (some ⟨H + 1 + 1 + 1 + 1, 0, none⟩) 1 1] 56] w
 rw [← hW1] at hon
 have hr := of_r1 _ _ W1 hon
 rw [show R1.agg (.slice (some ⟨H, 0, none⟩) 1 1) (.slice (some ⟨H + 1 + 1 + 1 + 1, 0, none⟩) 1 1) = .agg #[.int .u8 5, .int .i64 0, .int .i64 0, .slice none 0 0, .slice (some ⟨H, 0, none⟩) 1 1, .slice none 0 0, .slice none 0 0, .slice none 0 0, .slice none 0 0, .slice none 0 0, .int .i64 0, .int .i64 0, .slice (some ⟨H + 1 + 1 + 1 + 1, 0, none⟩) 1 1] from rfl] at hr
 have HG := Lib.hid (get_21 4 3)
 have HN := Lib.hid of_22_no
 have HR := Lib.hid hr
 have HW1 := Lib.hid hW1
 have EH := Lib.hid eH
 have HB1 := Lib.hid hb1
 have hf : ∀ (W : World) (X : Nat), Below w.heap.size w W → W.heap[X + 1]? = some (.cells #[.int .u8 2, .slice none 0 0, .int .i64 0, .int .u8 2, .bool false, .int .i64 0, .string ⟨#[]⟩] 27 (0, 0)) → Calls Tryz.prog 7 #[.agg #[.int .u8 17, .slice (some ⟨X + 1, 0, none⟩) 1 1, .int .i64 0, .int .u8 0, .bool false, .int .i64 0, .string ⟨#[]⟩]] W fun ev w' => ∃ kv', ev = .returned (.tuple #[(litB true).agg kv', .int .u16 0]) ∧ (litB true).On (Btw W.heap.size w'.heap.size) w' kv' ∧ Below W.heap.size W w' := fun W X hb h => by
  have q := fold_7 notE (some ⟨X + 1, 0, none⟩) 1 W not_fits (not_at W X h) (tabs_below hT hb h3) (cell_keep hb hE) (Nat.le_trans h3 hb.size)
  rw [foldE_not, foldN_not] at q
  exact q
 have HF := Lib.hid hf
 clear hon hb1 hr hW1 eH hf hT hE h3
 go_enter Tryz.func9, Tryz.ntmps9
 go_wp2_with (go_at_call 21; refine (HG.out _).mono ?_; rintro ev w' ⟨rfl, rfl⟩)
 rw [← EH.out, ← HW1.out]
 refine HR.out.mono ?_
 rintro ev w2 ⟨cv2, kv2, rfl, hon2, hb2⟩
 obtain ⟨cb, cc, kb, kc, ccv, ckv, rfl, rfl, -, -, -, -, -, hcs, hkk, -⟩ := hon2
 rw [show X1.agg (.slice (some ⟨cb, 0, none⟩) ([0] : List Int).length cc) (.slice (some ⟨kb, 0, none⟩) 1 kc) = .agg #[.int .u8 5, .int .i64 0, .int .i64 0, .slice none 0 0, .slice (some ⟨cb, 0, none⟩) 1 cc, .slice none 0 0, .slice none 0 0, .slice none 0 0, .slice none 0 0, .slice none 0 0, .int .i64 0, .int .i64 0, .slice (some ⟨kb, 0, none⟩) 1 kc] from rfl]
 have HB2 := Lib.hid (HB1.out.trans (hb2.mono HB1.out.size))
 have HC0 := Lib.hid (hcs 0 0 rfl)
 have HK0 : Hid (w2.cell? ⟨kb, 0, none⟩ = some (.int .u8 1)) := Lib.hid hkk.1
 clear hcs hkk hb2
 obtain ⟨X, eX⟩ : ∃ X, X = w2.heap.size := ⟨_, rfl⟩
 obtain ⟨W3, hW3⟩ : ∃ W3, W3 = (w2.alloc (.cells #[.int .u8 5, .int .i64 0, .int .i64 0, .slice none 0 0, .slice (some ⟨cb, 0, none⟩) 1 cc, .slice none 0 0, .slice none 0 0, .slice none 0 0, .slice none 0 0, .slice none 0 0, .int .i64 0, .int .i64 0, .slice (some ⟨kb, 0, none⟩) 1 kc] 56)).alloc (.cells #[.int .u8 2, .slice none 0 0, .int .i64 0, .int .u8 2, .bool false, .int .i64 0, .string ⟨#[]⟩] 27) := ⟨_, rfl⟩
 have t3 := two_at (w := w2) (w1 := W3) (a := .cells #[.int .u8 5, .int .i64 0, .int .i64 0, .slice none 0 0, .slice (some ⟨cb, 0, none⟩) 1 cc, .slice none 0 0, .slice none 0 0, .slice none 0 0, .slice none 0 0, .slice none 0 0, .int .i64 0, .int .i64 0, .slice (some ⟨kb, 0, none⟩) 1 kc] 56) (b := .cells #[.int .u8 2, .slice none 0 0, .int .i64 0, .int .u8 2, .bool false, .int .i64 0, .string ⟨#[]⟩] 27) (by rw [hW3]; exact Below.refl _ _)
 have hb3 : Below w2.heap.size w2 W3 := by rw [hW3]; exact two_below _ _ _
 rw [← eX] at t3
 have HFX := Lib.hid (HF.out W3 X (HB2.out.trans (hb3.mono HB2.out.size)) t3.2)
 have HB3 := Lib.hid hb3
 have T3 := Lib.hid t3.1
 go_wp2_with fail
 rw [← eX, ← hW3]
 clear hb3 t3 eX hW3
 refine HFX.out.mono ?_
 rintro ev w4 ⟨fkv, rfl, hfon, hb4⟩
 obtain ⟨fa, fc, rfl⟩ := hfon.slice
 rw [show (litB true).agg (.slice fa (litB true).kids.length fc) = .agg #[.int .u8 2, .slice fa 0 fc, .int .i64 0, .int .u8 2, .bool true, .int .i64 0, .string ⟨#[]⟩] from rfl]
 have hb24 := HB3.out.trans (hb4.mono HB3.out.size)
 obtain ⟨G, eG⟩ : ∃ G, G = w4.heap.size := ⟨_, rfl⟩
 obtain ⟨W5, hW5⟩ : ∃ W5, W5 = w4.alloc (.cells #[.int .u8 2, .slice fa 0 fc, .int .i64 0, .int .u8 2, .bool true, .int .i64 0, .string ⟨#[]⟩] 27) := ⟨_, rfl⟩
 have t5 : W5.heap[G]? = some (.cells #[.int .u8 2, .slice fa 0 fc, .int .i64 0, .int .u8 2, .bool true, .int .i64 0, .string ⟨#[]⟩] 27 (0, 0)) := by rw [hW5, eG]; exact heap_alloc_new _ _
 have hb5 : Below w4.heap.size w4 W5 := by rw [hW5]; exact (Below.refl _ _).alloc (Nat.le_refl _) _
 have x5 := (hb5.block _ (lt_of_heap ((hb4.block _ (lt_of_heap T3.out)).trans T3.out))).trans ((hb4.block _ (lt_of_heap T3.out)).trans T3.out)
 have T5 := Lib.hid t5
 have X5 := Lib.hid x5
 have HB25 := Lib.hid (hb24.trans (hb5.mono hb24.size))
 clear hfon hb4 hb24 t5 hb5 x5
 go_wp2_with fail
 rw [← eG, ← hW5]
 clear eG hW5
 refine (HN.out W5).mono ?_
 rintro ev w6 ⟨rfl, hb6⟩
 have hb26 := HB25.out.trans (hb6.mono HB25.out.size)
 have t6 := (hb6.block _ (lt_of_heap T5.out)).trans T5.out
 have x6 := (hb6.block _ (lt_of_heap X5.out)).trans X5.out
 have c0 := cell_below hb26 (World.block_lt_of_cell? w2 _ HC0.out) HC0.out
 have k0 := cell_below hb26 (World.block_lt_of_cell? w2 _ HK0.out) HK0.out
 have xx0 : w6.cell? ⟨X, 0, none⟩ = some (.int .u8 5) := cell_of_heap x6 rfl
 have xx4 : w6.cell? ⟨X, 4, none⟩ = some (.slice (some ⟨cb, 0, none⟩) 1 cc) := cell_of_heap x6 rfl
 have xx12 : w6.cell? ⟨X, 12, none⟩ = some (.slice (some ⟨kb, 0, none⟩) 1 kc) := cell_of_heap x6 rfl
 have gg4 : w6.cell? ⟨G, 4, none⟩ = some (.bool true) := cell_of_heap t6 rfl
 have sX := lt_of_heap x6
 have sG := lt_of_heap t6
 have sC := World.block_lt_of_cell? w6 _ c0
 have sK := World.block_lt_of_cell? w6 _ k0
 have HB6 := Lib.hid (HB2.out.trans (hb26.mono HB2.out.size))
 clear hb6 hb26 t6 x6
 go_wp2_with fail
 go_ret
 exact ⟨rfl, HB6.out.alloc HB6.out.size _⟩
end Go.Proofs.YtmmhedlagnjbiaaGreatDoor
