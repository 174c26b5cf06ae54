import Derived.Test.YtmmhedlagnjbiaaGreatDoorPs
import Derived.Test.YtmmhedlagnjbiaaGreatDoorPr
/- our texts, shortened by program (pack.py) -/
set_option maxRecDepth 100000
set_option maxHeartbeats 4000000
namespace Go.Proofs.YtmmhedlagnjbiaaGreatDoor
open Go.RowKit Go.Pen
attribute [local go_sem] Oper.semAt_some
theorem wp_calm {P : Program} {c : Code} {Q : Exit → Act → World → Prop} {a : Act} {w : World} (h : c.wp P (fun e a w => e = .normal ∧ Q e a w) a w) : c.wp P Q a w := wp_mono h fun _ _ _ q => q.2
theorem cnt_put {w W W0 : World} {N : Nat} {pre : List RPart} {x : RPart} (hH : w.heap.size ≤ N) (i1 : W.heap[N]? = some (.cells #[.int .i64 (pre.length : Nat)] 3 (0, 0))) (i5 : Below w.heap.size w W) (i6 : W0.heap.size ≤ W.heap.size) :
  KeepsFrom W0.heap.size W (W.setCell ⟨N, 0, none⟩ (.int .i64 ((pre.length : Int) + 1))) ∧ KpS (fun g => g = N) W (W.setCell ⟨N, 0, none⟩ (.int .i64 ((pre.length : Int) + 1))) ∧
   (W.setCell ⟨N, 0, none⟩ (.int .i64 ((pre.length : Int) + 1))).heap[N]? = some (.cells #[.int .i64 ((pre ++ [x]).length : Nat)] 3 (0, 0)) ∧ Below w.heap.size w (W.setCell ⟨N, 0, none⟩ (.int .i64 ((pre.length : Int) + 1))) ∧ W0.heap.size ≤ (W.setCell ⟨N, 0, none⟩ (.int .i64 ((pre.length : Int) + 1))).heap.size := by
 refine ⟨(KeepsOthers.setCell _ _ _).from _, KpS.setCell rfl, ?_, i5.setCell (p := ⟨N, 0, none⟩) hH _, by simpa [World.setCell] using i6⟩
 rw [heap_set_same i1]
 simp
def Of22 (x : RT) (w : World) (ev : Ending) (w' : World) : Prop :=
 ∃ cv kv, ev = .returned (.tuple #[x.agg cv kv, .int .u16 0]) ∧ x.On (fun g => w.heap.size ≤ g ∧ g < w'.heap.size) w' cv kv ∧ Below w.heap.size w w'
theorem heap_putObj_ne {w : World} {l g : Nat} {o : Obj} (h : g ≠ l) : (w.putObj l o).heap[g]? = w.heap[g]? := by
 by_cases hg : g < w.heap.size
 ·exact (grownBy_putObj' w l o).block g hg fun e => by cases e; exact h rfl
 ·have hs : (w.putObj l o).heap.size = w.heap.size := by simp [World.putObj]
  rw [Array.getElem?_eq_none (by omega), Array.getElem?_eq_none (by omega)]
theorem of_row {w : World} {b D : Nat} {o : Obj} {v0 v1 v2 v3 v4 v5 v6 v7 v8 v9 v10 v11 v12 : Value} (h : b ≠ D) (hd : w.heap[D]? = some o) : (setRow13 w b v0 v1 v2 v3 v4 v5 v6 v7 v8 v9 v10 v11 v12).heap[D]? = some o := (setRow13_ne (Ne.symm h)).trans hd
theorem of_fin {r x : RT} {cv kv cv' kv' : Value} {w W : World} {H D m : Nat} {o : Obj} {v0 v1 v2 v3 v4 v5 v6 v7 v8 v9 v10 v11 v12 : Value} (h : OwAt r cv kv w H W) (hon : x.On (fun g => m ≤ g ∧ g < W.heap.size) W cv' kv') (hD : D < m) (hH : H + 1 < m) (hw : w.heap.size ≤ D) :
  Of22 x w (.returned (.tuple #[x.agg cv' kv', .int .u16 0])) ((setRow13 W (H + 1) v0 v1 v2 v3 v4 v5 v6 v7 v8 v9 v10 v11 v12).putObj D o) := by
 have hh := h.hh
 have hb := setRow13_below (v0 := v0) (v1 := v1) (v2 := v2) (v3 := v3) (v4 := v4) (v5 := v5) (v6 := v6) (v7 := v7) (v8 := v8) (v9 := v9) (v10 := v10) (v11 := v11) (v12 := v12) h.low (show w.heap.size ≤ H + 1 by omega)
 have hg := grownBy_putObj' (setRow13 W (H + 1) v0 v1 v2 v3 v4 v5 v6 v7 v8 v9 v10 v11 v12) D o
 refine ⟨_, _, rfl, hon.frame (fun g q => ⟨by omega, ?_⟩) (fun g q _ => (heap_putObj_ne (by omega)).trans (setRow13_ne (by omega))), hb.grown hg hb.size fun k e => by cases e; exact hw⟩
 have h1 := hg.size
 rw [setRow13_size] at h1
 omega
theorem of_22 (r x : RT) (hof : ∀ o, OptOk r x o) (hr : r.ok) (hx : x.ok) (hrc : r.count ≤ 300) (hxc : x.count ≤ 300) (hpl : r.pre.length ≤ 100) (hrg : mGet (arOf r.pre) r.getI = some r.getA) (hxg : mGet (arOf x.pre) x.getI = some x.getA)
  (cv kv : Value) (w : World) (hat : r.On (fun g => g < w.heap.size) w cv kv) : Calls Tryz.prog 22 #[r.agg cv kv] w (Of22 x w) := by
 obtain ⟨⟨ca, cn, cc, rfl⟩, ka, kn, kc, rfl⟩ := hat.kids
 obtain ⟨H, eH⟩ : ∃ H, H = w.heap.size := ⟨_, rfl⟩
 have ht := two_at (w := w) (a := .cells #[.int .u8 r.kind, .int .i64 r.ar, .int .i64 r.id, .slice none 0 0, .slice ca cn cc, .slice none 0 0, .slice none 0 0, .slice none 0 0, .slice none 0 0, .slice none 0 0, .int .i64 0, .int .i64 0, .slice ka kn kc] 56) (b := .cells #[.int .u8 0, .int .i64 0, .int .i64 0, .slice none 0 0, .slice none 0 0, .slice none 0 0, .slice none 0 0, .slice none 0 0, .slice none 0 0, .slice none 0 0, .int .i64 0, .int .i64 0, .slice none 0 0] 56) (Below.refl _ _)
 have hb0 := two_below w (.cells #[.int .u8 r.kind, .int .i64 r.ar, .int .i64 r.id, .slice none 0 0, .slice ca cn cc, .slice none 0 0, .slice none 0 0, .slice none 0 0, .slice none 0 0, .slice none 0 0, .int .i64 0, .int .i64 0, .slice ka kn kc] 56) (.cells #[.int .u8 0, .int .i64 0, .int .i64 0, .slice none 0 0, .slice none 0 0, .slice none 0 0, .slice none 0 0, .slice none 0 0, .slice none 0 0, .slice none 0 0, .int .i64 0, .int .i64 0, .slice none 0 0] 56)
 rw [← eH] at ht
 have hw0 : OwAt r (.slice ca cn cc) (.slice ka kn kc) w H ((w.alloc (.cells #[.int .u8 r.kind, .int .i64 r.ar, .int .i64 r.id, .slice none 0 0, .slice ca cn cc, .slice none 0 0, .slice none 0 0, .slice none 0 0, .slice none 0 0, .slice none 0 0, .int .i64 0, .int .i64 0, .slice ka kn kc] 56)).alloc (.cells #[.int .u8 0, .int .i64 0, .int .i64 0, .slice none 0 0, .slice none 0 0, .slice none 0 0, .slice none 0 0, .slice none 0 0, .slice none 0 0, .slice none 0 0, .int .i64 0, .int .i64 0, .slice none 0 0] 56)) := ⟨ht.1, ht.2, eH, hb0, by rw [eH]; simp⟩
 obtain ⟨wr, hwr⟩ : ∃ wr, wr = ((w.alloc (.cells #[.int .u8 r.kind, .int .i64 r.ar, .int .i64 r.id, .slice none 0 0, .slice ca cn cc, .slice none 0 0, .slice none 0 0, .slice none 0 0, .slice none 0 0, .slice none 0 0, .int .i64 0, .int .i64 0, .slice ka kn kc] 56)).alloc (.cells #[.int .u8 0, .int .i64 0, .int .i64 0, .slice none 0 0, .slice none 0 0, .slice none 0 0, .slice none 0 0, .slice none 0 0, .slice none 0 0, .slice none 0 0, .int .i64 0, .int .i64 0, .slice none 0 0] 56)).drew := ⟨_, rfl⟩
 have OA := Lib.hid (show OwAt r (.slice ca cn cc) (.slice ka kn kc) w H wr by rw [hwr]; exact hw0.kept (Below.refl _ _).drew)
 have hon : ∀ W, Below wr.heap.size wr W → r.On (fun g => g < W.heap.size) W (.slice ca cn cc) (.slice ka kn kc) := fun W hb => by
  have hb2 := OA.out.low.trans (hb.mono OA.out.low.size)
  exact (hat.below hb2).wide fun g hg => Nat.lt_of_lt_of_le hg hb2.size
 have h34 := fun (W : World) (hb : Below wr.heap.size wr W) => arities_34 r _ _ W (hon W hb)
 have h33 := fun (W : World) (b m : Nat) (hb : Below wr.heap.size wr W) (ha : ArFun W b m (arOf r.pre)) => arity_33 r _ _ b m _ W (hon W hb) hr hrc ha hrg
 have h37 := fun (o : Addr) (W : World) (hb : Below wr.heap.size wr W) => hof o (fun g => g < w.heap.size) (.slice ca cn cc) (.slice ka kn kc) W (hat.below (OA.out.low.trans (hb.mono OA.out.low.size))) (fun g hg => Nat.lt_of_lt_of_le hg (OA.out.low.trans (hb.mono OA.out.low.size)).size)
 have h35 := fun (W : World) => (callsIn_wide (n := 9)).1 (rparts_35 Fence.wide 9 trivial rfl r (.slice ca cn cc) (.slice ka kn kc) W)
 rw [show r.agg (.slice ca cn cc) (.slice ka kn kc) = .agg #[.int .u8 r.kind, .int .i64 r.ar, .int .i64 r.id, .slice none 0 0, .slice ca cn cc, .slice none 0 0, .slice none 0 0, .slice none 0 0, .slice none 0 0, .slice none 0 0, .int .i64 0, .int .i64 0, .slice ka kn kc] from rfl] at h34 h33 h37 h35 ⊢
 have H34R := Lib.hid h34
 have H33R := Lib.hid h33
 have H37 := Lib.hid h37
 have HP35 := Lib.hid h35
 have EH := Lib.hid eH
 have HON := Lib.hid hon
 have HPL := Lib.hid hpl
 have HX : Hid (x.ok ∧ x.count ≤ 300 ∧ mGet (arOf x.pre) x.getI = some x.getA) := Lib.hid ⟨hx, hxc, hxg⟩
 clear hpl hx hxc hxg h34 h33 h37 h35 ht hb0 hw0 eH hon hat
 refine (callsIn_wide (n := 9)).1 ?_
 refine callsIn_of_wp_marks Tryz.func22 rfl trivial ?_ rfl
 simp only [Tryz.ntmps22, List.size_toArray, List.length_cons, List.length_nil, Nat.reduceAdd, Nat.reduceSub, Array.replicate_succ, Array.replicate_zero, List.push_toArray, List.append_toArray, List.nil_append, List.cons_append]
 refine wpIn_wide.2 ?_
 go_upto_region 1 with fail
 rw [← EH.out]
 have HSR : Hid (∀ W, Below wr.heap.size wr W → W.cell? ⟨H, 0, none⟩ = some (.int .u8 r.kind) ∧ W.cell? ⟨H, 1, none⟩ = some (.int .i64 r.ar) ∧ W.cell? ⟨H, 2, none⟩ = some (.int .i64 r.id) ∧ W.cell? ⟨H, 3, none⟩ = some (.slice none 0 0) ∧ W.cell? ⟨H, 4, none⟩ = some (.slice ca cn cc) ∧ W.cell? ⟨H, 5, none⟩ = some (.slice none 0 0) ∧ W.cell? ⟨H, 6, none⟩ = some (.slice none 0 0) ∧ W.cell? ⟨H, 7, none⟩ = some (.slice none 0 0) ∧ W.cell? ⟨H, 8, none⟩ = some (.slice none 0 0) ∧ W.cell? ⟨H, 9, none⟩ = some (.slice none 0 0) ∧ W.cell? ⟨H, 10, none⟩ = some (.int .i64 0) ∧ W.cell? ⟨H, 11, none⟩ = some (.int .i64 0) ∧ W.cell? ⟨H, 12, none⟩ = some (.slice ka kn kc)) := Lib.hid fun W hb => by
  have h := OA.out.kept hb
  exact ⟨h.c0, h.c1, h.c2, h.c3, h.c4, h.c5, h.c6, h.c7, h.c8, h.c9, h.c10, h.c11, h.c12⟩
 have CB0 := Lib.hid (Below.refl wr.heap.size wr)
 refine wp_calm ?_
 refine wp_region_held_drew (S := fun W => W.cell? ⟨H, 0, none⟩ = some (.int .u8 r.kind) ∧ W.cell? ⟨H, 1, none⟩ = some (.int .i64 r.ar) ∧ W.cell? ⟨H, 2, none⟩ = some (.int .i64 r.id) ∧ W.cell? ⟨H, 3, none⟩ = some (.slice none 0 0) ∧ W.cell? ⟨H, 4, none⟩ = some (.slice ca cn cc) ∧ W.cell? ⟨H, 5, none⟩ = some (.slice none 0 0) ∧ W.cell? ⟨H, 6, none⟩ = some (.slice none 0 0) ∧ W.cell? ⟨H, 7, none⟩ = some (.slice none 0 0) ∧ W.cell? ⟨H, 8, none⟩ = some (.slice none 0 0) ∧ W.cell? ⟨H, 9, none⟩ = some (.slice none 0 0) ∧ W.cell? ⟨H, 10, none⟩ = some (.int .i64 0) ∧ W.cell? ⟨H, 11, none⟩ = some (.int .i64 0) ∧ W.cell? ⟨H, 12, none⟩ = some (.slice ka kn kc)) (by kernel_rfl) (by rw [← hwr]; exact HSR.out wr (Below.refl _ _)) (fun hHeld => ?_)
 rw [← hwr] at hHeld ⊢
 clear hwr
 refine wpAnyH_take (i := 0) (oi := ⟨some 12, _, _, _, _, _⟩) (v := ?_) rfl (by kernel_rfl) (by kernel_rfl) (by kernel_rfl) (fun _ _ _ h => Exit.noConfusion h.1) (Or.inl ⟨by rfl, ?_⟩) (by assumption) ?_; rotate_left; (intro w hSw; (try dsimp only at hSw); go_simp; (try with_reducible rfl)); (try simp only [Act.put, sA, sB, sC])
 refine wpAnyH_take (i := 1) (oi := ⟨some 13, _, _, _, _, _⟩) (v := ?_) rfl (by kernel_rfl) (by kernel_rfl) (by kernel_rfl) (fun _ _ _ h => Exit.noConfusion h.1) (Or.inl ⟨by rfl, ?_⟩) (by assumption) ?_; rotate_left; (intro w hSw; (try dsimp only at hSw); go_simp; (try with_reducible rfl)); (try simp only [Act.put, sA, sB, sC])
 refine wpAnyH_ready (rs := [2]) (by kernel_rfl) (by simp) ?_
 refine AllReadyH.cons (o := ⟨some 14, _, _, _, _, _⟩) rfl (fun KK hK => ?_) (AllReadyH.nil)
 go_simp
 go_at_call 34
 with_reducible refine (H34R.out _ CB0.out).mono ?_
 rintro ev Z1 ⟨b, m, rfl, har, -, -, hb⟩
 have CBR1 := Lib.hid (CB0.out.trans (hb.mono CB0.out.size))
 have ARR := Lib.hid har
 clear hb har
 go_wp2_with fail
 refine hK.out _ _ (HSR.out _ CBR1.out) (fun hHeld => ?_)
 clear hK KK
 skip
 refine wpAnyH_ready (rs := [3]) (by kernel_rfl) (by simp) ?_
 refine AllReadyH.cons (o := ⟨some 15, _, _, _, _, _⟩) rfl (fun KK hK => ?_) (AllReadyH.nil)
 go_simp
 go_at_call 33
 with_reducible refine (H33R.out _ _ _ CBR1.out ARR.out).mono ?_
 rintro ev Z2 ⟨rfl, hb⟩
 have CBR2 := Lib.hid (CBR1.out.trans (hb.mono CBR1.out.size))
 clear hb
 go_wp2_with fail
 refine hK.out _ _ (HSR.out _ CBR2.out) (fun hHeld => ?_)
 clear hK KK
 skip
 refine wpAnyH_take (i := 4) (oi := ⟨some 11, _, _, _, _, _⟩) (v := ?_) rfl (by kernel_rfl) (by kernel_rfl) (by kernel_rfl) (fun _ _ _ h => Exit.noConfusion h.1) (Or.inl ⟨by rfl, ?_⟩) (by assumption) ?_; rotate_left; (intro w hSw; (try dsimp only at hSw); go_simp; (try with_reducible rfl)); (try simp only [Act.put, sA, sB, sC])
 refine wpAnyH_take (i := 5) (oi := ⟨some 16, _, _, _, _, _⟩) (v := ?_) rfl (by kernel_rfl) (by kernel_rfl) (by kernel_rfl) (fun _ _ _ h => Exit.noConfusion h.1) (Or.inl ⟨by rfl, ?_⟩) (by assumption) ?_; rotate_left; (intro w hSw; (try dsimp only at hSw); go_simp; (try with_reducible rfl)); (try simp only [Act.put, sA, sB, sC])
 refine wpAnyH_take (i := 6) (oi := ⟨some 17, _, _, _, _, _⟩) (v := ?_) rfl (by kernel_rfl) (by kernel_rfl) (by kernel_rfl) (fun _ _ _ h => Exit.noConfusion h.1) (Or.inl ⟨by rfl, ?_⟩) (by assumption) ?_; rotate_left; (intro w hSw; (try dsimp only at hSw); go_simp; (try with_reducible rfl)); (try simp only [Act.put, sA, sB, sC])
 refine wpAnyH_take (i := 7) (oi := ⟨some 4, _, _, _, _, _⟩) (v := ?_) rfl (by kernel_rfl) (by kernel_rfl) (by kernel_rfl) (fun _ _ _ h => Exit.noConfusion h.1) (Or.inl ⟨by rfl, ?_⟩) (by assumption) ?_; rotate_left; (intro w hSw; (try dsimp only at hSw); go_simp; (try with_reducible rfl)); (try simp only [Act.put, sA, sB, sC])
 refine wpAnyH_take (i := 8) (oi := ⟨some 5, _, _, _, _, _⟩) (v := ?_) rfl (by kernel_rfl) (by kernel_rfl) (by kernel_rfl) (fun _ _ _ h => Exit.noConfusion h.1) (Or.inl ⟨by rfl, ?_⟩) (by assumption) ?_; rotate_left; (intro w hSw; (try dsimp only at hSw); go_simp; (try with_reducible rfl)); (try simp only [Act.put, sA, sB, sC])
 refine wpAnyH_done (by kernel_rfl) ?_ _
 refine ⟨rfl, ?_⟩
 obtain ⟨W2, hW2⟩ : ∃ W2, W2 = Z2 := ⟨_, rfl⟩
 have HB2 : Hid (Below wr.heap.size wr W2) := Lib.hid (by rw [hW2]; exact CBR2.out)
 have OA2 : Hid (OwAt r (.slice ca cn cc) (.slice ka kn kc) w H W2) := Lib.hid (by rw [hW2]; exact OA.out.kept CBR2.out)
 rw [← hW2]
 clear hW2
 have y0 := OA2.out.c0
 have y1 := OA2.out.c1
 have y2 := OA2.out.c2
 have y3 := OA2.out.c3
 have y4 := OA2.out.c4
 have y5 := OA2.out.c5
 have y6 := OA2.out.c6
 have y7 := OA2.out.c7
 have y8 := OA2.out.c8
 have y9 := OA2.out.c9
 have y10 := OA2.out.c10
 have y11 := OA2.out.c11
 have y12 := OA2.out.c12
 have sH := lt_of_heap OA2.out.b0
 go_wp2_with fail
 refine (HP35.out _).mono ?_
 rintro ev w' ⟨rfl, rfl⟩
 go_wp2_with fail
 obtain ⟨N, eN⟩ : ∃ N, N = W2.heap.size := ⟨_, rfl⟩
 obtain ⟨W3, hW3⟩ : ∃ W3, W3 = (W2.alloc (.cells #[.int .i64 0] 3)).alloc (.cells (r.cells (.slice ca cn cc) (.slice ka kn kc)) 56) := ⟨_, rfl⟩
 have t3 := two_at (w := W2) (w1 := W3) (a := .cells #[.int .i64 0] 3) (b := .cells (r.cells (.slice ca cn cc) (.slice ka kn kc)) 56) (by rw [hW3]; exact Below.refl _ _)
 have hb3 : Below W2.heap.size W2 W3 := by rw [hW3]; exact two_below _ _ _
 have hs3 : W3.heap.size = N + 2 := by rw [hW3, eN]; simp
 rw [← eN] at t3
 rw [← eN, ← hW3]
 have hon3 : r.On (fun g => ¬ g = N) W3 (.slice ca cn cc) (.slice ka kn kc) := ((HON.out W2 HB2.out).below hb3).wide fun g hg => by omega
 have hrc3 : RCells W3 (N + 1) r (.slice ca cn cc) (.slice ka kn kc) := ⟨cell_of_heap t3.2 rfl, cell_of_heap t3.2 rfl, cell_of_heap t3.2 rfl, cell_of_heap t3.2 rfl, cell_of_heap t3.2 rfl, cell_of_heap t3.2 rfl, cell_of_heap t3.2 rfl, cell_of_heap t3.2 rfl, cell_of_heap t3.2 rfl, cell_of_heap t3.2 rfl, cell_of_heap t3.2 rfl, cell_of_heap t3.2 rfl, cell_of_heap t3.2 rfl⟩
 have HS3 := Lib.hid hs3
 have HB3 := Lib.hid hb3
 have HON3 := Lib.hid hon3
 have HRC3 := Lib.hid hrc3
 have T3 := Lib.hid t3.1
 have EN := Lib.hid eN
 clear y0 y1 y2 y3 y4 y5 y6 y7 y8 y9 y10 y11 y12 sH eN hW3 t3 hb3 hs3 hon3 hrc3
 refine (wpIn_wide (n := 9)).1 ?_
 refine wpIn_rangeFunc_ownH (F := Fence.wide) rfl (by decide) (gf := 62) (lb := #[.pointer (some ⟨N + 1, 0, none⟩)]) rfl trivial (enters_of Tryz.func62 (by kernel_rfl) rfl)
  (rparts_stops Fence.wide rfl 8 trivial trivial trivial trivial trivial rfl (N + 1) (fun g => g = N) r (.slice ca cn cc) (.slice ka kn kc) W3 HRC3.out (fun g hg => by have := HS3.out; omega) HON3.out) (fun h k => h.trans k) ?kb (Below.refl _ _) (fun _ => rfl)
  (fun pre W => W.heap[N]? = some (.cells #[.int .i64 (pre.length : Nat)] 3 (0, 0)) ∧ Below W2.heap.size W2 W ∧ W3.heap.size ≤ W.heap.size)
  (fun _ _ _ => False)
  ?oi ?oix ⟨T3.out, HB3.out, Nat.le_refl _⟩
  (fun x a' _ => a' = { tmps := #[.agg #[.int .u8 r.kind, .int .i64 r.ar, .int .i64 r.id, .slice none 0 0, .slice ca cn cc, .slice none 0 0, .slice none 0 0, .slice none 0 0, .slice none 0 0, .slice none 0 0, .int .i64 0, .int .i64 0, .slice ka kn kc], .pointer (some ⟨H, 0, none⟩), .pointer (some ⟨H + 1, 0, none⟩), .int .u16 0, .int .i64 r.wide, .int .u16 0, .pointer (some ⟨N, 0, none⟩), undef, undef, undef, undef, .tuple #[.int .i64 r.wide, .int .u16 0], .agg #[.int .u8 r.kind, .int .i64 r.ar, .int .i64 r.id, .slice none 0 0, .slice ca cn cc, .slice none 0 0, .slice none 0 0, .slice none 0 0, .slice none 0 0, .slice none 0 0, .int .i64 0, .int .i64 0, .slice ka kn kc], .agg #[.int .u8 r.kind, .int .i64 r.ar, .int .i64 r.id, .slice none 0 0, .slice ca cn cc, .slice none 0 0, .slice none 0 0, .slice none 0 0, .slice none 0 0, .slice none 0 0, .int .i64 0, .int .i64 0, .slice ka kn kc], .func (.func 61) #[] #[.pointer (some ⟨b, 0, none⟩)], .tuple #[.int .i64 r.wide, .int .u16 0], .int .i64 r.wide, .int .u16 0, .int .u16 0, .bool false, undef, .agg #[.int .u8 r.kind, .int .i64 r.ar, .int .i64 r.id, .slice none 0 0, .slice ca cn cc, .slice none 0 0, .slice none 0 0, .slice none 0 0, .slice none 0 0, .slice none 0 0, .int .i64 0, .int .i64 0, .slice ka kn kc], .func (.func 62) #[] #[.pointer (some ⟨N + 1, 0, none⟩)], .agg #[.int .u8 x.r.kind, .int .i64 x.r.ar, .int .i64 x.r.id, .slice none 0 0, .slice x.ca x.cn x.cc, .slice none 0 0, .slice none 0 0, .slice none 0 0, .slice none 0 0, .slice none 0 0, .int .i64 0, .int .i64 0, .slice x.ka x.kn x.kc], undef, undef, undef, undef, undef, undef, undef, undef, undef, undef, undef, undef, undef, undef, undef, undef, undef, undef, undef, undef, undef, undef, undef, undef], defers := [] })
  ?ax ?assign ?body ?done ?stop
 case kb =>
  intro W l' oo oo' _ hl hc _
  exact kps_putObj hl hc
 case oi =>
  intro pre W W' row hI hg hr
  obtain ⟨i1, i5, i6⟩ := hI
  have hs := HS3.out
  have hn := EN.out
  exact ⟨(hg.block _ (lt_of_heap i1) fun er => by have := (hr _ er.symm).1; omega).trans i1, i5.grown hg i5.size fun g er => by (have := (hr g er).1; omega), Nat.le_trans i6 hg.size⟩
 case oix => exact fun c pre W W' row hI _ _ => hI
 case ax => exact fun x a' _ W W' row hI _ _ => hI
 case assign =>
  intro l pre x W K hI hK
  unfold RPart.encs RT.agg
  gi_wp2
  exact hK _ _ (KeepsFrom.refl _ _) (KpS.refl _ _) hI rfl
 case body =>
  intro l pre x a' W hl hlr hI hA hlt
  obtain ⟨i1, i5, i6⟩ := hI
  subst hA
  have hp := HPL.out
  have n0 : W.cell? ⟨N, 0, none⟩ = some (.int .i64 (pre.length : Nat)) := cell_of_heap i1 rfl
  have sN := lt_of_heap i1
  have f0 := frozen_of_heap (o := 0) i1
  have hend := cnt_put (x := x) (W0 := W3) (w := W2) (Nat.le_of_eq EN.out.symm) i1 i5 i6
  have HEND := Lib.hid hend
  have hle : pre.length ≤ 100 := by omega
  clear i1 i5 hend hlt hp
  gi_wp2
  exact HEND.out
 case stop => exact fun D c pre W _ _ hI _ => hI.elim
 case done =>
  intro D xs W4 hD hS hI hK
  obtain ⟨i1, i5, i6⟩ := hI
  have hxl : xs.length ≤ 100 := by
   have h := congrArg List.length hS
   rw [List.length_map] at h
   rw [h]; exact HPL.out
  have n0 : W4.cell? ⟨N, 0, none⟩ = some (.int .i64 (xs.length : Nat)) := cell_of_heap i1 rfl
  have sN := lt_of_heap i1
  have HK := Lib.hid hK
  have HD := Lib.hid hD
  have HB4 := Lib.hid i5
  have HB4r : Hid (Below wr.heap.size wr W4) := Lib.hid (HB2.out.trans (i5.mono HB2.out.size))
  have OA4 := Lib.hid (OA2.out.kept i5)
  have y0 := OA4.out.c0
  have y1 := OA4.out.c1
  have y2 := OA4.out.c2
  have y3 := OA4.out.c3
  have y4 := OA4.out.c4
  have y5 := OA4.out.c5
  have y6 := OA4.out.c6
  have y7 := OA4.out.c7
  have y8 := OA4.out.c8
  have y9 := OA4.out.c9
  have y10 := OA4.out.c10
  have y11 := OA4.out.c11
  have y12 := OA4.out.c12
  have sH := lt_of_heap OA4.out.b0
  clear i1 i5 hS hK hD i6
  go_wp2_with fail
  obtain ⟨W5, hW5⟩ : ∃ W5, W5 = W4.alloc (.cells #[] 82) := ⟨_, rfl⟩
  have hb5 : Below W4.heap.size W4 W5 := by rw [hW5]; exact (Below.refl _ _).alloc (Nat.le_refl _) _
  rw [← hW5]
  have HB5 : Hid (Below wr.heap.size wr W5) := Lib.hid (HB4r.out.trans (hb5.mono HB4r.out.size))
  have HB45 := Lib.hid hb5
  clear hW5 hb5 n0 sN sH y0 y1 y2 y3 y4 y5 y6 y7 y8 y9 y10 y11 y12
  refine (H37.out _ W5 HB5.out).mono ?_
  rintro ev w6 ⟨pcv, pkv, rfl, hon6, hb6⟩
  obtain ⟨⟨pa, pn, pc, rfl⟩, qa, qn, qc, rfl⟩ := hon6.kids
  rw [show x.agg (.slice pa pn pc) (.slice qa qn qc) = .agg #[.int .u8 x.kind, .int .i64 x.ar, .int .i64 x.id, .slice none 0 0, .slice pa pn pc, .slice none 0 0, .slice none 0 0, .slice none 0 0, .slice none 0 0, .slice none 0 0, .int .i64 0, .int .i64 0, .slice qa qn qc] from rfl]
  obtain ⟨X, eX⟩ : ∃ X, X = w6.heap.size := ⟨_, rfl⟩
  obtain ⟨wx, hwx⟩ : ∃ wx, wx = (w6.alloc (.cells #[.int .u8 x.kind, .int .i64 x.ar, .int .i64 x.id, .slice none 0 0, .slice pa pn pc, .slice none 0 0, .slice none 0 0, .slice none 0 0, .slice none 0 0, .slice none 0 0, .int .i64 0, .int .i64 0, .slice qa qn qc] 56)).drew := ⟨_, rfl⟩
  have hbx : Below w6.heap.size w6 wx := by rw [hwx]; exact ((Below.refl _ _).alloc (Nat.le_refl _) _).drew
  have nX : wx.heap[X]? = some (.cells #[.int .u8 x.kind, .int .i64 x.ar, .int .i64 x.id, .slice none 0 0, .slice pa pn pc, .slice none 0 0, .slice none 0 0, .slice none 0 0, .slice none 0 0, .slice none 0 0, .int .i64 0, .int .i64 0, .slice qa qn qc] 56 (0, 0)) := by rw [hwx, eX]; exact heap_alloc_new w6 _
  have hb46 := HB45.out.trans (hb6.mono HB45.out.size)
  have HB4x : Hid (Below W4.heap.size W4 wx) := Lib.hid (hb46.trans (hbx.mono hb46.size))
  have HBWX : Hid (Below wr.heap.size wr wx) := Lib.hid (HB4r.out.trans (HB4x.out.mono HB4r.out.size))
  have honx : ∀ W, Below wx.heap.size wx W → x.On (fun g => g < W.heap.size) W (.slice pa pn pc) (.slice qa qn qc) := fun W hb => by
   have hb2 := hbx.trans (hb.mono hbx.size)
   refine (hon6.below hb2).wide fun g hg => Nat.lt_of_lt_of_le ?_ hb2.size
   rcases hg with hg | hg
   ·have h1 := OA.out.low.size
    have h2 := HB5.out.size
    have h3 := hb6.size
    exact Nat.lt_of_lt_of_le hg (Nat.le_trans h1 (Nat.le_trans h2 h3))
   ·exact hg.2
  have h34 := fun (W : World) (hb : Below wx.heap.size wx W) => arities_34 x _ _ W (honx W hb)
  have h33 := fun (W : World) (b m : Nat) (hb : Below wx.heap.size wx W) (ha : ArFun W b m (arOf x.pre)) => arity_33 x _ _ b m _ W (honx W hb) HX.out.1 HX.out.2.1 ha HX.out.2.2
  have h36 := fun (W : World) (hb : Below wx.heap.size wx W) => own_36 x _ _ W (honx W hb) HX.out.1
  rw [show x.agg (.slice pa pn pc) (.slice qa qn qc) = .agg #[.int .u8 x.kind, .int .i64 x.ar, .int .i64 x.id, .slice none 0 0, .slice pa pn pc, .slice none 0 0, .slice none 0 0, .slice none 0 0, .slice none 0 0, .slice none 0 0, .int .i64 0, .int .i64 0, .slice qa qn qc] from rfl] at h34 h33 h36
  have H34X := Lib.hid h34
  have H33X := Lib.hid h33
  have H36X := Lib.hid h36
  have HSX : Hid (∀ W, Below wx.heap.size wx W → W.cell? ⟨X, 0, none⟩ = some (.int .u8 x.kind) ∧ W.cell? ⟨X, 1, none⟩ = some (.int .i64 x.ar) ∧ W.cell? ⟨X, 2, none⟩ = some (.int .i64 x.id) ∧ W.cell? ⟨X, 3, none⟩ = some (.slice none 0 0) ∧ W.cell? ⟨X, 4, none⟩ = some (.slice pa pn pc) ∧ W.cell? ⟨X, 5, none⟩ = some (.slice none 0 0) ∧ W.cell? ⟨X, 6, none⟩ = some (.slice none 0 0) ∧ W.cell? ⟨X, 7, none⟩ = some (.slice none 0 0) ∧ W.cell? ⟨X, 8, none⟩ = some (.slice none 0 0) ∧ W.cell? ⟨X, 9, none⟩ = some (.slice none 0 0) ∧ W.cell? ⟨X, 10, none⟩ = some (.int .i64 0) ∧ W.cell? ⟨X, 11, none⟩ = some (.int .i64 0) ∧ W.cell? ⟨X, 12, none⟩ = some (.slice qa qn qc)) := Lib.hid fun W hb => by
   have h := (hb.block _ (lt_of_heap nX)).trans nX
   exact ⟨cell_of_heap h rfl, cell_of_heap h rfl, cell_of_heap h rfl, cell_of_heap h rfl, cell_of_heap h rfl, cell_of_heap h rfl, cell_of_heap h rfl, cell_of_heap h rfl, cell_of_heap h rfl, cell_of_heap h rfl, cell_of_heap h rfl, cell_of_heap h rfl, cell_of_heap h rfl⟩
  have CX0 := Lib.hid (Below.refl wx.heap.size wx)
  have SX := Lib.hid (lt_of_heap nX)
  clear h34 h33 h36 honx hon6 hb6 nX hbx hb46
  go_upto_region 11 with fail
  rw [← eX]
  refine wp_calm ?_
  refine wp_region_held_drew (S := fun W => W.cell? ⟨X, 0, none⟩ = some (.int .u8 x.kind) ∧ W.cell? ⟨X, 1, none⟩ = some (.int .i64 x.ar) ∧ W.cell? ⟨X, 2, none⟩ = some (.int .i64 x.id) ∧ W.cell? ⟨X, 3, none⟩ = some (.slice none 0 0) ∧ W.cell? ⟨X, 4, none⟩ = some (.slice pa pn pc) ∧ W.cell? ⟨X, 5, none⟩ = some (.slice none 0 0) ∧ W.cell? ⟨X, 6, none⟩ = some (.slice none 0 0) ∧ W.cell? ⟨X, 7, none⟩ = some (.slice none 0 0) ∧ W.cell? ⟨X, 8, none⟩ = some (.slice none 0 0) ∧ W.cell? ⟨X, 9, none⟩ = some (.slice none 0 0) ∧ W.cell? ⟨X, 10, none⟩ = some (.int .i64 0) ∧ W.cell? ⟨X, 11, none⟩ = some (.int .i64 0) ∧ W.cell? ⟨X, 12, none⟩ = some (.slice qa qn qc)) (by kernel_rfl) (by rw [← hwx]; exact HSX.out wx (Below.refl _ _)) (fun hHeld => ?_)
  rw [← hwx] at hHeld ⊢
  clear hwx eX
  refine wpAnyH_take (i := 0) (oi := ⟨some 36, _, _, _, _, _⟩) (v := ?_) rfl (by kernel_rfl) (by kernel_rfl) (by kernel_rfl) (fun _ _ _ h => Exit.noConfusion h.1) (Or.inl ⟨by rfl, ?_⟩) (by assumption) ?_; rotate_left; (intro w hSw; (try dsimp only at hSw); go_simp; (try with_reducible rfl)); (try simp only [Act.put, sA, sB, sC])
  refine wpAnyH_take (i := 1) (oi := ⟨some 37, _, _, _, _, _⟩) (v := ?_) rfl (by kernel_rfl) (by kernel_rfl) (by kernel_rfl) (fun _ _ _ h => Exit.noConfusion h.1) (Or.inl ⟨by rfl, ?_⟩) (by assumption) ?_; rotate_left; (intro w hSw; (try dsimp only at hSw); go_simp; (try with_reducible rfl)); (try simp only [Act.put, sA, sB, sC])
  refine wpAnyH_ready (rs := [2]) (by kernel_rfl) (by simp) ?_
  refine AllReadyH.cons (o := ⟨some 38, _, _, _, _, _⟩) rfl (fun KK hK => ?_) (AllReadyH.nil)
  go_simp
  go_at_call 34
  with_reducible refine (H34X.out _ CX0.out).mono ?_
  rintro ev Y1 ⟨b, m, rfl, har, -, -, hb⟩
  have CBX1 := Lib.hid (CX0.out.trans (hb.mono CX0.out.size))
  have ARX := Lib.hid har
  clear hb har
  go_wp2_with fail
  refine hK.out _ _ (HSX.out _ CBX1.out) (fun hHeld => ?_)
  clear hK KK
  skip
  refine wpAnyH_ready (rs := [3]) (by kernel_rfl) (by simp) ?_
  refine AllReadyH.cons (o := ⟨some 39, _, _, _, _, _⟩) rfl (fun KK hK => ?_) (AllReadyH.nil)
  go_simp
  go_at_call 33
  with_reducible refine (H33X.out _ _ _ CBX1.out ARX.out).mono ?_
  rintro ev Y2 ⟨rfl, hb⟩
  have CBX2 := Lib.hid (CBX1.out.trans (hb.mono CBX1.out.size))
  clear hb
  go_wp2_with fail
  refine hK.out _ _ (HSX.out _ CBX2.out) (fun hHeld => ?_)
  clear hK KK
  skip
  refine wpAnyH_take (i := 4) (oi := ⟨some 35, _, _, _, _, _⟩) (v := ?_) rfl (by kernel_rfl) (by kernel_rfl) (by kernel_rfl) (fun _ _ _ h => Exit.noConfusion h.1) (Or.inl ⟨by rfl, ?_⟩) (by assumption) ?_; rotate_left; (intro w hSw; (try dsimp only at hSw); go_simp; (try with_reducible rfl)); (try simp only [Act.put, sA, sB, sC])
  refine wpAnyH_take (i := 5) (oi := ⟨some 40, _, _, _, _, _⟩) (v := ?_) rfl (by kernel_rfl) (by kernel_rfl) (by kernel_rfl) (fun _ _ _ h => Exit.noConfusion h.1) (Or.inl ⟨by rfl, ?_⟩) (by assumption) ?_; rotate_left; (intro w hSw; (try dsimp only at hSw); go_simp; (try with_reducible rfl)); (try simp only [Act.put, sA, sB, sC])
  refine wpAnyH_take (i := 6) (oi := ⟨some 41, _, _, _, _, _⟩) (v := ?_) rfl (by kernel_rfl) (by kernel_rfl) (by kernel_rfl) (fun _ _ _ h => Exit.noConfusion h.1) (Or.inl ⟨by rfl, ?_⟩) (by assumption) ?_; rotate_left; (intro w hSw; (try dsimp only at hSw); go_simp; (try with_reducible rfl)); (try simp only [Act.put, sA, sB, sC])
  refine wpAnyH_take (i := 7) (oi := ⟨some 9, _, _, _, _, _⟩) (v := ?_) rfl (by kernel_rfl) (by kernel_rfl) (by kernel_rfl) (fun _ _ _ h => Exit.noConfusion h.1) (Or.inl ⟨by rfl, ?_⟩) (by assumption) ?_; rotate_left; (intro w hSw; (try dsimp only at hSw); go_simp; (try with_reducible rfl)); (try simp only [Act.put, sA, sB, sC])
  refine wpAnyH_take (i := 8) (oi := ⟨some 10, _, _, _, _, _⟩) (v := ?_) rfl (by kernel_rfl) (by kernel_rfl) (by kernel_rfl) (fun _ _ _ h => Exit.noConfusion h.1) (Or.inl ⟨by rfl, ?_⟩) (by assumption) ?_; rotate_left; (intro w hSw; (try dsimp only at hSw); go_simp; (try with_reducible rfl)); (try simp only [Act.put, sA, sB, sC])
  refine wpAnyH_done (by kernel_rfl) ?_ _
  refine ⟨rfl, ?_⟩
  obtain ⟨W7, hW7⟩ : ∃ W7, W7 = Y2 := ⟨_, rfl⟩
  have HB7x : Hid (Below wx.heap.size wx W7) := Lib.hid (by rw [hW7]; exact CBX2.out)
  rw [← hW7]
  clear hW7
  obtain ⟨x0, x1, x2, x3, x4, x5, x6, x7, x8, x9, x10, x11, x12⟩ := HSX.out _ HB7x.out
  have sX := World.block_lt_of_cell? W7 _ x0
  go_wp2_with fail
  refine (H36X.out _ HB7x.out).mono ?_
  rintro ev w8 ⟨ocv, okv, rfl, hon8, hb8⟩
  obtain ⟨⟨oa, om, oc, rfl⟩, qb, qm, qd, rfl⟩ := hon8.kids
  rw [show x.agg (.slice oa om oc) (.slice qb qm qd) = .agg #[.int .u8 x.kind, .int .i64 x.ar, .int .i64 x.id, .slice none 0 0, .slice oa om oc, .slice none 0 0, .slice none 0 0, .slice none 0 0, .slice none 0 0, .slice none 0 0, .int .i64 0, .int .i64 0, .slice qb qm qd] from rfl]
  have hb47 := HB4x.out.trans (HB7x.out.mono HB4x.out.size)
  have hb48 := hb47.trans (hb8.mono hb47.size)
  have OA8 := Lib.hid (OA4.out.kept hb48)
  have HK8 := Lib.hid ((hb48.block _ (lt_of_heap HK.out)).trans HK.out)
  have HON8 := Lib.hid hon8
  have SD := Lib.hid (Nat.lt_of_lt_of_le (lt_of_heap HK.out) hb47.size)
  have SH := Lib.hid (Nat.lt_of_lt_of_le (lt_of_heap OA4.out.b1) hb47.size)
  have HDL := Lib.hid (show w.heap.size ≤ D by have h1 := HS3.out; have h2 := HD.out; have h3 := OA2.out.low.size; have h4 := EN.out; omega)
  have hne : H + 1 ≠ D := fun e => by
   have h1 := OA8.out.b1
   have h2 := HK8.out
   rw [e, h2] at h1
   cases h1
  have HNE := Lib.hid hne
  have sB := lt_of_heap OA8.out.b1
  clear hon8 hb8 hb47 hb48 hne sX x0 x1 x2 x3 x4 x5 x6 x7 x8 x9 x10 x11 x12
  obtain ⟨z0, g0, z1, g1, z2, g2, z3, g3, z4, g4, z5, g5, z6, g6, z7, g7, z8, g8, z9, g9, z10, g10, z11, g11, z12, g12⟩ := cf13 OA8.out.b1
  go_wp2_with fail
  refine ⟨by simp, .inl ⟨_, _, rfl, run_takeDeferred (of_row HNE.out HK8.out), ?_⟩⟩
  refine ⟨_, results_row_tmp rfl _ _ (H + 1) 56 _ (0, 0) _ rfl ((heap_putObj_ne HNE.out).trans (setRow13_at OA8.out.b1)) Tryz.underlying56 rfl (by kernel_rfl), ?_⟩
  exact of_fin OA8.out HON8.out SD.out SH.out HDL.out
end Go.Proofs.YtmmhedlagnjbiaaGreatDoor
