import Derived.Test.YtolikaginhjbhaaGreatDoorWc
import Derived.Test.YtolikaginhjbhaaGreatDoorS
import Derived.Deep.CutRange
/- ExprLazy's walk. -/
namespace Go.Proofs.YtolikaginhjbhaaGreatDoor
open Go.RowKit Go.Pen Go.Shelf
attribute [local go_sem] Oper.semAt_some

theorem keepB {W W' : World} {g : Nat} {y : Obj} (h : W.heap[g]? = some y) (hb : Below W.heap.size W W') : W'.heap[g]? = some y := (hb.block _ (lt_of_heap h)).trans h
theorem keepAt' {W : World} {g : Nat} {y : Obj} (h : W.heap[g]? = some y) (A : Obj) : (W.alloc A).heap[g]? = some y := (Below.heap_alloc _ _ _ (lt_of_heap h)).trans h
theorem stepB {w W W' : World} (h : Below w.heap.size w W) (hb : Below W.heap.size W W') : Below w.heap.size w W' := h.trans (hb.mono h.size)
theorem stepA {W W' : World} {A : Obj} (hb : Below (W.alloc A).heap.size (W.alloc A) W') : Below W.heap.size W W' := (one_below _ _).trans (hb.mono (by simp))

set_option maxRecDepth 100000 in
set_option maxHeartbeats 400000 in
theorem lit_23 (k : Int) (b : Bool) (i : Int) (t : ByteArray) (w : World) : Calls Tryz.prog 23 #[.agg #[.int .u8 k, .bool b, .int .i64 i, .string t]] w fun ev w' => ev = .returned (.agg #[.int .u8 2, .slice none 0 0, .int .i64 0, .int .u8 k, .bool b, .int .i64 i, .string t]) ∧ Below w.heap.size w w' := by
  go_enter Tryz.func23, Tryz.ntmps23
  go_wp2_with fail
  refine bodyPost_ret (results_cell_row rfl _ _ (w.heap.size + 1) 27 _ (0, 0) _ rfl (two_at (Below.refl _ _)).2 Tryz.underlying27 rfl (by kernel_rfl)) rfl ?_
  exact ⟨rfl, two_below _ _ _⟩

theorem fits_op {o : Int} {ks : List ET} (ho : 0 ≤ o ∧ o ≤ 255) (hl : ks.length ≤ 3) (hk : ∀ k ∈ ks, k.fits) : (opE o ks).fits := by
  simp only [opE, ET.fits, ET.fitss_iff]
  exact ⟨ho, by decide, by simp [Dat.fits, Dat.zero, size_nil], by omega, hk⟩
theorem fits_lit {d : Dat} (h : d.fits) : (litE d).fits := by
  simp only [litE, ET.fits, ET.fitss_iff]
  exact ⟨by decide, by decide, h, by decide, fun k hk => by cases hk⟩
theorem lit_at {d : Dat} {w : World} : (litE d).At w (.slice none 0 0) := on_nil _ _ _ _ _
theorem at_one {w : World} {g : Nat} {o : Int} {k0 : ET} {v0 : Value} (h : w.heap[g]? = some (.cells (k0.cells v0).toArray 27 (0, 0))) (h0 : k0.At w v0) : (opE o [k0]).At w (.slice (some ⟨g, 0, none⟩) 1 1) := by
  refine ET.On.iff.2 ⟨some ⟨g, 0, none⟩, 1, rfl, (fun h => by cases h), fun _ => ⟨g, 0, rfl, trivial, ET.Ons.mk fun i k hk => ?_⟩⟩
  rcases i with _ | i
  · cases hk
    exact ⟨v0, ⟨cell_of_heap h rfl, cell_of_heap h rfl, cell_of_heap h rfl, cell_of_heap h rfl, cell_of_heap h rfl, cell_of_heap h rfl, cell_of_heap h rfl⟩, h0⟩
  · simp [opE, ET.kids] at hk
theorem at_two {w : World} {g : Nat} {o : Int} {k0 k1 : ET} {v0 v1 : Value} (h : w.heap[g]? = some (.cells (k0.cells v0 ++ k1.cells v1).toArray 27 (0, 0))) (h0 : k0.At w v0) (h1 : k1.At w v1) : (opE o [k0, k1]).At w (.slice (some ⟨g, 0, none⟩) 2 2) := by
  refine ET.On.iff.2 ⟨some ⟨g, 0, none⟩, 2, rfl, (fun h => by cases h), fun _ => ⟨g, 0, rfl, trivial, ET.Ons.mk fun i k hk => ?_⟩⟩
  rcases i with _ | _ | i
  · cases hk
    exact ⟨v0, ⟨cell_of_heap h rfl, cell_of_heap h rfl, cell_of_heap h rfl, cell_of_heap h rfl, cell_of_heap h rfl, cell_of_heap h rfl, cell_of_heap h rfl⟩, h0⟩
  · cases hk
    exact ⟨v1, ⟨cell_of_heap h rfl, cell_of_heap h rfl, cell_of_heap h rfl, cell_of_heap h rfl, cell_of_heap h rfl, cell_of_heap h rfl, cell_of_heap h rfl⟩, h1⟩
  · simp [opE, ET.kids] at hk
theorem at_three {w : World} {g : Nat} {o : Int} {k0 k1 k2 : ET} {v0 v1 v2 : Value} (h : w.heap[g]? = some (.cells (k0.cells v0 ++ k1.cells v1 ++ k2.cells v2).toArray 27 (0, 0))) (h0 : k0.At w v0) (h1 : k1.At w v1) (h2 : k2.At w v2) : (opE o [k0, k1, k2]).At w (.slice (some ⟨g, 0, none⟩) 3 3) := by
  refine ET.On.iff.2 ⟨some ⟨g, 0, none⟩, 3, rfl, (fun h => by cases h), fun _ => ⟨g, 0, rfl, trivial, ET.Ons.mk fun i k hk => ?_⟩⟩
  rcases i with _ | _ | _ | i
  · cases hk
    exact ⟨v0, ⟨cell_of_heap h rfl, cell_of_heap h rfl, cell_of_heap h rfl, cell_of_heap h rfl, cell_of_heap h rfl, cell_of_heap h rfl, cell_of_heap h rfl⟩, h0⟩
  · cases hk
    exact ⟨v1, ⟨cell_of_heap h rfl, cell_of_heap h rfl, cell_of_heap h rfl, cell_of_heap h rfl, cell_of_heap h rfl, cell_of_heap h rfl, cell_of_heap h rfl⟩, h1⟩
  · cases hk
    exact ⟨v2, ⟨cell_of_heap h rfl, cell_of_heap h rfl, cell_of_heap h rfl, cell_of_heap h rfl, cell_of_heap h rfl, cell_of_heap h rfl, cell_of_heap h rfl⟩, h2⟩
  · simp [opE, ET.kids] at hk

theorem info29 : (Tryz.prog.info? 29).map (fun i => (i.zero, i.size, i.bytes)) = some (some (.slice none 0 0), 1, 24) := by kernel_rfl
theorem fits_boo (b : Bool) : (boo b).fits := ⟨by simp [boo], by simp [boo], by simp [boo, size_nil]⟩
theorem own_first {w : World} {B g cap : Nat} {t : TypeId} {x : Value} (h : w.ownsRow B t 1 (.slice (some ⟨g, 0, none⟩) 1 cap) 1 [x]) : w.cell? ⟨g, 0, none⟩ = some x := by
  obtain ⟨-, h⟩ := h
  rcases h with ⟨h, -⟩ | ⟨g', cap', cur, hv, -, hh, -, -, -, htk⟩
  · cases h
  · cases hv
    refine cell_of_heap hh ?_
    have h1 : (cur.toList.take (1 * 1))[0]? = some x := by rw [htk]; rfl
    rw [List.getElem?_take_of_lt (by decide)] at h1
    simpa using h1
theorem own_last {w : World} {B vc : Nat} {va : Option Addr} {ks : List Int} (h : w.ownsRow B 3 1 (.slice va ks.length vc) ks.length (ks.map (Value.int .i64))) (hne : ks ≠ []) :
    ∃ kl g, va = some ⟨g, 0, none⟩ ∧ w.cell? ⟨g, ks.length - 1, none⟩ = some (.int .i64 kl) ∧ ks.getLast? = some kl ∧ ks.length ≤ maxLen := by
  obtain ⟨-, h⟩ := h
  rcases h with ⟨-, h⟩ | ⟨g, cap, cur, hv, -, hh, hc1, hc2, -, htk⟩
  · exact absurd (List.eq_nil_of_length_eq_zero h) hne
  · cases hv
    have hl := List.length_pos_iff.2 hne
    refine ⟨ks.getLast hne, g, rfl, cell_of_heap hh ?_, List.getLast?_eq_some_getLast hne, Nat.le_trans hc1 hc2⟩
    have h1 : (cur.toList.take (ks.length * 1))[ks.length - 1]? = some (.int .i64 (ks.getLast hne)) := by
      rw [htk, List.getElem?_map, List.getLast_eq_getElem, List.getElem?_eq_getElem (by omega)]; rfl
    rw [List.getElem?_take_of_lt (by omega)] at h1
    simpa using h1
theorem seven_of {l : List Value} (h : l.toArray.size = 7) : ∃ a0 a1 a2 a3 a4 a5 a6, l = [a0, a1, a2, a3, a4, a5, a6] := by
  match l, h with
  | [a0, a1, a2, a3, a4, a5, a6], _ => exact ⟨a0, a1, a2, a3, a4, a5, a6, rfl⟩
/-- two parts are laid side by side: a step of a region that draws -/
theorem step_build2 {ops : Array Oper} {o : Oper} {a : Act} {W : World} {K : Act → World → Prop} {Q : Exit → Act → World → Prop} {E : Prop} (hgd : o.guard = none) (x y : Operand)
    (ho : o.op = .buildSlice 22 2 #[(0, x), (1, y)]) (u v : Array Value) (hx : a.eval x = .agg u) (hy : a.eval y = .agg v) (hu : u.size = 7) (hv : v.size = 7)
    (h : ∀ b W', W' = W.alloc (.cells (u ++ v) 27) → b = W.heap.size → K (a.put o.dst (.slice (some ⟨b, 0, none⟩) 2 2)) W') :
    if Region.wanted o (yielded ops a.tmps) = true then Oper.wp Tryz.prog o a W K Q else E := by
  have hw : Region.wanted o (yielded ops a.tmps) = true := by simp [Region.wanted, hgd]
  rw [if_pos hw]
  have h := h W.heap.size _ rfl rfl
  obtain ⟨l, rfl⟩ : ∃ l : List Value, u = l.toArray := ⟨u.toList, rfl⟩
  obtain ⟨m, rfl⟩ : ∃ m : List Value, v = m.toArray := ⟨v.toList, rfl⟩
  obtain ⟨a0, a1, a2, a3, a4, a5, a6, rfl⟩ := seven_of hu
  obtain ⟨b0, b1, b2, b3, b4, b5, b6, rfl⟩ := seven_of hv
  unfold Oper.wp execOp
  simp only [ho, Instr.buildSlice, Instr.fill, List.map_toArray, List.map_cons, List.map_nil, hx, hy]
  go_simp
  exact h
theorem step_build3 {ops : Array Oper} {o : Oper} {a : Act} {W : World} {K : Act → World → Prop} {Q : Exit → Act → World → Prop} {E : Prop} (hgd : o.guard = none) (x y z : Operand)
    (ho : o.op = .buildSlice 22 3 #[(0, x), (1, y), (2, z)]) (u v t : Array Value) (hx : a.eval x = .agg u) (hy : a.eval y = .agg v) (hz : a.eval z = .agg t) (hu : u.size = 7) (hv : v.size = 7) (ht : t.size = 7)
    (h : ∀ b W', W' = W.alloc (.cells (u ++ v ++ t) 27) → b = W.heap.size → K (a.put o.dst (.slice (some ⟨b, 0, none⟩) 3 3)) W') :
    if Region.wanted o (yielded ops a.tmps) = true then Oper.wp Tryz.prog o a W K Q else E := by
  have hw : Region.wanted o (yielded ops a.tmps) = true := by simp [Region.wanted, hgd]
  rw [if_pos hw]
  have h := h W.heap.size _ rfl rfl
  obtain ⟨l, rfl⟩ : ∃ l : List Value, u = l.toArray := ⟨u.toList, rfl⟩
  obtain ⟨m, rfl⟩ : ∃ m : List Value, v = m.toArray := ⟨v.toList, rfl⟩
  obtain ⟨k, rfl⟩ : ∃ m : List Value, t = m.toArray := ⟨t.toList, rfl⟩
  obtain ⟨a0, a1, a2, a3, a4, a5, a6, rfl⟩ := seven_of hu
  obtain ⟨b0, b1, b2, b3, b4, b5, b6, rfl⟩ := seven_of hv
  obtain ⟨c0, c1, c2, c3, c4, c5, c6, rfl⟩ := seven_of ht
  unfold Oper.wp execOp
  simp only [ho, Instr.buildSlice, Instr.fill, List.map_toArray, List.map_cons, List.map_nil, hx, hy, hz]
  go_simp
  exact h
theorem step_alloc25 {ops : Array Oper} {o : Oper} {a : Act} {W : World} {K : Act → World → Prop} {Q : Exit → Act → World → Prop} {E : Prop} (hgd : o.guard = none)
    (ho : o.op = .alloc 25)
    (h : ∀ b W', W' = W.alloc (.cells #[.int .u8 0, .bool false, .int .i64 0, .string ⟨#[]⟩] 25) → b = W.heap.size → K (a.put o.dst (.pointer (some ⟨b, 0, none⟩))) W') :
    if Region.wanted o (yielded ops a.tmps) = true then Oper.wp Tryz.prog o a W K Q else E := by
  have hw : Region.wanted o (yielded ops a.tmps) = true := by simp [Region.wanted, hgd]
  rw [if_pos hw]
  have h := h W.heap.size _ rfl rfl
  unfold Oper.wp execOp
  simp only [ho]
  go_simp
  exact h
theorem step_store25 {ops : Array Oper} {o : Oper} {a : Act} {W : World} {K : Act → World → Prop} {Q : Exit → Act → World → Prop} {E : Prop} (hgd : o.guard = none) (x y : Operand)
    (ho : o.op = .store 25 x y) {B : Nat} (hx : a.eval x = .pointer (some ⟨B, 0, none⟩)) {d : Dat} (hy : a.eval y = d.agg) {z0 z1 z2 z3 : Value} (hh : W.heap[B]? = some (.cells #[z0, z1, z2, z3] 25 (0, 0)))
    (h : ∀ W', W' = setRow4 W B (.int .u8 d.kind) (.bool d.bool) (.int .i64 d.int) (.string d.text) → K (a.put o.dst undef) W') :
    if Region.wanted o (yielded ops a.tmps) = true then Oper.wp Tryz.prog o a W K Q else E := by
  have hw : Region.wanted o (yielded ops a.tmps) = true := by simp [Region.wanted, hgd]
  rw [if_pos hw]
  have h := h _ rfl
  have z0 := cell_of_heap (o := 0) hh rfl
  have g0 := frozen_of_heap (o := 0) hh
  have z1 := cell_of_heap (o := 1) hh rfl
  have g1 := frozen_of_heap (o := 1) hh
  have z2 := cell_of_heap (o := 2) hh rfl
  have g2 := frozen_of_heap (o := 2) hh
  have z3 := cell_of_heap (o := 3) hh rfl
  have g3 := frozen_of_heap (o := 3) hh
  unfold Dat.agg at hy
  unfold Oper.wp execOp
  simp only [ho, hx, hy]
  go_simp
  exact h

set_option maxRecDepth 100000 in
set_option maxHeartbeats 16000000 in
theorem lazy_5 (r : List Dat) (e : ET) (n : Int) (a : Option Addr) (cc : Nat) (ra : Option Addr) (rc : Nat) (w : World) (hat : e.At w (.slice a e.kids.length cc)) (hr : RowAt w (.slice ra r.length rc) r) (hfit : e.fits) (hrf : ∀ d ∈ r, d.fits) (hrl : r.length ≤ 17592186043904) (hfn : (num n).fits) (hT : Lib.Utf8Tabs 1 2 w) (hE : ErrTy w) (h3 : 3 ≤ w.heap.size)
    (hkn : ∀ W, Below w.heap.size w W → Calls Tryz.prog 14 #[] W fun ev W' => ev = .returned (.bool true) ∧ Below W.heap.size W W') :
    Calls Tryz.prog 5 #[e.agg (.slice a e.kids.length cc), .slice ra r.length rc, .int .i64 n] w fun ev w' => ev = .returned (.bool true) ∧ Below w.heap.size w w' := by
  have HAT := Lib.hid hat
  have HR := Lib.hid hr
  have HT := Lib.hid hT
  have HE := Lib.hid hE
  have HKN := Lib.hid hkn
  have HFIT := Lib.hid hfit
  have HRF := Lib.hid hrf
  have HFN := Lib.hid hfn
  have hfar := far_8 e a e.kids.length cc (w.alloc (.cells #[.int .u8 e.op, .slice a e.kids.length cc, .int .i64 e.col, .int .u8 e.lit.kind, .bool e.lit.bool, .int .i64 e.lit.int, .string e.lit.text] 27)) (hat.below (one_below _ _)) hfit
  unfold ET.agg at hfar
  have HFAR := Lib.hid hfar
  have hfr := fun (W : World) (hb : Below w.heap.size w W) => far_9 _ r W (hr.below hb) hrl hrf
  have HFR := Lib.hid hfr
  have hck := fun (W : World) (hb : Below w.heap.size w W) => chk_21 e a cc W hfit (hat.below hb) (tabs_below hT hb h3) (Nat.le_trans h3 hb.size)
  unfold ET.agg at hck
  have HCK := Lib.hid hck
  have hcol := fun (hs : e.size ≤ 1000000) (W : World) (hb : Below w.heap.size w W) => columns_22 e a cc W hfit (hat.below hb) hs
  unfold ET.agg at hcol
  have HCOL := Lib.hid hcol
  obtain ⟨N, eN⟩ : ∃ N, N = r.length := ⟨_, rfl⟩
  rw [← eN] at HFR ⊢
  have EN := Lib.hid eN
  obtain ⟨H, eH⟩ : ∃ H, H = w.heap.size := ⟨_, rfl⟩
  have EH := Lib.hid eH
  clear hfar hat hr hT hE hkn hfit hrf hfr hck hcol eN hfn eH
  unfold ET.agg
  go_enter Tryz.func5, Tryz.ntmps5
  go_wp2_with fail
  refine HFAR.out.mono ?_
  rintro ev w1 ⟨rfl, hb1⟩
  have k1 := one_at hb1
  have HB1 := Lib.hid (stepA hb1)
  rw [← EH.out] at k1 ⊢
  have y0 := cell_of_heap (o := 0) k1 rfl
  have y1 := cell_of_heap (o := 1) k1 rfl
  have y2 := cell_of_heap (o := 2) k1 rfl
  have y3 := cell_of_heap (o := 3) k1 rfl
  have y4 := cell_of_heap (o := 4) k1 rfl
  have y5 := cell_of_heap (o := 5) k1 rfl
  have y6 := cell_of_heap (o := 6) k1 rfl
  have K1 := Lib.hid k1
  clear hb1 k1 HFAR
  by_cases hf : 12000 < e.weight
  · rw [decide_eq_true hf]
    clear hf
    go_wp2
    go_ret
    exact ⟨rfl, HB1.out⟩
  rw [decide_eq_false hf]
  have hsz : e.size ≤ 1000000 := by have := e.size_le_weight; omega
  have hfr := HFR.out w1 HB1.out
  have hcol := HCOL.out hsz
  have HCOL := Lib.hid hcol
  clear hf HFR hcol hsz
  by_cases hf : 12000 < rowW r
  · rw [decide_eq_true hf] at hfr
    have HFR := Lib.hid hfr
    clear hf hfr
    go_wp2_with (go_at_call 9; refine HFR.out.mono ?_; rintro ev w2 ⟨rfl, rfl⟩)
    go_ret
    exact ⟨rfl, HB1.out⟩
  rw [decide_eq_false hf] at hfr
  have HFR := Lib.hid hfr
  have hN : N ≤ 12000 := by have := EN.out; unfold rowW at hf; omega
  have hck := HCK.out w1 HB1.out
  clear hf hfr
  by_cases hmay : e.may okD = true
  rotate_left
  · rw [if_neg hmay] at hck
    have HCK := Lib.hid hck
    clear hck hmay
    go_wp2_with (go_at_call 9; refine HFR.out.mono ?_; rintro ev w2 ⟨rfl, rfl⟩)
    refine HCK.out.mono ?_
    rintro ev w2 ⟨rfl, hb2⟩
    have HB2 := Lib.hid (stepB HB1.out hb2)
    clear hb2
    go_wp2_with fail
    refine (HKN.out _ HB2.out).mono ?_
    rintro ev w9 ⟨rfl, hb9⟩
    have HB9 := Lib.hid (stepB HB2.out hb9)
    clear hb9
    go_wp2
    go_ret
    exact ⟨rfl, HB9.out⟩
  rw [if_pos hmay] at hck
  have HCK := Lib.hid hck
  have HMAY := Lib.hid hmay
  obtain ⟨i0, hi0, hz0, hz1, hz2⟩ := info_parts info29
  clear hck hmay
  go_wp2_with (go_at_call 9; refine HFR.out.mono ?_; rintro ev w2 ⟨rfl, rfl⟩)
  refine HCK.out.mono ?_
  rintro ev w2 ⟨rfl, hb2⟩
  have HB2 := Lib.hid (stepB HB1.out hb2)
  have K2 := Lib.hid (keepB K1.out hb2)
  have hs2 : H ≤ w2.heap.size := by have := HB2.out.size; rw [EH.out]; exact this
  clear hb2
  clear y0 y1 y2 y3 y4 y5 y6
  go_wp2_with (at_builtin; go_must (refine wpList_append_lies _ rfl _ _ 53 rfl H 29 i0 _ 1 24 Tryz.underlying53 hi0 hz0 hz1 hz2 rfl (by decide) (.slice none 0 0) 0 [] rfl (World.ownsRow_nil _ _ _ _) ⟨w2.heap.size, 0, none⟩ 1 1 [.slice ra N rc] rfl rfl ?c1 ?c2 (by decide) ?c3 ?c4 ?c5 _ rfl ?_))
  case c1 => first | exact fun _ _ hj => hj | exact World.news_of_block (cs := #[.slice ra N rc]) (heap_alloc_new _ _)
  case c2 => first | rfl | (intro u hu; simp at hu; subst hu; rfl)
  case c3 => unfold maxLen; omega
  case c4 => omega
  case c5 => first | omega | (simp; omega)
  intro G cap w3 hown3 hgrow hat3 _
  have hb23 : Below w2.heap.size w2 w3 := ((Below.refl _ w2).alloc (Nat.le_refl _) _).grown hgrow (by simp) (fun g hg => by cases hg)
  have KG := Lib.hid (own_first hown3)
  have HB3 := Lib.hid (stepB HB2.out hb23)
  have k3 := keepB K2.out hb23
  have K3 := Lib.hid k3
  have y0 := cell_of_heap (o := 0) k3 rfl
  have y1 := cell_of_heap (o := 1) k3 rfl
  have y2 := cell_of_heap (o := 2) k3 rfl
  have y3 := cell_of_heap (o := 3) k3 rfl
  have y4 := cell_of_heap (o := 4) k3 rfl
  have y5 := cell_of_heap (o := 5) k3 rfl
  have y6 := cell_of_heap (o := 6) k3 rfl
  have hcol := HCOL.out w3 HB3.out
  have HCOL := Lib.hid hcol
  clear hown3 hgrow hat3 hb23 k3 K1 K2 HFR HCK hcol hs2
  go_wp2_with fail
  refine HCOL.out.mono ?_
  rintro ev w4 ⟨v, ks, rfl, hups, hrow, hb4⟩
  obtain ⟨va, vc, rfl⟩ := ownsRow_slice hrow
  have HUPS := Lib.hid hups
  have HROW := Lib.hid hrow
  have HB4 := Lib.hid (stepB HB3.out hb4)
  have Ke := Lib.hid (keepB K3.out hb4)
  have hg4 := cell_keep hb4 KG.out
  have KG := Lib.hid hg4
  clear y0 y1 y2 y3 y4 y5 y6
  clear hups hrow hb4 K3 hg4 HCOL
  obtain ⟨bad, ebad⟩ : ∃ b : Bool, b = decide (∃ c ∈ ks, (N : Int) ≤ c) := ⟨_, rfl⟩
  have EB := Lib.hid ebad
  go_upto_region 8 with fail
  go_cut [54] from 41 to 54 (fun s wx => s = .bool bad ∧ wx = w4)
  case first =>
    by_cases hk0 : ks = []
    · subst hk0
      obtain rfl : bad = false := by rw [ebad]; simp
      clear ebad
      go_wp2_with fail
      go_meet
      exact ⟨rfl, rfl⟩
    · have hne : ks.length ≠ 0 := fun h => hk0 (List.eq_nil_of_length_eq_zero h)
      obtain ⟨kl, kg, hva, hkc, hkb, hkm⟩ := own_last HROW.out hk0
      unfold maxLen at hkm
      have hmax := ups_last HUPS.out hkb
      have hbd : bad = decide ((N : Int) ≤ kl) := by
        rw [ebad]
        refine decide_eq_decide.2 ⟨fun ⟨c, h1, h2⟩ => by have := hmax c h1; omega, fun h => ⟨kl, List.mem_of_getLast? hkb, h⟩⟩
      subst hva
      have hlen := HROW.out.1
      obtain ⟨M, eM⟩ : ∃ M, M = ks.length - 1 := ⟨_, rfl⟩
      rw [← eM] at hkc
      have hwr : IntKind.i64.wrap ((ks.length : Int) - 1) = (M : Int) := by rw [IntWalk.i64_in _ (by omega)]; omega
      have hlt : (M : Int) < (ks.length : Int) := by omega
      have hpos : (0 : Int) < (ks.length : Int) := by omega
      clear hmax hkb hk0 hne ebad hlen eM hkm
      by_cases hbb : (N : Int) ≤ kl
      · obtain rfl : bad = true := by rw [hbd]; simp [hbb]
        clear hbd
        go_wp2_with fail
        go_meet
        exact ⟨rfl, rfl⟩
      · obtain rfl : bad = false := by rw [hbd]; simp [hbb]
        clear hbd
        go_wp2_with fail
        go_meet
        exact ⟨rfl, rfl⟩
  case rest =>
    obtain ⟨rfl, rfl⟩ := hcut
    cases bad
    rotate_left
    · clear ebad
      go_wp2_with fail
      refine (HKN.out _ HB4.out).mono ?_
      rintro ev w9 ⟨rfl, hb9⟩
      have HB9 := Lib.hid (stepB HB4.out hb9)
      clear hb9
      go_wp2
      go_ret
      exact ⟨rfl, HB9.out⟩
    have hwi : e.within (N : Int) = true := within_cols HMAY.out HUPS.out (fun c hc => by
      have hb := EB.out
      have hn := of_decide_eq_false hb.symm
      exact Int.not_le.1 (fun h => hn ⟨c, hc, h⟩))
    have HWI := Lib.hid hwi
    clear ebad hwi HROW HUPS EB HMAY
    generalize wc = w4 at *
    go_wp2_with fail
    refine (lit_23 _ _ _ _ _).mono ?_
    rintro ev x1 ⟨rfl, hbx⟩
    have HBx := Lib.hid (stepB HB4.out hbx)
    have Ke := Lib.hid (keepB Ke.out hbx)
    have hg := cell_keep hbx KG.out
    have KG := Lib.hid hg
    obtain ⟨BY, eBY⟩ : ∃ B, B = x1.heap.size := ⟨_, rfl⟩
    have EBY := Lib.hid eBY
    clear hbx hg eBY
    go_wp2_with fail
    rw [← EBY.out]
    refine (lit_23 _ _ _ _ _).mono ?_
    rintro ev x2 ⟨rfl, hbx⟩
    have Kyes := Lib.hid (show x2.heap[BY]? = some (.cells #[.int .u8 2, .slice none 0 0, .int .i64 0, .int .u8 2, .bool true, .int .i64 0, .string ⟨#[]⟩] 27 (0, 0)) by rw [EBY.out]; exact one_at hbx)
    have hbx := stepA hbx
    have HBx := Lib.hid (stepB HBx.out hbx)
    have Ke := Lib.hid (keepB Ke.out hbx)
    have hg := cell_keep hbx KG.out
    have KG := Lib.hid hg
    obtain ⟨BN, eBN⟩ : ∃ B, B = x2.heap.size := ⟨_, rfl⟩
    have EBN := Lib.hid eBN
    clear hbx hg eBN EBY
    go_wp2_with fail
    rw [← EBN.out]
    refine (lit_23 _ _ _ _ _).mono ?_
    rintro ev x3 ⟨rfl, hbx⟩
    have Kno := Lib.hid (show x3.heap[BN]? = some (.cells #[.int .u8 2, .slice none 0 0, .int .i64 0, .int .u8 2, .bool false, .int .i64 0, .string ⟨#[]⟩] 27 (0, 0)) by rw [EBN.out]; exact one_at hbx)
    have hbx := stepA hbx
    have HBx := Lib.hid (stepB HBx.out hbx)
    have Ke := Lib.hid (keepB Ke.out hbx)
    have Kyes := Lib.hid (keepB Kyes.out hbx)
    have hg := cell_keep hbx KG.out
    have KG := Lib.hid hg
    obtain ⟨BV, eBV⟩ : ∃ B, B = x3.heap.size := ⟨_, rfl⟩
    have EBV := Lib.hid eBV
    have k3 := Ke.out
    have y0 := fun A => cell_of_heap (o := 0) (keepAt' k3 A) rfl
    have y1 := fun A => cell_of_heap (o := 1) (keepAt' k3 A) rfl
    have y2 := fun A => cell_of_heap (o := 2) (keepAt' k3 A) rfl
    have y3 := fun A => cell_of_heap (o := 3) (keepAt' k3 A) rfl
    have y4 := fun A => cell_of_heap (o := 4) (keepAt' k3 A) rfl
    have y5 := fun A => cell_of_heap (o := 5) (keepAt' k3 A) rfl
    have y6 := fun A => cell_of_heap (o := 6) (keepAt' k3 A) rfl
    clear hbx hg eBV k3 EBN
    go_wp2_with fail
    rw [← EBV.out]
    refine (op_24 _ _ _ _ _).mono ?_
    rintro ev x4 ⟨rfl, hbx⟩
    obtain ⟨x5, hx5⟩ : ∃ x, x = x3.alloc (.cells #[.int .u8 2, .slice none 0 0, .int .i64 0, .int .u8 3, .bool false, .int .i64 n, .string ⟨#[]⟩] 27) := ⟨_, rfl⟩
    rw [← hx5] at hbx
    have kv : x5.heap[BV]? = some (.cells #[.int .u8 2, .slice none 0 0, .int .i64 0, .int .u8 3, .bool false, .int .i64 n, .string ⟨#[]⟩] 27 (0, 0)) := by rw [hx5, EBV.out]; exact heap_alloc_new _ _
    have h35 : Below x3.heap.size x3 x5 := by rw [hx5]; exact one_below _ _
    have BVs : BV + 1 = x5.heap.size := by rw [hx5, EBV.out]; simp
    have KB := Lib.hid (one_at hbx)
    have hbx := stepA hbx
    have Kfive := Lib.hid (keepB kv hbx)
    have hbx := stepB h35 hbx
    have HBx := Lib.hid (stepB HBx.out hbx)
    have Ke := Lib.hid (keepB Ke.out hbx)
    have Kyes := Lib.hid (keepB Kyes.out hbx)
    have Kno := Lib.hid (keepB Kno.out hbx)
    have hg := cell_keep hbx KG.out
    have KG := Lib.hid hg
    have hck := chk_21 (opE 17 [e]) (some ⟨BV + 1, 0, none⟩) 1 x4 (fits_op (by decide) (by simp) (fun k hk => by simp at hk; subst hk; exact HFIT.out)) (at_one (by rw [BVs]; exact KB.out) (HAT.out.below HBx.out)) (tabs_below HT.out HBx.out h3) (Nat.le_trans h3 HBx.out.size)
    have HCK := Lib.hid hck
    clear y0 y1 y2 y3 y4 y5 y6
    clear hx5 kv h35 BVs hbx hg hck KB EBV
    by_cases hdeep : (opE 17 [e]).may okD = true
    rotate_left
    · rw [if_neg hdeep] at HCK
      clear hdeep
      go_wp2_with fail
      refine HCK.out.mono ?_
      rintro ev x6 ⟨rfl, hbx⟩
      have HBx := Lib.hid (stepB HBx.out hbx)
      clear hbx
      go_wp2_with fail
      refine (HKN.out _ HBx.out).mono ?_
      rintro ev w9 ⟨rfl, hb9⟩
      have HB9 := Lib.hid (stepB HBx.out hb9)
      clear hb9
      go_wp2
      go_ret
      exact ⟨rfl, HB9.out⟩
    rw [if_pos hdeep] at HCK
    clear hdeep
    go_wp2_with fail
    refine HCK.out.mono ?_
    rintro ev w5 ⟨rfl, hbx⟩
    have HB5 := Lib.hid (stepB HBx.out hbx)
    have Ke := Lib.hid (keepB Ke.out hbx)
    have Kyes := Lib.hid (keepB Kyes.out hbx)
    have Kno := Lib.hid (keepB Kno.out hbx)
    have Kfive := Lib.hid (keepB Kfive.out hbx)
    have hg := cell_keep hbx KG.out
    have KG := Lib.hid hg
    clear hbx hg HCK HBx HB4
    obtain ⟨X1, eX1⟩ : ∃ X, X = evalR r (opE 18 [litE (boo false), e]) := ⟨_, rfl⟩
    have EX1 := Lib.hid eX1
    clear eX1
    have he : ∀ W b, Below w5.heap.size w5 W → W.heap[b]? = some (.cells (#[.int .u8 2, .slice none 0 0, .int .i64 0, .int .u8 2, .bool false, .int .i64 0, .string ⟨#[]⟩] ++ #[.int .u8 e.op, .slice a e.kids.length cc, .int .i64 e.col, .int .u8 e.lit.kind, .bool e.lit.bool, .int .i64 e.lit.int, .string e.lit.text]) 27 (0, 0)) → Calls Tryz.prog 12 #[.agg #[.int .u8 18, .slice (some ⟨b, 0, none⟩) 2 2, .int .i64 0, .int .u8 0, .bool false, .int .i64 0, .string ⟨#[]⟩], .slice ra N rc] W (ResPost X1 W) := fun W b hb hk => by
      rw [EX1.out, EN.out]
      exact eval12_all r (opE 18 [litE (boo false), e]) (some ⟨b, 0, none⟩) 2 ra rc W (fits_op (by decide) (by simp) (fun k hk => by simp at hk; rcases hk with rfl | rfl <;> first | exact HFIT.out | exact fits_lit HFN.out | exact fits_lit (fits_boo _))) HRF.out (at_two hk lit_at (HAT.out.below (stepB HB5.out hb))) (HR.out.below (stepB HB5.out hb)) (tabs_below HT.out (stepB HB5.out hb) h3) (cell_keep (stepB HB5.out hb) HE.out) (Nat.le_trans h3 (stepB HB5.out hb).size)
    have HE16 := Lib.hid he
    clear he
    go_upto_region 16 with fail
    have hS : ∀ W, Below w5.heap.size w5 W → W.cell? ⟨BN, 0, none⟩ = some (.int .u8 2) ∧ W.cell? ⟨BN, 1, none⟩ = some (.slice none 0 0) ∧ W.cell? ⟨BN, 2, none⟩ = some (.int .i64 0) ∧ W.cell? ⟨BN, 3, none⟩ = some (.int .u8 2) ∧ W.cell? ⟨BN, 4, none⟩ = some (.bool false) ∧ W.cell? ⟨BN, 5, none⟩ = some (.int .i64 0) ∧ W.cell? ⟨BN, 6, none⟩ = some (.string ⟨#[]⟩) ∧ W.cell? ⟨H, 0, none⟩ = some (.int .u8 e.op) ∧ W.cell? ⟨H, 1, none⟩ = some (.slice a e.kids.length cc) ∧ W.cell? ⟨H, 2, none⟩ = some (.int .i64 e.col) ∧ W.cell? ⟨H, 3, none⟩ = some (.int .u8 e.lit.kind) ∧ W.cell? ⟨H, 4, none⟩ = some (.bool e.lit.bool) ∧ W.cell? ⟨H, 5, none⟩ = some (.int .i64 e.lit.int) ∧ W.cell? ⟨H, 6, none⟩ = some (.string e.lit.text) ∧ W.cell? ⟨G, 0, none⟩ = some (.slice ra N rc) := fun W hb => ⟨cell_of_heap (keepB Kno.out hb) rfl, cell_of_heap (keepB Kno.out hb) rfl, cell_of_heap (keepB Kno.out hb) rfl, cell_of_heap (keepB Kno.out hb) rfl, cell_of_heap (keepB Kno.out hb) rfl, cell_of_heap (keepB Kno.out hb) rfl, cell_of_heap (keepB Kno.out hb) rfl, cell_of_heap (keepB Ke.out hb) rfl, cell_of_heap (keepB Ke.out hb) rfl, cell_of_heap (keepB Ke.out hb) rfl, cell_of_heap (keepB Ke.out hb) rfl, cell_of_heap (keepB Ke.out hb) rfl, cell_of_heap (keepB Ke.out hb) rfl, cell_of_heap (keepB Ke.out hb) rfl, cell_keep hb KG.out⟩
    have HS16 := Lib.hid hS
    clear hS
    go_cut [13, 14] from 70 to 80 (fun sb se wx => ∃ B, sb = .pointer (some ⟨B, 0, none⟩) ∧ se = .int .u16 X1.2 ∧ wx.heap[B]? = some (.cells #[.int .u8 X1.1.kind, .bool X1.1.bool, .int .i64 X1.1.int, .string X1.1.text] 25 (0, 0)) ∧ Below w5.heap.size w5 wx)
    case first =>
      have CB0 := Lib.hid (show Below w5.heap.size w5 w5.drew from ⟨rfl, rfl, rfl, Nat.le_refl _, fun _ _ => rfl⟩)
      refine wp_region_held_drew (S := fun W => W.cell? ⟨BN, 0, none⟩ = some (.int .u8 2) ∧ W.cell? ⟨BN, 1, none⟩ = some (.slice none 0 0) ∧ W.cell? ⟨BN, 2, none⟩ = some (.int .i64 0) ∧ W.cell? ⟨BN, 3, none⟩ = some (.int .u8 2) ∧ W.cell? ⟨BN, 4, none⟩ = some (.bool false) ∧ W.cell? ⟨BN, 5, none⟩ = some (.int .i64 0) ∧ W.cell? ⟨BN, 6, none⟩ = some (.string ⟨#[]⟩) ∧ W.cell? ⟨H, 0, none⟩ = some (.int .u8 e.op) ∧ W.cell? ⟨H, 1, none⟩ = some (.slice a e.kids.length cc) ∧ W.cell? ⟨H, 2, none⟩ = some (.int .i64 e.col) ∧ W.cell? ⟨H, 3, none⟩ = some (.int .u8 e.lit.kind) ∧ W.cell? ⟨H, 4, none⟩ = some (.bool e.lit.bool) ∧ W.cell? ⟨H, 5, none⟩ = some (.int .i64 e.lit.int) ∧ W.cell? ⟨H, 6, none⟩ = some (.string e.lit.text) ∧ W.cell? ⟨G, 0, none⟩ = some (.slice ra N rc)) (by kernel_rfl) (HS16.out _ CB0.out) (fun hHeld => ?_)
      refine wpAnyH_take (i := 0) (oi := ⟨some 71, _, _, _, _, _⟩) (v := ?_) rfl (by kernel_rfl) (by kernel_rfl) (by kernel_rfl) (fun _ _ _ h => h) (Or.inl ⟨by rfl, ?_⟩) (by assumption) ?_; rotate_left; (intro w hSw; (try dsimp only at hSw); go_simp; (try with_reducible rfl)); simp only [Act.put, List.setIfInBounds_toArray, List.set_cons_zero, List.set_cons_succ]
      refine wpAnyH_take (i := 1) (oi := ⟨some 72, _, _, _, _, _⟩) (v := ?_) rfl (by kernel_rfl) (by kernel_rfl) (by kernel_rfl) (fun _ _ _ h => h) (Or.inl ⟨by rfl, ?_⟩) (by assumption) ?_; rotate_left; (intro w hSw; (try dsimp only at hSw); go_simp; (try with_reducible rfl)); simp only [Act.put, List.setIfInBounds_toArray, List.set_cons_zero, List.set_cons_succ]
      refine wpAnyH_take (i := 4) (oi := ⟨some 75, _, _, _, _, _⟩) (v := ?_) rfl (by kernel_rfl) (by kernel_rfl) (by kernel_rfl) (fun _ _ _ h => h) (Or.inl ⟨by rfl, ?_⟩) (by assumption) ?_; rotate_left; (intro w hSw; (try dsimp only at hSw); go_simp; (try with_reducible rfl)); simp only [Act.put, List.setIfInBounds_toArray, List.set_cons_zero, List.set_cons_succ]
      refine wpAnyH_take (i := 5) (oi := ⟨some 76, _, _, _, _, _⟩) (v := ?_) rfl (by kernel_rfl) (by kernel_rfl) (by kernel_rfl) (fun _ _ _ h => h) (Or.inl ⟨by rfl, ?_⟩) (by assumption) ?_; rotate_left; (intro w hSw; (try dsimp only at hSw); go_simp; (try with_reducible rfl)); simp only [Act.put, List.setIfInBounds_toArray, List.set_cons_zero, List.set_cons_succ]
      refine wpAnyH_take (i := 6) (oi := ⟨some 77, _, _, _, _, _⟩) (v := ?_) rfl (by kernel_rfl) (by kernel_rfl) (by kernel_rfl) (fun _ _ _ h => h) (Or.inl ⟨by rfl, ?_⟩) (by assumption) ?_; rotate_left; (intro w hSw; (try dsimp only at hSw); go_simp; (try with_reducible rfl)); simp only [Act.put, List.setIfInBounds_toArray, List.set_cons_zero, List.set_cons_succ]
      refine wpAnyH_ready (rs := [2, 11]) (by kernel_rfl) (by simp) ?_
      refine AllReadyH.cons (o := ⟨some 73, _, _, _, _, _⟩) rfl (fun K hK => ?_) (AllReadyH.cons (o := ⟨some 13, _, _, _, _, _⟩) rfl (fun K hK => ?_) (AllReadyH.nil))
      · refine step_build2 rfl (.tmp 71) (.tmp 72) rfl #[.int .u8 2, .slice none 0 0, .int .i64 0, .int .u8 2, .bool false, .int .i64 0, .string ⟨#[]⟩] #[.int .u8 e.op, .slice a e.kids.length cc, .int .i64 e.col, .int .u8 e.lit.kind, .bool e.lit.bool, .int .i64 e.lit.int, .string e.lit.text] (by simp [Act.eval]) (by simp [Act.eval]) rfl rfl ?_
        intro b1 V1 hV hb
        have CB1 := Lib.hid (show Below w5.heap.size w5 V1 by rw [hV]; exact CB0.out.alloc CB0.out.size _)
        have KB1 := Lib.hid (show V1.heap[b1]? = some (.cells (#[.int .u8 2, .slice none 0 0, .int .i64 0, .int .u8 2, .bool false, .int .i64 0, .string ⟨#[]⟩] ++ #[.int .u8 e.op, .slice a e.kids.length cc, .int .i64 e.col, .int .u8 e.lit.kind, .bool e.lit.bool, .int .i64 e.lit.int, .string e.lit.text]) 27 (0, 0)) by rw [hV, hb]; exact heap_alloc_new _ _)
        clear hV hb
        refine hK.out _ _ (HS16.out _ CB1.out) (fun hHeld => ?_)
        clear hK K
        simp only [Act.put, List.setIfInBounds_toArray, List.set_cons_zero, List.set_cons_succ]
        refine wpAnyH_ready (rs := [3, 11]) (by kernel_rfl) (by simp) ?_
        refine AllReadyH.cons (o := ⟨some 74, _, _, _, _, _⟩) rfl (fun K hK => ?_) (AllReadyH.cons (o := ⟨some 13, _, _, _, _, _⟩) rfl (fun K hK => ?_) (AllReadyH.nil))
        · go_simp
          go_at_call 24
          refine (op_24 _ _ _ _ _).mono ?_
          rintro ev V2 ⟨rfl, hbx⟩
          have CB2 := Lib.hid (stepB CB1.out hbx)
          have KB2 := Lib.hid (keepB KB1.out hbx)
          clear hbx
          go_wp2_with fail
          refine hK.out _ _ (HS16.out _ CB2.out) (fun hHeld => ?_)
          clear hK K
          skip
          refine wpAnyH_ready (rs := [7, 11]) (by kernel_rfl) (by simp) ?_
          refine AllReadyH.cons (o := ⟨some 78, _, _, _, _, _⟩) rfl (fun K hK => ?_) (AllReadyH.cons (o := ⟨some 13, _, _, _, _, _⟩) rfl (fun K hK => ?_) (AllReadyH.nil))
          · go_simp
            go_at_call 12
            with_reducible refine (HE16.out _ _ CB2.out KB2.out).mono ?_
            rintro ev V3 ⟨rfl, hbx⟩
            unfold resT Dat.agg
            have CB3 := Lib.hid (stepB CB2.out hbx)
            have KB3 := Lib.hid (keepB KB2.out hbx)
            clear hbx
            go_wp2_with fail
            refine hK.out _ _ (HS16.out _ CB3.out) (fun hHeld => ?_)
            clear hK K
            skip
            refine wpAnyH_take (i := 8) (oi := ⟨some 70, _, _, _, _, _⟩) (v := ?_) rfl (by kernel_rfl) (by kernel_rfl) (by kernel_rfl) (fun _ _ _ h => h) (Or.inl ⟨by rfl, ?_⟩) (by assumption) ?_; rotate_left; (intro w hSw; (try dsimp only at hSw); go_simp; (try with_reducible rfl)); simp only [Act.put, List.setIfInBounds_toArray, List.set_cons_zero, List.set_cons_succ]
            refine wpAnyH_take (i := 9) (oi := ⟨some 79, _, _, _, _, _⟩) (v := ?_) rfl (by kernel_rfl) (by kernel_rfl) (by kernel_rfl) (fun _ _ _ h => h) (Or.inl ⟨by rfl, ?_⟩) (by assumption) ?_; rotate_left; (intro w hSw; (try dsimp only at hSw); go_simp; (try with_reducible rfl)); simp only [Act.put, List.setIfInBounds_toArray, List.set_cons_zero, List.set_cons_succ]
            refine wpAnyH_take (i := 10) (oi := ⟨some 80, _, _, _, _, _⟩) (v := ?_) rfl (by kernel_rfl) (by kernel_rfl) (by kernel_rfl) (fun _ _ _ h => h) (Or.inl ⟨by rfl, ?_⟩) (by assumption) ?_; rotate_left; (intro w hSw; (try dsimp only at hSw); go_simp; (try with_reducible rfl)); simp only [Act.put, List.setIfInBounds_toArray, List.set_cons_zero, List.set_cons_succ]
            refine wpAnyH_ready (rs := [11]) (by kernel_rfl) (by simp) ?_
            refine AllReadyH.cons (o := ⟨some 13, _, _, _, _, _⟩) rfl (fun K hK => ?_) (AllReadyH.nil)
            refine step_alloc25 rfl rfl ?_
            intro b4 V4 hV hb
            have CB4 := Lib.hid (show Below w5.heap.size w5 V4 by rw [hV]; exact CB3.out.alloc CB3.out.size _)
            have KA4 := Lib.hid (show V4.heap[b4]? = some (.cells #[.int .u8 0, .bool false, .int .i64 0, .string ⟨#[]⟩] 25 (0, 0)) by rw [hV, hb]; exact heap_alloc_new _ _)
            have HB4 : w5.heap.size ≤ b4 := by rw [hb]; exact CB3.out.size
            have LB4 := Lib.hid HB4
            have KB4 := Lib.hid (show V4.heap[b1]? = some (.cells (#[.int .u8 2, .slice none 0 0, .int .i64 0, .int .u8 2, .bool false, .int .i64 0, .string ⟨#[]⟩] ++ #[.int .u8 e.op, .slice a e.kids.length cc, .int .i64 e.col, .int .u8 e.lit.kind, .bool e.lit.bool, .int .i64 e.lit.int, .string e.lit.text]) 27 (0, 0)) by rw [hV]; exact keepAt' KB3.out _)
            clear hV hb HB4
            refine hK.out _ _ (HS16.out _ CB4.out) (fun hHeld => ?_)
            clear hK K
            simp only [Act.put, List.setIfInBounds_toArray, List.set_cons_zero, List.set_cons_succ]
            refine wpAnyH_ready (rs := [12]) (by kernel_rfl) (by simp) ?_
            refine AllReadyH.cons (o := ⟨none, _, _, _, _, _⟩) rfl (fun K hK => ?_) (AllReadyH.nil)
            refine step_store25 rfl (.tmp 13) (.tmp 79) rfl (by simp [Act.eval]) (d := X1.1) (by simp [Act.eval, Dat.agg]) KA4.out ?_
            intro V5 hV
            have CB5 := Lib.hid (show Below w5.heap.size w5 V5 by rw [hV]; exact setRow4_below CB4.out LB4.out)
            have KA5 := Lib.hid (show V5.heap[b4]? = some (.cells #[.int .u8 X1.1.kind, .bool X1.1.bool, .int .i64 X1.1.int, .string X1.1.text] 25 (0, 0)) by rw [hV]; exact setRow4_at KA4.out)
            clear hV
            refine hK.out _ _ (HS16.out _ CB5.out) (fun hHeld => ?_)
            clear hK K
            skip
            refine wpAnyH_take (i := 13) (oi := ⟨some 14, _, _, _, _, _⟩) (v := ?_) rfl (by kernel_rfl) (by kernel_rfl) (by kernel_rfl) (fun _ _ _ h => h) (Or.inl ⟨by rfl, ?_⟩) (by assumption) ?_; rotate_left; (intro w hSw; (try dsimp only at hSw); go_simp; (try with_reducible rfl)); simp only [Act.put, List.setIfInBounds_toArray, List.set_cons_zero, List.set_cons_succ]
            refine wpAnyH_done (by kernel_rfl) ?_ _
            have CE := CB5
            have KE := KA5
            go_wp2
            go_meet
            exact ⟨_, rfl, rfl, KE.out, CE.out⟩
          · refine step_alloc25 rfl rfl ?_
            intro b6 V6 hV hb
            have CB6 := Lib.hid (show Below w5.heap.size w5 V6 by rw [hV]; exact CB2.out.alloc CB2.out.size _)
            have KA6 := Lib.hid (show V6.heap[b6]? = some (.cells #[.int .u8 0, .bool false, .int .i64 0, .string ⟨#[]⟩] 25 (0, 0)) by rw [hV, hb]; exact heap_alloc_new _ _)
            have HB6 : w5.heap.size ≤ b6 := by rw [hb]; exact CB2.out.size
            have LB6 := Lib.hid HB6
            have KB6 := Lib.hid (show V6.heap[b1]? = some (.cells (#[.int .u8 2, .slice none 0 0, .int .i64 0, .int .u8 2, .bool false, .int .i64 0, .string ⟨#[]⟩] ++ #[.int .u8 e.op, .slice a e.kids.length cc, .int .i64 e.col, .int .u8 e.lit.kind, .bool e.lit.bool, .int .i64 e.lit.int, .string e.lit.text]) 27 (0, 0)) by rw [hV]; exact keepAt' KB2.out _)
            clear hV hb HB6
            refine hK.out _ _ (HS16.out _ CB6.out) (fun hHeld => ?_)
            clear hK K
            simp only [Act.put, List.setIfInBounds_toArray, List.set_cons_zero, List.set_cons_succ]
            refine wpAnyH_ready (rs := [7]) (by kernel_rfl) (by simp) ?_
            refine AllReadyH.cons (o := ⟨some 78, _, _, _, _, _⟩) rfl (fun K hK => ?_) (AllReadyH.nil)
            go_simp
            go_at_call 12
            with_reducible refine (HE16.out _ _ CB6.out KB6.out).mono ?_
            rintro ev V7 ⟨rfl, hbx⟩
            unfold resT Dat.agg
            have CB7 := Lib.hid (stepB CB6.out hbx)
            have KA7 := Lib.hid (keepB KA6.out hbx)
            have KB7 := Lib.hid (keepB KB6.out hbx)
            clear hbx
            go_wp2_with fail
            refine hK.out _ _ (HS16.out _ CB7.out) (fun hHeld => ?_)
            clear hK K
            skip
            refine wpAnyH_take (i := 8) (oi := ⟨some 70, _, _, _, _, _⟩) (v := ?_) rfl (by kernel_rfl) (by kernel_rfl) (by kernel_rfl) (fun _ _ _ h => h) (Or.inl ⟨by rfl, ?_⟩) (by assumption) ?_; rotate_left; (intro w hSw; (try dsimp only at hSw); go_simp; (try with_reducible rfl)); simp only [Act.put, List.setIfInBounds_toArray, List.set_cons_zero, List.set_cons_succ]
            refine wpAnyH_take (i := 9) (oi := ⟨some 79, _, _, _, _, _⟩) (v := ?_) rfl (by kernel_rfl) (by kernel_rfl) (by kernel_rfl) (fun _ _ _ h => h) (Or.inl ⟨by rfl, ?_⟩) (by assumption) ?_; rotate_left; (intro w hSw; (try dsimp only at hSw); go_simp; (try with_reducible rfl)); simp only [Act.put, List.setIfInBounds_toArray, List.set_cons_zero, List.set_cons_succ]
            refine wpAnyH_take (i := 10) (oi := ⟨some 80, _, _, _, _, _⟩) (v := ?_) rfl (by kernel_rfl) (by kernel_rfl) (by kernel_rfl) (fun _ _ _ h => h) (Or.inl ⟨by rfl, ?_⟩) (by assumption) ?_; rotate_left; (intro w hSw; (try dsimp only at hSw); go_simp; (try with_reducible rfl)); simp only [Act.put, List.setIfInBounds_toArray, List.set_cons_zero, List.set_cons_succ]
            refine wpAnyH_ready (rs := [12]) (by kernel_rfl) (by simp) ?_
            refine AllReadyH.cons (o := ⟨none, _, _, _, _, _⟩) rfl (fun K hK => ?_) (AllReadyH.nil)
            refine step_store25 rfl (.tmp 13) (.tmp 79) rfl (by simp [Act.eval]) (d := X1.1) (by simp [Act.eval, Dat.agg]) KA7.out ?_
            intro V8 hV
            have CB8 := Lib.hid (show Below w5.heap.size w5 V8 by rw [hV]; exact setRow4_below CB7.out LB6.out)
            have KA8 := Lib.hid (show V8.heap[b6]? = some (.cells #[.int .u8 X1.1.kind, .bool X1.1.bool, .int .i64 X1.1.int, .string X1.1.text] 25 (0, 0)) by rw [hV]; exact setRow4_at KA7.out)
            clear hV
            refine hK.out _ _ (HS16.out _ CB8.out) (fun hHeld => ?_)
            clear hK K
            skip
            refine wpAnyH_take (i := 13) (oi := ⟨some 14, _, _, _, _, _⟩) (v := ?_) rfl (by kernel_rfl) (by kernel_rfl) (by kernel_rfl) (fun _ _ _ h => h) (Or.inl ⟨by rfl, ?_⟩) (by assumption) ?_; rotate_left; (intro w hSw; (try dsimp only at hSw); go_simp; (try with_reducible rfl)); simp only [Act.put, List.setIfInBounds_toArray, List.set_cons_zero, List.set_cons_succ]
            refine wpAnyH_done (by kernel_rfl) ?_ _
            have CE := CB8
            have KE := KA8
            go_wp2
            go_meet
            exact ⟨_, rfl, rfl, KE.out, CE.out⟩
        · refine step_alloc25 rfl rfl ?_
          intro b9 V9 hV hb
          have CB9 := Lib.hid (show Below w5.heap.size w5 V9 by rw [hV]; exact CB1.out.alloc CB1.out.size _)
          have KA9 := Lib.hid (show V9.heap[b9]? = some (.cells #[.int .u8 0, .bool false, .int .i64 0, .string ⟨#[]⟩] 25 (0, 0)) by rw [hV, hb]; exact heap_alloc_new _ _)
          have HB9 : w5.heap.size ≤ b9 := by rw [hb]; exact CB1.out.size
          have LB9 := Lib.hid HB9
          have KB9 := Lib.hid (show V9.heap[b1]? = some (.cells (#[.int .u8 2, .slice none 0 0, .int .i64 0, .int .u8 2, .bool false, .int .i64 0, .string ⟨#[]⟩] ++ #[.int .u8 e.op, .slice a e.kids.length cc, .int .i64 e.col, .int .u8 e.lit.kind, .bool e.lit.bool, .int .i64 e.lit.int, .string e.lit.text]) 27 (0, 0)) by rw [hV]; exact keepAt' KB1.out _)
          clear hV hb HB9
          refine hK.out _ _ (HS16.out _ CB9.out) (fun hHeld => ?_)
          clear hK K
          simp only [Act.put, List.setIfInBounds_toArray, List.set_cons_zero, List.set_cons_succ]
          refine wpAnyH_ready (rs := [3]) (by kernel_rfl) (by simp) ?_
          refine AllReadyH.cons (o := ⟨some 74, _, _, _, _, _⟩) rfl (fun K hK => ?_) (AllReadyH.nil)
          go_simp
          go_at_call 24
          refine (op_24 _ _ _ _ _).mono ?_
          rintro ev V10 ⟨rfl, hbx⟩
          have CB10 := Lib.hid (stepB CB9.out hbx)
          have KA10 := Lib.hid (keepB KA9.out hbx)
          have KB10 := Lib.hid (keepB KB9.out hbx)
          clear hbx
          go_wp2_with fail
          refine hK.out _ _ (HS16.out _ CB10.out) (fun hHeld => ?_)
          clear hK K
          skip
          refine wpAnyH_ready (rs := [7]) (by kernel_rfl) (by simp) ?_
          refine AllReadyH.cons (o := ⟨some 78, _, _, _, _, _⟩) rfl (fun K hK => ?_) (AllReadyH.nil)
          go_simp
          go_at_call 12
          with_reducible refine (HE16.out _ _ CB10.out KB10.out).mono ?_
          rintro ev V11 ⟨rfl, hbx⟩
          unfold resT Dat.agg
          have CB11 := Lib.hid (stepB CB10.out hbx)
          have KA11 := Lib.hid (keepB KA10.out hbx)
          have KB11 := Lib.hid (keepB KB10.out hbx)
          clear hbx
          go_wp2_with fail
          refine hK.out _ _ (HS16.out _ CB11.out) (fun hHeld => ?_)
          clear hK K
          skip
          refine wpAnyH_take (i := 8) (oi := ⟨some 70, _, _, _, _, _⟩) (v := ?_) rfl (by kernel_rfl) (by kernel_rfl) (by kernel_rfl) (fun _ _ _ h => h) (Or.inl ⟨by rfl, ?_⟩) (by assumption) ?_; rotate_left; (intro w hSw; (try dsimp only at hSw); go_simp; (try with_reducible rfl)); simp only [Act.put, List.setIfInBounds_toArray, List.set_cons_zero, List.set_cons_succ]
          refine wpAnyH_take (i := 9) (oi := ⟨some 79, _, _, _, _, _⟩) (v := ?_) rfl (by kernel_rfl) (by kernel_rfl) (by kernel_rfl) (fun _ _ _ h => h) (Or.inl ⟨by rfl, ?_⟩) (by assumption) ?_; rotate_left; (intro w hSw; (try dsimp only at hSw); go_simp; (try with_reducible rfl)); simp only [Act.put, List.setIfInBounds_toArray, List.set_cons_zero, List.set_cons_succ]
          refine wpAnyH_take (i := 10) (oi := ⟨some 80, _, _, _, _, _⟩) (v := ?_) rfl (by kernel_rfl) (by kernel_rfl) (by kernel_rfl) (fun _ _ _ h => h) (Or.inl ⟨by rfl, ?_⟩) (by assumption) ?_; rotate_left; (intro w hSw; (try dsimp only at hSw); go_simp; (try with_reducible rfl)); simp only [Act.put, List.setIfInBounds_toArray, List.set_cons_zero, List.set_cons_succ]
          refine wpAnyH_ready (rs := [12]) (by kernel_rfl) (by simp) ?_
          refine AllReadyH.cons (o := ⟨none, _, _, _, _, _⟩) rfl (fun K hK => ?_) (AllReadyH.nil)
          refine step_store25 rfl (.tmp 13) (.tmp 79) rfl (by simp [Act.eval]) (d := X1.1) (by simp [Act.eval, Dat.agg]) KA11.out ?_
          intro V12 hV
          have CB12 := Lib.hid (show Below w5.heap.size w5 V12 by rw [hV]; exact setRow4_below CB11.out LB9.out)
          have KA12 := Lib.hid (show V12.heap[b9]? = some (.cells #[.int .u8 X1.1.kind, .bool X1.1.bool, .int .i64 X1.1.int, .string X1.1.text] 25 (0, 0)) by rw [hV]; exact setRow4_at KA11.out)
          clear hV
          refine hK.out _ _ (HS16.out _ CB12.out) (fun hHeld => ?_)
          clear hK K
          skip
          refine wpAnyH_take (i := 13) (oi := ⟨some 14, _, _, _, _, _⟩) (v := ?_) rfl (by kernel_rfl) (by kernel_rfl) (by kernel_rfl) (fun _ _ _ h => h) (Or.inl ⟨by rfl, ?_⟩) (by assumption) ?_; rotate_left; (intro w hSw; (try dsimp only at hSw); go_simp; (try with_reducible rfl)); simp only [Act.put, List.setIfInBounds_toArray, List.set_cons_zero, List.set_cons_succ]
          refine wpAnyH_done (by kernel_rfl) ?_ _
          have CE := CB12
          have KE := KA12
          go_wp2
          go_meet
          exact ⟨_, rfl, rfl, KE.out, CE.out⟩
      · refine step_alloc25 rfl rfl ?_
        intro b13 V13 hV hb
        have CB13 := Lib.hid (show Below w5.heap.size w5 V13 by rw [hV]; exact CB0.out.alloc CB0.out.size _)
        have KA13 := Lib.hid (show V13.heap[b13]? = some (.cells #[.int .u8 0, .bool false, .int .i64 0, .string ⟨#[]⟩] 25 (0, 0)) by rw [hV, hb]; exact heap_alloc_new _ _)
        have HB13 : w5.heap.size ≤ b13 := by rw [hb]; exact CB0.out.size
        have LB13 := Lib.hid HB13
        clear hV hb HB13
        refine hK.out _ _ (HS16.out _ CB13.out) (fun hHeld => ?_)
        clear hK K
        simp only [Act.put, List.setIfInBounds_toArray, List.set_cons_zero, List.set_cons_succ]
        refine wpAnyH_ready (rs := [2]) (by kernel_rfl) (by simp) ?_
        refine AllReadyH.cons (o := ⟨some 73, _, _, _, _, _⟩) rfl (fun K hK => ?_) (AllReadyH.nil)
        refine step_build2 rfl (.tmp 71) (.tmp 72) rfl #[.int .u8 2, .slice none 0 0, .int .i64 0, .int .u8 2, .bool false, .int .i64 0, .string ⟨#[]⟩] #[.int .u8 e.op, .slice a e.kids.length cc, .int .i64 e.col, .int .u8 e.lit.kind, .bool e.lit.bool, .int .i64 e.lit.int, .string e.lit.text] (by simp [Act.eval]) (by simp [Act.eval]) rfl rfl ?_
        intro b14 V14 hV hb
        have CB14 := Lib.hid (show Below w5.heap.size w5 V14 by rw [hV]; exact CB13.out.alloc CB13.out.size _)
        have KB14 := Lib.hid (show V14.heap[b14]? = some (.cells (#[.int .u8 2, .slice none 0 0, .int .i64 0, .int .u8 2, .bool false, .int .i64 0, .string ⟨#[]⟩] ++ #[.int .u8 e.op, .slice a e.kids.length cc, .int .i64 e.col, .int .u8 e.lit.kind, .bool e.lit.bool, .int .i64 e.lit.int, .string e.lit.text]) 27 (0, 0)) by rw [hV, hb]; exact heap_alloc_new _ _)
        have KA14 := Lib.hid (show V14.heap[b13]? = some (.cells #[.int .u8 0, .bool false, .int .i64 0, .string ⟨#[]⟩] 25 (0, 0)) by rw [hV]; exact keepAt' KA13.out _)
        clear hV hb
        refine hK.out _ _ (HS16.out _ CB14.out) (fun hHeld => ?_)
        clear hK K
        simp only [Act.put, List.setIfInBounds_toArray, List.set_cons_zero, List.set_cons_succ]
        refine wpAnyH_ready (rs := [3]) (by kernel_rfl) (by simp) ?_
        refine AllReadyH.cons (o := ⟨some 74, _, _, _, _, _⟩) rfl (fun K hK => ?_) (AllReadyH.nil)
        go_simp
        go_at_call 24
        refine (op_24 _ _ _ _ _).mono ?_
        rintro ev V15 ⟨rfl, hbx⟩
        have CB15 := Lib.hid (stepB CB14.out hbx)
        have KA15 := Lib.hid (keepB KA14.out hbx)
        have KB15 := Lib.hid (keepB KB14.out hbx)
        clear hbx
        go_wp2_with fail
        refine hK.out _ _ (HS16.out _ CB15.out) (fun hHeld => ?_)
        clear hK K
        skip
        refine wpAnyH_ready (rs := [7]) (by kernel_rfl) (by simp) ?_
        refine AllReadyH.cons (o := ⟨some 78, _, _, _, _, _⟩) rfl (fun K hK => ?_) (AllReadyH.nil)
        go_simp
        go_at_call 12
        with_reducible refine (HE16.out _ _ CB15.out KB15.out).mono ?_
        rintro ev V16 ⟨rfl, hbx⟩
        unfold resT Dat.agg
        have CB16 := Lib.hid (stepB CB15.out hbx)
        have KA16 := Lib.hid (keepB KA15.out hbx)
        have KB16 := Lib.hid (keepB KB15.out hbx)
        clear hbx
        go_wp2_with fail
        refine hK.out _ _ (HS16.out _ CB16.out) (fun hHeld => ?_)
        clear hK K
        skip
        refine wpAnyH_take (i := 8) (oi := ⟨some 70, _, _, _, _, _⟩) (v := ?_) rfl (by kernel_rfl) (by kernel_rfl) (by kernel_rfl) (fun _ _ _ h => h) (Or.inl ⟨by rfl, ?_⟩) (by assumption) ?_; rotate_left; (intro w hSw; (try dsimp only at hSw); go_simp; (try with_reducible rfl)); simp only [Act.put, List.setIfInBounds_toArray, List.set_cons_zero, List.set_cons_succ]
        refine wpAnyH_take (i := 9) (oi := ⟨some 79, _, _, _, _, _⟩) (v := ?_) rfl (by kernel_rfl) (by kernel_rfl) (by kernel_rfl) (fun _ _ _ h => h) (Or.inl ⟨by rfl, ?_⟩) (by assumption) ?_; rotate_left; (intro w hSw; (try dsimp only at hSw); go_simp; (try with_reducible rfl)); simp only [Act.put, List.setIfInBounds_toArray, List.set_cons_zero, List.set_cons_succ]
        refine wpAnyH_take (i := 10) (oi := ⟨some 80, _, _, _, _, _⟩) (v := ?_) rfl (by kernel_rfl) (by kernel_rfl) (by kernel_rfl) (fun _ _ _ h => h) (Or.inl ⟨by rfl, ?_⟩) (by assumption) ?_; rotate_left; (intro w hSw; (try dsimp only at hSw); go_simp; (try with_reducible rfl)); simp only [Act.put, List.setIfInBounds_toArray, List.set_cons_zero, List.set_cons_succ]
        refine wpAnyH_ready (rs := [12]) (by kernel_rfl) (by simp) ?_
        refine AllReadyH.cons (o := ⟨none, _, _, _, _, _⟩) rfl (fun K hK => ?_) (AllReadyH.nil)
        refine step_store25 rfl (.tmp 13) (.tmp 79) rfl (by simp [Act.eval]) (d := X1.1) (by simp [Act.eval, Dat.agg]) KA16.out ?_
        intro V17 hV
        have CB17 := Lib.hid (show Below w5.heap.size w5 V17 by rw [hV]; exact setRow4_below CB16.out LB13.out)
        have KA17 := Lib.hid (show V17.heap[b13]? = some (.cells #[.int .u8 X1.1.kind, .bool X1.1.bool, .int .i64 X1.1.int, .string X1.1.text] 25 (0, 0)) by rw [hV]; exact setRow4_at KA16.out)
        clear hV
        refine hK.out _ _ (HS16.out _ CB17.out) (fun hHeld => ?_)
        clear hK K
        skip
        refine wpAnyH_take (i := 13) (oi := ⟨some 14, _, _, _, _, _⟩) (v := ?_) rfl (by kernel_rfl) (by kernel_rfl) (by kernel_rfl) (fun _ _ _ h => h) (Or.inl ⟨by rfl, ?_⟩) (by assumption) ?_; rotate_left; (intro w hSw; (try dsimp only at hSw); go_simp; (try with_reducible rfl)); simp only [Act.put, List.setIfInBounds_toArray, List.set_cons_zero, List.set_cons_succ]
        refine wpAnyH_done (by kernel_rfl) ?_ _
        have CE := CB17
        have KE := KA17
        go_wp2
        go_meet
        exact ⟨_, rfl, rfl, KE.out, CE.out⟩
    obtain ⟨B13, rfl, rfl, k13, hbc⟩ := hcut
    generalize wc = w6 at *
    have R0 := Lib.hid k13
    have Ke := Lib.hid (keepB Ke.out hbc)
    have Kyes := Lib.hid (keepB Kyes.out hbc)
    have Kno := Lib.hid (keepB Kno.out hbc)
    have Kfive := Lib.hid (keepB Kfive.out hbc)
    have hg := cell_keep hbc KG.out
    have KG := Lib.hid hg
    have HB6 := Lib.hid (stepB HB5.out hbc)
    clear hbc hg k13 HS16 HE16
    obtain ⟨X2, eX2⟩ : ∃ X, X = evalR r (opE 19 [litE (boo true), e]) := ⟨_, rfl⟩
    have EX2 := Lib.hid eX2
    clear eX2
    have he : ∀ W b, Below w6.heap.size w6 W → W.heap[b]? = some (.cells (#[.int .u8 2, .slice none 0 0, .int .i64 0, .int .u8 2, .bool true, .int .i64 0, .string ⟨#[]⟩] ++ #[.int .u8 e.op, .slice a e.kids.length cc, .int .i64 e.col, .int .u8 e.lit.kind, .bool e.lit.bool, .int .i64 e.lit.int, .string e.lit.text]) 27 (0, 0)) → Calls Tryz.prog 12 #[.agg #[.int .u8 19, .slice (some ⟨b, 0, none⟩) 2 2, .int .i64 0, .int .u8 0, .bool false, .int .i64 0, .string ⟨#[]⟩], .slice ra N rc] W (ResPost X2 W) := fun W b hb hk => by
      rw [EX2.out, EN.out]
      exact eval12_all r (opE 19 [litE (boo true), e]) (some ⟨b, 0, none⟩) 2 ra rc W (fits_op (by decide) (by simp) (fun k hk => by simp at hk; rcases hk with rfl | rfl <;> first | exact HFIT.out | exact fits_lit HFN.out | exact fits_lit (fits_boo _))) HRF.out (at_two hk lit_at (HAT.out.below (stepB HB6.out hb))) (HR.out.below (stepB HB6.out hb)) (tabs_below HT.out (stepB HB6.out hb) h3) (cell_keep (stepB HB6.out hb) HE.out) (Nat.le_trans h3 (stepB HB6.out hb).size)
    have HE17 := Lib.hid he
    clear he
    go_upto_region 17 with fail
    have hS : ∀ W, Below w6.heap.size w6 W → W.cell? ⟨BY, 0, none⟩ = some (.int .u8 2) ∧ W.cell? ⟨BY, 1, none⟩ = some (.slice none 0 0) ∧ W.cell? ⟨BY, 2, none⟩ = some (.int .i64 0) ∧ W.cell? ⟨BY, 3, none⟩ = some (.int .u8 2) ∧ W.cell? ⟨BY, 4, none⟩ = some (.bool true) ∧ W.cell? ⟨BY, 5, none⟩ = some (.int .i64 0) ∧ W.cell? ⟨BY, 6, none⟩ = some (.string ⟨#[]⟩) ∧ W.cell? ⟨H, 0, none⟩ = some (.int .u8 e.op) ∧ W.cell? ⟨H, 1, none⟩ = some (.slice a e.kids.length cc) ∧ W.cell? ⟨H, 2, none⟩ = some (.int .i64 e.col) ∧ W.cell? ⟨H, 3, none⟩ = some (.int .u8 e.lit.kind) ∧ W.cell? ⟨H, 4, none⟩ = some (.bool e.lit.bool) ∧ W.cell? ⟨H, 5, none⟩ = some (.int .i64 e.lit.int) ∧ W.cell? ⟨H, 6, none⟩ = some (.string e.lit.text) ∧ W.cell? ⟨G, 0, none⟩ = some (.slice ra N rc) := fun W hb => ⟨cell_of_heap (keepB Kyes.out hb) rfl, cell_of_heap (keepB Kyes.out hb) rfl, cell_of_heap (keepB Kyes.out hb) rfl, cell_of_heap (keepB Kyes.out hb) rfl, cell_of_heap (keepB Kyes.out hb) rfl, cell_of_heap (keepB Kyes.out hb) rfl, cell_of_heap (keepB Kyes.out hb) rfl, cell_of_heap (keepB Ke.out hb) rfl, cell_of_heap (keepB Ke.out hb) rfl, cell_of_heap (keepB Ke.out hb) rfl, cell_of_heap (keepB Ke.out hb) rfl, cell_of_heap (keepB Ke.out hb) rfl, cell_of_heap (keepB Ke.out hb) rfl, cell_of_heap (keepB Ke.out hb) rfl, cell_keep hb KG.out⟩
    have HS17 := Lib.hid hS
    clear hS
    go_cut [15, 16] from 81 to 91 (fun sb se wx => ∃ B, sb = .pointer (some ⟨B, 0, none⟩) ∧ se = .int .u16 X2.2 ∧ wx.heap[B]? = some (.cells #[.int .u8 X2.1.kind, .bool X2.1.bool, .int .i64 X2.1.int, .string X2.1.text] 25 (0, 0)) ∧ Below w6.heap.size w6 wx)
    case first =>
      have CB0 := Lib.hid (show Below w6.heap.size w6 w6.drew from ⟨rfl, rfl, rfl, Nat.le_refl _, fun _ _ => rfl⟩)
      refine wp_region_held_drew (S := fun W => W.cell? ⟨BY, 0, none⟩ = some (.int .u8 2) ∧ W.cell? ⟨BY, 1, none⟩ = some (.slice none 0 0) ∧ W.cell? ⟨BY, 2, none⟩ = some (.int .i64 0) ∧ W.cell? ⟨BY, 3, none⟩ = some (.int .u8 2) ∧ W.cell? ⟨BY, 4, none⟩ = some (.bool true) ∧ W.cell? ⟨BY, 5, none⟩ = some (.int .i64 0) ∧ W.cell? ⟨BY, 6, none⟩ = some (.string ⟨#[]⟩) ∧ W.cell? ⟨H, 0, none⟩ = some (.int .u8 e.op) ∧ W.cell? ⟨H, 1, none⟩ = some (.slice a e.kids.length cc) ∧ W.cell? ⟨H, 2, none⟩ = some (.int .i64 e.col) ∧ W.cell? ⟨H, 3, none⟩ = some (.int .u8 e.lit.kind) ∧ W.cell? ⟨H, 4, none⟩ = some (.bool e.lit.bool) ∧ W.cell? ⟨H, 5, none⟩ = some (.int .i64 e.lit.int) ∧ W.cell? ⟨H, 6, none⟩ = some (.string e.lit.text) ∧ W.cell? ⟨G, 0, none⟩ = some (.slice ra N rc)) (by kernel_rfl) (HS17.out _ CB0.out) (fun hHeld => ?_)
      refine wpAnyH_take (i := 0) (oi := ⟨some 82, _, _, _, _, _⟩) (v := ?_) rfl (by kernel_rfl) (by kernel_rfl) (by kernel_rfl) (fun _ _ _ h => h) (Or.inl ⟨by rfl, ?_⟩) (by assumption) ?_; rotate_left; (intro w hSw; (try dsimp only at hSw); go_simp; (try with_reducible rfl)); simp only [Act.put, List.setIfInBounds_toArray, List.set_cons_zero, List.set_cons_succ]
      refine wpAnyH_take (i := 1) (oi := ⟨some 83, _, _, _, _, _⟩) (v := ?_) rfl (by kernel_rfl) (by kernel_rfl) (by kernel_rfl) (fun _ _ _ h => h) (Or.inl ⟨by rfl, ?_⟩) (by assumption) ?_; rotate_left; (intro w hSw; (try dsimp only at hSw); go_simp; (try with_reducible rfl)); simp only [Act.put, List.setIfInBounds_toArray, List.set_cons_zero, List.set_cons_succ]
      refine wpAnyH_take (i := 4) (oi := ⟨some 86, _, _, _, _, _⟩) (v := ?_) rfl (by kernel_rfl) (by kernel_rfl) (by kernel_rfl) (fun _ _ _ h => h) (Or.inl ⟨by rfl, ?_⟩) (by assumption) ?_; rotate_left; (intro w hSw; (try dsimp only at hSw); go_simp; (try with_reducible rfl)); simp only [Act.put, List.setIfInBounds_toArray, List.set_cons_zero, List.set_cons_succ]
      refine wpAnyH_take (i := 5) (oi := ⟨some 87, _, _, _, _, _⟩) (v := ?_) rfl (by kernel_rfl) (by kernel_rfl) (by kernel_rfl) (fun _ _ _ h => h) (Or.inl ⟨by rfl, ?_⟩) (by assumption) ?_; rotate_left; (intro w hSw; (try dsimp only at hSw); go_simp; (try with_reducible rfl)); simp only [Act.put, List.setIfInBounds_toArray, List.set_cons_zero, List.set_cons_succ]
      refine wpAnyH_take (i := 6) (oi := ⟨some 88, _, _, _, _, _⟩) (v := ?_) rfl (by kernel_rfl) (by kernel_rfl) (by kernel_rfl) (fun _ _ _ h => h) (Or.inl ⟨by rfl, ?_⟩) (by assumption) ?_; rotate_left; (intro w hSw; (try dsimp only at hSw); go_simp; (try with_reducible rfl)); simp only [Act.put, List.setIfInBounds_toArray, List.set_cons_zero, List.set_cons_succ]
      refine wpAnyH_ready (rs := [2, 11]) (by kernel_rfl) (by simp) ?_
      refine AllReadyH.cons (o := ⟨some 84, _, _, _, _, _⟩) rfl (fun K hK => ?_) (AllReadyH.cons (o := ⟨some 15, _, _, _, _, _⟩) rfl (fun K hK => ?_) (AllReadyH.nil))
      · refine step_build2 rfl (.tmp 82) (.tmp 83) rfl #[.int .u8 2, .slice none 0 0, .int .i64 0, .int .u8 2, .bool true, .int .i64 0, .string ⟨#[]⟩] #[.int .u8 e.op, .slice a e.kids.length cc, .int .i64 e.col, .int .u8 e.lit.kind, .bool e.lit.bool, .int .i64 e.lit.int, .string e.lit.text] (by simp [Act.eval]) (by simp [Act.eval]) rfl rfl ?_
        intro b18 V18 hV hb
        have CB18 := Lib.hid (show Below w6.heap.size w6 V18 by rw [hV]; exact CB0.out.alloc CB0.out.size _)
        have KB18 := Lib.hid (show V18.heap[b18]? = some (.cells (#[.int .u8 2, .slice none 0 0, .int .i64 0, .int .u8 2, .bool true, .int .i64 0, .string ⟨#[]⟩] ++ #[.int .u8 e.op, .slice a e.kids.length cc, .int .i64 e.col, .int .u8 e.lit.kind, .bool e.lit.bool, .int .i64 e.lit.int, .string e.lit.text]) 27 (0, 0)) by rw [hV, hb]; exact heap_alloc_new _ _)
        clear hV hb
        refine hK.out _ _ (HS17.out _ CB18.out) (fun hHeld => ?_)
        clear hK K
        simp only [Act.put, List.setIfInBounds_toArray, List.set_cons_zero, List.set_cons_succ]
        refine wpAnyH_ready (rs := [3, 11]) (by kernel_rfl) (by simp) ?_
        refine AllReadyH.cons (o := ⟨some 85, _, _, _, _, _⟩) rfl (fun K hK => ?_) (AllReadyH.cons (o := ⟨some 15, _, _, _, _, _⟩) rfl (fun K hK => ?_) (AllReadyH.nil))
        · go_simp
          go_at_call 24
          refine (op_24 _ _ _ _ _).mono ?_
          rintro ev V19 ⟨rfl, hbx⟩
          have CB19 := Lib.hid (stepB CB18.out hbx)
          have KB19 := Lib.hid (keepB KB18.out hbx)
          clear hbx
          go_wp2_with fail
          refine hK.out _ _ (HS17.out _ CB19.out) (fun hHeld => ?_)
          clear hK K
          skip
          refine wpAnyH_ready (rs := [7, 11]) (by kernel_rfl) (by simp) ?_
          refine AllReadyH.cons (o := ⟨some 89, _, _, _, _, _⟩) rfl (fun K hK => ?_) (AllReadyH.cons (o := ⟨some 15, _, _, _, _, _⟩) rfl (fun K hK => ?_) (AllReadyH.nil))
          · go_simp
            go_at_call 12
            with_reducible refine (HE17.out _ _ CB19.out KB19.out).mono ?_
            rintro ev V20 ⟨rfl, hbx⟩
            unfold resT Dat.agg
            have CB20 := Lib.hid (stepB CB19.out hbx)
            have KB20 := Lib.hid (keepB KB19.out hbx)
            clear hbx
            go_wp2_with fail
            refine hK.out _ _ (HS17.out _ CB20.out) (fun hHeld => ?_)
            clear hK K
            skip
            refine wpAnyH_take (i := 8) (oi := ⟨some 81, _, _, _, _, _⟩) (v := ?_) rfl (by kernel_rfl) (by kernel_rfl) (by kernel_rfl) (fun _ _ _ h => h) (Or.inl ⟨by rfl, ?_⟩) (by assumption) ?_; rotate_left; (intro w hSw; (try dsimp only at hSw); go_simp; (try with_reducible rfl)); simp only [Act.put, List.setIfInBounds_toArray, List.set_cons_zero, List.set_cons_succ]
            refine wpAnyH_take (i := 9) (oi := ⟨some 90, _, _, _, _, _⟩) (v := ?_) rfl (by kernel_rfl) (by kernel_rfl) (by kernel_rfl) (fun _ _ _ h => h) (Or.inl ⟨by rfl, ?_⟩) (by assumption) ?_; rotate_left; (intro w hSw; (try dsimp only at hSw); go_simp; (try with_reducible rfl)); simp only [Act.put, List.setIfInBounds_toArray, List.set_cons_zero, List.set_cons_succ]
            refine wpAnyH_take (i := 10) (oi := ⟨some 91, _, _, _, _, _⟩) (v := ?_) rfl (by kernel_rfl) (by kernel_rfl) (by kernel_rfl) (fun _ _ _ h => h) (Or.inl ⟨by rfl, ?_⟩) (by assumption) ?_; rotate_left; (intro w hSw; (try dsimp only at hSw); go_simp; (try with_reducible rfl)); simp only [Act.put, List.setIfInBounds_toArray, List.set_cons_zero, List.set_cons_succ]
            refine wpAnyH_ready (rs := [11]) (by kernel_rfl) (by simp) ?_
            refine AllReadyH.cons (o := ⟨some 15, _, _, _, _, _⟩) rfl (fun K hK => ?_) (AllReadyH.nil)
            refine step_alloc25 rfl rfl ?_
            intro b21 V21 hV hb
            have CB21 := Lib.hid (show Below w6.heap.size w6 V21 by rw [hV]; exact CB20.out.alloc CB20.out.size _)
            have KA21 := Lib.hid (show V21.heap[b21]? = some (.cells #[.int .u8 0, .bool false, .int .i64 0, .string ⟨#[]⟩] 25 (0, 0)) by rw [hV, hb]; exact heap_alloc_new _ _)
            have HB21 : w6.heap.size ≤ b21 := by rw [hb]; exact CB20.out.size
            have LB21 := Lib.hid HB21
            have KB21 := Lib.hid (show V21.heap[b18]? = some (.cells (#[.int .u8 2, .slice none 0 0, .int .i64 0, .int .u8 2, .bool true, .int .i64 0, .string ⟨#[]⟩] ++ #[.int .u8 e.op, .slice a e.kids.length cc, .int .i64 e.col, .int .u8 e.lit.kind, .bool e.lit.bool, .int .i64 e.lit.int, .string e.lit.text]) 27 (0, 0)) by rw [hV]; exact keepAt' KB20.out _)
            clear hV hb HB21
            refine hK.out _ _ (HS17.out _ CB21.out) (fun hHeld => ?_)
            clear hK K
            simp only [Act.put, List.setIfInBounds_toArray, List.set_cons_zero, List.set_cons_succ]
            refine wpAnyH_ready (rs := [12]) (by kernel_rfl) (by simp) ?_
            refine AllReadyH.cons (o := ⟨none, _, _, _, _, _⟩) rfl (fun K hK => ?_) (AllReadyH.nil)
            refine step_store25 rfl (.tmp 15) (.tmp 90) rfl (by simp [Act.eval]) (d := X2.1) (by simp [Act.eval, Dat.agg]) KA21.out ?_
            intro V22 hV
            have CB22 := Lib.hid (show Below w6.heap.size w6 V22 by rw [hV]; exact setRow4_below CB21.out LB21.out)
            have KA22 := Lib.hid (show V22.heap[b21]? = some (.cells #[.int .u8 X2.1.kind, .bool X2.1.bool, .int .i64 X2.1.int, .string X2.1.text] 25 (0, 0)) by rw [hV]; exact setRow4_at KA21.out)
            clear hV
            refine hK.out _ _ (HS17.out _ CB22.out) (fun hHeld => ?_)
            clear hK K
            skip
            refine wpAnyH_take (i := 13) (oi := ⟨some 16, _, _, _, _, _⟩) (v := ?_) rfl (by kernel_rfl) (by kernel_rfl) (by kernel_rfl) (fun _ _ _ h => h) (Or.inl ⟨by rfl, ?_⟩) (by assumption) ?_; rotate_left; (intro w hSw; (try dsimp only at hSw); go_simp; (try with_reducible rfl)); simp only [Act.put, List.setIfInBounds_toArray, List.set_cons_zero, List.set_cons_succ]
            refine wpAnyH_done (by kernel_rfl) ?_ _
            have CE := CB22
            have KE := KA22
            go_wp2
            go_meet
            exact ⟨_, rfl, rfl, KE.out, CE.out⟩
          · refine step_alloc25 rfl rfl ?_
            intro b23 V23 hV hb
            have CB23 := Lib.hid (show Below w6.heap.size w6 V23 by rw [hV]; exact CB19.out.alloc CB19.out.size _)
            have KA23 := Lib.hid (show V23.heap[b23]? = some (.cells #[.int .u8 0, .bool false, .int .i64 0, .string ⟨#[]⟩] 25 (0, 0)) by rw [hV, hb]; exact heap_alloc_new _ _)
            have HB23 : w6.heap.size ≤ b23 := by rw [hb]; exact CB19.out.size
            have LB23 := Lib.hid HB23
            have KB23 := Lib.hid (show V23.heap[b18]? = some (.cells (#[.int .u8 2, .slice none 0 0, .int .i64 0, .int .u8 2, .bool true, .int .i64 0, .string ⟨#[]⟩] ++ #[.int .u8 e.op, .slice a e.kids.length cc, .int .i64 e.col, .int .u8 e.lit.kind, .bool e.lit.bool, .int .i64 e.lit.int, .string e.lit.text]) 27 (0, 0)) by rw [hV]; exact keepAt' KB19.out _)
            clear hV hb HB23
            refine hK.out _ _ (HS17.out _ CB23.out) (fun hHeld => ?_)
            clear hK K
            simp only [Act.put, List.setIfInBounds_toArray, List.set_cons_zero, List.set_cons_succ]
            refine wpAnyH_ready (rs := [7]) (by kernel_rfl) (by simp) ?_
            refine AllReadyH.cons (o := ⟨some 89, _, _, _, _, _⟩) rfl (fun K hK => ?_) (AllReadyH.nil)
            go_simp
            go_at_call 12
            with_reducible refine (HE17.out _ _ CB23.out KB23.out).mono ?_
            rintro ev V24 ⟨rfl, hbx⟩
            unfold resT Dat.agg
            have CB24 := Lib.hid (stepB CB23.out hbx)
            have KA24 := Lib.hid (keepB KA23.out hbx)
            have KB24 := Lib.hid (keepB KB23.out hbx)
            clear hbx
            go_wp2_with fail
            refine hK.out _ _ (HS17.out _ CB24.out) (fun hHeld => ?_)
            clear hK K
            skip
            refine wpAnyH_take (i := 8) (oi := ⟨some 81, _, _, _, _, _⟩) (v := ?_) rfl (by kernel_rfl) (by kernel_rfl) (by kernel_rfl) (fun _ _ _ h => h) (Or.inl ⟨by rfl, ?_⟩) (by assumption) ?_; rotate_left; (intro w hSw; (try dsimp only at hSw); go_simp; (try with_reducible rfl)); simp only [Act.put, List.setIfInBounds_toArray, List.set_cons_zero, List.set_cons_succ]
            refine wpAnyH_take (i := 9) (oi := ⟨some 90, _, _, _, _, _⟩) (v := ?_) rfl (by kernel_rfl) (by kernel_rfl) (by kernel_rfl) (fun _ _ _ h => h) (Or.inl ⟨by rfl, ?_⟩) (by assumption) ?_; rotate_left; (intro w hSw; (try dsimp only at hSw); go_simp; (try with_reducible rfl)); simp only [Act.put, List.setIfInBounds_toArray, List.set_cons_zero, List.set_cons_succ]
            refine wpAnyH_take (i := 10) (oi := ⟨some 91, _, _, _, _, _⟩) (v := ?_) rfl (by kernel_rfl) (by kernel_rfl) (by kernel_rfl) (fun _ _ _ h => h) (Or.inl ⟨by rfl, ?_⟩) (by assumption) ?_; rotate_left; (intro w hSw; (try dsimp only at hSw); go_simp; (try with_reducible rfl)); simp only [Act.put, List.setIfInBounds_toArray, List.set_cons_zero, List.set_cons_succ]
            refine wpAnyH_ready (rs := [12]) (by kernel_rfl) (by simp) ?_
            refine AllReadyH.cons (o := ⟨none, _, _, _, _, _⟩) rfl (fun K hK => ?_) (AllReadyH.nil)
            refine step_store25 rfl (.tmp 15) (.tmp 90) rfl (by simp [Act.eval]) (d := X2.1) (by simp [Act.eval, Dat.agg]) KA24.out ?_
            intro V25 hV
            have CB25 := Lib.hid (show Below w6.heap.size w6 V25 by rw [hV]; exact setRow4_below CB24.out LB23.out)
            have KA25 := Lib.hid (show V25.heap[b23]? = some (.cells #[.int .u8 X2.1.kind, .bool X2.1.bool, .int .i64 X2.1.int, .string X2.1.text] 25 (0, 0)) by rw [hV]; exact setRow4_at KA24.out)
            clear hV
            refine hK.out _ _ (HS17.out _ CB25.out) (fun hHeld => ?_)
            clear hK K
            skip
            refine wpAnyH_take (i := 13) (oi := ⟨some 16, _, _, _, _, _⟩) (v := ?_) rfl (by kernel_rfl) (by kernel_rfl) (by kernel_rfl) (fun _ _ _ h => h) (Or.inl ⟨by rfl, ?_⟩) (by assumption) ?_; rotate_left; (intro w hSw; (try dsimp only at hSw); go_simp; (try with_reducible rfl)); simp only [Act.put, List.setIfInBounds_toArray, List.set_cons_zero, List.set_cons_succ]
            refine wpAnyH_done (by kernel_rfl) ?_ _
            have CE := CB25
            have KE := KA25
            go_wp2
            go_meet
            exact ⟨_, rfl, rfl, KE.out, CE.out⟩
        · refine step_alloc25 rfl rfl ?_
          intro b26 V26 hV hb
          have CB26 := Lib.hid (show Below w6.heap.size w6 V26 by rw [hV]; exact CB18.out.alloc CB18.out.size _)
          have KA26 := Lib.hid (show V26.heap[b26]? = some (.cells #[.int .u8 0, .bool false, .int .i64 0, .string ⟨#[]⟩] 25 (0, 0)) by rw [hV, hb]; exact heap_alloc_new _ _)
          have HB26 : w6.heap.size ≤ b26 := by rw [hb]; exact CB18.out.size
          have LB26 := Lib.hid HB26
          have KB26 := Lib.hid (show V26.heap[b18]? = some (.cells (#[.int .u8 2, .slice none 0 0, .int .i64 0, .int .u8 2, .bool true, .int .i64 0, .string ⟨#[]⟩] ++ #[.int .u8 e.op, .slice a e.kids.length cc, .int .i64 e.col, .int .u8 e.lit.kind, .bool e.lit.bool, .int .i64 e.lit.int, .string e.lit.text]) 27 (0, 0)) by rw [hV]; exact keepAt' KB18.out _)
          clear hV hb HB26
          refine hK.out _ _ (HS17.out _ CB26.out) (fun hHeld => ?_)
          clear hK K
          simp only [Act.put, List.setIfInBounds_toArray, List.set_cons_zero, List.set_cons_succ]
          refine wpAnyH_ready (rs := [3]) (by kernel_rfl) (by simp) ?_
          refine AllReadyH.cons (o := ⟨some 85, _, _, _, _, _⟩) rfl (fun K hK => ?_) (AllReadyH.nil)
          go_simp
          go_at_call 24
          refine (op_24 _ _ _ _ _).mono ?_
          rintro ev V27 ⟨rfl, hbx⟩
          have CB27 := Lib.hid (stepB CB26.out hbx)
          have KA27 := Lib.hid (keepB KA26.out hbx)
          have KB27 := Lib.hid (keepB KB26.out hbx)
          clear hbx
          go_wp2_with fail
          refine hK.out _ _ (HS17.out _ CB27.out) (fun hHeld => ?_)
          clear hK K
          skip
          refine wpAnyH_ready (rs := [7]) (by kernel_rfl) (by simp) ?_
          refine AllReadyH.cons (o := ⟨some 89, _, _, _, _, _⟩) rfl (fun K hK => ?_) (AllReadyH.nil)
          go_simp
          go_at_call 12
          with_reducible refine (HE17.out _ _ CB27.out KB27.out).mono ?_
          rintro ev V28 ⟨rfl, hbx⟩
          unfold resT Dat.agg
          have CB28 := Lib.hid (stepB CB27.out hbx)
          have KA28 := Lib.hid (keepB KA27.out hbx)
          have KB28 := Lib.hid (keepB KB27.out hbx)
          clear hbx
          go_wp2_with fail
          refine hK.out _ _ (HS17.out _ CB28.out) (fun hHeld => ?_)
          clear hK K
          skip
          refine wpAnyH_take (i := 8) (oi := ⟨some 81, _, _, _, _, _⟩) (v := ?_) rfl (by kernel_rfl) (by kernel_rfl) (by kernel_rfl) (fun _ _ _ h => h) (Or.inl ⟨by rfl, ?_⟩) (by assumption) ?_; rotate_left; (intro w hSw; (try dsimp only at hSw); go_simp; (try with_reducible rfl)); simp only [Act.put, List.setIfInBounds_toArray, List.set_cons_zero, List.set_cons_succ]
          refine wpAnyH_take (i := 9) (oi := ⟨some 90, _, _, _, _, _⟩) (v := ?_) rfl (by kernel_rfl) (by kernel_rfl) (by kernel_rfl) (fun _ _ _ h => h) (Or.inl ⟨by rfl, ?_⟩) (by assumption) ?_; rotate_left; (intro w hSw; (try dsimp only at hSw); go_simp; (try with_reducible rfl)); simp only [Act.put, List.setIfInBounds_toArray, List.set_cons_zero, List.set_cons_succ]
          refine wpAnyH_take (i := 10) (oi := ⟨some 91, _, _, _, _, _⟩) (v := ?_) rfl (by kernel_rfl) (by kernel_rfl) (by kernel_rfl) (fun _ _ _ h => h) (Or.inl ⟨by rfl, ?_⟩) (by assumption) ?_; rotate_left; (intro w hSw; (try dsimp only at hSw); go_simp; (try with_reducible rfl)); simp only [Act.put, List.setIfInBounds_toArray, List.set_cons_zero, List.set_cons_succ]
          refine wpAnyH_ready (rs := [12]) (by kernel_rfl) (by simp) ?_
          refine AllReadyH.cons (o := ⟨none, _, _, _, _, _⟩) rfl (fun K hK => ?_) (AllReadyH.nil)
          refine step_store25 rfl (.tmp 15) (.tmp 90) rfl (by simp [Act.eval]) (d := X2.1) (by simp [Act.eval, Dat.agg]) KA28.out ?_
          intro V29 hV
          have CB29 := Lib.hid (show Below w6.heap.size w6 V29 by rw [hV]; exact setRow4_below CB28.out LB26.out)
          have KA29 := Lib.hid (show V29.heap[b26]? = some (.cells #[.int .u8 X2.1.kind, .bool X2.1.bool, .int .i64 X2.1.int, .string X2.1.text] 25 (0, 0)) by rw [hV]; exact setRow4_at KA28.out)
          clear hV
          refine hK.out _ _ (HS17.out _ CB29.out) (fun hHeld => ?_)
          clear hK K
          skip
          refine wpAnyH_take (i := 13) (oi := ⟨some 16, _, _, _, _, _⟩) (v := ?_) rfl (by kernel_rfl) (by kernel_rfl) (by kernel_rfl) (fun _ _ _ h => h) (Or.inl ⟨by rfl, ?_⟩) (by assumption) ?_; rotate_left; (intro w hSw; (try dsimp only at hSw); go_simp; (try with_reducible rfl)); simp only [Act.put, List.setIfInBounds_toArray, List.set_cons_zero, List.set_cons_succ]
          refine wpAnyH_done (by kernel_rfl) ?_ _
          have CE := CB29
          have KE := KA29
          go_wp2
          go_meet
          exact ⟨_, rfl, rfl, KE.out, CE.out⟩
      · refine step_alloc25 rfl rfl ?_
        intro b30 V30 hV hb
        have CB30 := Lib.hid (show Below w6.heap.size w6 V30 by rw [hV]; exact CB0.out.alloc CB0.out.size _)
        have KA30 := Lib.hid (show V30.heap[b30]? = some (.cells #[.int .u8 0, .bool false, .int .i64 0, .string ⟨#[]⟩] 25 (0, 0)) by rw [hV, hb]; exact heap_alloc_new _ _)
        have HB30 : w6.heap.size ≤ b30 := by rw [hb]; exact CB0.out.size
        have LB30 := Lib.hid HB30
        clear hV hb HB30
        refine hK.out _ _ (HS17.out _ CB30.out) (fun hHeld => ?_)
        clear hK K
        simp only [Act.put, List.setIfInBounds_toArray, List.set_cons_zero, List.set_cons_succ]
        refine wpAnyH_ready (rs := [2]) (by kernel_rfl) (by simp) ?_
        refine AllReadyH.cons (o := ⟨some 84, _, _, _, _, _⟩) rfl (fun K hK => ?_) (AllReadyH.nil)
        refine step_build2 rfl (.tmp 82) (.tmp 83) rfl #[.int .u8 2, .slice none 0 0, .int .i64 0, .int .u8 2, .bool true, .int .i64 0, .string ⟨#[]⟩] #[.int .u8 e.op, .slice a e.kids.length cc, .int .i64 e.col, .int .u8 e.lit.kind, .bool e.lit.bool, .int .i64 e.lit.int, .string e.lit.text] (by simp [Act.eval]) (by simp [Act.eval]) rfl rfl ?_
        intro b31 V31 hV hb
        have CB31 := Lib.hid (show Below w6.heap.size w6 V31 by rw [hV]; exact CB30.out.alloc CB30.out.size _)
        have KB31 := Lib.hid (show V31.heap[b31]? = some (.cells (#[.int .u8 2, .slice none 0 0, .int .i64 0, .int .u8 2, .bool true, .int .i64 0, .string ⟨#[]⟩] ++ #[.int .u8 e.op, .slice a e.kids.length cc, .int .i64 e.col, .int .u8 e.lit.kind, .bool e.lit.bool, .int .i64 e.lit.int, .string e.lit.text]) 27 (0, 0)) by rw [hV, hb]; exact heap_alloc_new _ _)
        have KA31 := Lib.hid (show V31.heap[b30]? = some (.cells #[.int .u8 0, .bool false, .int .i64 0, .string ⟨#[]⟩] 25 (0, 0)) by rw [hV]; exact keepAt' KA30.out _)
        clear hV hb
        refine hK.out _ _ (HS17.out _ CB31.out) (fun hHeld => ?_)
        clear hK K
        simp only [Act.put, List.setIfInBounds_toArray, List.set_cons_zero, List.set_cons_succ]
        refine wpAnyH_ready (rs := [3]) (by kernel_rfl) (by simp) ?_
        refine AllReadyH.cons (o := ⟨some 85, _, _, _, _, _⟩) rfl (fun K hK => ?_) (AllReadyH.nil)
        go_simp
        go_at_call 24
        refine (op_24 _ _ _ _ _).mono ?_
        rintro ev V32 ⟨rfl, hbx⟩
        have CB32 := Lib.hid (stepB CB31.out hbx)
        have KA32 := Lib.hid (keepB KA31.out hbx)
        have KB32 := Lib.hid (keepB KB31.out hbx)
        clear hbx
        go_wp2_with fail
        refine hK.out _ _ (HS17.out _ CB32.out) (fun hHeld => ?_)
        clear hK K
        skip
        refine wpAnyH_ready (rs := [7]) (by kernel_rfl) (by simp) ?_
        refine AllReadyH.cons (o := ⟨some 89, _, _, _, _, _⟩) rfl (fun K hK => ?_) (AllReadyH.nil)
        go_simp
        go_at_call 12
        with_reducible refine (HE17.out _ _ CB32.out KB32.out).mono ?_
        rintro ev V33 ⟨rfl, hbx⟩
        unfold resT Dat.agg
        have CB33 := Lib.hid (stepB CB32.out hbx)
        have KA33 := Lib.hid (keepB KA32.out hbx)
        have KB33 := Lib.hid (keepB KB32.out hbx)
        clear hbx
        go_wp2_with fail
        refine hK.out _ _ (HS17.out _ CB33.out) (fun hHeld => ?_)
        clear hK K
        skip
        refine wpAnyH_take (i := 8) (oi := ⟨some 81, _, _, _, _, _⟩) (v := ?_) rfl (by kernel_rfl) (by kernel_rfl) (by kernel_rfl) (fun _ _ _ h => h) (Or.inl ⟨by rfl, ?_⟩) (by assumption) ?_; rotate_left; (intro w hSw; (try dsimp only at hSw); go_simp; (try with_reducible rfl)); simp only [Act.put, List.setIfInBounds_toArray, List.set_cons_zero, List.set_cons_succ]
        refine wpAnyH_take (i := 9) (oi := ⟨some 90, _, _, _, _, _⟩) (v := ?_) rfl (by kernel_rfl) (by kernel_rfl) (by kernel_rfl) (fun _ _ _ h => h) (Or.inl ⟨by rfl, ?_⟩) (by assumption) ?_; rotate_left; (intro w hSw; (try dsimp only at hSw); go_simp; (try with_reducible rfl)); simp only [Act.put, List.setIfInBounds_toArray, List.set_cons_zero, List.set_cons_succ]
        refine wpAnyH_take (i := 10) (oi := ⟨some 91, _, _, _, _, _⟩) (v := ?_) rfl (by kernel_rfl) (by kernel_rfl) (by kernel_rfl) (fun _ _ _ h => h) (Or.inl ⟨by rfl, ?_⟩) (by assumption) ?_; rotate_left; (intro w hSw; (try dsimp only at hSw); go_simp; (try with_reducible rfl)); simp only [Act.put, List.setIfInBounds_toArray, List.set_cons_zero, List.set_cons_succ]
        refine wpAnyH_ready (rs := [12]) (by kernel_rfl) (by simp) ?_
        refine AllReadyH.cons (o := ⟨none, _, _, _, _, _⟩) rfl (fun K hK => ?_) (AllReadyH.nil)
        refine step_store25 rfl (.tmp 15) (.tmp 90) rfl (by simp [Act.eval]) (d := X2.1) (by simp [Act.eval, Dat.agg]) KA33.out ?_
        intro V34 hV
        have CB34 := Lib.hid (show Below w6.heap.size w6 V34 by rw [hV]; exact setRow4_below CB33.out LB30.out)
        have KA34 := Lib.hid (show V34.heap[b30]? = some (.cells #[.int .u8 X2.1.kind, .bool X2.1.bool, .int .i64 X2.1.int, .string X2.1.text] 25 (0, 0)) by rw [hV]; exact setRow4_at KA33.out)
        clear hV
        refine hK.out _ _ (HS17.out _ CB34.out) (fun hHeld => ?_)
        clear hK K
        skip
        refine wpAnyH_take (i := 13) (oi := ⟨some 16, _, _, _, _, _⟩) (v := ?_) rfl (by kernel_rfl) (by kernel_rfl) (by kernel_rfl) (fun _ _ _ h => h) (Or.inl ⟨by rfl, ?_⟩) (by assumption) ?_; rotate_left; (intro w hSw; (try dsimp only at hSw); go_simp; (try with_reducible rfl)); simp only [Act.put, List.setIfInBounds_toArray, List.set_cons_zero, List.set_cons_succ]
        refine wpAnyH_done (by kernel_rfl) ?_ _
        have CE := CB34
        have KE := KA34
        go_wp2
        go_meet
        exact ⟨_, rfl, rfl, KE.out, CE.out⟩
    obtain ⟨B15, rfl, rfl, k15, hbc⟩ := hcut
    generalize wc = w7 at *
    have R1 := Lib.hid k15
    have R0 := Lib.hid (keepB R0.out hbc)
    have Ke := Lib.hid (keepB Ke.out hbc)
    have Kyes := Lib.hid (keepB Kyes.out hbc)
    have Kno := Lib.hid (keepB Kno.out hbc)
    have Kfive := Lib.hid (keepB Kfive.out hbc)
    have hg := cell_keep hbc KG.out
    have KG := Lib.hid hg
    have HB7 := Lib.hid (stepB HB6.out hbc)
    clear hbc hg k15 HS17 HE17
    obtain ⟨X3, eX3⟩ : ∃ X, X = evalR r (opE 21 [litE (boo true), litE (num n), e]) := ⟨_, rfl⟩
    have EX3 := Lib.hid eX3
    clear eX3
    have he : ∀ W b, Below w7.heap.size w7 W → W.heap[b]? = some (.cells (#[.int .u8 2, .slice none 0 0, .int .i64 0, .int .u8 2, .bool true, .int .i64 0, .string ⟨#[]⟩] ++ #[.int .u8 2, .slice none 0 0, .int .i64 0, .int .u8 3, .bool false, .int .i64 n, .string ⟨#[]⟩] ++ #[.int .u8 e.op, .slice a e.kids.length cc, .int .i64 e.col, .int .u8 e.lit.kind, .bool e.lit.bool, .int .i64 e.lit.int, .string e.lit.text]) 27 (0, 0)) → Calls Tryz.prog 12 #[.agg #[.int .u8 21, .slice (some ⟨b, 0, none⟩) 3 3, .int .i64 0, .int .u8 0, .bool false, .int .i64 0, .string ⟨#[]⟩], .slice ra N rc] W (ResPost X3 W) := fun W b hb hk => by
      rw [EX3.out, EN.out]
      exact eval12_all r (opE 21 [litE (boo true), litE (num n), e]) (some ⟨b, 0, none⟩) 3 ra rc W (fits_op (by decide) (by simp) (fun k hk => by simp at hk; rcases hk with rfl | rfl | rfl <;> first | exact HFIT.out | exact fits_lit HFN.out | exact fits_lit (fits_boo _))) HRF.out (at_three hk lit_at lit_at (HAT.out.below (stepB HB7.out hb))) (HR.out.below (stepB HB7.out hb)) (tabs_below HT.out (stepB HB7.out hb) h3) (cell_keep (stepB HB7.out hb) HE.out) (Nat.le_trans h3 (stepB HB7.out hb).size)
    have HE18 := Lib.hid he
    clear he
    go_upto_region 18 with fail
    have hS : ∀ W, Below w7.heap.size w7 W → W.cell? ⟨BY, 0, none⟩ = some (.int .u8 2) ∧ W.cell? ⟨BY, 1, none⟩ = some (.slice none 0 0) ∧ W.cell? ⟨BY, 2, none⟩ = some (.int .i64 0) ∧ W.cell? ⟨BY, 3, none⟩ = some (.int .u8 2) ∧ W.cell? ⟨BY, 4, none⟩ = some (.bool true) ∧ W.cell? ⟨BY, 5, none⟩ = some (.int .i64 0) ∧ W.cell? ⟨BY, 6, none⟩ = some (.string ⟨#[]⟩) ∧ W.cell? ⟨BV, 0, none⟩ = some (.int .u8 2) ∧ W.cell? ⟨BV, 1, none⟩ = some (.slice none 0 0) ∧ W.cell? ⟨BV, 2, none⟩ = some (.int .i64 0) ∧ W.cell? ⟨BV, 3, none⟩ = some (.int .u8 3) ∧ W.cell? ⟨BV, 4, none⟩ = some (.bool false) ∧ W.cell? ⟨BV, 5, none⟩ = some (.int .i64 n) ∧ W.cell? ⟨BV, 6, none⟩ = some (.string ⟨#[]⟩) ∧ W.cell? ⟨H, 0, none⟩ = some (.int .u8 e.op) ∧ W.cell? ⟨H, 1, none⟩ = some (.slice a e.kids.length cc) ∧ W.cell? ⟨H, 2, none⟩ = some (.int .i64 e.col) ∧ W.cell? ⟨H, 3, none⟩ = some (.int .u8 e.lit.kind) ∧ W.cell? ⟨H, 4, none⟩ = some (.bool e.lit.bool) ∧ W.cell? ⟨H, 5, none⟩ = some (.int .i64 e.lit.int) ∧ W.cell? ⟨H, 6, none⟩ = some (.string e.lit.text) ∧ W.cell? ⟨G, 0, none⟩ = some (.slice ra N rc) := fun W hb => ⟨cell_of_heap (keepB Kyes.out hb) rfl, cell_of_heap (keepB Kyes.out hb) rfl, cell_of_heap (keepB Kyes.out hb) rfl, cell_of_heap (keepB Kyes.out hb) rfl, cell_of_heap (keepB Kyes.out hb) rfl, cell_of_heap (keepB Kyes.out hb) rfl, cell_of_heap (keepB Kyes.out hb) rfl, cell_of_heap (keepB Kfive.out hb) rfl, cell_of_heap (keepB Kfive.out hb) rfl, cell_of_heap (keepB Kfive.out hb) rfl, cell_of_heap (keepB Kfive.out hb) rfl, cell_of_heap (keepB Kfive.out hb) rfl, cell_of_heap (keepB Kfive.out hb) rfl, cell_of_heap (keepB Kfive.out hb) rfl, cell_of_heap (keepB Ke.out hb) rfl, cell_of_heap (keepB Ke.out hb) rfl, cell_of_heap (keepB Ke.out hb) rfl, cell_of_heap (keepB Ke.out hb) rfl, cell_of_heap (keepB Ke.out hb) rfl, cell_of_heap (keepB Ke.out hb) rfl, cell_of_heap (keepB Ke.out hb) rfl, cell_keep hb KG.out⟩
    have HS18 := Lib.hid hS
    clear hS
    go_cut [17, 18] from 92 to 103 (fun sb se wx => ∃ B, sb = .pointer (some ⟨B, 0, none⟩) ∧ se = .int .u16 X3.2 ∧ wx.heap[B]? = some (.cells #[.int .u8 X3.1.kind, .bool X3.1.bool, .int .i64 X3.1.int, .string X3.1.text] 25 (0, 0)) ∧ Below w7.heap.size w7 wx)
    case first =>
      have CB0 := Lib.hid (show Below w7.heap.size w7 w7.drew from ⟨rfl, rfl, rfl, Nat.le_refl _, fun _ _ => rfl⟩)
      refine wp_region_held_drew (S := fun W => W.cell? ⟨BY, 0, none⟩ = some (.int .u8 2) ∧ W.cell? ⟨BY, 1, none⟩ = some (.slice none 0 0) ∧ W.cell? ⟨BY, 2, none⟩ = some (.int .i64 0) ∧ W.cell? ⟨BY, 3, none⟩ = some (.int .u8 2) ∧ W.cell? ⟨BY, 4, none⟩ = some (.bool true) ∧ W.cell? ⟨BY, 5, none⟩ = some (.int .i64 0) ∧ W.cell? ⟨BY, 6, none⟩ = some (.string ⟨#[]⟩) ∧ W.cell? ⟨BV, 0, none⟩ = some (.int .u8 2) ∧ W.cell? ⟨BV, 1, none⟩ = some (.slice none 0 0) ∧ W.cell? ⟨BV, 2, none⟩ = some (.int .i64 0) ∧ W.cell? ⟨BV, 3, none⟩ = some (.int .u8 3) ∧ W.cell? ⟨BV, 4, none⟩ = some (.bool false) ∧ W.cell? ⟨BV, 5, none⟩ = some (.int .i64 n) ∧ W.cell? ⟨BV, 6, none⟩ = some (.string ⟨#[]⟩) ∧ W.cell? ⟨H, 0, none⟩ = some (.int .u8 e.op) ∧ W.cell? ⟨H, 1, none⟩ = some (.slice a e.kids.length cc) ∧ W.cell? ⟨H, 2, none⟩ = some (.int .i64 e.col) ∧ W.cell? ⟨H, 3, none⟩ = some (.int .u8 e.lit.kind) ∧ W.cell? ⟨H, 4, none⟩ = some (.bool e.lit.bool) ∧ W.cell? ⟨H, 5, none⟩ = some (.int .i64 e.lit.int) ∧ W.cell? ⟨H, 6, none⟩ = some (.string e.lit.text) ∧ W.cell? ⟨G, 0, none⟩ = some (.slice ra N rc)) (by kernel_rfl) (HS18.out _ CB0.out) (fun hHeld => ?_)
      refine wpAnyH_take (i := 0) (oi := ⟨some 93, _, _, _, _, _⟩) (v := ?_) rfl (by kernel_rfl) (by kernel_rfl) (by kernel_rfl) (fun _ _ _ h => h) (Or.inl ⟨by rfl, ?_⟩) (by assumption) ?_; rotate_left; (intro w hSw; (try dsimp only at hSw); go_simp; (try with_reducible rfl)); simp only [Act.put, List.setIfInBounds_toArray, List.set_cons_zero, List.set_cons_succ]
      refine wpAnyH_take (i := 1) (oi := ⟨some 94, _, _, _, _, _⟩) (v := ?_) rfl (by kernel_rfl) (by kernel_rfl) (by kernel_rfl) (fun _ _ _ h => h) (Or.inl ⟨by rfl, ?_⟩) (by assumption) ?_; rotate_left; (intro w hSw; (try dsimp only at hSw); go_simp; (try with_reducible rfl)); simp only [Act.put, List.setIfInBounds_toArray, List.set_cons_zero, List.set_cons_succ]
      refine wpAnyH_take (i := 2) (oi := ⟨some 95, _, _, _, _, _⟩) (v := ?_) rfl (by kernel_rfl) (by kernel_rfl) (by kernel_rfl) (fun _ _ _ h => h) (Or.inl ⟨by rfl, ?_⟩) (by assumption) ?_; rotate_left; (intro w hSw; (try dsimp only at hSw); go_simp; (try with_reducible rfl)); simp only [Act.put, List.setIfInBounds_toArray, List.set_cons_zero, List.set_cons_succ]
      refine wpAnyH_take (i := 5) (oi := ⟨some 98, _, _, _, _, _⟩) (v := ?_) rfl (by kernel_rfl) (by kernel_rfl) (by kernel_rfl) (fun _ _ _ h => h) (Or.inl ⟨by rfl, ?_⟩) (by assumption) ?_; rotate_left; (intro w hSw; (try dsimp only at hSw); go_simp; (try with_reducible rfl)); simp only [Act.put, List.setIfInBounds_toArray, List.set_cons_zero, List.set_cons_succ]
      refine wpAnyH_take (i := 6) (oi := ⟨some 99, _, _, _, _, _⟩) (v := ?_) rfl (by kernel_rfl) (by kernel_rfl) (by kernel_rfl) (fun _ _ _ h => h) (Or.inl ⟨by rfl, ?_⟩) (by assumption) ?_; rotate_left; (intro w hSw; (try dsimp only at hSw); go_simp; (try with_reducible rfl)); simp only [Act.put, List.setIfInBounds_toArray, List.set_cons_zero, List.set_cons_succ]
      refine wpAnyH_take (i := 7) (oi := ⟨some 100, _, _, _, _, _⟩) (v := ?_) rfl (by kernel_rfl) (by kernel_rfl) (by kernel_rfl) (fun _ _ _ h => h) (Or.inl ⟨by rfl, ?_⟩) (by assumption) ?_; rotate_left; (intro w hSw; (try dsimp only at hSw); go_simp; (try with_reducible rfl)); simp only [Act.put, List.setIfInBounds_toArray, List.set_cons_zero, List.set_cons_succ]
      refine wpAnyH_ready (rs := [3, 12]) (by kernel_rfl) (by simp) ?_
      refine AllReadyH.cons (o := ⟨some 96, _, _, _, _, _⟩) rfl (fun K hK => ?_) (AllReadyH.cons (o := ⟨some 17, _, _, _, _, _⟩) rfl (fun K hK => ?_) (AllReadyH.nil))
      · refine step_build3 rfl (.tmp 93) (.tmp 94) (.tmp 95) rfl #[.int .u8 2, .slice none 0 0, .int .i64 0, .int .u8 2, .bool true, .int .i64 0, .string ⟨#[]⟩] #[.int .u8 2, .slice none 0 0, .int .i64 0, .int .u8 3, .bool false, .int .i64 n, .string ⟨#[]⟩] #[.int .u8 e.op, .slice a e.kids.length cc, .int .i64 e.col, .int .u8 e.lit.kind, .bool e.lit.bool, .int .i64 e.lit.int, .string e.lit.text] (by simp [Act.eval]) (by simp [Act.eval]) (by simp [Act.eval]) rfl rfl rfl ?_
        intro b35 V35 hV hb
        have CB35 := Lib.hid (show Below w7.heap.size w7 V35 by rw [hV]; exact CB0.out.alloc CB0.out.size _)
        have KB35 := Lib.hid (show V35.heap[b35]? = some (.cells (#[.int .u8 2, .slice none 0 0, .int .i64 0, .int .u8 2, .bool true, .int .i64 0, .string ⟨#[]⟩] ++ #[.int .u8 2, .slice none 0 0, .int .i64 0, .int .u8 3, .bool false, .int .i64 n, .string ⟨#[]⟩] ++ #[.int .u8 e.op, .slice a e.kids.length cc, .int .i64 e.col, .int .u8 e.lit.kind, .bool e.lit.bool, .int .i64 e.lit.int, .string e.lit.text]) 27 (0, 0)) by rw [hV, hb]; exact heap_alloc_new _ _)
        clear hV hb
        refine hK.out _ _ (HS18.out _ CB35.out) (fun hHeld => ?_)
        clear hK K
        simp only [Act.put, List.setIfInBounds_toArray, List.set_cons_zero, List.set_cons_succ]
        refine wpAnyH_ready (rs := [4, 12]) (by kernel_rfl) (by simp) ?_
        refine AllReadyH.cons (o := ⟨some 97, _, _, _, _, _⟩) rfl (fun K hK => ?_) (AllReadyH.cons (o := ⟨some 17, _, _, _, _, _⟩) rfl (fun K hK => ?_) (AllReadyH.nil))
        · go_simp
          go_at_call 24
          refine (op_24 _ _ _ _ _).mono ?_
          rintro ev V36 ⟨rfl, hbx⟩
          have CB36 := Lib.hid (stepB CB35.out hbx)
          have KB36 := Lib.hid (keepB KB35.out hbx)
          clear hbx
          go_wp2_with fail
          refine hK.out _ _ (HS18.out _ CB36.out) (fun hHeld => ?_)
          clear hK K
          skip
          refine wpAnyH_ready (rs := [8, 12]) (by kernel_rfl) (by simp) ?_
          refine AllReadyH.cons (o := ⟨some 101, _, _, _, _, _⟩) rfl (fun K hK => ?_) (AllReadyH.cons (o := ⟨some 17, _, _, _, _, _⟩) rfl (fun K hK => ?_) (AllReadyH.nil))
          · go_simp
            go_at_call 12
            with_reducible refine (HE18.out _ _ CB36.out KB36.out).mono ?_
            rintro ev V37 ⟨rfl, hbx⟩
            unfold resT Dat.agg
            have CB37 := Lib.hid (stepB CB36.out hbx)
            have KB37 := Lib.hid (keepB KB36.out hbx)
            clear hbx
            go_wp2_with fail
            refine hK.out _ _ (HS18.out _ CB37.out) (fun hHeld => ?_)
            clear hK K
            skip
            refine wpAnyH_take (i := 9) (oi := ⟨some 92, _, _, _, _, _⟩) (v := ?_) rfl (by kernel_rfl) (by kernel_rfl) (by kernel_rfl) (fun _ _ _ h => h) (Or.inl ⟨by rfl, ?_⟩) (by assumption) ?_; rotate_left; (intro w hSw; (try dsimp only at hSw); go_simp; (try with_reducible rfl)); simp only [Act.put, List.setIfInBounds_toArray, List.set_cons_zero, List.set_cons_succ]
            refine wpAnyH_take (i := 10) (oi := ⟨some 102, _, _, _, _, _⟩) (v := ?_) rfl (by kernel_rfl) (by kernel_rfl) (by kernel_rfl) (fun _ _ _ h => h) (Or.inl ⟨by rfl, ?_⟩) (by assumption) ?_; rotate_left; (intro w hSw; (try dsimp only at hSw); go_simp; (try with_reducible rfl)); simp only [Act.put, List.setIfInBounds_toArray, List.set_cons_zero, List.set_cons_succ]
            refine wpAnyH_take (i := 11) (oi := ⟨some 103, _, _, _, _, _⟩) (v := ?_) rfl (by kernel_rfl) (by kernel_rfl) (by kernel_rfl) (fun _ _ _ h => h) (Or.inl ⟨by rfl, ?_⟩) (by assumption) ?_; rotate_left; (intro w hSw; (try dsimp only at hSw); go_simp; (try with_reducible rfl)); simp only [Act.put, List.setIfInBounds_toArray, List.set_cons_zero, List.set_cons_succ]
            refine wpAnyH_ready (rs := [12]) (by kernel_rfl) (by simp) ?_
            refine AllReadyH.cons (o := ⟨some 17, _, _, _, _, _⟩) rfl (fun K hK => ?_) (AllReadyH.nil)
            refine step_alloc25 rfl rfl ?_
            intro b38 V38 hV hb
            have CB38 := Lib.hid (show Below w7.heap.size w7 V38 by rw [hV]; exact CB37.out.alloc CB37.out.size _)
            have KA38 := Lib.hid (show V38.heap[b38]? = some (.cells #[.int .u8 0, .bool false, .int .i64 0, .string ⟨#[]⟩] 25 (0, 0)) by rw [hV, hb]; exact heap_alloc_new _ _)
            have HB38 : w7.heap.size ≤ b38 := by rw [hb]; exact CB37.out.size
            have LB38 := Lib.hid HB38
            have KB38 := Lib.hid (show V38.heap[b35]? = some (.cells (#[.int .u8 2, .slice none 0 0, .int .i64 0, .int .u8 2, .bool true, .int .i64 0, .string ⟨#[]⟩] ++ #[.int .u8 2, .slice none 0 0, .int .i64 0, .int .u8 3, .bool false, .int .i64 n, .string ⟨#[]⟩] ++ #[.int .u8 e.op, .slice a e.kids.length cc, .int .i64 e.col, .int .u8 e.lit.kind, .bool e.lit.bool, .int .i64 e.lit.int, .string e.lit.text]) 27 (0, 0)) by rw [hV]; exact keepAt' KB37.out _)
            clear hV hb HB38
            refine hK.out _ _ (HS18.out _ CB38.out) (fun hHeld => ?_)
            clear hK K
            simp only [Act.put, List.setIfInBounds_toArray, List.set_cons_zero, List.set_cons_succ]
            refine wpAnyH_ready (rs := [13]) (by kernel_rfl) (by simp) ?_
            refine AllReadyH.cons (o := ⟨none, _, _, _, _, _⟩) rfl (fun K hK => ?_) (AllReadyH.nil)
            refine step_store25 rfl (.tmp 17) (.tmp 102) rfl (by simp [Act.eval]) (d := X3.1) (by simp [Act.eval, Dat.agg]) KA38.out ?_
            intro V39 hV
            have CB39 := Lib.hid (show Below w7.heap.size w7 V39 by rw [hV]; exact setRow4_below CB38.out LB38.out)
            have KA39 := Lib.hid (show V39.heap[b38]? = some (.cells #[.int .u8 X3.1.kind, .bool X3.1.bool, .int .i64 X3.1.int, .string X3.1.text] 25 (0, 0)) by rw [hV]; exact setRow4_at KA38.out)
            clear hV
            refine hK.out _ _ (HS18.out _ CB39.out) (fun hHeld => ?_)
            clear hK K
            skip
            refine wpAnyH_take (i := 14) (oi := ⟨some 18, _, _, _, _, _⟩) (v := ?_) rfl (by kernel_rfl) (by kernel_rfl) (by kernel_rfl) (fun _ _ _ h => h) (Or.inl ⟨by rfl, ?_⟩) (by assumption) ?_; rotate_left; (intro w hSw; (try dsimp only at hSw); go_simp; (try with_reducible rfl)); simp only [Act.put, List.setIfInBounds_toArray, List.set_cons_zero, List.set_cons_succ]
            refine wpAnyH_done (by kernel_rfl) ?_ _
            have CE := CB39
            have KE := KA39
            go_wp2
            go_meet
            exact ⟨_, rfl, rfl, KE.out, CE.out⟩
          · refine step_alloc25 rfl rfl ?_
            intro b40 V40 hV hb
            have CB40 := Lib.hid (show Below w7.heap.size w7 V40 by rw [hV]; exact CB36.out.alloc CB36.out.size _)
            have KA40 := Lib.hid (show V40.heap[b40]? = some (.cells #[.int .u8 0, .bool false, .int .i64 0, .string ⟨#[]⟩] 25 (0, 0)) by rw [hV, hb]; exact heap_alloc_new _ _)
            have HB40 : w7.heap.size ≤ b40 := by rw [hb]; exact CB36.out.size
            have LB40 := Lib.hid HB40
            have KB40 := Lib.hid (show V40.heap[b35]? = some (.cells (#[.int .u8 2, .slice none 0 0, .int .i64 0, .int .u8 2, .bool true, .int .i64 0, .string ⟨#[]⟩] ++ #[.int .u8 2, .slice none 0 0, .int .i64 0, .int .u8 3, .bool false, .int .i64 n, .string ⟨#[]⟩] ++ #[.int .u8 e.op, .slice a e.kids.length cc, .int .i64 e.col, .int .u8 e.lit.kind, .bool e.lit.bool, .int .i64 e.lit.int, .string e.lit.text]) 27 (0, 0)) by rw [hV]; exact keepAt' KB36.out _)
            clear hV hb HB40
            refine hK.out _ _ (HS18.out _ CB40.out) (fun hHeld => ?_)
            clear hK K
            simp only [Act.put, List.setIfInBounds_toArray, List.set_cons_zero, List.set_cons_succ]
            refine wpAnyH_ready (rs := [8]) (by kernel_rfl) (by simp) ?_
            refine AllReadyH.cons (o := ⟨some 101, _, _, _, _, _⟩) rfl (fun K hK => ?_) (AllReadyH.nil)
            go_simp
            go_at_call 12
            with_reducible refine (HE18.out _ _ CB40.out KB40.out).mono ?_
            rintro ev V41 ⟨rfl, hbx⟩
            unfold resT Dat.agg
            have CB41 := Lib.hid (stepB CB40.out hbx)
            have KA41 := Lib.hid (keepB KA40.out hbx)
            have KB41 := Lib.hid (keepB KB40.out hbx)
            clear hbx
            go_wp2_with fail
            refine hK.out _ _ (HS18.out _ CB41.out) (fun hHeld => ?_)
            clear hK K
            skip
            refine wpAnyH_take (i := 9) (oi := ⟨some 92, _, _, _, _, _⟩) (v := ?_) rfl (by kernel_rfl) (by kernel_rfl) (by kernel_rfl) (fun _ _ _ h => h) (Or.inl ⟨by rfl, ?_⟩) (by assumption) ?_; rotate_left; (intro w hSw; (try dsimp only at hSw); go_simp; (try with_reducible rfl)); simp only [Act.put, List.setIfInBounds_toArray, List.set_cons_zero, List.set_cons_succ]
            refine wpAnyH_take (i := 10) (oi := ⟨some 102, _, _, _, _, _⟩) (v := ?_) rfl (by kernel_rfl) (by kernel_rfl) (by kernel_rfl) (fun _ _ _ h => h) (Or.inl ⟨by rfl, ?_⟩) (by assumption) ?_; rotate_left; (intro w hSw; (try dsimp only at hSw); go_simp; (try with_reducible rfl)); simp only [Act.put, List.setIfInBounds_toArray, List.set_cons_zero, List.set_cons_succ]
            refine wpAnyH_take (i := 11) (oi := ⟨some 103, _, _, _, _, _⟩) (v := ?_) rfl (by kernel_rfl) (by kernel_rfl) (by kernel_rfl) (fun _ _ _ h => h) (Or.inl ⟨by rfl, ?_⟩) (by assumption) ?_; rotate_left; (intro w hSw; (try dsimp only at hSw); go_simp; (try with_reducible rfl)); simp only [Act.put, List.setIfInBounds_toArray, List.set_cons_zero, List.set_cons_succ]
            refine wpAnyH_ready (rs := [13]) (by kernel_rfl) (by simp) ?_
            refine AllReadyH.cons (o := ⟨none, _, _, _, _, _⟩) rfl (fun K hK => ?_) (AllReadyH.nil)
            refine step_store25 rfl (.tmp 17) (.tmp 102) rfl (by simp [Act.eval]) (d := X3.1) (by simp [Act.eval, Dat.agg]) KA41.out ?_
            intro V42 hV
            have CB42 := Lib.hid (show Below w7.heap.size w7 V42 by rw [hV]; exact setRow4_below CB41.out LB40.out)
            have KA42 := Lib.hid (show V42.heap[b40]? = some (.cells #[.int .u8 X3.1.kind, .bool X3.1.bool, .int .i64 X3.1.int, .string X3.1.text] 25 (0, 0)) by rw [hV]; exact setRow4_at KA41.out)
            clear hV
            refine hK.out _ _ (HS18.out _ CB42.out) (fun hHeld => ?_)
            clear hK K
            skip
            refine wpAnyH_take (i := 14) (oi := ⟨some 18, _, _, _, _, _⟩) (v := ?_) rfl (by kernel_rfl) (by kernel_rfl) (by kernel_rfl) (fun _ _ _ h => h) (Or.inl ⟨by rfl, ?_⟩) (by assumption) ?_; rotate_left; (intro w hSw; (try dsimp only at hSw); go_simp; (try with_reducible rfl)); simp only [Act.put, List.setIfInBounds_toArray, List.set_cons_zero, List.set_cons_succ]
            refine wpAnyH_done (by kernel_rfl) ?_ _
            have CE := CB42
            have KE := KA42
            go_wp2
            go_meet
            exact ⟨_, rfl, rfl, KE.out, CE.out⟩
        · refine step_alloc25 rfl rfl ?_
          intro b43 V43 hV hb
          have CB43 := Lib.hid (show Below w7.heap.size w7 V43 by rw [hV]; exact CB35.out.alloc CB35.out.size _)
          have KA43 := Lib.hid (show V43.heap[b43]? = some (.cells #[.int .u8 0, .bool false, .int .i64 0, .string ⟨#[]⟩] 25 (0, 0)) by rw [hV, hb]; exact heap_alloc_new _ _)
          have HB43 : w7.heap.size ≤ b43 := by rw [hb]; exact CB35.out.size
          have LB43 := Lib.hid HB43
          have KB43 := Lib.hid (show V43.heap[b35]? = some (.cells (#[.int .u8 2, .slice none 0 0, .int .i64 0, .int .u8 2, .bool true, .int .i64 0, .string ⟨#[]⟩] ++ #[.int .u8 2, .slice none 0 0, .int .i64 0, .int .u8 3, .bool false, .int .i64 n, .string ⟨#[]⟩] ++ #[.int .u8 e.op, .slice a e.kids.length cc, .int .i64 e.col, .int .u8 e.lit.kind, .bool e.lit.bool, .int .i64 e.lit.int, .string e.lit.text]) 27 (0, 0)) by rw [hV]; exact keepAt' KB35.out _)
          clear hV hb HB43
          refine hK.out _ _ (HS18.out _ CB43.out) (fun hHeld => ?_)
          clear hK K
          simp only [Act.put, List.setIfInBounds_toArray, List.set_cons_zero, List.set_cons_succ]
          refine wpAnyH_ready (rs := [4]) (by kernel_rfl) (by simp) ?_
          refine AllReadyH.cons (o := ⟨some 97, _, _, _, _, _⟩) rfl (fun K hK => ?_) (AllReadyH.nil)
          go_simp
          go_at_call 24
          refine (op_24 _ _ _ _ _).mono ?_
          rintro ev V44 ⟨rfl, hbx⟩
          have CB44 := Lib.hid (stepB CB43.out hbx)
          have KA44 := Lib.hid (keepB KA43.out hbx)
          have KB44 := Lib.hid (keepB KB43.out hbx)
          clear hbx
          go_wp2_with fail
          refine hK.out _ _ (HS18.out _ CB44.out) (fun hHeld => ?_)
          clear hK K
          skip
          refine wpAnyH_ready (rs := [8]) (by kernel_rfl) (by simp) ?_
          refine AllReadyH.cons (o := ⟨some 101, _, _, _, _, _⟩) rfl (fun K hK => ?_) (AllReadyH.nil)
          go_simp
          go_at_call 12
          with_reducible refine (HE18.out _ _ CB44.out KB44.out).mono ?_
          rintro ev V45 ⟨rfl, hbx⟩
          unfold resT Dat.agg
          have CB45 := Lib.hid (stepB CB44.out hbx)
          have KA45 := Lib.hid (keepB KA44.out hbx)
          have KB45 := Lib.hid (keepB KB44.out hbx)
          clear hbx
          go_wp2_with fail
          refine hK.out _ _ (HS18.out _ CB45.out) (fun hHeld => ?_)
          clear hK K
          skip
          refine wpAnyH_take (i := 9) (oi := ⟨some 92, _, _, _, _, _⟩) (v := ?_) rfl (by kernel_rfl) (by kernel_rfl) (by kernel_rfl) (fun _ _ _ h => h) (Or.inl ⟨by rfl, ?_⟩) (by assumption) ?_; rotate_left; (intro w hSw; (try dsimp only at hSw); go_simp; (try with_reducible rfl)); simp only [Act.put, List.setIfInBounds_toArray, List.set_cons_zero, List.set_cons_succ]
          refine wpAnyH_take (i := 10) (oi := ⟨some 102, _, _, _, _, _⟩) (v := ?_) rfl (by kernel_rfl) (by kernel_rfl) (by kernel_rfl) (fun _ _ _ h => h) (Or.inl ⟨by rfl, ?_⟩) (by assumption) ?_; rotate_left; (intro w hSw; (try dsimp only at hSw); go_simp; (try with_reducible rfl)); simp only [Act.put, List.setIfInBounds_toArray, List.set_cons_zero, List.set_cons_succ]
          refine wpAnyH_take (i := 11) (oi := ⟨some 103, _, _, _, _, _⟩) (v := ?_) rfl (by kernel_rfl) (by kernel_rfl) (by kernel_rfl) (fun _ _ _ h => h) (Or.inl ⟨by rfl, ?_⟩) (by assumption) ?_; rotate_left; (intro w hSw; (try dsimp only at hSw); go_simp; (try with_reducible rfl)); simp only [Act.put, List.setIfInBounds_toArray, List.set_cons_zero, List.set_cons_succ]
          refine wpAnyH_ready (rs := [13]) (by kernel_rfl) (by simp) ?_
          refine AllReadyH.cons (o := ⟨none, _, _, _, _, _⟩) rfl (fun K hK => ?_) (AllReadyH.nil)
          refine step_store25 rfl (.tmp 17) (.tmp 102) rfl (by simp [Act.eval]) (d := X3.1) (by simp [Act.eval, Dat.agg]) KA45.out ?_
          intro V46 hV
          have CB46 := Lib.hid (show Below w7.heap.size w7 V46 by rw [hV]; exact setRow4_below CB45.out LB43.out)
          have KA46 := Lib.hid (show V46.heap[b43]? = some (.cells #[.int .u8 X3.1.kind, .bool X3.1.bool, .int .i64 X3.1.int, .string X3.1.text] 25 (0, 0)) by rw [hV]; exact setRow4_at KA45.out)
          clear hV
          refine hK.out _ _ (HS18.out _ CB46.out) (fun hHeld => ?_)
          clear hK K
          skip
          refine wpAnyH_take (i := 14) (oi := ⟨some 18, _, _, _, _, _⟩) (v := ?_) rfl (by kernel_rfl) (by kernel_rfl) (by kernel_rfl) (fun _ _ _ h => h) (Or.inl ⟨by rfl, ?_⟩) (by assumption) ?_; rotate_left; (intro w hSw; (try dsimp only at hSw); go_simp; (try with_reducible rfl)); simp only [Act.put, List.setIfInBounds_toArray, List.set_cons_zero, List.set_cons_succ]
          refine wpAnyH_done (by kernel_rfl) ?_ _
          have CE := CB46
          have KE := KA46
          go_wp2
          go_meet
          exact ⟨_, rfl, rfl, KE.out, CE.out⟩
      · refine step_alloc25 rfl rfl ?_
        intro b47 V47 hV hb
        have CB47 := Lib.hid (show Below w7.heap.size w7 V47 by rw [hV]; exact CB0.out.alloc CB0.out.size _)
        have KA47 := Lib.hid (show V47.heap[b47]? = some (.cells #[.int .u8 0, .bool false, .int .i64 0, .string ⟨#[]⟩] 25 (0, 0)) by rw [hV, hb]; exact heap_alloc_new _ _)
        have HB47 : w7.heap.size ≤ b47 := by rw [hb]; exact CB0.out.size
        have LB47 := Lib.hid HB47
        clear hV hb HB47
        refine hK.out _ _ (HS18.out _ CB47.out) (fun hHeld => ?_)
        clear hK K
        simp only [Act.put, List.setIfInBounds_toArray, List.set_cons_zero, List.set_cons_succ]
        refine wpAnyH_ready (rs := [3]) (by kernel_rfl) (by simp) ?_
        refine AllReadyH.cons (o := ⟨some 96, _, _, _, _, _⟩) rfl (fun K hK => ?_) (AllReadyH.nil)
        refine step_build3 rfl (.tmp 93) (.tmp 94) (.tmp 95) rfl #[.int .u8 2, .slice none 0 0, .int .i64 0, .int .u8 2, .bool true, .int .i64 0, .string ⟨#[]⟩] #[.int .u8 2, .slice none 0 0, .int .i64 0, .int .u8 3, .bool false, .int .i64 n, .string ⟨#[]⟩] #[.int .u8 e.op, .slice a e.kids.length cc, .int .i64 e.col, .int .u8 e.lit.kind, .bool e.lit.bool, .int .i64 e.lit.int, .string e.lit.text] (by simp [Act.eval]) (by simp [Act.eval]) (by simp [Act.eval]) rfl rfl rfl ?_
        intro b48 V48 hV hb
        have CB48 := Lib.hid (show Below w7.heap.size w7 V48 by rw [hV]; exact CB47.out.alloc CB47.out.size _)
        have KB48 := Lib.hid (show V48.heap[b48]? = some (.cells (#[.int .u8 2, .slice none 0 0, .int .i64 0, .int .u8 2, .bool true, .int .i64 0, .string ⟨#[]⟩] ++ #[.int .u8 2, .slice none 0 0, .int .i64 0, .int .u8 3, .bool false, .int .i64 n, .string ⟨#[]⟩] ++ #[.int .u8 e.op, .slice a e.kids.length cc, .int .i64 e.col, .int .u8 e.lit.kind, .bool e.lit.bool, .int .i64 e.lit.int, .string e.lit.text]) 27 (0, 0)) by rw [hV, hb]; exact heap_alloc_new _ _)
        have KA48 := Lib.hid (show V48.heap[b47]? = some (.cells #[.int .u8 0, .bool false, .int .i64 0, .string ⟨#[]⟩] 25 (0, 0)) by rw [hV]; exact keepAt' KA47.out _)
        clear hV hb
        refine hK.out _ _ (HS18.out _ CB48.out) (fun hHeld => ?_)
        clear hK K
        simp only [Act.put, List.setIfInBounds_toArray, List.set_cons_zero, List.set_cons_succ]
        refine wpAnyH_ready (rs := [4]) (by kernel_rfl) (by simp) ?_
        refine AllReadyH.cons (o := ⟨some 97, _, _, _, _, _⟩) rfl (fun K hK => ?_) (AllReadyH.nil)
        go_simp
        go_at_call 24
        refine (op_24 _ _ _ _ _).mono ?_
        rintro ev V49 ⟨rfl, hbx⟩
        have CB49 := Lib.hid (stepB CB48.out hbx)
        have KA49 := Lib.hid (keepB KA48.out hbx)
        have KB49 := Lib.hid (keepB KB48.out hbx)
        clear hbx
        go_wp2_with fail
        refine hK.out _ _ (HS18.out _ CB49.out) (fun hHeld => ?_)
        clear hK K
        skip
        refine wpAnyH_ready (rs := [8]) (by kernel_rfl) (by simp) ?_
        refine AllReadyH.cons (o := ⟨some 101, _, _, _, _, _⟩) rfl (fun K hK => ?_) (AllReadyH.nil)
        go_simp
        go_at_call 12
        with_reducible refine (HE18.out _ _ CB49.out KB49.out).mono ?_
        rintro ev V50 ⟨rfl, hbx⟩
        unfold resT Dat.agg
        have CB50 := Lib.hid (stepB CB49.out hbx)
        have KA50 := Lib.hid (keepB KA49.out hbx)
        have KB50 := Lib.hid (keepB KB49.out hbx)
        clear hbx
        go_wp2_with fail
        refine hK.out _ _ (HS18.out _ CB50.out) (fun hHeld => ?_)
        clear hK K
        skip
        refine wpAnyH_take (i := 9) (oi := ⟨some 92, _, _, _, _, _⟩) (v := ?_) rfl (by kernel_rfl) (by kernel_rfl) (by kernel_rfl) (fun _ _ _ h => h) (Or.inl ⟨by rfl, ?_⟩) (by assumption) ?_; rotate_left; (intro w hSw; (try dsimp only at hSw); go_simp; (try with_reducible rfl)); simp only [Act.put, List.setIfInBounds_toArray, List.set_cons_zero, List.set_cons_succ]
        refine wpAnyH_take (i := 10) (oi := ⟨some 102, _, _, _, _, _⟩) (v := ?_) rfl (by kernel_rfl) (by kernel_rfl) (by kernel_rfl) (fun _ _ _ h => h) (Or.inl ⟨by rfl, ?_⟩) (by assumption) ?_; rotate_left; (intro w hSw; (try dsimp only at hSw); go_simp; (try with_reducible rfl)); simp only [Act.put, List.setIfInBounds_toArray, List.set_cons_zero, List.set_cons_succ]
        refine wpAnyH_take (i := 11) (oi := ⟨some 103, _, _, _, _, _⟩) (v := ?_) rfl (by kernel_rfl) (by kernel_rfl) (by kernel_rfl) (fun _ _ _ h => h) (Or.inl ⟨by rfl, ?_⟩) (by assumption) ?_; rotate_left; (intro w hSw; (try dsimp only at hSw); go_simp; (try with_reducible rfl)); simp only [Act.put, List.setIfInBounds_toArray, List.set_cons_zero, List.set_cons_succ]
        refine wpAnyH_ready (rs := [13]) (by kernel_rfl) (by simp) ?_
        refine AllReadyH.cons (o := ⟨none, _, _, _, _, _⟩) rfl (fun K hK => ?_) (AllReadyH.nil)
        refine step_store25 rfl (.tmp 17) (.tmp 102) rfl (by simp [Act.eval]) (d := X3.1) (by simp [Act.eval, Dat.agg]) KA50.out ?_
        intro V51 hV
        have CB51 := Lib.hid (show Below w7.heap.size w7 V51 by rw [hV]; exact setRow4_below CB50.out LB47.out)
        have KA51 := Lib.hid (show V51.heap[b47]? = some (.cells #[.int .u8 X3.1.kind, .bool X3.1.bool, .int .i64 X3.1.int, .string X3.1.text] 25 (0, 0)) by rw [hV]; exact setRow4_at KA50.out)
        clear hV
        refine hK.out _ _ (HS18.out _ CB51.out) (fun hHeld => ?_)
        clear hK K
        skip
        refine wpAnyH_take (i := 14) (oi := ⟨some 18, _, _, _, _, _⟩) (v := ?_) rfl (by kernel_rfl) (by kernel_rfl) (by kernel_rfl) (fun _ _ _ h => h) (Or.inl ⟨by rfl, ?_⟩) (by assumption) ?_; rotate_left; (intro w hSw; (try dsimp only at hSw); go_simp; (try with_reducible rfl)); simp only [Act.put, List.setIfInBounds_toArray, List.set_cons_zero, List.set_cons_succ]
        refine wpAnyH_done (by kernel_rfl) ?_ _
        have CE := CB51
        have KE := KA51
        go_wp2
        go_meet
        exact ⟨_, rfl, rfl, KE.out, CE.out⟩
    obtain ⟨B17, rfl, rfl, k17, hbc⟩ := hcut
    generalize wc = w8 at *
    have R2 := Lib.hid k17
    have R0 := Lib.hid (keepB R0.out hbc)
    have R1 := Lib.hid (keepB R1.out hbc)
    have Ke := Lib.hid (keepB Ke.out hbc)
    have Kyes := Lib.hid (keepB Kyes.out hbc)
    have Kno := Lib.hid (keepB Kno.out hbc)
    have Kfive := Lib.hid (keepB Kfive.out hbc)
    have hg := cell_keep hbc KG.out
    have KG := Lib.hid hg
    have HB8 := Lib.hid (stepB HB7.out hbc)
    clear hbc hg k17 HS18 HE18
    obtain ⟨X4, eX4⟩ : ∃ X, X = evalR r (opE 22 [litE (num n), e]) := ⟨_, rfl⟩
    have EX4 := Lib.hid eX4
    clear eX4
    have he : ∀ W b, Below w8.heap.size w8 W → W.heap[b]? = some (.cells (#[.int .u8 2, .slice none 0 0, .int .i64 0, .int .u8 3, .bool false, .int .i64 n, .string ⟨#[]⟩] ++ #[.int .u8 e.op, .slice a e.kids.length cc, .int .i64 e.col, .int .u8 e.lit.kind, .bool e.lit.bool, .int .i64 e.lit.int, .string e.lit.text]) 27 (0, 0)) → Calls Tryz.prog 12 #[.agg #[.int .u8 22, .slice (some ⟨b, 0, none⟩) 2 2, .int .i64 0, .int .u8 0, .bool false, .int .i64 0, .string ⟨#[]⟩], .slice ra N rc] W (ResPost X4 W) := fun W b hb hk => by
      rw [EX4.out, EN.out]
      exact eval12_all r (opE 22 [litE (num n), e]) (some ⟨b, 0, none⟩) 2 ra rc W (fits_op (by decide) (by simp) (fun k hk => by simp at hk; rcases hk with rfl | rfl <;> first | exact HFIT.out | exact fits_lit HFN.out | exact fits_lit (fits_boo _))) HRF.out (at_two hk lit_at (HAT.out.below (stepB HB8.out hb))) (HR.out.below (stepB HB8.out hb)) (tabs_below HT.out (stepB HB8.out hb) h3) (cell_keep (stepB HB8.out hb) HE.out) (Nat.le_trans h3 (stepB HB8.out hb).size)
    have HE19 := Lib.hid he
    clear he
    go_upto_region 19 with fail
    have hS : ∀ W, Below w8.heap.size w8 W → W.cell? ⟨BV, 0, none⟩ = some (.int .u8 2) ∧ W.cell? ⟨BV, 1, none⟩ = some (.slice none 0 0) ∧ W.cell? ⟨BV, 2, none⟩ = some (.int .i64 0) ∧ W.cell? ⟨BV, 3, none⟩ = some (.int .u8 3) ∧ W.cell? ⟨BV, 4, none⟩ = some (.bool false) ∧ W.cell? ⟨BV, 5, none⟩ = some (.int .i64 n) ∧ W.cell? ⟨BV, 6, none⟩ = some (.string ⟨#[]⟩) ∧ W.cell? ⟨H, 0, none⟩ = some (.int .u8 e.op) ∧ W.cell? ⟨H, 1, none⟩ = some (.slice a e.kids.length cc) ∧ W.cell? ⟨H, 2, none⟩ = some (.int .i64 e.col) ∧ W.cell? ⟨H, 3, none⟩ = some (.int .u8 e.lit.kind) ∧ W.cell? ⟨H, 4, none⟩ = some (.bool e.lit.bool) ∧ W.cell? ⟨H, 5, none⟩ = some (.int .i64 e.lit.int) ∧ W.cell? ⟨H, 6, none⟩ = some (.string e.lit.text) ∧ W.cell? ⟨G, 0, none⟩ = some (.slice ra N rc) := fun W hb => ⟨cell_of_heap (keepB Kfive.out hb) rfl, cell_of_heap (keepB Kfive.out hb) rfl, cell_of_heap (keepB Kfive.out hb) rfl, cell_of_heap (keepB Kfive.out hb) rfl, cell_of_heap (keepB Kfive.out hb) rfl, cell_of_heap (keepB Kfive.out hb) rfl, cell_of_heap (keepB Kfive.out hb) rfl, cell_of_heap (keepB Ke.out hb) rfl, cell_of_heap (keepB Ke.out hb) rfl, cell_of_heap (keepB Ke.out hb) rfl, cell_of_heap (keepB Ke.out hb) rfl, cell_of_heap (keepB Ke.out hb) rfl, cell_of_heap (keepB Ke.out hb) rfl, cell_of_heap (keepB Ke.out hb) rfl, cell_keep hb KG.out⟩
    have HS19 := Lib.hid hS
    clear hS
    go_cut [19, 20] from 104 to 114 (fun sb se wx => ∃ B, sb = .pointer (some ⟨B, 0, none⟩) ∧ se = .int .u16 X4.2 ∧ wx.heap[B]? = some (.cells #[.int .u8 X4.1.kind, .bool X4.1.bool, .int .i64 X4.1.int, .string X4.1.text] 25 (0, 0)) ∧ Below w8.heap.size w8 wx)
    case first =>
      have CB0 := Lib.hid (show Below w8.heap.size w8 w8.drew from ⟨rfl, rfl, rfl, Nat.le_refl _, fun _ _ => rfl⟩)
      refine wp_region_held_drew (S := fun W => W.cell? ⟨BV, 0, none⟩ = some (.int .u8 2) ∧ W.cell? ⟨BV, 1, none⟩ = some (.slice none 0 0) ∧ W.cell? ⟨BV, 2, none⟩ = some (.int .i64 0) ∧ W.cell? ⟨BV, 3, none⟩ = some (.int .u8 3) ∧ W.cell? ⟨BV, 4, none⟩ = some (.bool false) ∧ W.cell? ⟨BV, 5, none⟩ = some (.int .i64 n) ∧ W.cell? ⟨BV, 6, none⟩ = some (.string ⟨#[]⟩) ∧ W.cell? ⟨H, 0, none⟩ = some (.int .u8 e.op) ∧ W.cell? ⟨H, 1, none⟩ = some (.slice a e.kids.length cc) ∧ W.cell? ⟨H, 2, none⟩ = some (.int .i64 e.col) ∧ W.cell? ⟨H, 3, none⟩ = some (.int .u8 e.lit.kind) ∧ W.cell? ⟨H, 4, none⟩ = some (.bool e.lit.bool) ∧ W.cell? ⟨H, 5, none⟩ = some (.int .i64 e.lit.int) ∧ W.cell? ⟨H, 6, none⟩ = some (.string e.lit.text) ∧ W.cell? ⟨G, 0, none⟩ = some (.slice ra N rc)) (by kernel_rfl) (HS19.out _ CB0.out) (fun hHeld => ?_)
      refine wpAnyH_take (i := 0) (oi := ⟨some 105, _, _, _, _, _⟩) (v := ?_) rfl (by kernel_rfl) (by kernel_rfl) (by kernel_rfl) (fun _ _ _ h => h) (Or.inl ⟨by rfl, ?_⟩) (by assumption) ?_; rotate_left; (intro w hSw; (try dsimp only at hSw); go_simp; (try with_reducible rfl)); simp only [Act.put, List.setIfInBounds_toArray, List.set_cons_zero, List.set_cons_succ]
      refine wpAnyH_take (i := 1) (oi := ⟨some 106, _, _, _, _, _⟩) (v := ?_) rfl (by kernel_rfl) (by kernel_rfl) (by kernel_rfl) (fun _ _ _ h => h) (Or.inl ⟨by rfl, ?_⟩) (by assumption) ?_; rotate_left; (intro w hSw; (try dsimp only at hSw); go_simp; (try with_reducible rfl)); simp only [Act.put, List.setIfInBounds_toArray, List.set_cons_zero, List.set_cons_succ]
      refine wpAnyH_take (i := 4) (oi := ⟨some 109, _, _, _, _, _⟩) (v := ?_) rfl (by kernel_rfl) (by kernel_rfl) (by kernel_rfl) (fun _ _ _ h => h) (Or.inl ⟨by rfl, ?_⟩) (by assumption) ?_; rotate_left; (intro w hSw; (try dsimp only at hSw); go_simp; (try with_reducible rfl)); simp only [Act.put, List.setIfInBounds_toArray, List.set_cons_zero, List.set_cons_succ]
      refine wpAnyH_take (i := 5) (oi := ⟨some 110, _, _, _, _, _⟩) (v := ?_) rfl (by kernel_rfl) (by kernel_rfl) (by kernel_rfl) (fun _ _ _ h => h) (Or.inl ⟨by rfl, ?_⟩) (by assumption) ?_; rotate_left; (intro w hSw; (try dsimp only at hSw); go_simp; (try with_reducible rfl)); simp only [Act.put, List.setIfInBounds_toArray, List.set_cons_zero, List.set_cons_succ]
      refine wpAnyH_take (i := 6) (oi := ⟨some 111, _, _, _, _, _⟩) (v := ?_) rfl (by kernel_rfl) (by kernel_rfl) (by kernel_rfl) (fun _ _ _ h => h) (Or.inl ⟨by rfl, ?_⟩) (by assumption) ?_; rotate_left; (intro w hSw; (try dsimp only at hSw); go_simp; (try with_reducible rfl)); simp only [Act.put, List.setIfInBounds_toArray, List.set_cons_zero, List.set_cons_succ]
      refine wpAnyH_ready (rs := [2, 11]) (by kernel_rfl) (by simp) ?_
      refine AllReadyH.cons (o := ⟨some 107, _, _, _, _, _⟩) rfl (fun K hK => ?_) (AllReadyH.cons (o := ⟨some 19, _, _, _, _, _⟩) rfl (fun K hK => ?_) (AllReadyH.nil))
      · refine step_build2 rfl (.tmp 105) (.tmp 106) rfl #[.int .u8 2, .slice none 0 0, .int .i64 0, .int .u8 3, .bool false, .int .i64 n, .string ⟨#[]⟩] #[.int .u8 e.op, .slice a e.kids.length cc, .int .i64 e.col, .int .u8 e.lit.kind, .bool e.lit.bool, .int .i64 e.lit.int, .string e.lit.text] (by simp [Act.eval]) (by simp [Act.eval]) rfl rfl ?_
        intro b52 V52 hV hb
        have CB52 := Lib.hid (show Below w8.heap.size w8 V52 by rw [hV]; exact CB0.out.alloc CB0.out.size _)
        have KB52 := Lib.hid (show V52.heap[b52]? = some (.cells (#[.int .u8 2, .slice none 0 0, .int .i64 0, .int .u8 3, .bool false, .int .i64 n, .string ⟨#[]⟩] ++ #[.int .u8 e.op, .slice a e.kids.length cc, .int .i64 e.col, .int .u8 e.lit.kind, .bool e.lit.bool, .int .i64 e.lit.int, .string e.lit.text]) 27 (0, 0)) by rw [hV, hb]; exact heap_alloc_new _ _)
        clear hV hb
        refine hK.out _ _ (HS19.out _ CB52.out) (fun hHeld => ?_)
        clear hK K
        simp only [Act.put, List.setIfInBounds_toArray, List.set_cons_zero, List.set_cons_succ]
        refine wpAnyH_ready (rs := [3, 11]) (by kernel_rfl) (by simp) ?_
        refine AllReadyH.cons (o := ⟨some 108, _, _, _, _, _⟩) rfl (fun K hK => ?_) (AllReadyH.cons (o := ⟨some 19, _, _, _, _, _⟩) rfl (fun K hK => ?_) (AllReadyH.nil))
        · go_simp
          go_at_call 24
          refine (op_24 _ _ _ _ _).mono ?_
          rintro ev V53 ⟨rfl, hbx⟩
          have CB53 := Lib.hid (stepB CB52.out hbx)
          have KB53 := Lib.hid (keepB KB52.out hbx)
          clear hbx
          go_wp2_with fail
          refine hK.out _ _ (HS19.out _ CB53.out) (fun hHeld => ?_)
          clear hK K
          skip
          refine wpAnyH_ready (rs := [7, 11]) (by kernel_rfl) (by simp) ?_
          refine AllReadyH.cons (o := ⟨some 112, _, _, _, _, _⟩) rfl (fun K hK => ?_) (AllReadyH.cons (o := ⟨some 19, _, _, _, _, _⟩) rfl (fun K hK => ?_) (AllReadyH.nil))
          · go_simp
            go_at_call 12
            with_reducible refine (HE19.out _ _ CB53.out KB53.out).mono ?_
            rintro ev V54 ⟨rfl, hbx⟩
            unfold resT Dat.agg
            have CB54 := Lib.hid (stepB CB53.out hbx)
            have KB54 := Lib.hid (keepB KB53.out hbx)
            clear hbx
            go_wp2_with fail
            refine hK.out _ _ (HS19.out _ CB54.out) (fun hHeld => ?_)
            clear hK K
            skip
            refine wpAnyH_take (i := 8) (oi := ⟨some 104, _, _, _, _, _⟩) (v := ?_) rfl (by kernel_rfl) (by kernel_rfl) (by kernel_rfl) (fun _ _ _ h => h) (Or.inl ⟨by rfl, ?_⟩) (by assumption) ?_; rotate_left; (intro w hSw; (try dsimp only at hSw); go_simp; (try with_reducible rfl)); simp only [Act.put, List.setIfInBounds_toArray, List.set_cons_zero, List.set_cons_succ]
            refine wpAnyH_take (i := 9) (oi := ⟨some 113, _, _, _, _, _⟩) (v := ?_) rfl (by kernel_rfl) (by kernel_rfl) (by kernel_rfl) (fun _ _ _ h => h) (Or.inl ⟨by rfl, ?_⟩) (by assumption) ?_; rotate_left; (intro w hSw; (try dsimp only at hSw); go_simp; (try with_reducible rfl)); simp only [Act.put, List.setIfInBounds_toArray, List.set_cons_zero, List.set_cons_succ]
            refine wpAnyH_take (i := 10) (oi := ⟨some 114, _, _, _, _, _⟩) (v := ?_) rfl (by kernel_rfl) (by kernel_rfl) (by kernel_rfl) (fun _ _ _ h => h) (Or.inl ⟨by rfl, ?_⟩) (by assumption) ?_; rotate_left; (intro w hSw; (try dsimp only at hSw); go_simp; (try with_reducible rfl)); simp only [Act.put, List.setIfInBounds_toArray, List.set_cons_zero, List.set_cons_succ]
            refine wpAnyH_ready (rs := [11]) (by kernel_rfl) (by simp) ?_
            refine AllReadyH.cons (o := ⟨some 19, _, _, _, _, _⟩) rfl (fun K hK => ?_) (AllReadyH.nil)
            refine step_alloc25 rfl rfl ?_
            intro b55 V55 hV hb
            have CB55 := Lib.hid (show Below w8.heap.size w8 V55 by rw [hV]; exact CB54.out.alloc CB54.out.size _)
            have KA55 := Lib.hid (show V55.heap[b55]? = some (.cells #[.int .u8 0, .bool false, .int .i64 0, .string ⟨#[]⟩] 25 (0, 0)) by rw [hV, hb]; exact heap_alloc_new _ _)
            have HB55 : w8.heap.size ≤ b55 := by rw [hb]; exact CB54.out.size
            have LB55 := Lib.hid HB55
            have KB55 := Lib.hid (show V55.heap[b52]? = some (.cells (#[.int .u8 2, .slice none 0 0, .int .i64 0, .int .u8 3, .bool false, .int .i64 n, .string ⟨#[]⟩] ++ #[.int .u8 e.op, .slice a e.kids.length cc, .int .i64 e.col, .int .u8 e.lit.kind, .bool e.lit.bool, .int .i64 e.lit.int, .string e.lit.text]) 27 (0, 0)) by rw [hV]; exact keepAt' KB54.out _)
            clear hV hb HB55
            refine hK.out _ _ (HS19.out _ CB55.out) (fun hHeld => ?_)
            clear hK K
            simp only [Act.put, List.setIfInBounds_toArray, List.set_cons_zero, List.set_cons_succ]
            refine wpAnyH_ready (rs := [12]) (by kernel_rfl) (by simp) ?_
            refine AllReadyH.cons (o := ⟨none, _, _, _, _, _⟩) rfl (fun K hK => ?_) (AllReadyH.nil)
            refine step_store25 rfl (.tmp 19) (.tmp 113) rfl (by simp [Act.eval]) (d := X4.1) (by simp [Act.eval, Dat.agg]) KA55.out ?_
            intro V56 hV
            have CB56 := Lib.hid (show Below w8.heap.size w8 V56 by rw [hV]; exact setRow4_below CB55.out LB55.out)
            have KA56 := Lib.hid (show V56.heap[b55]? = some (.cells #[.int .u8 X4.1.kind, .bool X4.1.bool, .int .i64 X4.1.int, .string X4.1.text] 25 (0, 0)) by rw [hV]; exact setRow4_at KA55.out)
            clear hV
            refine hK.out _ _ (HS19.out _ CB56.out) (fun hHeld => ?_)
            clear hK K
            skip
            refine wpAnyH_take (i := 13) (oi := ⟨some 20, _, _, _, _, _⟩) (v := ?_) rfl (by kernel_rfl) (by kernel_rfl) (by kernel_rfl) (fun _ _ _ h => h) (Or.inl ⟨by rfl, ?_⟩) (by assumption) ?_; rotate_left; (intro w hSw; (try dsimp only at hSw); go_simp; (try with_reducible rfl)); simp only [Act.put, List.setIfInBounds_toArray, List.set_cons_zero, List.set_cons_succ]
            refine wpAnyH_done (by kernel_rfl) ?_ _
            have CE := CB56
            have KE := KA56
            go_wp2
            go_meet
            exact ⟨_, rfl, rfl, KE.out, CE.out⟩
          · refine step_alloc25 rfl rfl ?_
            intro b57 V57 hV hb
            have CB57 := Lib.hid (show Below w8.heap.size w8 V57 by rw [hV]; exact CB53.out.alloc CB53.out.size _)
            have KA57 := Lib.hid (show V57.heap[b57]? = some (.cells #[.int .u8 0, .bool false, .int .i64 0, .string ⟨#[]⟩] 25 (0, 0)) by rw [hV, hb]; exact heap_alloc_new _ _)
            have HB57 : w8.heap.size ≤ b57 := by rw [hb]; exact CB53.out.size
            have LB57 := Lib.hid HB57
            have KB57 := Lib.hid (show V57.heap[b52]? = some (.cells (#[.int .u8 2, .slice none 0 0, .int .i64 0, .int .u8 3, .bool false, .int .i64 n, .string ⟨#[]⟩] ++ #[.int .u8 e.op, .slice a e.kids.length cc, .int .i64 e.col, .int .u8 e.lit.kind, .bool e.lit.bool, .int .i64 e.lit.int, .string e.lit.text]) 27 (0, 0)) by rw [hV]; exact keepAt' KB53.out _)
            clear hV hb HB57
            refine hK.out _ _ (HS19.out _ CB57.out) (fun hHeld => ?_)
            clear hK K
            simp only [Act.put, List.setIfInBounds_toArray, List.set_cons_zero, List.set_cons_succ]
            refine wpAnyH_ready (rs := [7]) (by kernel_rfl) (by simp) ?_
            refine AllReadyH.cons (o := ⟨some 112, _, _, _, _, _⟩) rfl (fun K hK => ?_) (AllReadyH.nil)
            go_simp
            go_at_call 12
            with_reducible refine (HE19.out _ _ CB57.out KB57.out).mono ?_
            rintro ev V58 ⟨rfl, hbx⟩
            unfold resT Dat.agg
            have CB58 := Lib.hid (stepB CB57.out hbx)
            have KA58 := Lib.hid (keepB KA57.out hbx)
            have KB58 := Lib.hid (keepB KB57.out hbx)
            clear hbx
            go_wp2_with fail
            refine hK.out _ _ (HS19.out _ CB58.out) (fun hHeld => ?_)
            clear hK K
            skip
            refine wpAnyH_take (i := 8) (oi := ⟨some 104, _, _, _, _, _⟩) (v := ?_) rfl (by kernel_rfl) (by kernel_rfl) (by kernel_rfl) (fun _ _ _ h => h) (Or.inl ⟨by rfl, ?_⟩) (by assumption) ?_; rotate_left; (intro w hSw; (try dsimp only at hSw); go_simp; (try with_reducible rfl)); simp only [Act.put, List.setIfInBounds_toArray, List.set_cons_zero, List.set_cons_succ]
            refine wpAnyH_take (i := 9) (oi := ⟨some 113, _, _, _, _, _⟩) (v := ?_) rfl (by kernel_rfl) (by kernel_rfl) (by kernel_rfl) (fun _ _ _ h => h) (Or.inl ⟨by rfl, ?_⟩) (by assumption) ?_; rotate_left; (intro w hSw; (try dsimp only at hSw); go_simp; (try with_reducible rfl)); simp only [Act.put, List.setIfInBounds_toArray, List.set_cons_zero, List.set_cons_succ]
            refine wpAnyH_take (i := 10) (oi := ⟨some 114, _, _, _, _, _⟩) (v := ?_) rfl (by kernel_rfl) (by kernel_rfl) (by kernel_rfl) (fun _ _ _ h => h) (Or.inl ⟨by rfl, ?_⟩) (by assumption) ?_; rotate_left; (intro w hSw; (try dsimp only at hSw); go_simp; (try with_reducible rfl)); simp only [Act.put, List.setIfInBounds_toArray, List.set_cons_zero, List.set_cons_succ]
            refine wpAnyH_ready (rs := [12]) (by kernel_rfl) (by simp) ?_
            refine AllReadyH.cons (o := ⟨none, _, _, _, _, _⟩) rfl (fun K hK => ?_) (AllReadyH.nil)
            refine step_store25 rfl (.tmp 19) (.tmp 113) rfl (by simp [Act.eval]) (d := X4.1) (by simp [Act.eval, Dat.agg]) KA58.out ?_
            intro V59 hV
            have CB59 := Lib.hid (show Below w8.heap.size w8 V59 by rw [hV]; exact setRow4_below CB58.out LB57.out)
            have KA59 := Lib.hid (show V59.heap[b57]? = some (.cells #[.int .u8 X4.1.kind, .bool X4.1.bool, .int .i64 X4.1.int, .string X4.1.text] 25 (0, 0)) by rw [hV]; exact setRow4_at KA58.out)
            clear hV
            refine hK.out _ _ (HS19.out _ CB59.out) (fun hHeld => ?_)
            clear hK K
            skip
            refine wpAnyH_take (i := 13) (oi := ⟨some 20, _, _, _, _, _⟩) (v := ?_) rfl (by kernel_rfl) (by kernel_rfl) (by kernel_rfl) (fun _ _ _ h => h) (Or.inl ⟨by rfl, ?_⟩) (by assumption) ?_; rotate_left; (intro w hSw; (try dsimp only at hSw); go_simp; (try with_reducible rfl)); simp only [Act.put, List.setIfInBounds_toArray, List.set_cons_zero, List.set_cons_succ]
            refine wpAnyH_done (by kernel_rfl) ?_ _
            have CE := CB59
            have KE := KA59
            go_wp2
            go_meet
            exact ⟨_, rfl, rfl, KE.out, CE.out⟩
        · refine step_alloc25 rfl rfl ?_
          intro b60 V60 hV hb
          have CB60 := Lib.hid (show Below w8.heap.size w8 V60 by rw [hV]; exact CB52.out.alloc CB52.out.size _)
          have KA60 := Lib.hid (show V60.heap[b60]? = some (.cells #[.int .u8 0, .bool false, .int .i64 0, .string ⟨#[]⟩] 25 (0, 0)) by rw [hV, hb]; exact heap_alloc_new _ _)
          have HB60 : w8.heap.size ≤ b60 := by rw [hb]; exact CB52.out.size
          have LB60 := Lib.hid HB60
          have KB60 := Lib.hid (show V60.heap[b52]? = some (.cells (#[.int .u8 2, .slice none 0 0, .int .i64 0, .int .u8 3, .bool false, .int .i64 n, .string ⟨#[]⟩] ++ #[.int .u8 e.op, .slice a e.kids.length cc, .int .i64 e.col, .int .u8 e.lit.kind, .bool e.lit.bool, .int .i64 e.lit.int, .string e.lit.text]) 27 (0, 0)) by rw [hV]; exact keepAt' KB52.out _)
          clear hV hb HB60
          refine hK.out _ _ (HS19.out _ CB60.out) (fun hHeld => ?_)
          clear hK K
          simp only [Act.put, List.setIfInBounds_toArray, List.set_cons_zero, List.set_cons_succ]
          refine wpAnyH_ready (rs := [3]) (by kernel_rfl) (by simp) ?_
          refine AllReadyH.cons (o := ⟨some 108, _, _, _, _, _⟩) rfl (fun K hK => ?_) (AllReadyH.nil)
          go_simp
          go_at_call 24
          refine (op_24 _ _ _ _ _).mono ?_
          rintro ev V61 ⟨rfl, hbx⟩
          have CB61 := Lib.hid (stepB CB60.out hbx)
          have KA61 := Lib.hid (keepB KA60.out hbx)
          have KB61 := Lib.hid (keepB KB60.out hbx)
          clear hbx
          go_wp2_with fail
          refine hK.out _ _ (HS19.out _ CB61.out) (fun hHeld => ?_)
          clear hK K
          skip
          refine wpAnyH_ready (rs := [7]) (by kernel_rfl) (by simp) ?_
          refine AllReadyH.cons (o := ⟨some 112, _, _, _, _, _⟩) rfl (fun K hK => ?_) (AllReadyH.nil)
          go_simp
          go_at_call 12
          with_reducible refine (HE19.out _ _ CB61.out KB61.out).mono ?_
          rintro ev V62 ⟨rfl, hbx⟩
          unfold resT Dat.agg
          have CB62 := Lib.hid (stepB CB61.out hbx)
          have KA62 := Lib.hid (keepB KA61.out hbx)
          have KB62 := Lib.hid (keepB KB61.out hbx)
          clear hbx
          go_wp2_with fail
          refine hK.out _ _ (HS19.out _ CB62.out) (fun hHeld => ?_)
          clear hK K
          skip
          refine wpAnyH_take (i := 8) (oi := ⟨some 104, _, _, _, _, _⟩) (v := ?_) rfl (by kernel_rfl) (by kernel_rfl) (by kernel_rfl) (fun _ _ _ h => h) (Or.inl ⟨by rfl, ?_⟩) (by assumption) ?_; rotate_left; (intro w hSw; (try dsimp only at hSw); go_simp; (try with_reducible rfl)); simp only [Act.put, List.setIfInBounds_toArray, List.set_cons_zero, List.set_cons_succ]
          refine wpAnyH_take (i := 9) (oi := ⟨some 113, _, _, _, _, _⟩) (v := ?_) rfl (by kernel_rfl) (by kernel_rfl) (by kernel_rfl) (fun _ _ _ h => h) (Or.inl ⟨by rfl, ?_⟩) (by assumption) ?_; rotate_left; (intro w hSw; (try dsimp only at hSw); go_simp; (try with_reducible rfl)); simp only [Act.put, List.setIfInBounds_toArray, List.set_cons_zero, List.set_cons_succ]
          refine wpAnyH_take (i := 10) (oi := ⟨some 114, _, _, _, _, _⟩) (v := ?_) rfl (by kernel_rfl) (by kernel_rfl) (by kernel_rfl) (fun _ _ _ h => h) (Or.inl ⟨by rfl, ?_⟩) (by assumption) ?_; rotate_left; (intro w hSw; (try dsimp only at hSw); go_simp; (try with_reducible rfl)); simp only [Act.put, List.setIfInBounds_toArray, List.set_cons_zero, List.set_cons_succ]
          refine wpAnyH_ready (rs := [12]) (by kernel_rfl) (by simp) ?_
          refine AllReadyH.cons (o := ⟨none, _, _, _, _, _⟩) rfl (fun K hK => ?_) (AllReadyH.nil)
          refine step_store25 rfl (.tmp 19) (.tmp 113) rfl (by simp [Act.eval]) (d := X4.1) (by simp [Act.eval, Dat.agg]) KA62.out ?_
          intro V63 hV
          have CB63 := Lib.hid (show Below w8.heap.size w8 V63 by rw [hV]; exact setRow4_below CB62.out LB60.out)
          have KA63 := Lib.hid (show V63.heap[b60]? = some (.cells #[.int .u8 X4.1.kind, .bool X4.1.bool, .int .i64 X4.1.int, .string X4.1.text] 25 (0, 0)) by rw [hV]; exact setRow4_at KA62.out)
          clear hV
          refine hK.out _ _ (HS19.out _ CB63.out) (fun hHeld => ?_)
          clear hK K
          skip
          refine wpAnyH_take (i := 13) (oi := ⟨some 20, _, _, _, _, _⟩) (v := ?_) rfl (by kernel_rfl) (by kernel_rfl) (by kernel_rfl) (fun _ _ _ h => h) (Or.inl ⟨by rfl, ?_⟩) (by assumption) ?_; rotate_left; (intro w hSw; (try dsimp only at hSw); go_simp; (try with_reducible rfl)); simp only [Act.put, List.setIfInBounds_toArray, List.set_cons_zero, List.set_cons_succ]
          refine wpAnyH_done (by kernel_rfl) ?_ _
          have CE := CB63
          have KE := KA63
          go_wp2
          go_meet
          exact ⟨_, rfl, rfl, KE.out, CE.out⟩
      · refine step_alloc25 rfl rfl ?_
        intro b64 V64 hV hb
        have CB64 := Lib.hid (show Below w8.heap.size w8 V64 by rw [hV]; exact CB0.out.alloc CB0.out.size _)
        have KA64 := Lib.hid (show V64.heap[b64]? = some (.cells #[.int .u8 0, .bool false, .int .i64 0, .string ⟨#[]⟩] 25 (0, 0)) by rw [hV, hb]; exact heap_alloc_new _ _)
        have HB64 : w8.heap.size ≤ b64 := by rw [hb]; exact CB0.out.size
        have LB64 := Lib.hid HB64
        clear hV hb HB64
        refine hK.out _ _ (HS19.out _ CB64.out) (fun hHeld => ?_)
        clear hK K
        simp only [Act.put, List.setIfInBounds_toArray, List.set_cons_zero, List.set_cons_succ]
        refine wpAnyH_ready (rs := [2]) (by kernel_rfl) (by simp) ?_
        refine AllReadyH.cons (o := ⟨some 107, _, _, _, _, _⟩) rfl (fun K hK => ?_) (AllReadyH.nil)
        refine step_build2 rfl (.tmp 105) (.tmp 106) rfl #[.int .u8 2, .slice none 0 0, .int .i64 0, .int .u8 3, .bool false, .int .i64 n, .string ⟨#[]⟩] #[.int .u8 e.op, .slice a e.kids.length cc, .int .i64 e.col, .int .u8 e.lit.kind, .bool e.lit.bool, .int .i64 e.lit.int, .string e.lit.text] (by simp [Act.eval]) (by simp [Act.eval]) rfl rfl ?_
        intro b65 V65 hV hb
        have CB65 := Lib.hid (show Below w8.heap.size w8 V65 by rw [hV]; exact CB64.out.alloc CB64.out.size _)
        have KB65 := Lib.hid (show V65.heap[b65]? = some (.cells (#[.int .u8 2, .slice none 0 0, .int .i64 0, .int .u8 3, .bool false, .int .i64 n, .string ⟨#[]⟩] ++ #[.int .u8 e.op, .slice a e.kids.length cc, .int .i64 e.col, .int .u8 e.lit.kind, .bool e.lit.bool, .int .i64 e.lit.int, .string e.lit.text]) 27 (0, 0)) by rw [hV, hb]; exact heap_alloc_new _ _)
        have KA65 := Lib.hid (show V65.heap[b64]? = some (.cells #[.int .u8 0, .bool false, .int .i64 0, .string ⟨#[]⟩] 25 (0, 0)) by rw [hV]; exact keepAt' KA64.out _)
        clear hV hb
        refine hK.out _ _ (HS19.out _ CB65.out) (fun hHeld => ?_)
        clear hK K
        simp only [Act.put, List.setIfInBounds_toArray, List.set_cons_zero, List.set_cons_succ]
        refine wpAnyH_ready (rs := [3]) (by kernel_rfl) (by simp) ?_
        refine AllReadyH.cons (o := ⟨some 108, _, _, _, _, _⟩) rfl (fun K hK => ?_) (AllReadyH.nil)
        go_simp
        go_at_call 24
        refine (op_24 _ _ _ _ _).mono ?_
        rintro ev V66 ⟨rfl, hbx⟩
        have CB66 := Lib.hid (stepB CB65.out hbx)
        have KA66 := Lib.hid (keepB KA65.out hbx)
        have KB66 := Lib.hid (keepB KB65.out hbx)
        clear hbx
        go_wp2_with fail
        refine hK.out _ _ (HS19.out _ CB66.out) (fun hHeld => ?_)
        clear hK K
        skip
        refine wpAnyH_ready (rs := [7]) (by kernel_rfl) (by simp) ?_
        refine AllReadyH.cons (o := ⟨some 112, _, _, _, _, _⟩) rfl (fun K hK => ?_) (AllReadyH.nil)
        go_simp
        go_at_call 12
        with_reducible refine (HE19.out _ _ CB66.out KB66.out).mono ?_
        rintro ev V67 ⟨rfl, hbx⟩
        unfold resT Dat.agg
        have CB67 := Lib.hid (stepB CB66.out hbx)
        have KA67 := Lib.hid (keepB KA66.out hbx)
        have KB67 := Lib.hid (keepB KB66.out hbx)
        clear hbx
        go_wp2_with fail
        refine hK.out _ _ (HS19.out _ CB67.out) (fun hHeld => ?_)
        clear hK K
        skip
        refine wpAnyH_take (i := 8) (oi := ⟨some 104, _, _, _, _, _⟩) (v := ?_) rfl (by kernel_rfl) (by kernel_rfl) (by kernel_rfl) (fun _ _ _ h => h) (Or.inl ⟨by rfl, ?_⟩) (by assumption) ?_; rotate_left; (intro w hSw; (try dsimp only at hSw); go_simp; (try with_reducible rfl)); simp only [Act.put, List.setIfInBounds_toArray, List.set_cons_zero, List.set_cons_succ]
        refine wpAnyH_take (i := 9) (oi := ⟨some 113, _, _, _, _, _⟩) (v := ?_) rfl (by kernel_rfl) (by kernel_rfl) (by kernel_rfl) (fun _ _ _ h => h) (Or.inl ⟨by rfl, ?_⟩) (by assumption) ?_; rotate_left; (intro w hSw; (try dsimp only at hSw); go_simp; (try with_reducible rfl)); simp only [Act.put, List.setIfInBounds_toArray, List.set_cons_zero, List.set_cons_succ]
        refine wpAnyH_take (i := 10) (oi := ⟨some 114, _, _, _, _, _⟩) (v := ?_) rfl (by kernel_rfl) (by kernel_rfl) (by kernel_rfl) (fun _ _ _ h => h) (Or.inl ⟨by rfl, ?_⟩) (by assumption) ?_; rotate_left; (intro w hSw; (try dsimp only at hSw); go_simp; (try with_reducible rfl)); simp only [Act.put, List.setIfInBounds_toArray, List.set_cons_zero, List.set_cons_succ]
        refine wpAnyH_ready (rs := [12]) (by kernel_rfl) (by simp) ?_
        refine AllReadyH.cons (o := ⟨none, _, _, _, _, _⟩) rfl (fun K hK => ?_) (AllReadyH.nil)
        refine step_store25 rfl (.tmp 19) (.tmp 113) rfl (by simp [Act.eval]) (d := X4.1) (by simp [Act.eval, Dat.agg]) KA67.out ?_
        intro V68 hV
        have CB68 := Lib.hid (show Below w8.heap.size w8 V68 by rw [hV]; exact setRow4_below CB67.out LB64.out)
        have KA68 := Lib.hid (show V68.heap[b64]? = some (.cells #[.int .u8 X4.1.kind, .bool X4.1.bool, .int .i64 X4.1.int, .string X4.1.text] 25 (0, 0)) by rw [hV]; exact setRow4_at KA67.out)
        clear hV
        refine hK.out _ _ (HS19.out _ CB68.out) (fun hHeld => ?_)
        clear hK K
        skip
        refine wpAnyH_take (i := 13) (oi := ⟨some 20, _, _, _, _, _⟩) (v := ?_) rfl (by kernel_rfl) (by kernel_rfl) (by kernel_rfl) (fun _ _ _ h => h) (Or.inl ⟨by rfl, ?_⟩) (by assumption) ?_; rotate_left; (intro w hSw; (try dsimp only at hSw); go_simp; (try with_reducible rfl)); simp only [Act.put, List.setIfInBounds_toArray, List.set_cons_zero, List.set_cons_succ]
        refine wpAnyH_done (by kernel_rfl) ?_ _
        have CE := CB68
        have KE := KA68
        go_wp2
        go_meet
        exact ⟨_, rfl, rfl, KE.out, CE.out⟩
    obtain ⟨B19, rfl, rfl, k19, hbc⟩ := hcut
    generalize wc = w9 at *
    have R3 := Lib.hid k19
    have R0 := Lib.hid (keepB R0.out hbc)
    have R1 := Lib.hid (keepB R1.out hbc)
    have R2 := Lib.hid (keepB R2.out hbc)
    have Ke := Lib.hid (keepB Ke.out hbc)
    have Kyes := Lib.hid (keepB Kyes.out hbc)
    have Kno := Lib.hid (keepB Kno.out hbc)
    have Kfive := Lib.hid (keepB Kfive.out hbc)
    have hg := cell_keep hbc KG.out
    have KG := Lib.hid hg
    have HB9 := Lib.hid (stepB HB8.out hbc)
    clear hbc hg k19 HS19 HE19
    obtain ⟨X5, eX5⟩ : ∃ X, X = evalR r (opE 21 [litE (boo false), e, litE (num n)]) := ⟨_, rfl⟩
    have EX5 := Lib.hid eX5
    clear eX5
    have he : ∀ W b, Below w9.heap.size w9 W → W.heap[b]? = some (.cells (#[.int .u8 2, .slice none 0 0, .int .i64 0, .int .u8 2, .bool false, .int .i64 0, .string ⟨#[]⟩] ++ #[.int .u8 e.op, .slice a e.kids.length cc, .int .i64 e.col, .int .u8 e.lit.kind, .bool e.lit.bool, .int .i64 e.lit.int, .string e.lit.text] ++ #[.int .u8 2, .slice none 0 0, .int .i64 0, .int .u8 3, .bool false, .int .i64 n, .string ⟨#[]⟩]) 27 (0, 0)) → Calls Tryz.prog 12 #[.agg #[.int .u8 21, .slice (some ⟨b, 0, none⟩) 3 3, .int .i64 0, .int .u8 0, .bool false, .int .i64 0, .string ⟨#[]⟩], .slice ra N rc] W (ResPost X5 W) := fun W b hb hk => by
      rw [EX5.out, EN.out]
      exact eval12_all r (opE 21 [litE (boo false), e, litE (num n)]) (some ⟨b, 0, none⟩) 3 ra rc W (fits_op (by decide) (by simp) (fun k hk => by simp at hk; rcases hk with rfl | rfl | rfl <;> first | exact HFIT.out | exact fits_lit HFN.out | exact fits_lit (fits_boo _))) HRF.out (at_three hk lit_at (HAT.out.below (stepB HB9.out hb)) lit_at) (HR.out.below (stepB HB9.out hb)) (tabs_below HT.out (stepB HB9.out hb) h3) (cell_keep (stepB HB9.out hb) HE.out) (Nat.le_trans h3 (stepB HB9.out hb).size)
    have HE20 := Lib.hid he
    clear he
    go_upto_region 20 with fail
    have hS : ∀ W, Below w9.heap.size w9 W → W.cell? ⟨BN, 0, none⟩ = some (.int .u8 2) ∧ W.cell? ⟨BN, 1, none⟩ = some (.slice none 0 0) ∧ W.cell? ⟨BN, 2, none⟩ = some (.int .i64 0) ∧ W.cell? ⟨BN, 3, none⟩ = some (.int .u8 2) ∧ W.cell? ⟨BN, 4, none⟩ = some (.bool false) ∧ W.cell? ⟨BN, 5, none⟩ = some (.int .i64 0) ∧ W.cell? ⟨BN, 6, none⟩ = some (.string ⟨#[]⟩) ∧ W.cell? ⟨H, 0, none⟩ = some (.int .u8 e.op) ∧ W.cell? ⟨H, 1, none⟩ = some (.slice a e.kids.length cc) ∧ W.cell? ⟨H, 2, none⟩ = some (.int .i64 e.col) ∧ W.cell? ⟨H, 3, none⟩ = some (.int .u8 e.lit.kind) ∧ W.cell? ⟨H, 4, none⟩ = some (.bool e.lit.bool) ∧ W.cell? ⟨H, 5, none⟩ = some (.int .i64 e.lit.int) ∧ W.cell? ⟨H, 6, none⟩ = some (.string e.lit.text) ∧ W.cell? ⟨BV, 0, none⟩ = some (.int .u8 2) ∧ W.cell? ⟨BV, 1, none⟩ = some (.slice none 0 0) ∧ W.cell? ⟨BV, 2, none⟩ = some (.int .i64 0) ∧ W.cell? ⟨BV, 3, none⟩ = some (.int .u8 3) ∧ W.cell? ⟨BV, 4, none⟩ = some (.bool false) ∧ W.cell? ⟨BV, 5, none⟩ = some (.int .i64 n) ∧ W.cell? ⟨BV, 6, none⟩ = some (.string ⟨#[]⟩) ∧ W.cell? ⟨G, 0, none⟩ = some (.slice ra N rc) := fun W hb => ⟨cell_of_heap (keepB Kno.out hb) rfl, cell_of_heap (keepB Kno.out hb) rfl, cell_of_heap (keepB Kno.out hb) rfl, cell_of_heap (keepB Kno.out hb) rfl, cell_of_heap (keepB Kno.out hb) rfl, cell_of_heap (keepB Kno.out hb) rfl, cell_of_heap (keepB Kno.out hb) rfl, cell_of_heap (keepB Ke.out hb) rfl, cell_of_heap (keepB Ke.out hb) rfl, cell_of_heap (keepB Ke.out hb) rfl, cell_of_heap (keepB Ke.out hb) rfl, cell_of_heap (keepB Ke.out hb) rfl, cell_of_heap (keepB Ke.out hb) rfl, cell_of_heap (keepB Ke.out hb) rfl, cell_of_heap (keepB Kfive.out hb) rfl, cell_of_heap (keepB Kfive.out hb) rfl, cell_of_heap (keepB Kfive.out hb) rfl, cell_of_heap (keepB Kfive.out hb) rfl, cell_of_heap (keepB Kfive.out hb) rfl, cell_of_heap (keepB Kfive.out hb) rfl, cell_of_heap (keepB Kfive.out hb) rfl, cell_keep hb KG.out⟩
    have HS20 := Lib.hid hS
    clear hS
    go_cut [21, 22] from 115 to 126 (fun sb se wx => ∃ B, sb = .pointer (some ⟨B, 0, none⟩) ∧ se = .int .u16 X5.2 ∧ wx.heap[B]? = some (.cells #[.int .u8 X5.1.kind, .bool X5.1.bool, .int .i64 X5.1.int, .string X5.1.text] 25 (0, 0)) ∧ Below w9.heap.size w9 wx)
    case first =>
      have CB0 := Lib.hid (show Below w9.heap.size w9 w9.drew from ⟨rfl, rfl, rfl, Nat.le_refl _, fun _ _ => rfl⟩)
      refine wp_region_held_drew (S := fun W => W.cell? ⟨BN, 0, none⟩ = some (.int .u8 2) ∧ W.cell? ⟨BN, 1, none⟩ = some (.slice none 0 0) ∧ W.cell? ⟨BN, 2, none⟩ = some (.int .i64 0) ∧ W.cell? ⟨BN, 3, none⟩ = some (.int .u8 2) ∧ W.cell? ⟨BN, 4, none⟩ = some (.bool false) ∧ W.cell? ⟨BN, 5, none⟩ = some (.int .i64 0) ∧ W.cell? ⟨BN, 6, none⟩ = some (.string ⟨#[]⟩) ∧ W.cell? ⟨H, 0, none⟩ = some (.int .u8 e.op) ∧ W.cell? ⟨H, 1, none⟩ = some (.slice a e.kids.length cc) ∧ W.cell? ⟨H, 2, none⟩ = some (.int .i64 e.col) ∧ W.cell? ⟨H, 3, none⟩ = some (.int .u8 e.lit.kind) ∧ W.cell? ⟨H, 4, none⟩ = some (.bool e.lit.bool) ∧ W.cell? ⟨H, 5, none⟩ = some (.int .i64 e.lit.int) ∧ W.cell? ⟨H, 6, none⟩ = some (.string e.lit.text) ∧ W.cell? ⟨BV, 0, none⟩ = some (.int .u8 2) ∧ W.cell? ⟨BV, 1, none⟩ = some (.slice none 0 0) ∧ W.cell? ⟨BV, 2, none⟩ = some (.int .i64 0) ∧ W.cell? ⟨BV, 3, none⟩ = some (.int .u8 3) ∧ W.cell? ⟨BV, 4, none⟩ = some (.bool false) ∧ W.cell? ⟨BV, 5, none⟩ = some (.int .i64 n) ∧ W.cell? ⟨BV, 6, none⟩ = some (.string ⟨#[]⟩) ∧ W.cell? ⟨G, 0, none⟩ = some (.slice ra N rc)) (by kernel_rfl) (HS20.out _ CB0.out) (fun hHeld => ?_)
      refine wpAnyH_take (i := 0) (oi := ⟨some 116, _, _, _, _, _⟩) (v := ?_) rfl (by kernel_rfl) (by kernel_rfl) (by kernel_rfl) (fun _ _ _ h => h) (Or.inl ⟨by rfl, ?_⟩) (by assumption) ?_; rotate_left; (intro w hSw; (try dsimp only at hSw); go_simp; (try with_reducible rfl)); simp only [Act.put, List.setIfInBounds_toArray, List.set_cons_zero, List.set_cons_succ]
      refine wpAnyH_take (i := 1) (oi := ⟨some 117, _, _, _, _, _⟩) (v := ?_) rfl (by kernel_rfl) (by kernel_rfl) (by kernel_rfl) (fun _ _ _ h => h) (Or.inl ⟨by rfl, ?_⟩) (by assumption) ?_; rotate_left; (intro w hSw; (try dsimp only at hSw); go_simp; (try with_reducible rfl)); simp only [Act.put, List.setIfInBounds_toArray, List.set_cons_zero, List.set_cons_succ]
      refine wpAnyH_take (i := 2) (oi := ⟨some 118, _, _, _, _, _⟩) (v := ?_) rfl (by kernel_rfl) (by kernel_rfl) (by kernel_rfl) (fun _ _ _ h => h) (Or.inl ⟨by rfl, ?_⟩) (by assumption) ?_; rotate_left; (intro w hSw; (try dsimp only at hSw); go_simp; (try with_reducible rfl)); simp only [Act.put, List.setIfInBounds_toArray, List.set_cons_zero, List.set_cons_succ]
      refine wpAnyH_take (i := 5) (oi := ⟨some 121, _, _, _, _, _⟩) (v := ?_) rfl (by kernel_rfl) (by kernel_rfl) (by kernel_rfl) (fun _ _ _ h => h) (Or.inl ⟨by rfl, ?_⟩) (by assumption) ?_; rotate_left; (intro w hSw; (try dsimp only at hSw); go_simp; (try with_reducible rfl)); simp only [Act.put, List.setIfInBounds_toArray, List.set_cons_zero, List.set_cons_succ]
      refine wpAnyH_take (i := 6) (oi := ⟨some 122, _, _, _, _, _⟩) (v := ?_) rfl (by kernel_rfl) (by kernel_rfl) (by kernel_rfl) (fun _ _ _ h => h) (Or.inl ⟨by rfl, ?_⟩) (by assumption) ?_; rotate_left; (intro w hSw; (try dsimp only at hSw); go_simp; (try with_reducible rfl)); simp only [Act.put, List.setIfInBounds_toArray, List.set_cons_zero, List.set_cons_succ]
      refine wpAnyH_take (i := 7) (oi := ⟨some 123, _, _, _, _, _⟩) (v := ?_) rfl (by kernel_rfl) (by kernel_rfl) (by kernel_rfl) (fun _ _ _ h => h) (Or.inl ⟨by rfl, ?_⟩) (by assumption) ?_; rotate_left; (intro w hSw; (try dsimp only at hSw); go_simp; (try with_reducible rfl)); simp only [Act.put, List.setIfInBounds_toArray, List.set_cons_zero, List.set_cons_succ]
      refine wpAnyH_ready (rs := [3, 12]) (by kernel_rfl) (by simp) ?_
      refine AllReadyH.cons (o := ⟨some 119, _, _, _, _, _⟩) rfl (fun K hK => ?_) (AllReadyH.cons (o := ⟨some 21, _, _, _, _, _⟩) rfl (fun K hK => ?_) (AllReadyH.nil))
      · refine step_build3 rfl (.tmp 116) (.tmp 117) (.tmp 118) rfl #[.int .u8 2, .slice none 0 0, .int .i64 0, .int .u8 2, .bool false, .int .i64 0, .string ⟨#[]⟩] #[.int .u8 e.op, .slice a e.kids.length cc, .int .i64 e.col, .int .u8 e.lit.kind, .bool e.lit.bool, .int .i64 e.lit.int, .string e.lit.text] #[.int .u8 2, .slice none 0 0, .int .i64 0, .int .u8 3, .bool false, .int .i64 n, .string ⟨#[]⟩] (by simp [Act.eval]) (by simp [Act.eval]) (by simp [Act.eval]) rfl rfl rfl ?_
        intro b69 V69 hV hb
        have CB69 := Lib.hid (show Below w9.heap.size w9 V69 by rw [hV]; exact CB0.out.alloc CB0.out.size _)
        have KB69 := Lib.hid (show V69.heap[b69]? = some (.cells (#[.int .u8 2, .slice none 0 0, .int .i64 0, .int .u8 2, .bool false, .int .i64 0, .string ⟨#[]⟩] ++ #[.int .u8 e.op, .slice a e.kids.length cc, .int .i64 e.col, .int .u8 e.lit.kind, .bool e.lit.bool, .int .i64 e.lit.int, .string e.lit.text] ++ #[.int .u8 2, .slice none 0 0, .int .i64 0, .int .u8 3, .bool false, .int .i64 n, .string ⟨#[]⟩]) 27 (0, 0)) by rw [hV, hb]; exact heap_alloc_new _ _)
        clear hV hb
        refine hK.out _ _ (HS20.out _ CB69.out) (fun hHeld => ?_)
        clear hK K
        simp only [Act.put, List.setIfInBounds_toArray, List.set_cons_zero, List.set_cons_succ]
        refine wpAnyH_ready (rs := [4, 12]) (by kernel_rfl) (by simp) ?_
        refine AllReadyH.cons (o := ⟨some 120, _, _, _, _, _⟩) rfl (fun K hK => ?_) (AllReadyH.cons (o := ⟨some 21, _, _, _, _, _⟩) rfl (fun K hK => ?_) (AllReadyH.nil))
        · go_simp
          go_at_call 24
          refine (op_24 _ _ _ _ _).mono ?_
          rintro ev V70 ⟨rfl, hbx⟩
          have CB70 := Lib.hid (stepB CB69.out hbx)
          have KB70 := Lib.hid (keepB KB69.out hbx)
          clear hbx
          go_wp2_with fail
          refine hK.out _ _ (HS20.out _ CB70.out) (fun hHeld => ?_)
          clear hK K
          skip
          refine wpAnyH_ready (rs := [8, 12]) (by kernel_rfl) (by simp) ?_
          refine AllReadyH.cons (o := ⟨some 124, _, _, _, _, _⟩) rfl (fun K hK => ?_) (AllReadyH.cons (o := ⟨some 21, _, _, _, _, _⟩) rfl (fun K hK => ?_) (AllReadyH.nil))
          · go_simp
            go_at_call 12
            with_reducible refine (HE20.out _ _ CB70.out KB70.out).mono ?_
            rintro ev V71 ⟨rfl, hbx⟩
            unfold resT Dat.agg
            have CB71 := Lib.hid (stepB CB70.out hbx)
            have KB71 := Lib.hid (keepB KB70.out hbx)
            clear hbx
            go_wp2_with fail
            refine hK.out _ _ (HS20.out _ CB71.out) (fun hHeld => ?_)
            clear hK K
            skip
            refine wpAnyH_take (i := 9) (oi := ⟨some 115, _, _, _, _, _⟩) (v := ?_) rfl (by kernel_rfl) (by kernel_rfl) (by kernel_rfl) (fun _ _ _ h => h) (Or.inl ⟨by rfl, ?_⟩) (by assumption) ?_; rotate_left; (intro w hSw; (try dsimp only at hSw); go_simp; (try with_reducible rfl)); simp only [Act.put, List.setIfInBounds_toArray, List.set_cons_zero, List.set_cons_succ]
            refine wpAnyH_take (i := 10) (oi := ⟨some 125, _, _, _, _, _⟩) (v := ?_) rfl (by kernel_rfl) (by kernel_rfl) (by kernel_rfl) (fun _ _ _ h => h) (Or.inl ⟨by rfl, ?_⟩) (by assumption) ?_; rotate_left; (intro w hSw; (try dsimp only at hSw); go_simp; (try with_reducible rfl)); simp only [Act.put, List.setIfInBounds_toArray, List.set_cons_zero, List.set_cons_succ]
            refine wpAnyH_take (i := 11) (oi := ⟨some 126, _, _, _, _, _⟩) (v := ?_) rfl (by kernel_rfl) (by kernel_rfl) (by kernel_rfl) (fun _ _ _ h => h) (Or.inl ⟨by rfl, ?_⟩) (by assumption) ?_; rotate_left; (intro w hSw; (try dsimp only at hSw); go_simp; (try with_reducible rfl)); simp only [Act.put, List.setIfInBounds_toArray, List.set_cons_zero, List.set_cons_succ]
            refine wpAnyH_ready (rs := [12]) (by kernel_rfl) (by simp) ?_
            refine AllReadyH.cons (o := ⟨some 21, _, _, _, _, _⟩) rfl (fun K hK => ?_) (AllReadyH.nil)
            refine step_alloc25 rfl rfl ?_
            intro b72 V72 hV hb
            have CB72 := Lib.hid (show Below w9.heap.size w9 V72 by rw [hV]; exact CB71.out.alloc CB71.out.size _)
            have KA72 := Lib.hid (show V72.heap[b72]? = some (.cells #[.int .u8 0, .bool false, .int .i64 0, .string ⟨#[]⟩] 25 (0, 0)) by rw [hV, hb]; exact heap_alloc_new _ _)
            have HB72 : w9.heap.size ≤ b72 := by rw [hb]; exact CB71.out.size
            have LB72 := Lib.hid HB72
            have KB72 := Lib.hid (show V72.heap[b69]? = some (.cells (#[.int .u8 2, .slice none 0 0, .int .i64 0, .int .u8 2, .bool false, .int .i64 0, .string ⟨#[]⟩] ++ #[.int .u8 e.op, .slice a e.kids.length cc, .int .i64 e.col, .int .u8 e.lit.kind, .bool e.lit.bool, .int .i64 e.lit.int, .string e.lit.text] ++ #[.int .u8 2, .slice none 0 0, .int .i64 0, .int .u8 3, .bool false, .int .i64 n, .string ⟨#[]⟩]) 27 (0, 0)) by rw [hV]; exact keepAt' KB71.out _)
            clear hV hb HB72
            refine hK.out _ _ (HS20.out _ CB72.out) (fun hHeld => ?_)
            clear hK K
            simp only [Act.put, List.setIfInBounds_toArray, List.set_cons_zero, List.set_cons_succ]
            refine wpAnyH_ready (rs := [13]) (by kernel_rfl) (by simp) ?_
            refine AllReadyH.cons (o := ⟨none, _, _, _, _, _⟩) rfl (fun K hK => ?_) (AllReadyH.nil)
            refine step_store25 rfl (.tmp 21) (.tmp 125) rfl (by simp [Act.eval]) (d := X5.1) (by simp [Act.eval, Dat.agg]) KA72.out ?_
            intro V73 hV
            have CB73 := Lib.hid (show Below w9.heap.size w9 V73 by rw [hV]; exact setRow4_below CB72.out LB72.out)
            have KA73 := Lib.hid (show V73.heap[b72]? = some (.cells #[.int .u8 X5.1.kind, .bool X5.1.bool, .int .i64 X5.1.int, .string X5.1.text] 25 (0, 0)) by rw [hV]; exact setRow4_at KA72.out)
            clear hV
            refine hK.out _ _ (HS20.out _ CB73.out) (fun hHeld => ?_)
            clear hK K
            skip
            refine wpAnyH_take (i := 14) (oi := ⟨some 22, _, _, _, _, _⟩) (v := ?_) rfl (by kernel_rfl) (by kernel_rfl) (by kernel_rfl) (fun _ _ _ h => h) (Or.inl ⟨by rfl, ?_⟩) (by assumption) ?_; rotate_left; (intro w hSw; (try dsimp only at hSw); go_simp; (try with_reducible rfl)); simp only [Act.put, List.setIfInBounds_toArray, List.set_cons_zero, List.set_cons_succ]
            refine wpAnyH_done (by kernel_rfl) ?_ _
            have CE := CB73
            have KE := KA73
            go_wp2
            go_meet
            exact ⟨_, rfl, rfl, KE.out, CE.out⟩
          · refine step_alloc25 rfl rfl ?_
            intro b74 V74 hV hb
            have CB74 := Lib.hid (show Below w9.heap.size w9 V74 by rw [hV]; exact CB70.out.alloc CB70.out.size _)
            have KA74 := Lib.hid (show V74.heap[b74]? = some (.cells #[.int .u8 0, .bool false, .int .i64 0, .string ⟨#[]⟩] 25 (0, 0)) by rw [hV, hb]; exact heap_alloc_new _ _)
            have HB74 : w9.heap.size ≤ b74 := by rw [hb]; exact CB70.out.size
            have LB74 := Lib.hid HB74
            have KB74 := Lib.hid (show V74.heap[b69]? = some (.cells (#[.int .u8 2, .slice none 0 0, .int .i64 0, .int .u8 2, .bool false, .int .i64 0, .string ⟨#[]⟩] ++ #[.int .u8 e.op, .slice a e.kids.length cc, .int .i64 e.col, .int .u8 e.lit.kind, .bool e.lit.bool, .int .i64 e.lit.int, .string e.lit.text] ++ #[.int .u8 2, .slice none 0 0, .int .i64 0, .int .u8 3, .bool false, .int .i64 n, .string ⟨#[]⟩]) 27 (0, 0)) by rw [hV]; exact keepAt' KB70.out _)
            clear hV hb HB74
            refine hK.out _ _ (HS20.out _ CB74.out) (fun hHeld => ?_)
            clear hK K
            simp only [Act.put, List.setIfInBounds_toArray, List.set_cons_zero, List.set_cons_succ]
            refine wpAnyH_ready (rs := [8]) (by kernel_rfl) (by simp) ?_
            refine AllReadyH.cons (o := ⟨some 124, _, _, _, _, _⟩) rfl (fun K hK => ?_) (AllReadyH.nil)
            go_simp
            go_at_call 12
            with_reducible refine (HE20.out _ _ CB74.out KB74.out).mono ?_
            rintro ev V75 ⟨rfl, hbx⟩
            unfold resT Dat.agg
            have CB75 := Lib.hid (stepB CB74.out hbx)
            have KA75 := Lib.hid (keepB KA74.out hbx)
            have KB75 := Lib.hid (keepB KB74.out hbx)
            clear hbx
            go_wp2_with fail
            refine hK.out _ _ (HS20.out _ CB75.out) (fun hHeld => ?_)
            clear hK K
            skip
            refine wpAnyH_take (i := 9) (oi := ⟨some 115, _, _, _, _, _⟩) (v := ?_) rfl (by kernel_rfl) (by kernel_rfl) (by kernel_rfl) (fun _ _ _ h => h) (Or.inl ⟨by rfl, ?_⟩) (by assumption) ?_; rotate_left; (intro w hSw; (try dsimp only at hSw); go_simp; (try with_reducible rfl)); simp only [Act.put, List.setIfInBounds_toArray, List.set_cons_zero, List.set_cons_succ]
            refine wpAnyH_take (i := 10) (oi := ⟨some 125, _, _, _, _, _⟩) (v := ?_) rfl (by kernel_rfl) (by kernel_rfl) (by kernel_rfl) (fun _ _ _ h => h) (Or.inl ⟨by rfl, ?_⟩) (by assumption) ?_; rotate_left; (intro w hSw; (try dsimp only at hSw); go_simp; (try with_reducible rfl)); simp only [Act.put, List.setIfInBounds_toArray, List.set_cons_zero, List.set_cons_succ]
            refine wpAnyH_take (i := 11) (oi := ⟨some 126, _, _, _, _, _⟩) (v := ?_) rfl (by kernel_rfl) (by kernel_rfl) (by kernel_rfl) (fun _ _ _ h => h) (Or.inl ⟨by rfl, ?_⟩) (by assumption) ?_; rotate_left; (intro w hSw; (try dsimp only at hSw); go_simp; (try with_reducible rfl)); simp only [Act.put, List.setIfInBounds_toArray, List.set_cons_zero, List.set_cons_succ]
            refine wpAnyH_ready (rs := [13]) (by kernel_rfl) (by simp) ?_
            refine AllReadyH.cons (o := ⟨none, _, _, _, _, _⟩) rfl (fun K hK => ?_) (AllReadyH.nil)
            refine step_store25 rfl (.tmp 21) (.tmp 125) rfl (by simp [Act.eval]) (d := X5.1) (by simp [Act.eval, Dat.agg]) KA75.out ?_
            intro V76 hV
            have CB76 := Lib.hid (show Below w9.heap.size w9 V76 by rw [hV]; exact setRow4_below CB75.out LB74.out)
            have KA76 := Lib.hid (show V76.heap[b74]? = some (.cells #[.int .u8 X5.1.kind, .bool X5.1.bool, .int .i64 X5.1.int, .string X5.1.text] 25 (0, 0)) by rw [hV]; exact setRow4_at KA75.out)
            clear hV
            refine hK.out _ _ (HS20.out _ CB76.out) (fun hHeld => ?_)
            clear hK K
            skip
            refine wpAnyH_take (i := 14) (oi := ⟨some 22, _, _, _, _, _⟩) (v := ?_) rfl (by kernel_rfl) (by kernel_rfl) (by kernel_rfl) (fun _ _ _ h => h) (Or.inl ⟨by rfl, ?_⟩) (by assumption) ?_; rotate_left; (intro w hSw; (try dsimp only at hSw); go_simp; (try with_reducible rfl)); simp only [Act.put, List.setIfInBounds_toArray, List.set_cons_zero, List.set_cons_succ]
            refine wpAnyH_done (by kernel_rfl) ?_ _
            have CE := CB76
            have KE := KA76
            go_wp2
            go_meet
            exact ⟨_, rfl, rfl, KE.out, CE.out⟩
        · refine step_alloc25 rfl rfl ?_
          intro b77 V77 hV hb
          have CB77 := Lib.hid (show Below w9.heap.size w9 V77 by rw [hV]; exact CB69.out.alloc CB69.out.size _)
          have KA77 := Lib.hid (show V77.heap[b77]? = some (.cells #[.int .u8 0, .bool false, .int .i64 0, .string ⟨#[]⟩] 25 (0, 0)) by rw [hV, hb]; exact heap_alloc_new _ _)
          have HB77 : w9.heap.size ≤ b77 := by rw [hb]; exact CB69.out.size
          have LB77 := Lib.hid HB77
          have KB77 := Lib.hid (show V77.heap[b69]? = some (.cells (#[.int .u8 2, .slice none 0 0, .int .i64 0, .int .u8 2, .bool false, .int .i64 0, .string ⟨#[]⟩] ++ #[.int .u8 e.op, .slice a e.kids.length cc, .int .i64 e.col, .int .u8 e.lit.kind, .bool e.lit.bool, .int .i64 e.lit.int, .string e.lit.text] ++ #[.int .u8 2, .slice none 0 0, .int .i64 0, .int .u8 3, .bool false, .int .i64 n, .string ⟨#[]⟩]) 27 (0, 0)) by rw [hV]; exact keepAt' KB69.out _)
          clear hV hb HB77
          refine hK.out _ _ (HS20.out _ CB77.out) (fun hHeld => ?_)
          clear hK K
          simp only [Act.put, List.setIfInBounds_toArray, List.set_cons_zero, List.set_cons_succ]
          refine wpAnyH_ready (rs := [4]) (by kernel_rfl) (by simp) ?_
          refine AllReadyH.cons (o := ⟨some 120, _, _, _, _, _⟩) rfl (fun K hK => ?_) (AllReadyH.nil)
          go_simp
          go_at_call 24
          refine (op_24 _ _ _ _ _).mono ?_
          rintro ev V78 ⟨rfl, hbx⟩
          have CB78 := Lib.hid (stepB CB77.out hbx)
          have KA78 := Lib.hid (keepB KA77.out hbx)
          have KB78 := Lib.hid (keepB KB77.out hbx)
          clear hbx
          go_wp2_with fail
          refine hK.out _ _ (HS20.out _ CB78.out) (fun hHeld => ?_)
          clear hK K
          skip
          refine wpAnyH_ready (rs := [8]) (by kernel_rfl) (by simp) ?_
          refine AllReadyH.cons (o := ⟨some 124, _, _, _, _, _⟩) rfl (fun K hK => ?_) (AllReadyH.nil)
          go_simp
          go_at_call 12
          with_reducible refine (HE20.out _ _ CB78.out KB78.out).mono ?_
          rintro ev V79 ⟨rfl, hbx⟩
          unfold resT Dat.agg
          have CB79 := Lib.hid (stepB CB78.out hbx)
          have KA79 := Lib.hid (keepB KA78.out hbx)
          have KB79 := Lib.hid (keepB KB78.out hbx)
          clear hbx
          go_wp2_with fail
          refine hK.out _ _ (HS20.out _ CB79.out) (fun hHeld => ?_)
          clear hK K
          skip
          refine wpAnyH_take (i := 9) (oi := ⟨some 115, _, _, _, _, _⟩) (v := ?_) rfl (by kernel_rfl) (by kernel_rfl) (by kernel_rfl) (fun _ _ _ h => h) (Or.inl ⟨by rfl, ?_⟩) (by assumption) ?_; rotate_left; (intro w hSw; (try dsimp only at hSw); go_simp; (try with_reducible rfl)); simp only [Act.put, List.setIfInBounds_toArray, List.set_cons_zero, List.set_cons_succ]
          refine wpAnyH_take (i := 10) (oi := ⟨some 125, _, _, _, _, _⟩) (v := ?_) rfl (by kernel_rfl) (by kernel_rfl) (by kernel_rfl) (fun _ _ _ h => h) (Or.inl ⟨by rfl, ?_⟩) (by assumption) ?_; rotate_left; (intro w hSw; (try dsimp only at hSw); go_simp; (try with_reducible rfl)); simp only [Act.put, List.setIfInBounds_toArray, List.set_cons_zero, List.set_cons_succ]
          refine wpAnyH_take (i := 11) (oi := ⟨some 126, _, _, _, _, _⟩) (v := ?_) rfl (by kernel_rfl) (by kernel_rfl) (by kernel_rfl) (fun _ _ _ h => h) (Or.inl ⟨by rfl, ?_⟩) (by assumption) ?_; rotate_left; (intro w hSw; (try dsimp only at hSw); go_simp; (try with_reducible rfl)); simp only [Act.put, List.setIfInBounds_toArray, List.set_cons_zero, List.set_cons_succ]
          refine wpAnyH_ready (rs := [13]) (by kernel_rfl) (by simp) ?_
          refine AllReadyH.cons (o := ⟨none, _, _, _, _, _⟩) rfl (fun K hK => ?_) (AllReadyH.nil)
          refine step_store25 rfl (.tmp 21) (.tmp 125) rfl (by simp [Act.eval]) (d := X5.1) (by simp [Act.eval, Dat.agg]) KA79.out ?_
          intro V80 hV
          have CB80 := Lib.hid (show Below w9.heap.size w9 V80 by rw [hV]; exact setRow4_below CB79.out LB77.out)
          have KA80 := Lib.hid (show V80.heap[b77]? = some (.cells #[.int .u8 X5.1.kind, .bool X5.1.bool, .int .i64 X5.1.int, .string X5.1.text] 25 (0, 0)) by rw [hV]; exact setRow4_at KA79.out)
          clear hV
          refine hK.out _ _ (HS20.out _ CB80.out) (fun hHeld => ?_)
          clear hK K
          skip
          refine wpAnyH_take (i := 14) (oi := ⟨some 22, _, _, _, _, _⟩) (v := ?_) rfl (by kernel_rfl) (by kernel_rfl) (by kernel_rfl) (fun _ _ _ h => h) (Or.inl ⟨by rfl, ?_⟩) (by assumption) ?_; rotate_left; (intro w hSw; (try dsimp only at hSw); go_simp; (try with_reducible rfl)); simp only [Act.put, List.setIfInBounds_toArray, List.set_cons_zero, List.set_cons_succ]
          refine wpAnyH_done (by kernel_rfl) ?_ _
          have CE := CB80
          have KE := KA80
          go_wp2
          go_meet
          exact ⟨_, rfl, rfl, KE.out, CE.out⟩
      · refine step_alloc25 rfl rfl ?_
        intro b81 V81 hV hb
        have CB81 := Lib.hid (show Below w9.heap.size w9 V81 by rw [hV]; exact CB0.out.alloc CB0.out.size _)
        have KA81 := Lib.hid (show V81.heap[b81]? = some (.cells #[.int .u8 0, .bool false, .int .i64 0, .string ⟨#[]⟩] 25 (0, 0)) by rw [hV, hb]; exact heap_alloc_new _ _)
        have HB81 : w9.heap.size ≤ b81 := by rw [hb]; exact CB0.out.size
        have LB81 := Lib.hid HB81
        clear hV hb HB81
        refine hK.out _ _ (HS20.out _ CB81.out) (fun hHeld => ?_)
        clear hK K
        simp only [Act.put, List.setIfInBounds_toArray, List.set_cons_zero, List.set_cons_succ]
        refine wpAnyH_ready (rs := [3]) (by kernel_rfl) (by simp) ?_
        refine AllReadyH.cons (o := ⟨some 119, _, _, _, _, _⟩) rfl (fun K hK => ?_) (AllReadyH.nil)
        refine step_build3 rfl (.tmp 116) (.tmp 117) (.tmp 118) rfl #[.int .u8 2, .slice none 0 0, .int .i64 0, .int .u8 2, .bool false, .int .i64 0, .string ⟨#[]⟩] #[.int .u8 e.op, .slice a e.kids.length cc, .int .i64 e.col, .int .u8 e.lit.kind, .bool e.lit.bool, .int .i64 e.lit.int, .string e.lit.text] #[.int .u8 2, .slice none 0 0, .int .i64 0, .int .u8 3, .bool false, .int .i64 n, .string ⟨#[]⟩] (by simp [Act.eval]) (by simp [Act.eval]) (by simp [Act.eval]) rfl rfl rfl ?_
        intro b82 V82 hV hb
        have CB82 := Lib.hid (show Below w9.heap.size w9 V82 by rw [hV]; exact CB81.out.alloc CB81.out.size _)
        have KB82 := Lib.hid (show V82.heap[b82]? = some (.cells (#[.int .u8 2, .slice none 0 0, .int .i64 0, .int .u8 2, .bool false, .int .i64 0, .string ⟨#[]⟩] ++ #[.int .u8 e.op, .slice a e.kids.length cc, .int .i64 e.col, .int .u8 e.lit.kind, .bool e.lit.bool, .int .i64 e.lit.int, .string e.lit.text] ++ #[.int .u8 2, .slice none 0 0, .int .i64 0, .int .u8 3, .bool false, .int .i64 n, .string ⟨#[]⟩]) 27 (0, 0)) by rw [hV, hb]; exact heap_alloc_new _ _)
        have KA82 := Lib.hid (show V82.heap[b81]? = some (.cells #[.int .u8 0, .bool false, .int .i64 0, .string ⟨#[]⟩] 25 (0, 0)) by rw [hV]; exact keepAt' KA81.out _)
        clear hV hb
        refine hK.out _ _ (HS20.out _ CB82.out) (fun hHeld => ?_)
        clear hK K
        simp only [Act.put, List.setIfInBounds_toArray, List.set_cons_zero, List.set_cons_succ]
        refine wpAnyH_ready (rs := [4]) (by kernel_rfl) (by simp) ?_
        refine AllReadyH.cons (o := ⟨some 120, _, _, _, _, _⟩) rfl (fun K hK => ?_) (AllReadyH.nil)
        go_simp
        go_at_call 24
        refine (op_24 _ _ _ _ _).mono ?_
        rintro ev V83 ⟨rfl, hbx⟩
        have CB83 := Lib.hid (stepB CB82.out hbx)
        have KA83 := Lib.hid (keepB KA82.out hbx)
        have KB83 := Lib.hid (keepB KB82.out hbx)
        clear hbx
        go_wp2_with fail
        refine hK.out _ _ (HS20.out _ CB83.out) (fun hHeld => ?_)
        clear hK K
        skip
        refine wpAnyH_ready (rs := [8]) (by kernel_rfl) (by simp) ?_
        refine AllReadyH.cons (o := ⟨some 124, _, _, _, _, _⟩) rfl (fun K hK => ?_) (AllReadyH.nil)
        go_simp
        go_at_call 12
        with_reducible refine (HE20.out _ _ CB83.out KB83.out).mono ?_
        rintro ev V84 ⟨rfl, hbx⟩
        unfold resT Dat.agg
        have CB84 := Lib.hid (stepB CB83.out hbx)
        have KA84 := Lib.hid (keepB KA83.out hbx)
        have KB84 := Lib.hid (keepB KB83.out hbx)
        clear hbx
        go_wp2_with fail
        refine hK.out _ _ (HS20.out _ CB84.out) (fun hHeld => ?_)
        clear hK K
        skip
        refine wpAnyH_take (i := 9) (oi := ⟨some 115, _, _, _, _, _⟩) (v := ?_) rfl (by kernel_rfl) (by kernel_rfl) (by kernel_rfl) (fun _ _ _ h => h) (Or.inl ⟨by rfl, ?_⟩) (by assumption) ?_; rotate_left; (intro w hSw; (try dsimp only at hSw); go_simp; (try with_reducible rfl)); simp only [Act.put, List.setIfInBounds_toArray, List.set_cons_zero, List.set_cons_succ]
        refine wpAnyH_take (i := 10) (oi := ⟨some 125, _, _, _, _, _⟩) (v := ?_) rfl (by kernel_rfl) (by kernel_rfl) (by kernel_rfl) (fun _ _ _ h => h) (Or.inl ⟨by rfl, ?_⟩) (by assumption) ?_; rotate_left; (intro w hSw; (try dsimp only at hSw); go_simp; (try with_reducible rfl)); simp only [Act.put, List.setIfInBounds_toArray, List.set_cons_zero, List.set_cons_succ]
        refine wpAnyH_take (i := 11) (oi := ⟨some 126, _, _, _, _, _⟩) (v := ?_) rfl (by kernel_rfl) (by kernel_rfl) (by kernel_rfl) (fun _ _ _ h => h) (Or.inl ⟨by rfl, ?_⟩) (by assumption) ?_; rotate_left; (intro w hSw; (try dsimp only at hSw); go_simp; (try with_reducible rfl)); simp only [Act.put, List.setIfInBounds_toArray, List.set_cons_zero, List.set_cons_succ]
        refine wpAnyH_ready (rs := [13]) (by kernel_rfl) (by simp) ?_
        refine AllReadyH.cons (o := ⟨none, _, _, _, _, _⟩) rfl (fun K hK => ?_) (AllReadyH.nil)
        refine step_store25 rfl (.tmp 21) (.tmp 125) rfl (by simp [Act.eval]) (d := X5.1) (by simp [Act.eval, Dat.agg]) KA84.out ?_
        intro V85 hV
        have CB85 := Lib.hid (show Below w9.heap.size w9 V85 by rw [hV]; exact setRow4_below CB84.out LB81.out)
        have KA85 := Lib.hid (show V85.heap[b81]? = some (.cells #[.int .u8 X5.1.kind, .bool X5.1.bool, .int .i64 X5.1.int, .string X5.1.text] 25 (0, 0)) by rw [hV]; exact setRow4_at KA84.out)
        clear hV
        refine hK.out _ _ (HS20.out _ CB85.out) (fun hHeld => ?_)
        clear hK K
        skip
        refine wpAnyH_take (i := 14) (oi := ⟨some 22, _, _, _, _, _⟩) (v := ?_) rfl (by kernel_rfl) (by kernel_rfl) (by kernel_rfl) (fun _ _ _ h => h) (Or.inl ⟨by rfl, ?_⟩) (by assumption) ?_; rotate_left; (intro w hSw; (try dsimp only at hSw); go_simp; (try with_reducible rfl)); simp only [Act.put, List.setIfInBounds_toArray, List.set_cons_zero, List.set_cons_succ]
        refine wpAnyH_done (by kernel_rfl) ?_ _
        have CE := CB85
        have KE := KA85
        go_wp2
        go_meet
        exact ⟨_, rfl, rfl, KE.out, CE.out⟩
    obtain ⟨B21, rfl, rfl, k21, hbc⟩ := hcut
    generalize wc = w10 at *
    have R4 := Lib.hid k21
    have R0 := Lib.hid (keepB R0.out hbc)
    have R1 := Lib.hid (keepB R1.out hbc)
    have R2 := Lib.hid (keepB R2.out hbc)
    have R3 := Lib.hid (keepB R3.out hbc)
    have Ke := Lib.hid (keepB Ke.out hbc)
    have Kyes := Lib.hid (keepB Kyes.out hbc)
    have Kno := Lib.hid (keepB Kno.out hbc)
    have Kfive := Lib.hid (keepB Kfive.out hbc)
    have hg := cell_keep hbc KG.out
    have KG := Lib.hid hg
    have HB10 := Lib.hid (stepB HB9.out hbc)
    clear hbc hg k21 HS20 HE20
    have ke := Ke.out
    have kn := Kno.out
    have kf := Kfive.out
    have y00 := cell_of_heap (o := 0) kn rfl
    have y01 := cell_of_heap (o := 1) kn rfl
    have y02 := cell_of_heap (o := 2) kn rfl
    have y03 := cell_of_heap (o := 3) kn rfl
    have y04 := cell_of_heap (o := 4) kn rfl
    have y05 := cell_of_heap (o := 5) kn rfl
    have y06 := cell_of_heap (o := 6) kn rfl
    have y10 := cell_of_heap (o := 0) ke rfl
    have y11 := cell_of_heap (o := 1) ke rfl
    have y12 := cell_of_heap (o := 2) ke rfl
    have y13 := cell_of_heap (o := 3) ke rfl
    have y14 := cell_of_heap (o := 4) ke rfl
    have y15 := cell_of_heap (o := 5) ke rfl
    have y16 := cell_of_heap (o := 6) ke rfl
    have y20 := cell_of_heap (o := 0) kf rfl
    have y21 := cell_of_heap (o := 1) kf rfl
    have y22 := cell_of_heap (o := 2) kf rfl
    have y23 := cell_of_heap (o := 3) kf rfl
    have y24 := cell_of_heap (o := 4) kf rfl
    have y25 := cell_of_heap (o := 5) kf rfl
    have y26 := cell_of_heap (o := 6) kf rfl
    clear ke kn kf
    go_wp2_with fail
    refine (op_24 _ _ _ _ _).mono ?_
    rintro ev z1 ⟨rfl, hbx⟩
    have KB := Lib.hid (one_at hbx)
    have hbx := stepA hbx
    have HB11 := Lib.hid (stepB HB10.out hbx)
    have Kfive := Lib.hid (keepB Kfive.out hbx)
    have R0 := Lib.hid (keepB R0.out hbx)
    have R1 := Lib.hid (keepB R1.out hbx)
    have R2 := Lib.hid (keepB R2.out hbx)
    have R3 := Lib.hid (keepB R3.out hbx)
    have R4 := Lib.hid (keepB R4.out hbx)
    have hck := chk_21 (opE 21 [litE (boo false), e, litE (num n)]) (some ⟨w10.heap.size, 0, none⟩) 3 z1 (fits_op (by decide) (by simp) (fun k hk => by simp at hk; rcases hk with rfl | rfl | rfl <;> first | exact HFIT.out | exact fits_lit HFN.out | exact fits_lit (fits_boo _))) (at_three KB.out lit_at (HAT.out.below HB11.out) lit_at) (tabs_below HT.out HB11.out h3) (Nat.le_trans h3 HB11.out.size)
    have HCK := Lib.hid hck
    clear hbx hck KB y00 y01 y02 y03 y04 y05 y06 y10 y11 y12 y13 y14 y15 y16 y20 y21 y22 y23 y24 y25 y26
    by_cases hroom : (opE 21 [litE (boo false), e, litE (num n)]).may okD = true
    rotate_left
    · rw [if_neg hroom] at HCK
      clear hroom
      go_wp2_with fail
      refine HCK.out.mono ?_
      rintro ev z2 ⟨rfl, hbx⟩
      have HBx := Lib.hid (stepB HB11.out hbx)
      clear hbx
      go_wp2_with fail
      refine (HKN.out _ HBx.out).mono ?_
      rintro ev w19 ⟨rfl, hb9⟩
      have HB9 := Lib.hid (stepB HBx.out hb9)
      clear hb9
      go_wp2
      go_ret
      exact ⟨rfl, HB9.out⟩
    rw [if_pos hroom] at HCK
    obtain ⟨e1, e2, e3, e4, e5⟩ := lazy_law (r := r) (n := n) (by rw [← EN.out]; exact HWI.out) hroom
    obtain rfl : X1 = (boo false, 0) := EX1.out.trans e1
    obtain rfl : X2 = (boo true, 0) := EX2.out.trans e2
    obtain rfl : X3 = (num n, 0) := EX3.out.trans e3
    obtain rfl : X4 = (num n, 0) := EX4.out.trans e4
    obtain rfl : X5 = (num n, 0) := EX5.out.trans e5
    clear hroom e1 e2 e3 e4 e5
    go_wp2_with fail
    refine HCK.out.mono ?_
    rintro ev z2 ⟨rfl, hbx⟩
    have HB12 := Lib.hid (stepB HB11.out hbx)
    have Kfive := Lib.hid (keepB Kfive.out hbx)
    have R0 := Lib.hid (keepB R0.out hbx)
    have R1 := Lib.hid (keepB R1.out hbx)
    have R2 := Lib.hid (keepB R2.out hbx)
    have R3 := Lib.hid (keepB R3.out hbx)
    have R4 := Lib.hid (keepB R4.out hbx)
    clear hbx HCK
    go_wp2_with fail
    refine (HKN.out _ HB12.out).mono ?_
    rintro ev z3 ⟨rfl, hbx⟩
    have HB13 := Lib.hid (stepB HB12.out hbx)
    have Kfive := Lib.hid (keepB Kfive.out hbx)
    have R0 := Lib.hid (keepB R0.out hbx)
    have R1 := Lib.hid (keepB R1.out hbx)
    have R2 := Lib.hid (keepB R2.out hbx)
    have R3 := Lib.hid (keepB R3.out hbx)
    have R4 := Lib.hid (keepB R4.out hbx)
    have p0 : z3.cell? ⟨B13, 0, none⟩ = some (.int .u8 2) := cell_of_heap R0.out rfl
    have p1 : z3.cell? ⟨B13, 1, none⟩ = some (.bool false) := cell_of_heap R0.out rfl
    have p2 : z3.cell? ⟨B15, 1, none⟩ = some (.bool true) := cell_of_heap R1.out rfl
    have q00 : z3.cell? ⟨B17, 0, none⟩ = some (.int .u8 3) := cell_of_heap R2.out rfl
    have q01 : z3.cell? ⟨B17, 1, none⟩ = some (.bool false) := cell_of_heap R2.out rfl
    have q02 : z3.cell? ⟨B17, 2, none⟩ = some (.int .i64 n) := cell_of_heap R2.out rfl
    have q03 : z3.cell? ⟨B17, 3, none⟩ = some (.string ⟨#[]⟩) := cell_of_heap R2.out rfl
    have q10 : z3.cell? ⟨B19, 0, none⟩ = some (.int .u8 3) := cell_of_heap R3.out rfl
    have q11 : z3.cell? ⟨B19, 1, none⟩ = some (.bool false) := cell_of_heap R3.out rfl
    have q12 : z3.cell? ⟨B19, 2, none⟩ = some (.int .i64 n) := cell_of_heap R3.out rfl
    have q13 : z3.cell? ⟨B19, 3, none⟩ = some (.string ⟨#[]⟩) := cell_of_heap R3.out rfl
    have q20 : z3.cell? ⟨B21, 0, none⟩ = some (.int .u8 3) := cell_of_heap R4.out rfl
    have q21 : z3.cell? ⟨B21, 1, none⟩ = some (.bool false) := cell_of_heap R4.out rfl
    have q22 : z3.cell? ⟨B21, 2, none⟩ = some (.int .i64 n) := cell_of_heap R4.out rfl
    have q23 : z3.cell? ⟨B21, 3, none⟩ = some (.string ⟨#[]⟩) := cell_of_heap R4.out rfl
    have q90 : z3.cell? ⟨BV, 3, none⟩ = some (.int .u8 3) := cell_of_heap Kfive.out rfl
    have q91 : z3.cell? ⟨BV, 4, none⟩ = some (.bool false) := cell_of_heap Kfive.out rfl
    have q92 : z3.cell? ⟨BV, 5, none⟩ = some (.int .i64 n) := cell_of_heap Kfive.out rfl
    have q93 : z3.cell? ⟨BV, 6, none⟩ = some (.string ⟨#[]⟩) := cell_of_heap Kfive.out rfl
    clear hbx
    go_wp2
    go_ret
    exact ⟨rfl, HB13.out⟩
end Go.Proofs.YtolikaginhjbhaaGreatDoor
