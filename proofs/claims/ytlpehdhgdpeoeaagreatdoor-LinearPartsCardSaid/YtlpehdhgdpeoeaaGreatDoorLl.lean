import Derived.Test.YtlpehdhgdpeoeaaGreatDoorLk
import Derived.Test.YtlpehdhgdpeoeaaGreatDoorUi
import Derived.Deep.CutRange
/- Filter's closure. -/
namespace Go.Proofs.YtlpehdhgdpeoeaaGreatDoor
open Go.RowKit Go.Pen Go.Shelf
attribute [local go_sem] Oper.semAt_some

theorem keepB {W W' : World} {g : Nat} {y : Obj} (h : W.heap[g]? = some y) (hb : Below W.heap.size W W') : W'.heap[g]? = some y := (hb.block _ (lt_of_heap h)).trans h
theorem keepAt' {W : World} {g : Nat} {y : Obj} (h : W.heap[g]? = some y) (A : Obj) : (W.alloc A).heap[g]? = some y := (Below.heap_alloc _ _ _ (lt_of_heap h)).trans h
theorem stepB {w W W' : World} (h : Below w.heap.size w W) (hb : Below W.heap.size W W') : Below w.heap.size w W' := h.trans (hb.mono h.size)
theorem step_alloc55 {ops : Array Oper} {o : Oper} {a : Act} {W : World} {K : Act → World → Prop} {Q : Exit → Act → World → Prop} {E : Prop} (hgd : o.guard = none)
    (ho : o.op = .alloc 55)
    (h : ∀ b W', W' = W.alloc (.cells #[.int .u8 0, .bool false, .int .i64 0, .string ⟨#[]⟩] 55) → b = W.heap.size → K (a.put o.dst (.pointer (some ⟨b, 0, none⟩))) W') :
    if Region.wanted o (yielded ops a.tmps) = true then Oper.wp Tryz.prog o a W K Q else E := by
  have hw : Region.wanted o (yielded ops a.tmps) = true := by simp [Region.wanted, hgd]
  rw [if_pos hw]
  have h := h W.heap.size _ rfl rfl
  unfold Oper.wp execOp
  simp only [ho]
  go_simp
  exact h
theorem step_store55 {ops : Array Oper} {o : Oper} {a : Act} {W : World} {K : Act → World → Prop} {Q : Exit → Act → World → Prop} {E : Prop} (hgd : o.guard = none) (x y : Operand)
    (ho : o.op = .store 55 x y) {B : Nat} (hx : a.eval x = .pointer (some ⟨B, 0, none⟩)) {d : Dat} (hy : a.eval y = d.agg) {z0 z1 z2 z3 : Value} (hh : W.heap[B]? = some (.cells #[z0, z1, z2, z3] 55 (0, 0)))
    (h : ∀ W', W' = setRow4 W B (.int .u8 d.kind) (.bool d.bool) (.int .i64 d.int) (.string d.text) → K (a.put o.dst undef) W') :
    if Region.wanted o (yielded ops a.tmps) = true then Oper.wp Tryz.prog o a W K Q else E := by
  have hw : Region.wanted o (yielded ops a.tmps) = true := by simp [Region.wanted, hgd]
  rw [if_pos hw]
  have h := h _ rfl
  have z0 := cell_of_heap (o := 0) hh rfl
  have g0 := frozen_of_heap (o := 0) hh
  have z1 := cell_of_heap (o := 1) hh rfl
  have g1 := frozen_of_heap (o := 1) hh
  have z2 := cell_of_heap (o := 2) hh rfl
  have g2 := frozen_of_heap (o := 2) hh
  have z3 := cell_of_heap (o := 3) hh rfl
  have g3 := frozen_of_heap (o := 3) hh
  unfold Dat.agg at hy
  unfold Oper.wp execOp
  simp only [ho, hx, hy]
  go_simp
  exact h

/-- what a filter says of a row: is it kept, and the number of an error -/
def filtR (r : List Dat) : List ET → Bool × Nat
  | [] => (true, 0)
  | e :: es => if (evalR r e).2 ≠ 0 then (false, (evalR r e).2) else if (evalR r e).1.kind ≠ 2 ∧ (evalR r e).1.kind ≠ 1 then (false, 31) else if (evalR r e).1.bool = false ∨ (evalR r e).1.kind = 1 then (false, 0) else filtR r es
theorem filt_drop {es : List ET} {i : Nat} {x : ET} (h : es[i]? = some x) : es.drop i = x :: es.drop (i + 1) := by
  obtain ⟨hl, rfl⟩ := List.getElem?_eq_some_iff.1 h
  exact List.drop_eq_getElem_cons hl

set_option maxRecDepth 100000 in
set_option maxHeartbeats 1000000 in
theorem filt_24 (r : List Dat) (es : List ET) (p Y : Nat) (ra : Option Addr) (rc : Nat) (ep : Int) (lv : Value) (df : Int) (ev : Value) (w : World) (hp : w.heap[p]? = some (.cells #[.slice ra r.length rc, .int .u64 ep, lv, .int .i64 df] 51 (0, 0))) (hr : RowAt w (.slice ra r.length rc) r) (hrf : ∀ d ∈ r, d.fits)
    (hY : w.heap[Y]? = some (.cells #[ev] 23 (0, 0))) (hes : ExprsAt w ev es) (fes : ∀ e ∈ es, e.fits) (hel : es.length ≤ 140737488355328) (hT : Lib.Utf8Tabs 1 2 w) (hE : ErrTy w) (h3 : 3 ≤ w.heap.size) :
    Calls Tryz.prog 24 #[.pointer (some ⟨p, 0, none⟩), .pointer (some ⟨Y, 0, none⟩)] w fun e w' => e = .returned (.tuple #[.bool (filtR r es).1, .int .u16 (filtR r es).2]) ∧ Below w.heap.size w w' := by
  obtain ⟨ea, ec, rfl, -, heo⟩ := ExprsAt.iff.1 hes
  obtain ⟨K, eK⟩ : ∃ K, K = es.length := ⟨_, rfl⟩
  obtain ⟨N, eN⟩ : ∃ N, N = r.length := ⟨_, rfl⟩
  rw [← eK] at hel hY
  rw [← eN] at hp hr
  have EK := Lib.hid eK
  have EN := Lib.hid eN
  have HEO := Lib.hid heo
  have FES := Lib.hid fes
  have HR := Lib.hid hr
  have HRF := Lib.hid hrf
  have HT := Lib.hid hT
  have HE := Lib.hid hE
  have HP := Lib.hid hp
  have yY := cell_of_heap (o := 0) hY rfl
  clear eK eN heo fes hes hr hrf hT hE hp hY
  go_enter Tryz.func24, Tryz.ntmps24
  go_wp2_with fail
  go_loopg [11] K (fun g s11 wr => ∃ i : Nat, i ≤ K ∧ g = K - i ∧ s11 = .int .i64 i ∧ filtR r es = filtR r (es.drop i) ∧ Below w.heap.size w wr)
  case atStart => exact ⟨0, Nat.zero_le _, rfl, rfl, rfl, Below.refl _ _⟩
  case round =>
    obtain ⟨i, hi, hgi, rfl, hfl, hbr⟩ := hrel
    have HFL := Lib.hid hfl
    have HBR := Lib.hid hbr
    clear hfl hbr
    by_cases hlt : i < K
    · obtain ⟨x, hx⟩ : ∃ x, es[i]? = some x := ⟨es[i]'(by rw [← EK.out]; exact hlt), List.getElem?_eq_getElem _⟩
      obtain ⟨b, o, rfl, -, hg⟩ := HEO.out (fun e => by rw [e] at hx; simp at hx)
      obtain ⟨kv, hkc, hkat⟩ := hg.get hx
      obtain ⟨xa, xc, rfl⟩ := hkat.slice
      obtain ⟨k0, k1, k2, k3, k4, k5, k6⟩ := hkc.below HBR.out
      have HXA := Lib.hid hkat
      have HXF := Lib.hid (FES.out x (List.mem_of_getElem? hx))
      have HD := Lib.hid (filt_drop hx)
      clear hg hkc hkat hx
      go_upto_region 4 with fail
      obtain ⟨w1, hw1⟩ : ∃ w1, w1 = wr.alloc (.cells #[.int .u8 x.op, .slice xa x.kids.length xc, .int .i64 x.col, .int .u8 x.lit.kind, .bool x.lit.bool, .int .i64 x.lit.int, .string x.lit.text] 57) := ⟨_, rfl⟩
      obtain ⟨H, eH⟩ : ∃ H, H = wr.heap.size := ⟨_, rfl⟩
      have hb1 : Below wr.heap.size wr w1 := by rw [hw1]; exact one_below _ _
      have HB1 := Lib.hid (stepB HBR.out hb1)
      have KX : Hid (w1.heap[H]? = some (.cells #[.int .u8 x.op, .slice xa x.kids.length xc, .int .i64 x.col, .int .u8 x.lit.kind, .bool x.lit.bool, .int .i64 x.lit.int, .string x.lit.text] 57 (0, 0))) := Lib.hid (by rw [hw1, eH]; exact heap_alloc_new _ _)
      rw [← hw1, ← eH]
      clear hw1 eH hb1 k0 k1 k2 k3 k4 k5 k6
      obtain ⟨X, eX⟩ : ∃ X, X = evalR r x := ⟨_, rfl⟩
      have EX := Lib.hid eX
      clear eX
      have hev : ∀ W, Below w1.heap.size w1 W → Calls Tryz.prog 25 #[.agg #[.int .u8 x.op, .slice xa x.kids.length xc, .int .i64 x.col, .int .u8 x.lit.kind, .bool x.lit.bool, .int .i64 x.lit.int, .string x.lit.text], .slice ra N rc] W (ResPost X W) := fun W hb => by
        rw [EX.out, EN.out]
        have hbw := stepB HB1.out hb
        exact eval12_all r x xa xc ra rc W HXF.out HRF.out (HXA.out.below hbw) (by have := HR.out.below hbw; rw [EN.out] at this; exact this) (tabs_below HT.out hbw h3) (cell_keep hbw HE.out) (Nat.le_trans h3 hbw.size)
      have HEV := Lib.hid hev
      have hs : ∀ W, Below w1.heap.size w1 W → W.cell? ⟨H, 0, none⟩ = some (.int .u8 x.op) ∧ W.cell? ⟨H, 1, none⟩ = some (.slice xa x.kids.length xc) ∧ W.cell? ⟨H, 2, none⟩ = some (.int .i64 x.col) ∧ W.cell? ⟨H, 3, none⟩ = some (.int .u8 x.lit.kind) ∧ W.cell? ⟨H, 4, none⟩ = some (.bool x.lit.bool) ∧ W.cell? ⟨H, 5, none⟩ = some (.int .i64 x.lit.int) ∧ W.cell? ⟨H, 6, none⟩ = some (.string x.lit.text) ∧ W.cell? ⟨p, 0, none⟩ = some (.slice ra N rc) := fun W hb => ⟨cell_of_heap (keepB KX.out hb) rfl, cell_of_heap (keepB KX.out hb) rfl, cell_of_heap (keepB KX.out hb) rfl, cell_of_heap (keepB KX.out hb) rfl, cell_of_heap (keepB KX.out hb) rfl, cell_of_heap (keepB KX.out hb) rfl, cell_of_heap (keepB KX.out hb) rfl, cell_of_heap (keepB HP.out (stepB HB1.out hb)) rfl⟩
      have HS := Lib.hid hs
      clear hev hs
      go_cut [7, 8] from 15 to 23 (fun sb se wx => ∃ B, sb = .pointer (some ⟨B, 0, none⟩) ∧ se = .int .u16 X.2 ∧ wx.heap[B]? = some (.cells #[.int .u8 X.1.kind, .bool X.1.bool, .int .i64 X.1.int, .string X.1.text] 55 (0, 0)) ∧ Below w1.heap.size w1 wx)
      case first =>
        have CB0 := Lib.hid (show Below w1.heap.size w1 w1.drew from ⟨rfl, rfl, rfl, Nat.le_refl _, fun _ _ => rfl⟩)
        refine wp_region_held_drew (S := fun W => W.cell? ⟨H, 0, none⟩ = some (.int .u8 x.op) ∧ W.cell? ⟨H, 1, none⟩ = some (.slice xa x.kids.length xc) ∧ W.cell? ⟨H, 2, none⟩ = some (.int .i64 x.col) ∧ W.cell? ⟨H, 3, none⟩ = some (.int .u8 x.lit.kind) ∧ W.cell? ⟨H, 4, none⟩ = some (.bool x.lit.bool) ∧ W.cell? ⟨H, 5, none⟩ = some (.int .i64 x.lit.int) ∧ W.cell? ⟨H, 6, none⟩ = some (.string x.lit.text) ∧ W.cell? ⟨p, 0, none⟩ = some (.slice ra N rc)) (by kernel_rfl) (HS.out _ CB0.out) (fun hHeld => ?_)
        refine wpAnyH_take (i := 0) (oi := ⟨some 16, _, _, _, _, _⟩) (v := ?_) rfl (by kernel_rfl) (by kernel_rfl) (by kernel_rfl) (fun _ _ _ h => h) (Or.inl ⟨by rfl, ?_⟩) (by assumption) ?_; rotate_left; (intro w hSw; (try dsimp only at hSw); go_simp; (try with_reducible rfl)); simp only [Act.put, List.setIfInBounds_toArray, List.set_cons_zero, List.set_cons_succ]
        refine wpAnyH_take (i := 1) (oi := ⟨some 17, _, _, _, _, _⟩) (v := ?_) rfl (by kernel_rfl) (by kernel_rfl) (by kernel_rfl) (fun _ _ _ h => h) (Or.inl ⟨by rfl, ?_⟩) (by assumption) ?_; rotate_left; (intro w hSw; (try dsimp only at hSw); go_simp; (try with_reducible rfl)); simp only [Act.put, List.setIfInBounds_toArray, List.set_cons_zero, List.set_cons_succ]
        refine wpAnyH_take (i := 2) (oi := ⟨some 18, _, _, _, _, _⟩) (v := ?_) rfl (by kernel_rfl) (by kernel_rfl) (by kernel_rfl) (fun _ _ _ h => h) (Or.inl ⟨by rfl, ?_⟩) (by assumption) ?_; rotate_left; (intro w hSw; (try dsimp only at hSw); go_simp; (try with_reducible rfl)); simp only [Act.put, List.setIfInBounds_toArray, List.set_cons_zero, List.set_cons_succ]
        refine wpAnyH_take (i := 3) (oi := ⟨some 19, _, _, _, _, _⟩) (v := ?_) rfl (by kernel_rfl) (by kernel_rfl) (by kernel_rfl) (fun _ _ _ h => h) (Or.inl ⟨by rfl, ?_⟩) (by assumption) ?_; rotate_left; (intro w hSw; (try dsimp only at hSw); go_simp; (try with_reducible rfl)); simp only [Act.put, List.setIfInBounds_toArray, List.set_cons_zero, List.set_cons_succ]
        refine wpAnyH_take (i := 4) (oi := ⟨some 20, _, _, _, _, _⟩) (v := ?_) rfl (by kernel_rfl) (by kernel_rfl) (by kernel_rfl) (fun _ _ _ h => h) (Or.inl ⟨by rfl, ?_⟩) (by assumption) ?_; rotate_left; (intro w hSw; (try dsimp only at hSw); go_simp; (try with_reducible rfl)); simp only [Act.put, List.setIfInBounds_toArray, List.set_cons_zero, List.set_cons_succ]
        refine wpAnyH_ready (rs := [5, 9]) (by kernel_rfl) (by simp) ?_
        refine AllReadyH.cons (o := ⟨some 21, _, _, _, _, _⟩) rfl (fun K hK => ?_) (AllReadyH.cons (o := ⟨some 7, _, _, _, _, _⟩) rfl (fun K hK => ?_) (AllReadyH.nil))
        · go_simp
          go_at_call 25
          with_reducible refine (HEV.out _ CB0.out).mono ?_
          rintro ev V1 ⟨rfl, hbx⟩
          unfold resT Dat.agg
          have CB1 := Lib.hid (stepB CB0.out hbx)
          clear hbx
          go_wp2_with fail
          refine hK.out _ _ (HS.out _ CB1.out) (fun hHeld => ?_)
          clear hK K
          skip
          refine wpAnyH_take (i := 6) (oi := ⟨some 15, _, _, _, _, _⟩) (v := ?_) rfl (by kernel_rfl) (by kernel_rfl) (by kernel_rfl) (fun _ _ _ h => h) (Or.inl ⟨by rfl, ?_⟩) (by assumption) ?_; rotate_left; (intro w hSw; (try dsimp only at hSw); go_simp; (try with_reducible rfl)); simp only [Act.put, List.setIfInBounds_toArray, List.set_cons_zero, List.set_cons_succ]
          refine wpAnyH_take (i := 7) (oi := ⟨some 22, _, _, _, _, _⟩) (v := ?_) rfl (by kernel_rfl) (by kernel_rfl) (by kernel_rfl) (fun _ _ _ h => h) (Or.inl ⟨by rfl, ?_⟩) (by assumption) ?_; rotate_left; (intro w hSw; (try dsimp only at hSw); go_simp; (try with_reducible rfl)); simp only [Act.put, List.setIfInBounds_toArray, List.set_cons_zero, List.set_cons_succ]
          refine wpAnyH_take (i := 8) (oi := ⟨some 23, _, _, _, _, _⟩) (v := ?_) rfl (by kernel_rfl) (by kernel_rfl) (by kernel_rfl) (fun _ _ _ h => h) (Or.inl ⟨by rfl, ?_⟩) (by assumption) ?_; rotate_left; (intro w hSw; (try dsimp only at hSw); go_simp; (try with_reducible rfl)); simp only [Act.put, List.setIfInBounds_toArray, List.set_cons_zero, List.set_cons_succ]
          refine wpAnyH_ready (rs := [9]) (by kernel_rfl) (by simp) ?_
          refine AllReadyH.cons (o := ⟨some 7, _, _, _, _, _⟩) rfl (fun K hK => ?_) (AllReadyH.nil)
          refine step_alloc55 rfl rfl ?_
          intro b2 V2 hV hb
          have CB2 := Lib.hid (show Below w1.heap.size w1 V2 by rw [hV]; exact CB1.out.alloc CB1.out.size _)
          have KA2 := Lib.hid (show V2.heap[b2]? = some (.cells #[.int .u8 0, .bool false, .int .i64 0, .string ⟨#[]⟩] 55 (0, 0)) by rw [hV, hb]; exact heap_alloc_new _ _)
          have HB2 : w1.heap.size ≤ b2 := by rw [hb]; exact CB1.out.size
          have LB2 := Lib.hid HB2
          clear hV hb HB2
          refine hK.out _ _ (HS.out _ CB2.out) (fun hHeld => ?_)
          clear hK K
          simp only [Act.put, List.setIfInBounds_toArray, List.set_cons_zero, List.set_cons_succ]
          refine wpAnyH_ready (rs := [10]) (by kernel_rfl) (by simp) ?_
          refine AllReadyH.cons (o := ⟨none, _, _, _, _, _⟩) rfl (fun K hK => ?_) (AllReadyH.nil)
          refine step_store55 rfl (.tmp 7) (.tmp 22) rfl (by simp [Act.eval]) (d := X.1) (by simp [Act.eval, Dat.agg]) KA2.out ?_
          intro V3 hV
          have CB3 := Lib.hid (show Below w1.heap.size w1 V3 by rw [hV]; exact setRow4_below CB2.out LB2.out)
          have KA3 := Lib.hid (show V3.heap[b2]? = some (.cells #[.int .u8 X.1.kind, .bool X.1.bool, .int .i64 X.1.int, .string X.1.text] 55 (0, 0)) by rw [hV]; exact setRow4_at KA2.out)
          clear hV
          refine hK.out _ _ (HS.out _ CB3.out) (fun hHeld => ?_)
          clear hK K
          skip
          refine wpAnyH_take (i := 11) (oi := ⟨some 8, _, _, _, _, _⟩) (v := ?_) rfl (by kernel_rfl) (by kernel_rfl) (by kernel_rfl) (fun _ _ _ h => h) (Or.inl ⟨by rfl, ?_⟩) (by assumption) ?_; rotate_left; (intro w hSw; (try dsimp only at hSw); go_simp; (try with_reducible rfl)); simp only [Act.put, List.setIfInBounds_toArray, List.set_cons_zero, List.set_cons_succ]
          refine wpAnyH_done (by kernel_rfl) ?_ _
          have CE := CB3
          have KE := KA3
          go_wp2
          go_meet
          exact ⟨_, rfl, rfl, KE.out, CE.out⟩
        · refine step_alloc55 rfl rfl ?_
          intro b4 V4 hV hb
          have CB4 := Lib.hid (show Below w1.heap.size w1 V4 by rw [hV]; exact CB0.out.alloc CB0.out.size _)
          have KA4 := Lib.hid (show V4.heap[b4]? = some (.cells #[.int .u8 0, .bool false, .int .i64 0, .string ⟨#[]⟩] 55 (0, 0)) by rw [hV, hb]; exact heap_alloc_new _ _)
          have HB4 : w1.heap.size ≤ b4 := by rw [hb]; exact CB0.out.size
          have LB4 := Lib.hid HB4
          clear hV hb HB4
          refine hK.out _ _ (HS.out _ CB4.out) (fun hHeld => ?_)
          clear hK K
          simp only [Act.put, List.setIfInBounds_toArray, List.set_cons_zero, List.set_cons_succ]
          refine wpAnyH_ready (rs := [5]) (by kernel_rfl) (by simp) ?_
          refine AllReadyH.cons (o := ⟨some 21, _, _, _, _, _⟩) rfl (fun K hK => ?_) (AllReadyH.nil)
          go_simp
          go_at_call 25
          with_reducible refine (HEV.out _ CB4.out).mono ?_
          rintro ev V5 ⟨rfl, hbx⟩
          unfold resT Dat.agg
          have CB5 := Lib.hid (stepB CB4.out hbx)
          have KA5 := Lib.hid (keepB KA4.out hbx)
          clear hbx
          go_wp2_with fail
          refine hK.out _ _ (HS.out _ CB5.out) (fun hHeld => ?_)
          clear hK K
          skip
          refine wpAnyH_take (i := 6) (oi := ⟨some 15, _, _, _, _, _⟩) (v := ?_) rfl (by kernel_rfl) (by kernel_rfl) (by kernel_rfl) (fun _ _ _ h => h) (Or.inl ⟨by rfl, ?_⟩) (by assumption) ?_; rotate_left; (intro w hSw; (try dsimp only at hSw); go_simp; (try with_reducible rfl)); simp only [Act.put, List.setIfInBounds_toArray, List.set_cons_zero, List.set_cons_succ]
          refine wpAnyH_take (i := 7) (oi := ⟨some 22, _, _, _, _, _⟩) (v := ?_) rfl (by kernel_rfl) (by kernel_rfl) (by kernel_rfl) (fun _ _ _ h => h) (Or.inl ⟨by rfl, ?_⟩) (by assumption) ?_; rotate_left; (intro w hSw; (try dsimp only at hSw); go_simp; (try with_reducible rfl)); simp only [Act.put, List.setIfInBounds_toArray, List.set_cons_zero, List.set_cons_succ]
          refine wpAnyH_take (i := 8) (oi := ⟨some 23, _, _, _, _, _⟩) (v := ?_) rfl (by kernel_rfl) (by kernel_rfl) (by kernel_rfl) (fun _ _ _ h => h) (Or.inl ⟨by rfl, ?_⟩) (by assumption) ?_; rotate_left; (intro w hSw; (try dsimp only at hSw); go_simp; (try with_reducible rfl)); simp only [Act.put, List.setIfInBounds_toArray, List.set_cons_zero, List.set_cons_succ]
          refine wpAnyH_ready (rs := [10]) (by kernel_rfl) (by simp) ?_
          refine AllReadyH.cons (o := ⟨none, _, _, _, _, _⟩) rfl (fun K hK => ?_) (AllReadyH.nil)
          refine step_store55 rfl (.tmp 7) (.tmp 22) rfl (by simp [Act.eval]) (d := X.1) (by simp [Act.eval, Dat.agg]) KA5.out ?_
          intro V6 hV
          have CB6 := Lib.hid (show Below w1.heap.size w1 V6 by rw [hV]; exact setRow4_below CB5.out LB4.out)
          have KA6 := Lib.hid (show V6.heap[b4]? = some (.cells #[.int .u8 X.1.kind, .bool X.1.bool, .int .i64 X.1.int, .string X.1.text] 55 (0, 0)) by rw [hV]; exact setRow4_at KA5.out)
          clear hV
          refine hK.out _ _ (HS.out _ CB6.out) (fun hHeld => ?_)
          clear hK K
          skip
          refine wpAnyH_take (i := 11) (oi := ⟨some 8, _, _, _, _, _⟩) (v := ?_) rfl (by kernel_rfl) (by kernel_rfl) (by kernel_rfl) (fun _ _ _ h => h) (Or.inl ⟨by rfl, ?_⟩) (by assumption) ?_; rotate_left; (intro w hSw; (try dsimp only at hSw); go_simp; (try with_reducible rfl)); simp only [Act.put, List.setIfInBounds_toArray, List.set_cons_zero, List.set_cons_succ]
          refine wpAnyH_done (by kernel_rfl) ?_ _
          have CE := CB6
          have KE := KA6
          go_wp2
          go_meet
          exact ⟨_, rfl, rfl, KE.out, CE.out⟩
      obtain ⟨B, rfl, rfl, kB, hbc⟩ := hcut
      have HB5 := Lib.hid (stepB HB1.out hbc)
      have z0 := cell_of_heap (o := 0) kB rfl
      have z1 := cell_of_heap (o := 1) kB rfl
      clear HS HEV hbc kB
      obtain ⟨⟨k, bo, nn, tt⟩, c⟩ := X
      simp only [] at z0 z1 ⊢
      by_cases hc : c = 0
      · subst hc
        by_cases hk1 : k = 1
        · subst hk1
          have hfin : filtR r es = (false, 0) := by rw [HFL.out, HD.out, filtR, ← EX.out]; simp
          go_wp2_with fail
          all_goals (go_ret2; exact ⟨by rw [hfin]; rfl, HB5.out⟩)
        · by_cases hk2 : k = 2
          · subst hk2
            rcases bo with _ | _
            · have hfin : filtR r es = (false, 0) := by rw [HFL.out, HD.out, filtR, ← EX.out]; simp
              go_wp2_with fail
              all_goals (go_ret2; exact ⟨by rw [hfin]; rfl, HB5.out⟩)
            · have hfin : filtR r es = filtR r (es.drop (i + 1)) := by rw [HFL.out, HD.out, filtR, ← EX.out]; simp
              have HFIN := Lib.hid hfin
              clear hfin
              go_wp2_with fail
              go_roundg (K - (i + 1))
              case measure => omega
              case rel => exact ⟨i + 1, by omega, rfl, by go_num, HFIN.out, HB5.out⟩
          · have hfin : filtR r es = (false, 31) := by rw [HFL.out, HD.out, filtR, ← EX.out]; simp [hk1, hk2]
            have hk1' : (k != 1) = true := by simp [hk1]
            have hk2' : (k != 2) = true := by simp [hk2]
            go_wp2_with fail
            all_goals first | (go_ret2; exact ⟨by rw [hfin]; rfl, HB5.out⟩) | (exfalso; have hh := ‹(k != 2) = false ∨ (k != 1) = false›; simp [hk1, hk2] at hh)
      · have hfin : filtR r es = (false, c) := by rw [HFL.out, HD.out, filtR, ← EX.out]; simp [hc]
        have hc' : ((c : Int) == 0) = false := by simp; omega
        go_wp2_with fail
        all_goals (go_ret2; exact ⟨by rw [hfin]; rfl, HB5.out⟩)
    · go_wp2_with fail
      go_ret2
      have : es.drop i = [] := List.drop_eq_nil_of_le (by have := EK.out; omega)
      rw [HFL.out, this]
      exact ⟨rfl, HBR.out⟩
end Go.Proofs.YtlpehdhgdpeoeaaGreatDoor
