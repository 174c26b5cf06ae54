import Derived.Test.YtolikaginhjbhaaGreatDoorXk
import Derived.Test.YtolikaginhjbhaaGreatDoorGa
/- ExprChecks: the walk. -/
namespace Go.Proofs.YtolikaginhjbhaaGreatDoor
open Go.RowKit Go.Pen Go.Shelf
attribute [local go_sem] Oper.semAt_some

theorem keepB {W W' : World} {g : Nat} {y : Obj} (h : W.heap[g]? = some y) (hb : Below W.heap.size W W') : W'.heap[g]? = some y := (hb.block _ (lt_of_heap h)).trans h
theorem keepAt' {W : World} {g : Nat} {y : Obj} (h : W.heap[g]? = some y) (A : Obj) : (W.alloc A).heap[g]? = some y := (Below.heap_alloc _ _ _ (lt_of_heap h)).trans h
theorem stepB {w W W' : World} (h : Below w.heap.size w W) (hb : Below W.heap.size W W') : Below w.heap.size w W' := h.trans (hb.mono h.size)
theorem stepA {W W' : World} {A : Obj} (hb : Below (W.alloc A).heap.size (W.alloc A) W') : Below W.heap.size W W' := (one_below _ _).trans (hb.mono (by simp))

theorem ups_eq : ∀ {a b : List Int}, a.Pairwise (· < ·) → b.Pairwise (· < ·) → (∀ c, c ∈ a ↔ c ∈ b) → a = b
  | [], [], _, _, _ => rfl
  | [], y :: b, _, _, h => by have := (h y).2 (by simp); cases this
  | x :: a, [], _, _, h => by have := (h x).1 (by simp); cases this
  | x :: a, y :: b, ha, hb, h => by
    rw [List.pairwise_cons] at ha hb
    have hxy : x = y := by
      have h1 := (h x).1 (by simp)
      have h2 := (h y).2 (by simp)
      rcases List.mem_cons.1 h1 with e | e
      · exact e
      · rcases List.mem_cons.1 h2 with e2 | e2
        · exact e2.symm
        · have := hb.1 x e
          have := ha.1 y e2
          omega
    subst hxy
    rw [ups_eq ha.2 hb.2 fun c => ⟨fun hc => ?_, fun hc => ?_⟩]
    · have h1 := (h c).1 (by simp [hc])
      rcases List.mem_cons.1 h1 with e | e
      · have := ha.1 c hc; omega
      · exact e
    · have h1 := (h c).2 (by simp [hc])
      rcases List.mem_cons.1 h1 with e | e
      · have := hb.1 c hc; omega
      · exact e
theorem Ups.eq {l a b : List Int} (ha : Ups l a) (hb : Ups l b) : a = b := ups_eq ha.up hb.up fun c => (ha.mem c).trans (hb.mem c).symm
theorem Ups.len {l a : List Int} (ha : Ups l a) : a.length ≤ l.length := by
  have : ∀ (a l : List Int), a.Pairwise (· < ·) → (∀ c ∈ a, c ∈ l) → a.length ≤ l.length := by
    intro a
    induction a with
    | nil => intro l _ _; simp
    | cons x a ih =>
      intro l hp hm
      rw [List.pairwise_cons] at hp
      have := ih (l.erase x) hp.2 fun c hc => by
        have hne : c ≠ x := fun e => by have := hp.1 c hc; omega
        rw [List.mem_erase_of_ne hne]
        exact hm c (by simp [hc])
      have hx := hm x (by simp)
      rw [List.length_erase_of_mem hx] at this
      have := List.length_pos_of_mem hx
      simp only [List.length_cons]; omega
  exact this a l ha.up fun c hc => (ha.mem c).1 hc
theorem colsOf_len (ps : List (Nat × ET)) : (colsOf ps).length ≤ ps.length := by
  unfold colsOf
  rw [List.length_map]
  exact List.length_filter_le _ _


theorem Below.drew' {B : Nat} {w W : World} (h : Below B w W) : Below B w W.drew := ⟨h.os, h.tape, h.output, h.size, h.block⟩
theorem typeC_bounds (cols : List Int) (e : ET) (hf : e.fits) : (0 ≤ (typeC cols e).1 ∧ (typeC cols e).1 ≤ 255) ∧ (typeC cols e).2 ≤ 31 := by
  unfold typeC
  split
  · cases h : e.typ cols with
    | none => exact ⟨by decide, by decide⟩
    | some k => exact ⟨typ_range e hf k h, Nat.zero_le _⟩
  · exact ⟨by decide, by decide⟩

set_option maxRecDepth 100000 in
set_option maxHeartbeats 8000000 in
theorem checks_7 (kinds : List Int) (e : ET) (a : Option Addr) (cc : Nat) (va : Option Addr) (vcc : Nat) (w : World) (hat : e.At w (.slice a e.kids.length cc)) (hk : KindsOn w kinds (.slice va kinds.length vcc)) (hkr : ∀ x ∈ kinds, 0 ≤ x ∧ x ≤ 255) (hfit : e.fits) (hG : GlobP w) (hE : ErrTy w)
    (hkn : ∀ W, Below w.heap.size w W → Calls Tryz.prog 14 #[] W fun ev W' => ev = .returned (.bool true) ∧ Below W.heap.size W W') :
    Calls Tryz.prog 7 #[e.agg (.slice a e.kids.length cc), .slice va kinds.length vcc] w fun ev w' => ev = .returned (.bool true) ∧ Below w.heap.size w w' := by
  have HAT := Lib.hid hat
  have HK := Lib.hid hk
  have HKR := Lib.hid hkr
  have HG := Lib.hid hG
  have HE := Lib.hid hE
  have HKN := Lib.hid hkn
  have HFIT := Lib.hid hfit
  have h11 : 3 ≤ w.heap.size := by have := hG.big; omega
  have hfar := far_8 e a e.kids.length cc (w.alloc (.cells #[.int .u8 e.op, .slice a e.kids.length cc, .int .i64 e.col, .int .u8 e.lit.kind, .bool e.lit.bool, .int .i64 e.lit.int, .string e.lit.text] 27)) (hat.below (one_below _ _)) hfit
  unfold ET.agg at hfar
  have HFAR := Lib.hid hfar
  obtain ⟨H, eH⟩ : ∃ H, H = w.heap.size := ⟨_, rfl⟩
  have EH := Lib.hid eH
  clear hfar hat hk hkr hG hE hkn hfit eH
  unfold ET.agg
  go_enter Tryz.func7, Tryz.ntmps7
  go_wp2_with fail
  refine HFAR.out.mono ?_
  rintro ev w1 ⟨rfl, hb1⟩
  have k2 := one_at hb1
  rw [← EH.out] at k2 ⊢
  have HB1 := Lib.hid (stepA hb1)
  have K2 := Lib.hid k2
  have y0 := fun A => cell_of_heap (o := 0) (keepAt' k2 A) rfl
  have y1 := fun A => cell_of_heap (o := 1) (keepAt' k2 A) rfl
  have y2 := fun A => cell_of_heap (o := 2) (keepAt' k2 A) rfl
  have y3 := fun A => cell_of_heap (o := 3) (keepAt' k2 A) rfl
  have y4 := fun A => cell_of_heap (o := 4) (keepAt' k2 A) rfl
  have y5 := fun A => cell_of_heap (o := 5) (keepAt' k2 A) rfl
  have y6 := fun A => cell_of_heap (o := 6) (keepAt' k2 A) rfl
  have z0 := cell_of_heap (o := 0) k2 rfl
  have z1 := cell_of_heap (o := 1) k2 rfl
  have z2 := cell_of_heap (o := 2) k2 rfl
  have z3 := cell_of_heap (o := 3) k2 rfl
  have z4 := cell_of_heap (o := 4) k2 rfl
  have z5 := cell_of_heap (o := 5) k2 rfl
  have z6 := cell_of_heap (o := 6) k2 rfl
  clear hb1 k2 HFAR
  by_cases hf : 12000 < e.weight
  · rw [decide_eq_true hf]
    clear hf
    go_wp2
    go_ret
    exact ⟨rfl, HB1.out⟩
  rw [decide_eq_false hf]
  have hsz : e.size ≤ 12000 := by have := e.size_le_weight; omega
  have HSZ := Lib.hid hsz
  have h10 := lent_10 e hsz _ w1 (HAT.out.below HB1.out)
  unfold ET.agg at h10
  have H10 := Lib.hid h10
  clear hf hsz h10
  go_wp2_with fail
  refine H10.out.mono ?_
  rintro ev w2 ⟨kv', rfl, hon2, hb2⟩
  obtain ⟨a5, c5, rfl⟩ := hon2.slice
  have HON2 := Lib.hid hon2
  have K22 := Lib.hid (keepB K2.out hb2)
  have HB2 := Lib.hid (stepB HB1.out hb2)
  clear y0 y1 y2 y3 y4 y5 y6 z0 z1 z2 z3 z4 z5 z6 hb2 hon2 H10 K2
  obtain ⟨X, eX⟩ : ∃ X, X = w2.heap.size := ⟨_, rfl⟩
  have EX := Lib.hid eX
  clear eX
  have h31 := fun (W : World) (hb : Below w2.heap.size w2 W) => type_31 kinds e a5 c5 va vcc W HFIT.out (HON2.out.at.below hb) (HK.out.below (stepB HB2.out hb)) (tabs_below HG.out.tabs (stepB HB2.out hb) h11) (cell_keep (stepB HB2.out hb) HE.out) (Nat.le_trans h11 (stepB HB2.out hb).size) (typed_28 kinds _ HKR.out e)
  have hbd := typeC_bounds kinds e HFIT.out
  obtain ⟨C1, hC1⟩ : ∃ C1, C1 = (typeC kinds e).1 := ⟨_, rfl⟩
  obtain ⟨C2, hC2⟩ : ∃ C2, C2 = (typeC kinds e).2 := ⟨_, rfl⟩
  have h32 := fun (W : World) (hb : Below w.heap.size w W) => rtype_32 kinds e a cc va vcc W HFIT.out (HAT.out.below hb) (HK.out.below hb) HKR.out
  rw [← hC1, ← hC2] at h31 h32 hbd
  unfold ET.agg at h31 h32
  have H31 := Lib.hid h31
  have H32 := Lib.hid h32
  clear h31 h32 hC1 hC2
  go_wp2_with fail
  refine (H31.out _ (one_below _ _)).mono ?_
  rintro ev w4 ⟨rfl, hb4⟩
  have kx := one_at hb4
  rw [← EX.out] at kx ⊢
  have KX := Lib.hid kx
  have K24 := Lib.hid (keepB K22.out (stepA hb4))
  have k2 := K24.out
  have HB24 := Lib.hid (stepA hb4)
  have HB4 := Lib.hid (stepB HB2.out (stepA hb4))
  have y0 := cell_of_heap (o := 0) k2 rfl
  have y1 := cell_of_heap (o := 1) k2 rfl
  have y2 := cell_of_heap (o := 2) k2 rfl
  have y3 := cell_of_heap (o := 3) k2 rfl
  have y4 := cell_of_heap (o := 4) k2 rfl
  have y5 := cell_of_heap (o := 5) k2 rfl
  have y6 := cell_of_heap (o := 6) k2 rfl
  clear kx k2 hb4 H31
  go_wp2_with fail
  refine (H32.out _ HB4.out).mono ?_
  rintro ev w5 ⟨rfl, hb5⟩
  have HB5 := Lib.hid (stepB HB4.out hb5)
  have HB25 := Lib.hid (stepB HB24.out hb5)
  have KE := Lib.hid (keepB K24.out hb5)
  have KXX := Lib.hid (keepB KX.out hb5)
  clear y0 y1 y2 y3 y4 y5 y6 hb5 H32
  have hSS : ∀ W, Below w5.heap.size w5 W → W.cell? ⟨H, 0, none⟩ = some (.int .u8 e.op) ∧ W.cell? ⟨H, 1, none⟩ = some (.slice a e.kids.length cc) ∧ W.cell? ⟨H, 2, none⟩ = some (.int .i64 e.col) ∧ W.cell? ⟨H, 3, none⟩ = some (.int .u8 e.lit.kind) ∧ W.cell? ⟨H, 4, none⟩ = some (.bool e.lit.bool) ∧ W.cell? ⟨H, 5, none⟩ = some (.int .i64 e.lit.int) ∧ W.cell? ⟨H, 6, none⟩ = some (.string e.lit.text) ∧ W.cell? ⟨X, 0, none⟩ = some (.int .u8 e.op) ∧ W.cell? ⟨X, 1, none⟩ = some (.slice a5 e.kids.length c5) ∧ W.cell? ⟨X, 2, none⟩ = some (.int .i64 e.col) ∧ W.cell? ⟨X, 3, none⟩ = some (.int .u8 e.lit.kind) ∧ W.cell? ⟨X, 4, none⟩ = some (.bool e.lit.bool) ∧ W.cell? ⟨X, 5, none⟩ = some (.int .i64 e.lit.int) ∧ W.cell? ⟨X, 6, none⟩ = some (.string e.lit.text) := fun W hb => by
    have h1 := keepB KE.out hb
    have h2 := keepB KXX.out hb
    exact ⟨cell_of_heap h1 rfl, cell_of_heap h1 rfl, cell_of_heap h1 rfl, cell_of_heap h1 rfl, cell_of_heap h1 rfl, cell_of_heap h1 rfl, cell_of_heap h1 rfl, cell_of_heap h2 rfl, cell_of_heap h2 rfl, cell_of_heap h2 rfl, cell_of_heap h2 rfl, cell_of_heap h2 rfl, cell_of_heap h2 rfl, cell_of_heap h2 rfl⟩
  have HS := Lib.hid hSS
  obtain ⟨m, hm⟩ : ∃ m : Int, m = if e.may okD then 0 else 30 := ⟨_, rfl⟩
  have hmb : 0 ≤ m ∧ m ≤ 65535 := by rw [hm]; split <;> decide
  have hxat : ∀ W, Below w5.heap.size w5 W → e.At W (.slice a5 e.kids.length c5) := fun W hb => HON2.out.at.below (stepB HB25.out hb)
  have heat : ∀ W, Below w5.heap.size w5 W → e.At W (.slice a e.kids.length cc) := fun W hb => HAT.out.below (stepB HB5.out hb)
  have hgl : ∀ W, Below w5.heap.size w5 W → GlobP W := fun W hb => HG.out.below (stepB HB5.out hb)
  have c21 := fun (W : World) (hb : Below w5.heap.size w5 W) => chk_21 e a5 c5 W HFIT.out (hxat W hb) (hgl W hb).tabs (by have := (hgl W hb).big; omega)
  have c33 := fun (W : World) (hb : Below w5.heap.size w5 W) => check_33 e a _ cc W (heat W hb) HFIT.out
  have c34 := fun (W : World) (hb : Below w5.heap.size w5 W) => safe_34 e a5 c5 W HFIT.out (hxat W hb)
  have c35 := fun (W : World) (hb : Below w5.heap.size w5 W) => rsafe_35 e a cc W HFIT.out (heat W hb)
  have c22 := fun (W : World) (hb : Below w5.heap.size w5 W) => columns_22 e a5 c5 W HFIT.out (hxat W hb) (by have := HSZ.out; omega)
  have c36 := fun (W : World) (hb : Below w5.heap.size w5 W) => rcolumns_36 e a cc W HFIT.out (heat W hb) (by have := HSZ.out; omega)
  have c37 := fun (W : World) (hb : Below w5.heap.size w5 W) => print_37 e a5 c5 W HSZ.out (hxat W hb) HFIT.out (hgl W hb)
  have c38 := fun (W : World) (hb : Below w5.heap.size w5 W) => rprint_38 e a cc W HSZ.out (heat W hb) HFIT.out
  have c15 := fun (W : World) (hb : Below w5.heap.size w5 W) => same_15 e HSZ.out _ _ W (hxat W hb) (heat W hb)
  have c14 := fun (W : World) (hb : Below w5.heap.size w5 W) => HKN.out W (stepB HB5.out hb)
  have hln : (colsOf (e.pre 1)).length ≤ 12000 := by
    have := colsOf_len (e.pre 1)
    have := pre_len e 1
    have := HSZ.out
    omega
  obtain ⟨SF, eSF⟩ : ∃ SF, SF = e.sf 1 := ⟨_, rfl⟩
  obtain ⟨PR, ePR⟩ : ∃ PR, PR = prW e := ⟨_, rfl⟩
  rw [← eSF] at c34 c35
  rw [← ePR] at c37 c38
  rw [← hm] at c21 c33
  unfold ET.agg at c21 c33 c34 c35 c22 c36 c37 c38 c15
  have HC21 := Lib.hid c21
  have HC33 := Lib.hid c33
  have HC34 := Lib.hid c34
  have HC35 := Lib.hid c35
  have HC22 := Lib.hid c22
  have HC36 := Lib.hid c36
  have HC37 := Lib.hid c37
  have HC38 := Lib.hid c38
  have HC15 := Lib.hid c15
  have HC14 := Lib.hid c14
  have HCLN := Lib.hid hln
  have wm : IntKind.i64.wrap m = m := IntWalk.i64_in _ (by omega)
  have wc : IntKind.i64.wrap (C2 : Int) = (C2 : Int) := IntWalk.i64_in _ (by omega)
  have em : (m == m) = true := by simp
  have ec : (C1 == C1) = true := by simp
  clear hSS hxat heat hgl c21 c33 c34 c35 c22 c36 c37 c38 c15 c14 hln eSF ePR hm
  go_wp2_with fail
  have CB0 := Lib.hid (show Below w5.heap.size w5 w5.drew from ⟨rfl, rfl, rfl, Nat.le_refl _, fun _ _ => rfl⟩)
  refine wp_region_held_drew (S := fun W => W.cell? ⟨H, 0, none⟩ = some (.int .u8 e.op) ∧ W.cell? ⟨H, 1, none⟩ = some (.slice a e.kids.length cc) ∧ W.cell? ⟨H, 2, none⟩ = some (.int .i64 e.col) ∧ W.cell? ⟨H, 3, none⟩ = some (.int .u8 e.lit.kind) ∧ W.cell? ⟨H, 4, none⟩ = some (.bool e.lit.bool) ∧ W.cell? ⟨H, 5, none⟩ = some (.int .i64 e.lit.int) ∧ W.cell? ⟨H, 6, none⟩ = some (.string e.lit.text) ∧ W.cell? ⟨X, 0, none⟩ = some (.int .u8 e.op) ∧ W.cell? ⟨X, 1, none⟩ = some (.slice a5 e.kids.length c5) ∧ W.cell? ⟨X, 2, none⟩ = some (.int .i64 e.col) ∧ W.cell? ⟨X, 3, none⟩ = some (.int .u8 e.lit.kind) ∧ W.cell? ⟨X, 4, none⟩ = some (.bool e.lit.bool) ∧ W.cell? ⟨X, 5, none⟩ = some (.int .i64 e.lit.int) ∧ W.cell? ⟨X, 6, none⟩ = some (.string e.lit.text)) (by kernel_rfl) (HS.out _ CB0.out) (fun hHeld => ?_)
  refine wpAnyH_take (i := 0) (oi := ⟨some 27, _, _, _, _, _⟩) (v := ?_) rfl (by kernel_rfl) (by kernel_rfl) (by kernel_rfl) (fun _ _ _ h => h) (Or.inl ⟨by rfl, ?_⟩) (by assumption) ?_; rotate_left; (intro w hSw; (try dsimp only at hSw); go_simp; (try with_reducible rfl)); (try simp only [Act.put, List.setIfInBounds_toArray, List.set_cons_zero, List.set_cons_succ])
  refine wpAnyH_take (i := 3) (oi := ⟨some 30, _, _, _, _, _⟩) (v := ?_) rfl (by kernel_rfl) (by kernel_rfl) (by kernel_rfl) (fun _ _ _ h => h) (Or.inl ⟨by rfl, ?_⟩) (by assumption) ?_; rotate_left; (intro w hSw; (try dsimp only at hSw); go_simp; (try with_reducible rfl)); (try simp only [Act.put, List.setIfInBounds_toArray, List.set_cons_zero, List.set_cons_succ])
  refine wpAnyH_ready (rs := [1]) (by kernel_rfl) (by simp) ?_
  refine AllReadyH.cons (o := ⟨some 28, _, _, _, _, _⟩) rfl (fun K hK => ?_) (AllReadyH.nil)
  go_simp
  go_at_call 21
  with_reducible refine (HC21.out _ CB0.out).mono ?_
  rintro ev V1 ⟨rfl, hbx⟩
  have CB1 := Lib.hid (CB0.out.trans (hbx.mono CB0.out.size))
  clear hbx
  go_wp2_with fail
  refine hK.out _ _ (HS.out _ CB1.out) (fun hHeld => ?_)
  clear hK K
  skip
  refine wpAnyH_take (i := 2) (oi := ⟨some 29, _, _, _, _, _⟩) (v := ?_) rfl (by kernel_rfl) (by kernel_rfl) (by kernel_rfl) (fun _ _ _ h => h) (Or.inl ⟨by rfl, ?_⟩) (by assumption) ?_; rotate_left; (intro w hSw; (try dsimp only at hSw); go_simp; (try with_reducible rfl)); (try simp only [Act.put, List.setIfInBounds_toArray, List.set_cons_zero, List.set_cons_succ])
  refine wpAnyH_ready (rs := [4]) (by kernel_rfl) (by simp) ?_
  refine AllReadyH.cons (o := ⟨some 31, _, _, _, _, _⟩) rfl (fun K hK => ?_) (AllReadyH.nil)
  go_simp
  go_at_call 33
  with_reducible refine (HC33.out _ CB1.out).mono ?_
  rintro ev V2 ⟨rfl, hbx⟩
  have CB2 := Lib.hid (CB1.out.trans (hbx.mono CB1.out.size))
  clear hbx
  go_wp2_with fail
  refine hK.out _ _ (HS.out _ CB2.out) (fun hHeld => ?_)
  clear hK K
  skip
  refine wpAnyH_take (i := 5) (oi := ⟨some 32, _, _, _, _, _⟩) (v := ?_) rfl (by kernel_rfl) (by kernel_rfl) (by kernel_rfl) (fun _ _ _ h => h) (Or.inl ⟨by rfl, ?_⟩) (by assumption) ?_; rotate_left; (intro w hSw; (try dsimp only at hSw); go_simp; (try with_reducible rfl)); (try simp only [Act.put, List.setIfInBounds_toArray, List.set_cons_zero, List.set_cons_succ])
  refine wpAnyH_take (i := 6) (oi := ⟨some 33, _, _, _, _, _⟩) (v := ?_) rfl (by kernel_rfl) (by kernel_rfl) (by kernel_rfl) (fun _ _ _ h => h) (Or.inl ⟨by rfl, ?_⟩) (by assumption) ?_; rotate_left; (intro w hSw; (try dsimp only at hSw); go_simp; (try with_reducible rfl)); (try simp only [Act.put, List.setIfInBounds_toArray, List.set_cons_zero, List.set_cons_succ])
  refine wpAnyH_take (i := 7) (oi := ⟨some 34, _, _, _, _, _⟩) (v := ?_) rfl (by kernel_rfl) (by kernel_rfl) (by kernel_rfl) (fun _ _ _ h => h) (Or.inl ⟨by rfl, ?_⟩) (by assumption) ?_; rotate_left; (intro w hSw; (try dsimp only at hSw); go_simp; (try with_reducible rfl)); (try simp only [Act.put, List.setIfInBounds_toArray, List.set_cons_zero, List.set_cons_succ])
  refine wpAnyH_take (i := 8) (oi := ⟨some 35, _, _, _, _, _⟩) (v := ?_) rfl (by kernel_rfl) (by kernel_rfl) (by kernel_rfl) (fun _ _ _ h => h) (Or.inl ⟨by rfl, ?_⟩) (by assumption) ?_; rotate_left; (intro w hSw; (try dsimp only at hSw); go_simp; (try with_reducible rfl)); (try simp only [Act.put, List.setIfInBounds_toArray, List.set_cons_zero, List.set_cons_succ])
  refine wpAnyH_take (i := 9) (oi := ⟨some 36, _, _, _, _, _⟩) (v := ?_) rfl (by kernel_rfl) (by kernel_rfl) (by kernel_rfl) (fun _ _ _ h => h) (Or.inl ⟨by rfl, ?_⟩) (by assumption) ?_; rotate_left; (intro w hSw; (try dsimp only at hSw); go_simp; (try with_reducible rfl)); (try simp only [Act.put, List.setIfInBounds_toArray, List.set_cons_zero, List.set_cons_succ])
  refine wpAnyH_take (i := 10) (oi := ⟨some 37, _, _, _, _, _⟩) (v := ?_) rfl (by kernel_rfl) (by kernel_rfl) (by kernel_rfl) (fun _ _ _ h => h) (Or.inl ⟨by rfl, ?_⟩) (by assumption) ?_; rotate_left; (intro w hSw; (try dsimp only at hSw); go_simp; (try with_reducible rfl)); (try simp only [Act.put, List.setIfInBounds_toArray, List.set_cons_zero, List.set_cons_succ])
  refine wpAnyH_take (i := 11) (oi := ⟨some 38, _, _, _, _, _⟩) (v := ?_) rfl (by kernel_rfl) (by kernel_rfl) (by kernel_rfl) (fun _ _ _ h => h) (Or.inl ⟨by rfl, ?_⟩) (by assumption) ?_; rotate_left; (intro w hSw; (try dsimp only at hSw); go_simp; (try with_reducible rfl)); (try simp only [Act.put, List.setIfInBounds_toArray, List.set_cons_zero, List.set_cons_succ])
  refine wpAnyH_take (i := 12) (oi := ⟨some 39, _, _, _, _, _⟩) (v := ?_) rfl (by kernel_rfl) (by kernel_rfl) (by kernel_rfl) (fun _ _ _ h => h) (Or.inl ⟨by rfl, ?_⟩) (by assumption) ?_; rotate_left; (intro w hSw; (try dsimp only at hSw); go_simp; (try with_reducible rfl)); (try simp only [Act.put, List.setIfInBounds_toArray, List.set_cons_zero, List.set_cons_succ])
  refine wpAnyH_take (i := 13) (oi := ⟨some 40, _, _, _, _, _⟩) (v := ?_) rfl (by kernel_rfl) (by kernel_rfl) (by kernel_rfl) (fun _ _ _ h => h) (Or.inl ⟨by rfl, ?_⟩) (by assumption) ?_; rotate_left; (intro w hSw; (try dsimp only at hSw); go_simp; (try with_reducible rfl)); (try simp only [Act.put, List.setIfInBounds_toArray, List.set_cons_zero, List.set_cons_succ])
  refine wpAnyH_take (i := 14) (oi := ⟨some 41, _, _, _, _, _⟩) (v := ?_) rfl (by kernel_rfl) (by kernel_rfl) (by kernel_rfl) (fun _ _ _ h => h) (Or.inl ⟨by rfl, ?_⟩) (by assumption) ?_; rotate_left; (intro w hSw; (try dsimp only at hSw); go_simp; (try with_reducible rfl)); (try simp only [Act.put, List.setIfInBounds_toArray, List.set_cons_zero, List.set_cons_succ])
  refine wpAnyH_take (i := 15) (oi := ⟨some 42, _, _, _, _, _⟩) (v := ?_) rfl (by kernel_rfl) (by kernel_rfl) (by kernel_rfl) (fun _ _ _ h => h) (Or.inl ⟨by rfl, ?_⟩) (by assumption) ?_; rotate_left; (intro w hSw; (try dsimp only at hSw); go_simp; (try with_reducible rfl)); (try simp only [Act.put, List.setIfInBounds_toArray, List.set_cons_zero, List.set_cons_succ])
  refine wpAnyH_take (i := 16) (oi := ⟨some 43, _, _, _, _, _⟩) (v := ?_) rfl (by kernel_rfl) (by kernel_rfl) (by kernel_rfl) (fun _ _ _ h => h) (Or.inl ⟨by rfl, ?_⟩) (by assumption) ?_; rotate_left; (intro w hSw; (try dsimp only at hSw); go_simp; (try with_reducible rfl)); (try simp only [Act.put, List.setIfInBounds_toArray, List.set_cons_zero, List.set_cons_succ])
  refine wpAnyH_take (i := 17) (oi := ⟨some 44, _, _, _, _, _⟩) (v := ?_) rfl (by kernel_rfl) (by kernel_rfl) (by kernel_rfl) (fun _ _ _ h => h) (Or.inl ⟨by rfl, ?_⟩) (by assumption) ?_; rotate_left; (intro w hSw; (try dsimp only at hSw); go_simp; (try with_reducible rfl)); (try simp only [Act.put, List.setIfInBounds_toArray, List.set_cons_zero, List.set_cons_succ])
  refine wpAnyH_take (i := 18) (oi := ⟨some 45, _, _, _, _, _⟩) (v := ?_) rfl (by kernel_rfl) (by kernel_rfl) (by kernel_rfl) (fun _ _ _ h => h) (Or.inl ⟨by rfl, ?_⟩) (by assumption) ?_; rotate_left; (intro w hSw; (try dsimp only at hSw); go_simp; (try with_reducible rfl)); (try simp only [Act.put, List.setIfInBounds_toArray, List.set_cons_zero, List.set_cons_succ])
  refine wpAnyH_take (i := 20) (oi := ⟨some 47, _, _, _, _, _⟩) (v := ?_) rfl (by kernel_rfl) (by kernel_rfl) (by kernel_rfl) (fun _ _ _ h => h) (Or.inl ⟨by rfl, ?_⟩) (by assumption) ?_; rotate_left; (intro w hSw; (try dsimp only at hSw); go_simp; (try with_reducible rfl)); (try simp only [Act.put, List.setIfInBounds_toArray, List.set_cons_zero, List.set_cons_succ])
  refine wpAnyH_ready (rs := [19]) (by kernel_rfl) (by simp) ?_
  refine AllReadyH.cons (o := ⟨some 46, _, _, _, _, _⟩) rfl (fun K hK => ?_) (AllReadyH.nil)
  go_simp
  go_at_call 34
  with_reducible refine (HC34.out _ CB2.out).mono ?_
  rintro ev V3 ⟨rfl, hbx⟩
  have CB3 := Lib.hid (CB2.out.trans (hbx.mono CB2.out.size))
  clear hbx
  go_wp2_with fail
  refine hK.out _ _ (HS.out _ CB3.out) (fun hHeld => ?_)
  clear hK K
  skip
  refine wpAnyH_ready (rs := [21]) (by kernel_rfl) (by simp) ?_
  refine AllReadyH.cons (o := ⟨some 48, _, _, _, _, _⟩) rfl (fun K hK => ?_) (AllReadyH.nil)
  go_simp
  go_at_call 35
  with_reducible refine (HC35.out _ CB3.out).mono ?_
  rintro ev V4 ⟨rfl, hbx⟩
  have CB4 := Lib.hid (CB3.out.trans (hbx.mono CB3.out.size))
  clear hbx
  go_wp2_with fail
  refine hK.out _ _ (HS.out _ CB4.out) (fun hHeld => ?_)
  clear hK K
  skip
  refine wpAnyH_take (i := 22) (oi := ⟨some 49, _, _, _, _, _⟩) (v := ?_) rfl (by kernel_rfl) (by kernel_rfl) (by kernel_rfl) (fun _ _ _ h => h) (Or.inl ⟨by rfl, ?_⟩) (by assumption) ?_; rotate_left; (intro w hSw; (try dsimp only at hSw); go_simp; (try with_reducible rfl)); (try simp only [Act.put, List.setIfInBounds_toArray, List.set_cons_zero, List.set_cons_succ])
  refine wpAnyH_take (i := 23) (oi := ⟨some 50, _, _, _, _, _⟩) (v := ?_) rfl (by kernel_rfl) (by kernel_rfl) (by kernel_rfl) (fun _ _ _ h => h) (Or.inl ⟨by rfl, ?_⟩) (by assumption) ?_; rotate_left; (intro w hSw; (try dsimp only at hSw); go_simp; (try with_reducible rfl)); (try simp only [Act.put, List.setIfInBounds_toArray, List.set_cons_zero, List.set_cons_succ])
  refine wpAnyH_take (i := 24) (oi := ⟨some 10, _, _, _, _, _⟩) (v := ?_) rfl (by kernel_rfl) (by kernel_rfl) (by kernel_rfl) (fun _ _ _ h => h) (Or.inl ⟨by rfl, ?_⟩) (by assumption) ?_; rotate_left; (intro w hSw; (try dsimp only at hSw); go_simp; (try with_reducible rfl)); (try simp only [Act.put, List.setIfInBounds_toArray, List.set_cons_zero, List.set_cons_succ])
  refine wpAnyH_done (by kernel_rfl) ?_ _
  have HB6 := Lib.hid CB4.out
  go_wp2_with fail
  have CB6d := Lib.hid (show Below w5.heap.size w5 _ from Below.drew' HB6.out)
  refine wp_region_held_drew (S := fun W => W.cell? ⟨H, 0, none⟩ = some (.int .u8 e.op) ∧ W.cell? ⟨H, 1, none⟩ = some (.slice a e.kids.length cc) ∧ W.cell? ⟨H, 2, none⟩ = some (.int .i64 e.col) ∧ W.cell? ⟨H, 3, none⟩ = some (.int .u8 e.lit.kind) ∧ W.cell? ⟨H, 4, none⟩ = some (.bool e.lit.bool) ∧ W.cell? ⟨H, 5, none⟩ = some (.int .i64 e.lit.int) ∧ W.cell? ⟨H, 6, none⟩ = some (.string e.lit.text) ∧ W.cell? ⟨X, 0, none⟩ = some (.int .u8 e.op) ∧ W.cell? ⟨X, 1, none⟩ = some (.slice a5 e.kids.length c5) ∧ W.cell? ⟨X, 2, none⟩ = some (.int .i64 e.col) ∧ W.cell? ⟨X, 3, none⟩ = some (.int .u8 e.lit.kind) ∧ W.cell? ⟨X, 4, none⟩ = some (.bool e.lit.bool) ∧ W.cell? ⟨X, 5, none⟩ = some (.int .i64 e.lit.int) ∧ W.cell? ⟨X, 6, none⟩ = some (.string e.lit.text)) (by kernel_rfl) (HS.out _ CB6d.out) (fun hHeld => ?_)
  refine wpAnyH_take (i := 0) (oi := ⟨some 51, _, _, _, _, _⟩) (v := ?_) rfl (by kernel_rfl) (by kernel_rfl) (by kernel_rfl) (fun _ _ _ h => h) (Or.inl ⟨by rfl, ?_⟩) (by assumption) ?_; rotate_left; (intro w hSw; (try dsimp only at hSw); go_simp; (try with_reducible rfl)); (try simp only [Act.put, List.setIfInBounds_toArray, List.set_cons_zero, List.set_cons_succ])
  refine wpAnyH_take (i := 1) (oi := ⟨some 52, _, _, _, _, _⟩) (v := ?_) rfl (by kernel_rfl) (by kernel_rfl) (by kernel_rfl) (fun _ _ _ h => h) (Or.inl ⟨by rfl, ?_⟩) (by assumption) ?_; rotate_left; (intro w hSw; (try dsimp only at hSw); go_simp; (try with_reducible rfl)); (try simp only [Act.put, List.setIfInBounds_toArray, List.set_cons_zero, List.set_cons_succ])
  refine wpAnyH_take (i := 2) (oi := ⟨some 53, _, _, _, _, _⟩) (v := ?_) rfl (by kernel_rfl) (by kernel_rfl) (by kernel_rfl) (fun _ _ _ h => h) (Or.inl ⟨by rfl, ?_⟩) (by assumption) ?_; rotate_left; (intro w hSw; (try dsimp only at hSw); go_simp; (try with_reducible rfl)); (try simp only [Act.put, List.setIfInBounds_toArray, List.set_cons_zero, List.set_cons_succ])
  refine wpAnyH_take (i := 4) (oi := ⟨some 55, _, _, _, _, _⟩) (v := ?_) rfl (by kernel_rfl) (by kernel_rfl) (by kernel_rfl) (fun _ _ _ h => h) (Or.inl ⟨by rfl, ?_⟩) (by assumption) ?_; rotate_left; (intro w hSw; (try dsimp only at hSw); go_simp; (try with_reducible rfl)); (try simp only [Act.put, List.setIfInBounds_toArray, List.set_cons_zero, List.set_cons_succ])
  refine wpAnyH_ready (rs := [3]) (by kernel_rfl) (by simp) ?_
  refine AllReadyH.cons (o := ⟨some 54, _, _, _, _, _⟩) rfl (fun K hK => ?_) (AllReadyH.nil)
  go_simp
  go_at_call 22
  with_reducible refine (HC22.out _ CB6d.out).mono ?_
  rintro ev Y1 ⟨lv, lks, rfl, hups, hrow, hbx⟩
  obtain ⟨la, lc, rfl⟩ := ownsRow_slice hrow
  have HUP1 := Lib.hid hups
  have HRW1 := Lib.hid hrow
  have CB1 := Lib.hid (CB6d.out.trans (hbx.mono CB6d.out.size))
  clear hbx hups hrow
  go_wp2_with fail
  refine hK.out _ _ (HS.out _ CB1.out) (fun hHeld => ?_)
  clear hK K
  skip
  refine wpAnyH_ready (rs := [5]) (by kernel_rfl) (by simp) ?_
  refine AllReadyH.cons (o := ⟨some 56, _, _, _, _, _⟩) rfl (fun K hK => ?_) (AllReadyH.nil)
  go_simp
  go_at_call 36
  with_reducible refine (HC36.out _ CB1.out).mono ?_
  rintro ev Y2 ⟨wv, wks, rfl, hups2, hrow2, hbx⟩
  obtain rfl : lks = wks := HUP1.out.eq hups2
  obtain ⟨wa, wc, rfl⟩ := ownsRow_slice hrow2
  have HA1 := Lib.hid (intsAt_of_owns (Below.ownsRow' hbx HRW1.out))
  have HA2 := Lib.hid (intsAt_of_owns hrow2)
  have CB2 := Lib.hid (CB1.out.trans (hbx.mono CB1.out.size))
  have HLN := Lib.hid (Nat.le_trans HUP1.out.len HCLN.out)
  clear hbx hups2 hrow2
  go_wp2_with fail
  refine hK.out _ _ (HS.out _ CB2.out) (fun hHeld => ?_)
  clear hK K
  skip
  refine wpAnyH_ready (rs := [6]) (by kernel_rfl) (by simp) ?_
  refine AllReadyH.cons (o := ⟨some 57, _, _, _, _, _⟩) rfl (fun K hK => ?_) (AllReadyH.nil)
  go_simp
  go_at_call 27
  with_reducible refine (same_27 (.slice la lks.length lc) (.slice wa lks.length wc) lks _ HA1.out HA2.out (by have := HLN.out; omega)).mono ?_
  rintro ev Y3 ⟨rfl, kk, hkk⟩
  have CB3 := Lib.hid (show Below w5.heap.size w5 Y3 by rw [hkk]; exact Go.Pen.below_drewN CB2.out)
  clear hkk
  go_wp2_with fail
  refine hK.out _ _ (HS.out _ CB3.out) (fun hHeld => ?_)
  clear hK K
  skip
  refine wpAnyH_take (i := 7) (oi := ⟨some 58, _, _, _, _, _⟩) (v := ?_) rfl (by kernel_rfl) (by kernel_rfl) (by kernel_rfl) (fun _ _ _ h => h) (Or.inl ⟨by rfl, ?_⟩) (by assumption) ?_; rotate_left; (intro w hSw; (try dsimp only at hSw); go_simp; (try with_reducible rfl)); (try simp only [Act.put, List.setIfInBounds_toArray, List.set_cons_zero, List.set_cons_succ])
  refine wpAnyH_take (i := 8) (oi := ⟨some 59, _, _, _, _, _⟩) (v := ?_) rfl (by kernel_rfl) (by kernel_rfl) (by kernel_rfl) (fun _ _ _ h => h) (Or.inl ⟨by rfl, ?_⟩) (by assumption) ?_; rotate_left; (intro w hSw; (try dsimp only at hSw); go_simp; (try with_reducible rfl)); (try simp only [Act.put, List.setIfInBounds_toArray, List.set_cons_zero, List.set_cons_succ])
  refine wpAnyH_take (i := 9) (oi := ⟨some 60, _, _, _, _, _⟩) (v := ?_) rfl (by kernel_rfl) (by kernel_rfl) (by kernel_rfl) (fun _ _ _ h => h) (Or.inl ⟨by rfl, ?_⟩) (by assumption) ?_; rotate_left; (intro w hSw; (try dsimp only at hSw); go_simp; (try with_reducible rfl)); (try simp only [Act.put, List.setIfInBounds_toArray, List.set_cons_zero, List.set_cons_succ])
  refine wpAnyH_take (i := 11) (oi := ⟨some 62, _, _, _, _, _⟩) (v := ?_) rfl (by kernel_rfl) (by kernel_rfl) (by kernel_rfl) (fun _ _ _ h => h) (Or.inl ⟨by rfl, ?_⟩) (by assumption) ?_; rotate_left; (intro w hSw; (try dsimp only at hSw); go_simp; (try with_reducible rfl)); (try simp only [Act.put, List.setIfInBounds_toArray, List.set_cons_zero, List.set_cons_succ])
  refine wpAnyH_ready (rs := [10]) (by kernel_rfl) (by simp) ?_
  refine AllReadyH.cons (o := ⟨some 61, _, _, _, _, _⟩) rfl (fun K hK => ?_) (AllReadyH.nil)
  go_simp
  go_at_call 37
  with_reducible refine (HC37.out _ CB3.out).mono ?_
  rintro ev Y4 ⟨rfl, hbx⟩
  have CB4 := Lib.hid (CB3.out.trans (hbx.mono CB3.out.size))
  clear hbx
  go_wp2_with fail
  refine hK.out _ _ (HS.out _ CB4.out) (fun hHeld => ?_)
  clear hK K
  skip
  refine wpAnyH_ready (rs := [12]) (by kernel_rfl) (by simp) ?_
  refine AllReadyH.cons (o := ⟨some 63, _, _, _, _, _⟩) rfl (fun K hK => ?_) (AllReadyH.nil)
  go_simp
  go_at_call 38
  with_reducible refine (HC38.out _ CB4.out).mono ?_
  rintro ev Y5 ⟨rfl, hbx⟩
  have CB5 := Lib.hid (CB4.out.trans (hbx.mono CB4.out.size))
  clear hbx
  go_wp2_with fail
  refine hK.out _ _ (HS.out _ CB5.out) (fun hHeld => ?_)
  clear hK K
  skip
  refine wpAnyH_take (i := 13) (oi := ⟨some 64, _, _, _, _, _⟩) (v := ?_) rfl (by kernel_rfl) (by kernel_rfl) (by kernel_rfl) (fun _ _ _ h => h) (Or.inl ⟨by rfl, ?_⟩) (by assumption) ?_; rotate_left; (intro w hSw; (try dsimp only at hSw); go_simp; (try with_reducible rfl)); (try simp only [Act.put, List.setIfInBounds_toArray, List.set_cons_zero, List.set_cons_succ])
  refine wpAnyH_take (i := 14) (oi := ⟨some 65, _, _, _, _, _⟩) (v := ?_) rfl (by kernel_rfl) (by kernel_rfl) (by kernel_rfl) (fun _ _ _ h => h) (Or.inl ⟨by rfl, ?_⟩) (by assumption) ?_; rotate_left; (intro w hSw; (try dsimp only at hSw); go_simp; (try with_reducible rfl)); (try simp only [Act.put, List.setIfInBounds_toArray, List.set_cons_zero, List.set_cons_succ])
  refine wpAnyH_take (i := 15) (oi := ⟨some 10, _, _, _, _, _⟩) (v := ?_) rfl (by kernel_rfl) (by kernel_rfl) (by kernel_rfl) (fun _ _ _ h => h) (Or.inl ⟨by rfl, ?_⟩) (by assumption) ?_; rotate_left; (intro w hSw; (try dsimp only at hSw); go_simp; (try with_reducible rfl)); (try simp only [Act.put, List.setIfInBounds_toArray, List.set_cons_zero, List.set_cons_succ])
  refine wpAnyH_done (by kernel_rfl) ?_ _
  have HB7 := Lib.hid CB5.out
  go_wp2_with fail
  refine (HC14.out _ HB7.out).mono ?_
  rintro ev w8 ⟨rfl, hb8⟩
  have HB8 := Lib.hid (HB7.out.trans (hb8.mono HB7.out.size))
  obtain ⟨y0, y1, y2, y3, y4, y5, y6, z0, z1, z2, z3, z4, z5, z6⟩ := HS.out _ HB8.out
  clear hb8
  go_wp2_with fail
  refine (HC15.out _ HB8.out).mono ?_
  rintro ev w9 ⟨rfl, hb9⟩
  have HB9 := Lib.hid (HB8.out.trans (hb9.mono HB8.out.size))
  clear hb9 y0 y1 y2 y3 y4 y5 y6 z0 z1 z2 z3 z4 z5 z6
  go_wp2_with fail
  go_ret
  exact ⟨rfl, HB5.out.trans (HB9.out.mono HB5.out.size)⟩

end Go.Proofs.YtolikaginhjbhaaGreatDoor
