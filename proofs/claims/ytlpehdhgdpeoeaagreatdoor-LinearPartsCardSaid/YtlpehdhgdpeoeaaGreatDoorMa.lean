import Derived.Test.YtlpehdhgdpeoeaaGreatDoorLy
/- Map's closure. -/
namespace Go.Proofs.YtlpehdhgdpeoeaaGreatDoor
open Go.RowKit Go.Pen Go.Shelf
attribute [local go_sem] Oper.semAt_some

/-- the first error of expressions over a row -/
def mapE (r : List Dat) : List ET → Nat
  | [] => 0
  | e :: es => if (evalR r e).2 ≠ 0 then (evalR r e).2 else mapE r es
/-- a row with what expressions come to over it behind it -/
def mapV (r : List Dat) (es : List ET) : List Dat := r ++ es.map fun e => (evalR r e).1
theorem mapV_snoc {r : List Dat} {es : List ET} {i : Nat} {x : ET} (h : es[i]? = some x) : mapV r (es.take (i + 1)) = mapV r (es.take i) ++ [(evalR r x).1] := by
  unfold mapV
  rw [List.take_add_one, h]
  simp
theorem mapV_len (r : List Dat) (es : List ET) : (mapV r es).length = r.length + es.length := by simp [mapV]
theorem rowCells_snoc (r : List Dat) (d : Dat) : rowCells (r ++ [d]) = rowCells r ++ [.int .u8 d.kind, .bool d.bool, .int .i64 d.int, .string d.text] := by
  unfold rowCells
  rw [List.flatMap_append]
  rfl

theorem hown_cap {w : World} {base e size n c : Nat} {a : Option Addr} {xs : List Value} (h : w.ownsRow base e size (.slice a n c) n xs) : n ≤ c := by
  rcases h.2 with ⟨hv, h0⟩ | ⟨g, cap, cur, hv, -, -, hc, -⟩
  · cases hv; omega
  · cases hv; exact hc
theorem hown_nil {w : World} {base e size n c : Nat} {a : Option Addr} {xs : List Value} (h : w.ownsRow base e size (.slice a n c) n xs) (ha : a = none) : c = 0 ∧ n = 0 := by
  subst ha
  rcases h.2 with ⟨hv, h0⟩ | ⟨g, cap, cur, hv, -⟩
  · cases hv; exact ⟨rfl, rfl⟩
  · cases hv
theorem TyRow.clip {w : World} {t : TypeId} {a : Option Addr} {n c : Nat} {xs : List Value} (h : TyRow w t (.slice a n c) n xs) : TyRow w t (.slice a n n) n xs := by
  obtain ⟨a', c', e, ⟨hz, hc⟩, h⟩ := h
  cases e
  exact ⟨a, n, rfl, ⟨fun e => ⟨(hz e).2, (hz e).2⟩, Nat.le_refl _⟩, h⟩
/-- an update's row put in its box -/
theorem put_fin {w W : World} {p n : Nat} {v x0 x1 x2 x3 : Value} {xs : List Value} (hp : W.heap[p]? = some (.cells #[x0, x1, x2, x3] 51 (0, 0))) (hb : Below w.heap.size w W) (h : TyRow W 55 v n xs) :
    (W.setCell ⟨p, 0, none⟩ v).heap[p]? = some (.cells #[v, x1, x2, x3] 51 (0, 0)) ∧ TyRow (W.setCell ⟨p, 0, none⟩ v) 55 v n xs ∧ But p w (W.setCell ⟨p, 0, none⟩ v) ∧ Kt w (W.setCell ⟨p, 0, none⟩ v) := by
  have hne : ∀ k, k ≠ p → (W.setCell ⟨p, 0, none⟩ v).heap[k]? = W.heap[k]? := fun k hk => heap_set_ne hk
  have hs : (W.setCell ⟨p, 0, none⟩ v).heap.size = W.heap.size := by simp [World.setCell]
  have hk : Kt W (W.setCell ⟨p, 0, none⟩ v) := Kt.but hp (by decide) (by omega) fun k _ hk => hne k hk
  exact ⟨by rw [heap_set_same hp]; rfl, h.kt rfl hk, ⟨hb.os, hb.tape, hb.output, by rw [hs]; exact hb.size, fun k h1 h2 => (hne k h2).trans (hb.block k h1)⟩, (Kt.of_below hb).trans hk⟩
set_option maxRecDepth 100000 in
theorem clip_31 (a : Option Addr) (n c : Nat) (w : World) (hc : n ≤ c)  :
    Calls Tryz.prog 31 #[.slice a n c] w fun e w' => e = .returned (.slice a n n) ∧ w' = w := by
  go_enter Tryz.func31, Tryz.ntmps31
  go_wp2_with fail
  go_ret
  exact ⟨rfl, rfl⟩

set_option maxRecDepth 100000 in
set_option maxHeartbeats 1000000 in
theorem map1_29 (r : List Dat) (es : List ET) (p Y : Nat) (ra : Option Addr) (rc : Nat) (ep : Int) (lv : Value) (df : Int) (ev : Value) (w : World) (hp : w.heap[p]? = some (.cells #[.slice ra r.length rc, .int .u64 ep, lv, .int .i64 df] 51 (0, 0))) (hr : RowAt w (.slice ra r.length rc) r) (hrf : ∀ d ∈ r, d.fits) (hrl : r.length ≤ 1073741824)
    (hY : w.heap[Y]? = some (.cells #[ev] 23 (0, 0))) (hes : ExprsAt w ev es) (fes : ∀ e ∈ es, e.fits) (hel : es.length ≤ 1073741824) (hT : Lib.Utf8Tabs 1 2 w) (hE : ErrTy w) (h3 : 3 ≤ w.heap.size) :
    Calls Tryz.prog 29 #[.pointer (some ⟨p, 0, none⟩), .pointer (some ⟨Y, 0, none⟩)] w fun e w' => (mapE r es = 0 ∧ ∃ rv', e = .returned (.tuple #[.bool true, .int .u16 0]) ∧ w'.heap[p]? = some (.cells #[rv', .int .u64 ep, lv, .int .i64 df] 51 (0, 0)) ∧ TyRow w' 55 rv' (mapV r es).length (rowCells (mapV r es)) ∧ But p w w' ∧ Kt w w') ∨
      (mapE r es ≠ 0 ∧ e = .returned (.tuple #[.bool false, .int .u16 (mapE r es)]) ∧ Below w.heap.size w w') := by
  obtain ⟨i0, hi0, hz0, hz1, hz2⟩ := info_parts info25
  obtain ⟨ea, ec, rfl, -, heo⟩ := ExprsAt.iff.1 hes
  obtain ⟨K, eK⟩ : ∃ K, K = es.length := ⟨_, rfl⟩
  obtain ⟨N, eN⟩ : ∃ N, N = r.length := ⟨_, rfl⟩
  have HCL := Lib.hid (clone_30 r _ w hr hrl)
  rw [← eK] at hel hY
  rw [← eN] at hp hr hrl HCL
  have EK := Lib.hid eK
  have EN := Lib.hid eN
  have HEO := Lib.hid heo
  have FES := Lib.hid fes
  have HR := Lib.hid hr
  have HRF := Lib.hid hrf
  have HT := Lib.hid hT
  have HE := Lib.hid hE
  have HP := Lib.hid hp
  have HY := Lib.hid hY
  have yp := cell_of_heap (o := 0) hp rfl
  clear eK eN heo fes hes hr hrf hT hE hp hY
  go_enter Tryz.func29, Tryz.ntmps29
  go_wp2_with fail
  refine HCL.out.mono ?_
  rintro e w0 ⟨v0, rfl, ho0, hb0⟩
  have HO0 := Lib.hid ho0
  have HB0 := Lib.hid hb0
  have yY := cell_of_heap (o := 0) (keepB HY.out hb0) rfl
  clear ho0 hb0 yp HCL
  go_wp2_with fail
  go_loopg [5, 17] K (fun g s5 s17 wr => ∃ i : Nat, i ≤ K ∧ g = K - i ∧ s17 = .int .i64 i ∧ mapE r es = mapE r (es.drop i) ∧ Below w.heap.size w wr ∧ wr.ownsRow w.heap.size 55 4 s5 (N + i) (rowCells (mapV r (es.take i))))
  case atStart => exact ⟨0, Nat.zero_le _, rfl, rfl, rfl, HB0.out, by rw [List.take_zero, mapV]; simpa using HO0.out⟩
  case round =>
    obtain ⟨i, hi, hgi, rfl, hfl, hbr, hown⟩ := hrel
    obtain ⟨oa, oc, rfl⟩ := ownsRow_slice hown
    have HFL := Lib.hid hfl
    have HBR := Lib.hid hbr
    have HOW := Lib.hid hown
    clear hfl hbr hown
    by_cases hlt : i < K
    · obtain ⟨x, hx⟩ : ∃ x, es[i]? = some x := ⟨es[i]'(by rw [← EK.out]; exact hlt), List.getElem?_eq_getElem _⟩
      obtain ⟨b, o, rfl, -, hg⟩ := HEO.out (fun e => by rw [e] at hx; simp at hx)
      obtain ⟨kv, hkc, hkat⟩ := hg.get hx
      obtain ⟨xa, xc, rfl⟩ := hkat.slice
      obtain ⟨k0, k1, k2, k3, k4, k5, k6⟩ := hkc.below HBR.out
      have HXA := Lib.hid hkat
      have HXF := Lib.hid (FES.out x (List.mem_of_getElem? hx))
      have HD := Lib.hid (filt_drop hx)
      have HMV := Lib.hid (mapV_snoc (r := r) hx)
      clear hg hkc hkat hx
      go_upto_region 5 with fail
      obtain ⟨w1, hw1⟩ : ∃ w1, w1 = wr.alloc (.cells #[.int .u8 x.op, .slice xa x.kids.length xc, .int .i64 x.col, .int .u8 x.lit.kind, .bool x.lit.bool, .int .i64 x.lit.int, .string x.lit.text] 57) := ⟨_, rfl⟩
      obtain ⟨H, eH⟩ : ∃ H, H = wr.heap.size := ⟨_, rfl⟩
      have hb1 : Below wr.heap.size wr w1 := by rw [hw1]; exact one_below _ _
      have HB1 := Lib.hid (stepB HBR.out hb1)
      have HB1r := Lib.hid hb1
      have KX : Hid (w1.heap[H]? = some (.cells #[.int .u8 x.op, .slice xa x.kids.length xc, .int .i64 x.col, .int .u8 x.lit.kind, .bool x.lit.bool, .int .i64 x.lit.int, .string x.lit.text] 57 (0, 0))) := Lib.hid (by rw [hw1, eH]; exact heap_alloc_new _ _)
      rw [← hw1, ← eH]
      clear hw1 eH hb1 k0 k1 k2 k3 k4 k5 k6
      obtain ⟨X, eX⟩ : ∃ X, X = evalR r x := ⟨_, rfl⟩
      have EX := Lib.hid eX
      clear eX
      have hev : ∀ W, Below w1.heap.size w1 W → Calls Tryz.prog 25 #[.agg #[.int .u8 x.op, .slice xa x.kids.length xc, .int .i64 x.col, .int .u8 x.lit.kind, .bool x.lit.bool, .int .i64 x.lit.int, .string x.lit.text], .slice ra N rc] W (ResPost X W) := fun W hb => by
        rw [EX.out, EN.out]
        have hbw := stepB HB1.out hb
        exact eval12_all r x xa xc ra rc W HXF.out HRF.out (HXA.out.below hbw) (by have := HR.out.below hbw; rw [EN.out] at this; exact this) (tabs_below HT.out hbw h3) (cell_keep hbw HE.out) (Nat.le_trans h3 hbw.size)
      have HEV := Lib.hid hev
      have hs : ∀ W, Below w1.heap.size w1 W → W.cell? ⟨H, 0, none⟩ = some (.int .u8 x.op) ∧ W.cell? ⟨H, 1, none⟩ = some (.slice xa x.kids.length xc) ∧ W.cell? ⟨H, 2, none⟩ = some (.int .i64 x.col) ∧ W.cell? ⟨H, 3, none⟩ = some (.int .u8 x.lit.kind) ∧ W.cell? ⟨H, 4, none⟩ = some (.bool x.lit.bool) ∧ W.cell? ⟨H, 5, none⟩ = some (.int .i64 x.lit.int) ∧ W.cell? ⟨H, 6, none⟩ = some (.string x.lit.text) ∧ W.cell? ⟨p, 0, none⟩ = some (.slice ra N rc) := fun W hb => ⟨cell_of_heap (keepB KX.out hb) rfl, cell_of_heap (keepB KX.out hb) rfl, cell_of_heap (keepB KX.out hb) rfl, cell_of_heap (keepB KX.out hb) rfl, cell_of_heap (keepB KX.out hb) rfl, cell_of_heap (keepB KX.out hb) rfl, cell_of_heap (keepB KX.out hb) rfl, cell_of_heap (keepB HP.out (stepB HB1.out hb)) rfl⟩
      have HS := Lib.hid hs
      clear hev hs
      go_cut [8, 9] from 21 to 29 (fun sb se wx => ∃ B, sb = .pointer (some ⟨B, 0, none⟩) ∧ se = .int .u16 X.2 ∧ wx.heap[B]? = some (.cells #[.int .u8 X.1.kind, .bool X.1.bool, .int .i64 X.1.int, .string X.1.text] 55 (0, 0)) ∧ Below w1.heap.size w1 wx)
      case first =>
        have CB0 := Lib.hid (show Below w1.heap.size w1 w1.drew from ⟨rfl, rfl, rfl, Nat.le_refl _, fun _ _ => rfl⟩)
        refine wp_region_held_drew (S := fun W => W.cell? ⟨H, 0, none⟩ = some (.int .u8 x.op) ∧ W.cell? ⟨H, 1, none⟩ = some (.slice xa x.kids.length xc) ∧ W.cell? ⟨H, 2, none⟩ = some (.int .i64 x.col) ∧ W.cell? ⟨H, 3, none⟩ = some (.int .u8 x.lit.kind) ∧ W.cell? ⟨H, 4, none⟩ = some (.bool x.lit.bool) ∧ W.cell? ⟨H, 5, none⟩ = some (.int .i64 x.lit.int) ∧ W.cell? ⟨H, 6, none⟩ = some (.string x.lit.text) ∧ W.cell? ⟨p, 0, none⟩ = some (.slice ra N rc)) (by kernel_rfl) (HS.out _ CB0.out) (fun hHeld => ?_)
        refine wpAnyH_take (i := 0) (oi := ⟨some 22, _, _, _, _, _⟩) (v := ?_) rfl (by kernel_rfl) (by kernel_rfl) (by kernel_rfl) (fun _ _ _ h => h) (Or.inl ⟨by rfl, ?_⟩) (by assumption) ?_; rotate_left; (intro w hSw; (try dsimp only at hSw); go_simp; (try with_reducible rfl)); simp only [Act.put, List.setIfInBounds_toArray, List.set_cons_zero, List.set_cons_succ]
        refine wpAnyH_take (i := 1) (oi := ⟨some 23, _, _, _, _, _⟩) (v := ?_) rfl (by kernel_rfl) (by kernel_rfl) (by kernel_rfl) (fun _ _ _ h => h) (Or.inl ⟨by rfl, ?_⟩) (by assumption) ?_; rotate_left; (intro w hSw; (try dsimp only at hSw); go_simp; (try with_reducible rfl)); simp only [Act.put, List.setIfInBounds_toArray, List.set_cons_zero, List.set_cons_succ]
        refine wpAnyH_take (i := 2) (oi := ⟨some 24, _, _, _, _, _⟩) (v := ?_) rfl (by kernel_rfl) (by kernel_rfl) (by kernel_rfl) (fun _ _ _ h => h) (Or.inl ⟨by rfl, ?_⟩) (by assumption) ?_; rotate_left; (intro w hSw; (try dsimp only at hSw); go_simp; (try with_reducible rfl)); simp only [Act.put, List.setIfInBounds_toArray, List.set_cons_zero, List.set_cons_succ]
        refine wpAnyH_take (i := 3) (oi := ⟨some 25, _, _, _, _, _⟩) (v := ?_) rfl (by kernel_rfl) (by kernel_rfl) (by kernel_rfl) (fun _ _ _ h => h) (Or.inl ⟨by rfl, ?_⟩) (by assumption) ?_; rotate_left; (intro w hSw; (try dsimp only at hSw); go_simp; (try with_reducible rfl)); simp only [Act.put, List.setIfInBounds_toArray, List.set_cons_zero, List.set_cons_succ]
        refine wpAnyH_take (i := 4) (oi := ⟨some 26, _, _, _, _, _⟩) (v := ?_) rfl (by kernel_rfl) (by kernel_rfl) (by kernel_rfl) (fun _ _ _ h => h) (Or.inl ⟨by rfl, ?_⟩) (by assumption) ?_; rotate_left; (intro w hSw; (try dsimp only at hSw); go_simp; (try with_reducible rfl)); simp only [Act.put, List.setIfInBounds_toArray, List.set_cons_zero, List.set_cons_succ]
        refine wpAnyH_ready (rs := [5, 9]) (by kernel_rfl) (by simp) ?_
        refine AllReadyH.cons (o := ⟨some 27, _, _, _, _, _⟩) rfl (fun K hK => ?_) (AllReadyH.cons (o := ⟨some 8, _, _, _, _, _⟩) rfl (fun K hK => ?_) (AllReadyH.nil))
        · go_simp
          go_at_call 25
          with_reducible refine (HEV.out _ CB0.out).mono ?_
          rintro ev V1 ⟨rfl, hbx⟩
          unfold resT Dat.agg
          have CB1 := Lib.hid (stepB CB0.out hbx)
          clear hbx
          go_wp2_with fail
          refine hK.out _ _ (HS.out _ CB1.out) (fun hHeld => ?_)
          clear hK K
          skip
          refine wpAnyH_take (i := 6) (oi := ⟨some 21, _, _, _, _, _⟩) (v := ?_) rfl (by kernel_rfl) (by kernel_rfl) (by kernel_rfl) (fun _ _ _ h => h) (Or.inl ⟨by rfl, ?_⟩) (by assumption) ?_; rotate_left; (intro w hSw; (try dsimp only at hSw); go_simp; (try with_reducible rfl)); simp only [Act.put, List.setIfInBounds_toArray, List.set_cons_zero, List.set_cons_succ]
          refine wpAnyH_take (i := 7) (oi := ⟨some 28, _, _, _, _, _⟩) (v := ?_) rfl (by kernel_rfl) (by kernel_rfl) (by kernel_rfl) (fun _ _ _ h => h) (Or.inl ⟨by rfl, ?_⟩) (by assumption) ?_; rotate_left; (intro w hSw; (try dsimp only at hSw); go_simp; (try with_reducible rfl)); simp only [Act.put, List.setIfInBounds_toArray, List.set_cons_zero, List.set_cons_succ]
          refine wpAnyH_take (i := 8) (oi := ⟨some 29, _, _, _, _, _⟩) (v := ?_) rfl (by kernel_rfl) (by kernel_rfl) (by kernel_rfl) (fun _ _ _ h => h) (Or.inl ⟨by rfl, ?_⟩) (by assumption) ?_; rotate_left; (intro w hSw; (try dsimp only at hSw); go_simp; (try with_reducible rfl)); simp only [Act.put, List.setIfInBounds_toArray, List.set_cons_zero, List.set_cons_succ]
          refine wpAnyH_ready (rs := [9]) (by kernel_rfl) (by simp) ?_
          refine AllReadyH.cons (o := ⟨some 8, _, _, _, _, _⟩) rfl (fun K hK => ?_) (AllReadyH.nil)
          refine step_alloc55 rfl rfl ?_
          intro b2 V2 hV hb
          have CB2 := Lib.hid (show Below w1.heap.size w1 V2 by rw [hV]; exact CB1.out.alloc CB1.out.size _)
          have KA2 := Lib.hid (show V2.heap[b2]? = some (.cells #[.int .u8 0, .bool false, .int .i64 0, .string ⟨#[]⟩] 55 (0, 0)) by rw [hV, hb]; exact heap_alloc_new _ _)
          have HB2 : w1.heap.size ≤ b2 := by rw [hb]; exact CB1.out.size
          have LB2 := Lib.hid HB2
          clear hV hb HB2
          refine hK.out _ _ (HS.out _ CB2.out) (fun hHeld => ?_)
          clear hK K
          simp only [Act.put, List.setIfInBounds_toArray, List.set_cons_zero, List.set_cons_succ]
          refine wpAnyH_ready (rs := [10]) (by kernel_rfl) (by simp) ?_
          refine AllReadyH.cons (o := ⟨none, _, _, _, _, _⟩) rfl (fun K hK => ?_) (AllReadyH.nil)
          refine step_store55 rfl (.tmp 8) (.tmp 28) rfl (by simp [Act.eval]) (d := X.1) (by simp [Act.eval, Dat.agg]) KA2.out ?_
          intro V3 hV
          have CB3 := Lib.hid (show Below w1.heap.size w1 V3 by rw [hV]; exact setRow4_below CB2.out LB2.out)
          have KA3 := Lib.hid (show V3.heap[b2]? = some (.cells #[.int .u8 X.1.kind, .bool X.1.bool, .int .i64 X.1.int, .string X.1.text] 55 (0, 0)) by rw [hV]; exact setRow4_at KA2.out)
          clear hV
          refine hK.out _ _ (HS.out _ CB3.out) (fun hHeld => ?_)
          clear hK K
          skip
          refine wpAnyH_take (i := 11) (oi := ⟨some 9, _, _, _, _, _⟩) (v := ?_) rfl (by kernel_rfl) (by kernel_rfl) (by kernel_rfl) (fun _ _ _ h => h) (Or.inl ⟨by rfl, ?_⟩) (by assumption) ?_; rotate_left; (intro w hSw; (try dsimp only at hSw); go_simp; (try with_reducible rfl)); simp only [Act.put, List.setIfInBounds_toArray, List.set_cons_zero, List.set_cons_succ]
          refine wpAnyH_done (by kernel_rfl) ?_ _
          have CE := CB3
          have KE := KA3
          go_wp2
          go_meet
          exact ⟨_, rfl, rfl, KE.out, CE.out⟩
        · refine step_alloc55 rfl rfl ?_
          intro b4 V4 hV hb
          have CB4 := Lib.hid (show Below w1.heap.size w1 V4 by rw [hV]; exact CB0.out.alloc CB0.out.size _)
          have KA4 := Lib.hid (show V4.heap[b4]? = some (.cells #[.int .u8 0, .bool false, .int .i64 0, .string ⟨#[]⟩] 55 (0, 0)) by rw [hV, hb]; exact heap_alloc_new _ _)
          have HB4 : w1.heap.size ≤ b4 := by rw [hb]; exact CB0.out.size
          have LB4 := Lib.hid HB4
          clear hV hb HB4
          refine hK.out _ _ (HS.out _ CB4.out) (fun hHeld => ?_)
          clear hK K
          simp only [Act.put, List.setIfInBounds_toArray, List.set_cons_zero, List.set_cons_succ]
          refine wpAnyH_ready (rs := [5]) (by kernel_rfl) (by simp) ?_
          refine AllReadyH.cons (o := ⟨some 27, _, _, _, _, _⟩) rfl (fun K hK => ?_) (AllReadyH.nil)
          go_simp
          go_at_call 25
          with_reducible refine (HEV.out _ CB4.out).mono ?_
          rintro ev V5 ⟨rfl, hbx⟩
          unfold resT Dat.agg
          have CB5 := Lib.hid (stepB CB4.out hbx)
          have KA5 := Lib.hid (keepB KA4.out hbx)
          clear hbx
          go_wp2_with fail
          refine hK.out _ _ (HS.out _ CB5.out) (fun hHeld => ?_)
          clear hK K
          skip
          refine wpAnyH_take (i := 6) (oi := ⟨some 21, _, _, _, _, _⟩) (v := ?_) rfl (by kernel_rfl) (by kernel_rfl) (by kernel_rfl) (fun _ _ _ h => h) (Or.inl ⟨by rfl, ?_⟩) (by assumption) ?_; rotate_left; (intro w hSw; (try dsimp only at hSw); go_simp; (try with_reducible rfl)); simp only [Act.put, List.setIfInBounds_toArray, List.set_cons_zero, List.set_cons_succ]
          refine wpAnyH_take (i := 7) (oi := ⟨some 28, _, _, _, _, _⟩) (v := ?_) rfl (by kernel_rfl) (by kernel_rfl) (by kernel_rfl) (fun _ _ _ h => h) (Or.inl ⟨by rfl, ?_⟩) (by assumption) ?_; rotate_left; (intro w hSw; (try dsimp only at hSw); go_simp; (try with_reducible rfl)); simp only [Act.put, List.setIfInBounds_toArray, List.set_cons_zero, List.set_cons_succ]
          refine wpAnyH_take (i := 8) (oi := ⟨some 29, _, _, _, _, _⟩) (v := ?_) rfl (by kernel_rfl) (by kernel_rfl) (by kernel_rfl) (fun _ _ _ h => h) (Or.inl ⟨by rfl, ?_⟩) (by assumption) ?_; rotate_left; (intro w hSw; (try dsimp only at hSw); go_simp; (try with_reducible rfl)); simp only [Act.put, List.setIfInBounds_toArray, List.set_cons_zero, List.set_cons_succ]
          refine wpAnyH_ready (rs := [10]) (by kernel_rfl) (by simp) ?_
          refine AllReadyH.cons (o := ⟨none, _, _, _, _, _⟩) rfl (fun K hK => ?_) (AllReadyH.nil)
          refine step_store55 rfl (.tmp 8) (.tmp 28) rfl (by simp [Act.eval]) (d := X.1) (by simp [Act.eval, Dat.agg]) KA5.out ?_
          intro V6 hV
          have CB6 := Lib.hid (show Below w1.heap.size w1 V6 by rw [hV]; exact setRow4_below CB5.out LB4.out)
          have KA6 := Lib.hid (show V6.heap[b4]? = some (.cells #[.int .u8 X.1.kind, .bool X.1.bool, .int .i64 X.1.int, .string X.1.text] 55 (0, 0)) by rw [hV]; exact setRow4_at KA5.out)
          clear hV
          refine hK.out _ _ (HS.out _ CB6.out) (fun hHeld => ?_)
          clear hK K
          skip
          refine wpAnyH_take (i := 11) (oi := ⟨some 9, _, _, _, _, _⟩) (v := ?_) rfl (by kernel_rfl) (by kernel_rfl) (by kernel_rfl) (fun _ _ _ h => h) (Or.inl ⟨by rfl, ?_⟩) (by assumption) ?_; rotate_left; (intro w hSw; (try dsimp only at hSw); go_simp; (try with_reducible rfl)); simp only [Act.put, List.setIfInBounds_toArray, List.set_cons_zero, List.set_cons_succ]
          refine wpAnyH_done (by kernel_rfl) ?_ _
          have CE := CB6
          have KE := KA6
          go_wp2
          go_meet
          exact ⟨_, rfl, rfl, KE.out, CE.out⟩
      obtain ⟨B, rfl, rfl, kB, hbc⟩ := hcut
      have hbr2 : Below wr.heap.size wr wc := stepB HB1r.out hbc
      have HB5 := Lib.hid (stepB HB1.out hbc)
      have HO5 := Lib.hid (Below.ownsRow' hbr2 HOW.out)
      have z0 := cell_of_heap (o := 0) kB rfl
      have z1 := cell_of_heap (o := 1) kB rfl
      have z2 := cell_of_heap (o := 2) kB rfl
      have z3 := cell_of_heap (o := 3) kB rfl
      clear HS HEV hbc kB hbr2
      obtain ⟨dx, c⟩ := X
      simp only [] at z0 z1 z2 z3 ⊢
      by_cases hc : c = 0
      · subst hc
        have hfin : mapE r es = mapE r (es.drop (i + 1)) := by rw [HFL.out, HD.out, mapE, ← EX.out]; simp
        have HFIN := Lib.hid hfin
        clear hfin
        have hs5 := HB5.out.size
        go_wp2_with (at_builtin; go_must (refine wpList_append_own _ rfl _ _ 49 rfl w.heap.size 55 i0 _ 4 32 Tryz.underlying49 hi0 hz0 hz1 hz2 rfl (by decide) _ (N + i) _ rfl (HO5.out.alloc _) ⟨wc.heap.size, 0, none⟩ 1 1 [.int .u8 dx.kind, .bool dx.bool, .int .i64 dx.int, .string dx.text] rfl ?qc1 ?qc2 ?qc3 ?qc4 ?qc5 ?qc6 ?_))
        case qc1 => rfl
        case qc2 => exact World.news_of_block (cs := #[.int .u8 dx.kind, .bool dx.bool, .int .i64 dx.int, .string dx.text]) (heap_alloc_new _ _)
        case qc3 => intro y hy; simp at hy; rcases hy with rfl | rfl | rfl | rfl <;> rfl
        case qc4 => unfold maxLen; omega
        case qc5 => omega
        try case qc6 => simp; omega
        intro v' w3 hown hgrow _
        have hb3 : Below w.heap.size w w3 := (HB5.out.alloc (by omega) _).grown hgrow (by simp; omega) (fun k hk => (HO5.out.lt k hk).1)
        rw [← rowCells_snoc, show dx = (evalR r x).1 by rw [← EX.out], ← HMV.out] at hown
        have HO6 := Lib.hid hown
        have HB6 := Lib.hid hb3
        clear hown hgrow hb3
        go_wp2_with fail
        go_roundg (K - (i + 1))
        case measure => omega
        case rel => exact ⟨i + 1, by omega, rfl, by go_num, HFIN.out, HB6.out, HO6.out⟩
      · have hfin : mapE r es = c := by rw [HFL.out, HD.out, mapE, ← EX.out]; simp [hc]
        have hc' : ((c : Int) != 0) = true := by simp; omega
        go_wp2_with fail
        all_goals (go_ret2; exact .inr ⟨by rw [hfin]; exact hc, by rw [hfin]; rfl, HB5.out⟩)
    · have hiK : i = K := by omega
      subst hiK
      have htk : es.take i = es := List.take_of_length_le (by have := EK.out; omega)
      have hdr : es.drop i = [] := List.drop_eq_nil_of_le (by have := EK.out; omega)
      have how := HOW.out
      rw [htk] at how
      have hE0 : mapE r es = 0 := by rw [HFL.out, hdr]; rfl
      have hpr := keepB HP.out HBR.out
      have y0 := cell_of_heap (o := 0) hpr rfl
      have g0 := frozen_of_heap (o := 0) hpr
      have hlen : (mapV r es).length = N + i := by rw [mapV_len, ← EN.out, ← EK.out]
      have HFIN := Lib.hid (put_fin hpr HBR.out (TyRow.of_own how).clip)
      have HLEN := Lib.hid hlen
      clear hlen
      have HCP := Lib.hid (clip_31 oa (N + i) oc wr (hown_cap HOW.out))
      go_wp2_with fail
      refine HCP.out.mono ?_
      rintro e w4 ⟨rfl, rfl⟩
      go_wp2_with fail
      go_ret2
      refine .inl ⟨hE0, _, rfl, HFIN.out.1, ?_, HFIN.out.2.2⟩
      rw [HLEN.out]
      exact HFIN.out.2.1
end Go.Proofs.YtlpehdhgdpeoeaaGreatDoor
