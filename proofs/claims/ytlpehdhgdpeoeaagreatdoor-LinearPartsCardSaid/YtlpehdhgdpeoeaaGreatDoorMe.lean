import Derived.Test.YtlpehdhgdpeoeaaGreatDoorMd
/- stamp.Apply. -/
namespace Go.Proofs.YtlpehdhgdpeoeaaGreatDoor
open Go.RowKit Go.Pen Go.Shelf
attribute [local go_sem] Oper.semAt_some

/-- what becomes of a time on a way, and the number of an error -/
def applyT (leave add : Int) (en : List Int) (ep : Int) (ls : List Int) : (Int × List Int) × Nat :=
  if leave < 0 ∨ (ls.length : Int) < leave then ((0, []), 40)
  else if ls.length - leave.toNat = 0 then (if 18446744073709551615 - add < ep then ((0, []), 41) else if 3 < en.length then ((0, []), 40) else ((ep + add, en), 0))
  else if 4294967295 - add < ls.getD (ls.length - leave.toNat - 1) 0 then ((0, []), 41)
  else if 3 < ls.length - leave.toNat + en.length then ((0, []), 40)
  else ((ep, ls.take (ls.length - leave.toNat - 1) ++ [ls.getD (ls.length - leave.toNat - 1) 0 + add] ++ en), 0)
def U32 (x : Int) : Prop := 0 ≤ x ∧ x ≤ 4294967295

set_option maxRecDepth 100000 in
theorem sum_52 (a b : Int) (w : World) (ha : U32 a) (hb : U32 b) : Calls Tryz.prog 52 #[.int .u32 a, .int .u32 b] w fun e w' => e = .returned (.tuple #[.int .u32 (if 4294967295 - b < a then 0 else a + b), .int .u16 (if 4294967295 - b < a then 41 else 0)]) ∧ w' = w := by
  obtain ⟨a0, a1⟩ := ha
  obtain ⟨b0, b1⟩ := hb
  by_cases h : 4294967295 - b < a
  · rw [if_pos h, if_pos h]
    go_enter Tryz.func52, Tryz.ntmps52
    go_wp2_with fail
    go_ret2
    exact ⟨rfl, rfl⟩
  · rw [if_neg h, if_neg h]
    go_enter Tryz.func52, Tryz.ntmps52
    go_wp2_with fail
    go_ret2
    exact ⟨rfl, rfl⟩

def setRow2 (w : World) (b : Nat) (v0 v1 : Value) : World := (w.setCell ⟨b, 0, none⟩ v0).setCell ⟨b, 1, none⟩ v1
theorem setRow2_at {w : World} {b : Nat} {c0 c1 v0 v1 : Value} {t : TypeId} {f : Nat × Nat} (h : w.heap[b]? = some (.cells #[c0, c1] t f)) : (setRow2 w b v0 v1).heap[b]? = some (.cells #[v0, v1] t f) := by
  have h := heap_set_same (o := 1) (v := v1) (heap_set_same (o := 0) (v := v0) h)
  simpa [setRow2] using h
theorem setRow2_ne {w : World} {b g : Nat} {v0 v1 : Value} (h : g ≠ b) : (setRow2 w b v0 v1).heap[g]? = w.heap[g]? := by
  simp only [setRow2, heap_set_ne h]
theorem setRow2_below {B : Nat} {w w' : World} {b : Nat} {v0 v1 : Value} (h : Below B w w') (hb : B ≤ b) : Below B w (setRow2 w' b v0 v1) :=
  (h.setCell (p := ⟨b, 0, none⟩) hb _).setCell (p := ⟨b, 1, none⟩) hb _
theorem step_alloc46 {ops : Array Oper} {o : Oper} {a : Act} {W : World} {K : Act → World → Prop} {Q : Exit → Act → World → Prop} {E : Prop} (hgd : o.guard = none)
    (ho : o.op = .alloc 46)
    (h : ∀ b W', W' = W.alloc (.cells #[.int .u64 0, .slice none 0 0] 46) → b = W.heap.size → K (a.put o.dst (.pointer (some ⟨b, 0, none⟩))) W') :
    if Region.wanted o (yielded ops a.tmps) = true then Oper.wp Tryz.prog o a W K Q else E := by
  have hw : Region.wanted o (yielded ops a.tmps) = true := by simp [Region.wanted, hgd]
  rw [if_pos hw]
  have h := h W.heap.size _ rfl rfl
  unfold Oper.wp execOp
  simp only [ho]
  go_simp
  exact h
theorem step_store46 {ops : Array Oper} {o : Oper} {a : Act} {W : World} {K : Act → World → Prop} {Q : Exit → Act → World → Prop} {E : Prop} (hgd : o.guard = none) (x y : Operand)
    (ho : o.op = .store 46 x y) {B : Nat} (hx : a.eval x = .pointer (some ⟨B, 0, none⟩)) {v0 : Int} {va : Option Addr} {vn vc : Nat} (hy : a.eval y = .agg #[.int .u64 v0, .slice va vn vc]) {z0 z1 : Value} (hh : W.heap[B]? = some (.cells #[z0, z1] 46 (0, 0)))
    (h : ∀ W', W' = setRow2 W B (.int .u64 v0) (.slice va vn vc) → K (a.put o.dst undef) W') :
    if Region.wanted o (yielded ops a.tmps) = true then Oper.wp Tryz.prog o a W K Q else E := by
  have hw : Region.wanted o (yielded ops a.tmps) = true := by simp [Region.wanted, hgd]
  rw [if_pos hw]
  have h := h _ rfl
  have z0 := cell_of_heap (o := 0) hh rfl
  have g0 := frozen_of_heap (o := 0) hh
  have z1 := cell_of_heap (o := 1) hh rfl
  have g1 := frozen_of_heap (o := 1) hh
  unfold Oper.wp execOp
  simp only [ho, hx, hy]
  go_simp
  exact h
theorem own_ne {w w' : World} {e size n : Nat} {v : Value} {xs : List Value} {b : Nat} (h : w'.ownsRow w.heap.size e size v n xs) (hb : b < w.heap.size) : v.ownBlock ≠ some b := fun e => by have := (h.lt _ e).1; omega
theorem own_ne' {w : World} {B e size n : Nat} {v : Value} {xs : List Value} {b : Nat} (h : w.ownsRow B e size v n xs) (hb : b = w.heap.size) : v.ownBlock ≠ some b := fun e => by have := (h.lt _ e).2; omega
theorem World.ownsRow.low {w : World} {B base e size n : Nat} {v : Value} {xs : List Value} (h : w.ownsRow base e size v n xs) (hB : B ≤ base) : w.ownsRow B e size v n xs := by
  refine ⟨h.1, ?_⟩
  rcases h.2 with hn | ⟨g, cap, cur, rfl, hb, rest⟩
  · exact .inl hn
  · exact .inr ⟨g, cap, cur, rfl, by omega, rest⟩
theorem words_take {w : World} {a : Option Addr} {c : Nat} {xs : List Int} (h : WordsAt w (.slice a xs.length c) xs) (k : Nat) : WordsAt w (.slice a (xs.take k).length c) (xs.take k) := by
  obtain ⟨a', c', e, hz, h⟩ := h
  cases e
  refine ⟨a, c, rfl, hz, fun hne => ?_⟩
  obtain ⟨b, o, rfl, hg⟩ := h (fun e => hne (by rw [e]; exact List.take_nil))
  exact ⟨b, o, rfl, fun i x hx => hg i x (by
    rw [List.getElem?_take] at hx
    split at hx
    · exact hx
    · cases hx)⟩
theorem TyRow.words {w : World} {lv : Value} {xs : List Int} (h : TyRow w 33 lv xs.length (wordCells xs)) : WordsAt w lv xs := by
  obtain ⟨a, c, rfl, hz, h⟩ := h
  refine ⟨a, c, rfl, fun e => (hz.1 e).1, fun hne => ?_⟩
  obtain ⟨b, cur, rfl, hb, hc⟩ := h (by simpa using hne)
  exact ⟨b, 0, rfl, fun i x hx => cell_of_heap hb (hc _ _ (by rw [Nat.zero_add, wordCells, List.getElem?_map, hx]; rfl))⟩
theorem setRow_one {w : World} {b : Nat} {c0 c1 v : Value} {t : TypeId} {f : Nat × Nat} (h : w.heap[b]? = some (.cells #[c0, c1] t f)) : (w.setCell ⟨b, 0, none⟩ v).heap[b]? = some (.cells #[v, c1] t f) := by
  rw [heap_set_same h]; rfl
theorem words_cell {w : World} {a : Option Addr} {n c : Nat} {xs : List Int} (h : WordsAt w (.slice a n c) xs) {ad : Addr} (e : a = some ad) (j : Nat) (u : Value) (hu : (wordCells xs)[j]? = some u) : w.cell? (ad.add j) = some u := by
  obtain ⟨a', c', ev, -, h⟩ := h
  cases ev
  rw [wordCells, List.getElem?_map] at hu
  cases hx : xs[j]? with
  | none => rw [hx] at hu; cases hu
  | some x =>
    rw [hx] at hu
    cases hu
    obtain ⟨b, o, h2, hg⟩ := h (fun e => by rw [e] at hx; simp at hx)
    rw [h2] at e
    cases e
    have := hg j x hx
    rwa [← Go.Pen.add_lit] at this
theorem words_one {xs : List Int} {u : Value} (h : u ∈ wordCells xs) : u.oneCell' = true := by
  obtain ⟨x, -, rfl⟩ := List.mem_map.1 h
  rfl
theorem words_grown {ls en : List Int} {j : Nat} {x y : Int} (h : ls[j]? = some x) : (ls.take j ++ [y] ++ en).length = j + 1 + en.length ∧ wordCells (ls.take j ++ [y] ++ en) = (wordCells (ls.take (j + 1))).set j (.int .u32 y) ++ wordCells en := by
  have hl : j < ls.length := (List.getElem?_eq_some_iff.1 h).1
  have e1 : (ls.take j).length = j := by rw [List.length_take]; omega
  refine ⟨by simp; omega, ?_⟩
  unfold wordCells
  rw [List.map_append, List.take_add_one, h, List.map_append, List.map_append]
  congr 1
  rw [List.set_append_right _ _ (by rw [List.length_map, e1]; exact Nat.le_refl _), List.length_map, e1, Nat.sub_self]
  rfl
theorem ty_set {w : World} {v x : Value} {n p o : Nat} {xs : List Value} {cs : Array Value} {fr : Nat × Nat} (h : TyRow w 33 v n xs) (hp : w.heap[p]? = some (.cells cs 46 fr)) : TyRow (w.setCell ⟨p, o, none⟩ x) 33 v n xs :=
  h.kt rfl (Kt.but hp (by decide) (by simp [World.setCell]) fun k _ hk => heap_set_ne hk)
theorem ty_row2 {w : World} {v x y : Value} {n p : Nat} {xs : List Value} {c0 c1 : Value} {fr : Nat × Nat} (h : TyRow w 33 v n xs) (hp : w.heap[p]? = some (.cells #[c0, c1] 46 fr)) : TyRow (setRow2 w p x y) 33 v n xs :=
  ty_set (ty_set h hp) (setRow_one (v := x) hp)
theorem words_none {w : World} {a : Option Addr} {n c : Nat} {xs : List Int} (h : WordsAt w (.slice a n c) xs) (e : a = none) : n = 0 ∧ c = 0 := by
  obtain ⟨a', c', ev, hz, h⟩ := h
  cases ev
  refine ⟨?_, hz e⟩
  have : xs = [] := Classical.byContradiction fun hne => by
    obtain ⟨b, o, h2, -⟩ := h hne
    rw [h2] at e
    cases e
  rw [this]; rfl
/-- the middle of Apply: the innermost counter grown -/
def midT (add : Int) (ep : Int) (xs : List Int) : (Int × List Int) × Nat :=
  if xs.length = 0 then (if 18446744073709551615 - add < ep then ((0, []), 41) else ((ep + add, []), 0))
  else if 4294967295 - add < xs.getD (xs.length - 1) 0 then ((0, []), 41) else ((ep, xs.take (xs.length - 1) ++ [xs.getD (xs.length - 1) 0 + add]), 0)

set_option maxRecDepth 100000 in
set_option maxHeartbeats 1000000 in
theorem apply_35 (leave add : Int) (en : List Int) (nv lv : Value) (ep : Int) (ls : List Int) (w : World) (hty : TyRow w 33 lv ls.length (wordCells ls)) (hn : WordsAt w nv en) (hll : ls.length ≤ 1073741824) (hnl : en.length ≤ 1073741824) (hlv : -9223372036854775808 ≤ leave ∧ leave ≤ 9223372036854775807)
    (had : U32 add) (hep : 0 ≤ ep ∧ ep ≤ 18446744073709551615) (hlo : ∀ x ∈ ls, U32 x) :
    Calls Tryz.prog 35 #[.agg #[.int .i64 leave, .int .u32 add, nv], .agg #[.int .u64 ep, lv]] w fun e w' => ∃ lv', e = .returned (.tuple #[.agg #[.int .u64 (applyT leave add en ep ls).1.1, lv'], .int .u16 (applyT leave add en ep ls).2]) ∧ TyRow w' 33 lv' (applyT leave add en ep ls).1.2.length (wordCells (applyT leave add en ep ls).1.2) ∧ Below w.heap.size w w' := by
  have hl := hty.words
  obtain ⟨la, lc, rfl, ⟨-, hlc⟩, -⟩ := hty
  obtain ⟨na, nc, rfl⟩ := hn.slice
  obtain ⟨H, eH⟩ : ∃ H, H = w.heap.size := ⟨_, rfl⟩
  obtain ⟨R, eR⟩ : ∃ R, R = applyT leave add en ep ls := ⟨_, rfl⟩
  rw [← eR]
  have HL := Lib.hid hl
  have HN := Lib.hid hn
  have HLO := Lib.hid hlo
  obtain ⟨i0, hi0, hz0, hz1, hz2⟩ := info_parts info33
  obtain ⟨a0, a1⟩ := had
  clear hl hn hlo
  by_cases h40 : leave < 0 ∨ (ls.length : Int) < leave
  · have hR : R = ((0, []), 40) := by rw [eR]; unfold applyT; rw [if_pos h40]
    subst hR
    clear eR
    obtain ⟨m, hm, hmn⟩ : ∃ m : Int, wrap64 (↑ls.length - leave) = m ∧ (¬ leave < 0 → m < 0) := ⟨_, rfl, fun h => by unfold wrap64; omega⟩
    have h2 : ((((w.alloc (.cells #[.int .i64 leave, .int .u32 add, .slice na en.length nc] 36)).alloc (.cells #[.int .u64 ep, .slice la ls.length lc] 46)).alloc (.cells #[.int .u64 0, .slice none 0 0] 46))).heap[w.heap.size + 1 + 1]? = some (.cells #[.int .u64 0, .slice none 0 0] 46 (0, 0)) := by
      have := heap_alloc_new ((w.alloc (.cells #[.int .i64 leave, .int .u32 add, .slice na en.length nc] 36)).alloc (.cells #[.int .u64 ep, .slice la ls.length lc] 46)) (.cells #[.int .u64 0, .slice none 0 0] 46)
      rwa [World.size_alloc, World.size_alloc] at this
    have hb : Below w.heap.size w ((((w.alloc (.cells #[.int .i64 leave, .int .u32 add, .slice na en.length nc] 36)).alloc (.cells #[.int .u64 ep, .slice la ls.length lc] 46)).alloc (.cells #[.int .u64 0, .slice none 0 0] 46))) := three_below _ _ _ _
    have H2 := Lib.hid h2
    have HB := Lib.hid hb
    clear h2 hb
    by_cases hneg : leave < 0
    · go_enter Tryz.func35, Tryz.ntmps35
      go_wp2_with fail
      refine bodyPost_ret (results_row_tmp rfl _ _ (w.heap.size + 1 + 1) 46 _ (0, 0) _ rfl H2.out Tryz.underlying46 rfl (by kernel_rfl)) rfl ?_
      exact ⟨_, rfl, ⟨none, 0, rfl, ⟨fun _ => ⟨rfl, rfl⟩, Nat.le_refl _⟩, fun h => absurd rfl h⟩, HB.out⟩
    · have hm0 := hmn hneg
      go_enter Tryz.func35, Tryz.ntmps35
      go_wp2_with fail
      refine bodyPost_ret (results_row_tmp rfl _ _ (w.heap.size + 1 + 1) 46 _ (0, 0) _ rfl H2.out Tryz.underlying46 rfl (by kernel_rfl)) rfl ?_
      exact ⟨_, rfl, ⟨none, 0, rfl, ⟨fun _ => ⟨rfl, rfl⟩, Nat.le_refl _⟩, fun h => absurd rfl h⟩, HB.out⟩
  · have ER := Lib.hid eR
    clear eR
    obtain ⟨kn, ekn⟩ : ∃ kn : Nat, (kn : Int) = ls.length - leave := ⟨ls.length - leave.toNat, by omega⟩
    have hw : wrap64 (↑ls.length - leave) = ↑kn := by unfold wrap64; omega
    have hkn : kn ≤ ls.length := by omega
    have hkc : kn ≤ lc := by omega
    have hk0 : ¬ leave < 0 := by omega
    have hk1 : ¬ (kn : Int) < 0 := by omega
    have EKN := Lib.hid ekn
    clear ekn
    go_enter Tryz.func35, Tryz.ntmps35
    go_upto_region 4 with fail
    obtain ⟨w1, hw1⟩ : ∃ w1, w1 = ((((w.alloc (.cells #[.int .i64 leave, .int .u32 add, .slice na en.length nc] 36)).alloc (.cells #[.int .u64 ep, .slice la ls.length lc] 46)).alloc (.cells #[.int .u64 0, .slice none 0 0] 46))) := ⟨_, rfl⟩
    have hb1 : Below w.heap.size w w1 := by rw [hw1]; exact three_below _ _ _ _
    have f0 : w1.heap[H]? = some (.cells #[.int .i64 leave, .int .u32 add, .slice na en.length nc] 36 (0, 0)) := by rw [hw1, eH]; exact keepAt' (keepAt' (heap_alloc_new _ _) _) _
    have f1 : w1.heap[H + 1]? = some (.cells #[.int .u64 ep, .slice la ls.length lc] 46 (0, 0)) := by
      have := heap_alloc_new (w.alloc (.cells #[.int .i64 leave, .int .u32 add, .slice na en.length nc] 36)) (.cells #[.int .u64 ep, .slice la ls.length lc] 46)
      rw [World.size_alloc] at this
      rw [hw1, eH]; exact keepAt' this _
    have f2 : w1.heap[H + 1 + 1]? = some (.cells #[.int .u64 0, .slice none 0 0] 46 (0, 0)) := by
      have := heap_alloc_new ((w.alloc (.cells #[.int .i64 leave, .int .u32 add, .slice na en.length nc] 36)).alloc (.cells #[.int .u64 ep, .slice la ls.length lc] 46)) (.cells #[.int .u64 0, .slice none 0 0] 46)
      rw [World.size_alloc, World.size_alloc] at this
      rw [hw1, eH]; exact this
    have F0 := Lib.hid f0
    have F1 := Lib.hid f1
    have F2 := Lib.hid f2
    have HB1 := Lib.hid hb1
    have EH := Lib.hid eH
    rw [← hw1, ← eH, show (↑ls.length - leave : Int) = ↑kn from EKN.out.symm]
    have hs1 : H + 3 ≤ w1.heap.size := by have := lt_of_heap f2; omega
    clear f0 f1 f2 hb1 hw1 eH
    have hcl : ∀ W, Below w1.heap.size w1 W → Calls Tryz.prog 51 #[.slice la kn lc] W fun ev w' => ∃ v', ev = .returned v' ∧ w'.ownsRow W.heap.size 33 1 v' kn (wordCells (ls.take kn)) ∧ Below W.heap.size W w' := fun W hb => by
      have hwt : WordsAt W (.slice la (ls.take kn).length lc) (ls.take kn) := words_take (HL.out.below (stepB HB1.out hb)) kn
      have h := clone_51 (ls.take kn) _ W hwt (by rw [List.length_take]; omega)
      rw [show (ls.take kn).length = kn by rw [List.length_take]; omega] at h
      exact h
    have HCL := Lib.hid hcl
    have hs : ∀ W, Below w1.heap.size w1 W → W.cell? ⟨H + 1, 0, none⟩ = some (.int .u64 ep) ∧ W.cell? ⟨H + 1, 1, none⟩ = some (.slice la ls.length lc) := fun W hb => ⟨cell_of_heap (keepB F1.out hb) rfl, cell_of_heap (keepB F1.out hb) rfl⟩
    have HS := Lib.hid hs
    clear hcl hs
    go_cut [7] from 23 to 30 (fun s7 wx => ∃ B oa oc, s7 = .pointer (some ⟨B, 0, none⟩) ∧ wx.heap[B]? = some (.cells #[.int .u64 ep, .slice oa kn oc] 46 (0, 0)) ∧ w1.heap.size ≤ B ∧ wx.ownsRow w1.heap.size 33 1 (.slice oa kn oc) kn (wordCells (ls.take kn)) ∧ (Value.slice oa kn oc).ownBlock ≠ some B ∧ Below w1.heap.size w1 wx)
    case first =>
      have CB0 := Lib.hid (show Below w1.heap.size w1 w1.drew from ⟨rfl, rfl, rfl, Nat.le_refl _, fun _ _ => rfl⟩)
      refine wp_region_held_drew (S := fun W => W.cell? ⟨H + 1, 0, none⟩ = some (.int .u64 ep) ∧ W.cell? ⟨H + 1, 1, none⟩ = some (.slice la ls.length lc)) (by kernel_rfl) (HS.out _ CB0.out) (fun hHeld => ?_)
      refine wpAnyH_take (i := 0) (oi := ⟨some 23, _, _, _, _, _⟩) (v := ?_) rfl (by kernel_rfl) (by kernel_rfl) (by kernel_rfl) (fun _ _ _ h => h) (Or.inl ⟨by rfl, ?_⟩) (by assumption) ?_; rotate_left; (intro w hSw; (try dsimp only at hSw); go_simp; (try with_reducible rfl)); (try simp only [Act.put, List.setIfInBounds_toArray, List.set_cons_zero, List.set_cons_succ])
      refine wpAnyH_take (i := 1) (oi := ⟨some 24, _, _, _, _, _⟩) (v := ?_) rfl (by kernel_rfl) (by kernel_rfl) (by kernel_rfl) (fun _ _ _ h => h) (Or.inl ⟨by rfl, ?_⟩) (by assumption) ?_; rotate_left; (intro w hSw; (try dsimp only at hSw); go_simp; (try with_reducible rfl)); (try simp only [Act.put, List.setIfInBounds_toArray, List.set_cons_zero, List.set_cons_succ])
      refine wpAnyH_take (i := 2) (oi := ⟨some 25, _, _, _, _, _⟩) (v := ?_) rfl (by kernel_rfl) (by kernel_rfl) (by kernel_rfl) (fun _ _ _ h => h) (Or.inl ⟨by rfl, ?_⟩) (by assumption) ?_; rotate_left; (intro w hSw; (try dsimp only at hSw); go_simp; (try with_reducible rfl)); (try simp only [Act.put, List.setIfInBounds_toArray, List.set_cons_zero, List.set_cons_succ])
      refine wpAnyH_take (i := 3) (oi := ⟨some 26, _, _, _, _, _⟩) (v := ?_) rfl (by kernel_rfl) (by kernel_rfl) (by kernel_rfl) (fun _ _ _ h => h) (Or.inl ⟨by rfl, ?_⟩) (by assumption) ?_; rotate_left; (intro w hSw; (try dsimp only at hSw); go_simp; (try with_reducible rfl)); (try simp only [Act.put, List.setIfInBounds_toArray, List.set_cons_zero, List.set_cons_succ])
      refine wpAnyH_take (i := 4) (oi := ⟨some 27, _, _, _, _, _⟩) (v := ?_) rfl (by kernel_rfl) (by kernel_rfl) (by kernel_rfl) (fun _ _ _ h => h) (Or.inl ⟨by rfl, ?_⟩) (by assumption) ?_; rotate_left; (intro w hSw; (try dsimp only at hSw); go_simp; (try with_reducible rfl)); (try simp only [Act.put, List.setIfInBounds_toArray, List.set_cons_zero, List.set_cons_succ])
      refine wpAnyH_take (i := 5) (oi := ⟨some 28, _, _, _, _, _⟩) (v := ?_) rfl (by kernel_rfl) (by kernel_rfl) (by kernel_rfl) (fun _ _ _ h => h) (Or.inl ⟨by rfl, ?_⟩) (by assumption) ?_; rotate_left; (intro w hSw; (try dsimp only at hSw); go_simp; (try with_reducible rfl)); (try simp only [Act.put, List.setIfInBounds_toArray, List.set_cons_zero, List.set_cons_succ])
      refine wpAnyH_ready (rs := [6, 8]) (by kernel_rfl) (by simp) ?_
      refine AllReadyH.cons (o := ⟨some 29, _, _, _, _, _⟩) rfl (fun K hK => ?_) (AllReadyH.cons (o := ⟨some 7, _, _, _, _, _⟩) rfl (fun K hK => ?_) (AllReadyH.nil))
      · go_simp
        go_at_call 51
        with_reducible refine (HCL.out _ CB0.out).mono ?_
        rintro ev V1 ⟨v1, rfl, hov, hbx⟩
        obtain ⟨oa1, oc1, rfl⟩ := ownsRow_slice hov
        have CB1 := Lib.hid (stepB CB0.out hbx)
        have HOV1 := Lib.hid (World.ownsRow.low (B := w1.heap.size) hov CB0.out.size)
        clear hbx hov
        go_wp2_with fail
        refine hK.out _ _ (HS.out _ CB1.out) (fun hHeld => ?_)
        clear hK K
        skip
        refine wpAnyH_take (i := 7) (oi := ⟨some 30, _, _, _, _, _⟩) (v := ?_) rfl (by kernel_rfl) (by kernel_rfl) (by kernel_rfl) (fun _ _ _ h => h) (Or.inl ⟨by rfl, ?_⟩) (by assumption) ?_; rotate_left; (intro w hSw; (try dsimp only at hSw); go_simp; (try with_reducible rfl)); (try simp only [Act.put, List.setIfInBounds_toArray, List.set_cons_zero, List.set_cons_succ])
        refine wpAnyH_ready (rs := [8]) (by kernel_rfl) (by simp) ?_
        refine AllReadyH.cons (o := ⟨some 7, _, _, _, _, _⟩) rfl (fun K hK => ?_) (AllReadyH.nil)
        refine step_alloc46 rfl rfl ?_
        intro b2 V2 hV hb
        have CB2 := Lib.hid (show Below w1.heap.size w1 V2 by rw [hV]; exact CB1.out.alloc CB1.out.size _)
        have KA2 := Lib.hid (show V2.heap[b2]? = some (.cells #[.int .u64 0, .slice none 0 0] 46 (0, 0)) by rw [hV, hb]; exact heap_alloc_new _ _)
        have LB2 := Lib.hid (show w1.heap.size ≤ b2 by rw [hb]; exact CB1.out.size)
        have NE2 := Lib.hid (own_ne' HOV1.out hb)
        have OV2 := Lib.hid (show V2.ownsRow w1.heap.size 33 1 _ kn _ by rw [hV]; exact HOV1.out.alloc _)
        clear hV hb
        refine hK.out _ _ (HS.out _ CB2.out) (fun hHeld => ?_)
        clear hK K
        simp only [Act.put, List.setIfInBounds_toArray, List.set_cons_zero, List.set_cons_succ]
        refine wpAnyH_ready (rs := [9]) (by kernel_rfl) (by simp) ?_
        refine AllReadyH.cons (o := ⟨none, _, _, _, _, _⟩) rfl (fun K hK => ?_) (AllReadyH.nil)
        refine step_store46 rfl (.tmp 7) (.tmp 30) rfl (by simp [Act.eval]) (v0 := ep) (va := oa1) (vn := kn) (vc := oc1) (by simp [Act.eval]) KA2.out ?_
        intro V3 hV
        have CB3 := Lib.hid (show Below w1.heap.size w1 V3 by rw [hV]; exact setRow2_below CB2.out LB2.out)
        have KA3 := Lib.hid (show V3.heap[b2]? = some (.cells #[.int .u64 ep, .slice oa1 kn oc1] 46 (0, 0)) by rw [hV]; exact setRow2_at KA2.out)
        have OV3 := Lib.hid (show V3.ownsRow w1.heap.size 33 1 _ kn _ by rw [hV]; exact owns_same OV2.out fun k hk => setRow2_ne (fun e => NE2.out (e ▸ hk)))
        clear hV
        refine hK.out _ _ (HS.out _ CB3.out) (fun hHeld => ?_)
        clear hK K
        skip
        refine wpAnyH_done (by kernel_rfl) ?_ _
        go_wp2
        go_meet
        exact ⟨_, _, _, rfl, KA3.out, LB2.out, OV3.out, NE2.out, CB3.out⟩
      · refine step_alloc46 rfl rfl ?_
        intro b4 V4 hV hb
        have CB4 := Lib.hid (show Below w1.heap.size w1 V4 by rw [hV]; exact CB0.out.alloc CB0.out.size _)
        have KA4 := Lib.hid (show V4.heap[b4]? = some (.cells #[.int .u64 0, .slice none 0 0] 46 (0, 0)) by rw [hV, hb]; exact heap_alloc_new _ _)
        have LB4 := Lib.hid (show w1.heap.size ≤ b4 by rw [hb]; exact CB0.out.size)
        clear hV hb
        refine hK.out _ _ (HS.out _ CB4.out) (fun hHeld => ?_)
        clear hK K
        simp only [Act.put, List.setIfInBounds_toArray, List.set_cons_zero, List.set_cons_succ]
        refine wpAnyH_ready (rs := [6]) (by kernel_rfl) (by simp) ?_
        refine AllReadyH.cons (o := ⟨some 29, _, _, _, _, _⟩) rfl (fun K hK => ?_) (AllReadyH.nil)
        go_simp
        go_at_call 51
        with_reducible refine (HCL.out _ CB4.out).mono ?_
        rintro ev V5 ⟨v5, rfl, hov, hbx⟩
        obtain ⟨oa5, oc5, rfl⟩ := ownsRow_slice hov
        have CB5 := Lib.hid (stepB CB4.out hbx)
        have HOV5 := Lib.hid (World.ownsRow.low (B := w1.heap.size) hov CB4.out.size)
        have KA5 := Lib.hid (keepB KA4.out hbx)
        have NE5 := Lib.hid (own_ne hov (lt_of_heap KA4.out))
        clear hbx hov
        go_wp2_with fail
        refine hK.out _ _ (HS.out _ CB5.out) (fun hHeld => ?_)
        clear hK K
        skip
        refine wpAnyH_take (i := 7) (oi := ⟨some 30, _, _, _, _, _⟩) (v := ?_) rfl (by kernel_rfl) (by kernel_rfl) (by kernel_rfl) (fun _ _ _ h => h) (Or.inl ⟨by rfl, ?_⟩) (by assumption) ?_; rotate_left; (intro w hSw; (try dsimp only at hSw); go_simp; (try with_reducible rfl)); (try simp only [Act.put, List.setIfInBounds_toArray, List.set_cons_zero, List.set_cons_succ])
        refine wpAnyH_ready (rs := [9]) (by kernel_rfl) (by simp) ?_
        refine AllReadyH.cons (o := ⟨none, _, _, _, _, _⟩) rfl (fun K hK => ?_) (AllReadyH.nil)
        refine step_store46 rfl (.tmp 7) (.tmp 30) rfl (by simp [Act.eval]) (v0 := ep) (va := oa5) (vn := kn) (vc := oc5) (by simp [Act.eval]) KA5.out ?_
        intro V6 hV
        have CB6 := Lib.hid (show Below w1.heap.size w1 V6 by rw [hV]; exact setRow2_below CB5.out LB4.out)
        have KA6 := Lib.hid (show V6.heap[b4]? = some (.cells #[.int .u64 ep, .slice oa5 kn oc5] 46 (0, 0)) by rw [hV]; exact setRow2_at KA5.out)
        have OV6 := Lib.hid (show V6.ownsRow w1.heap.size 33 1 _ kn _ by rw [hV]; exact owns_same HOV5.out fun k hk => setRow2_ne (fun e => NE5.out (e ▸ hk)))
        clear hV
        refine hK.out _ _ (HS.out _ CB6.out) (fun hHeld => ?_)
        clear hK K
        skip
        refine wpAnyH_done (by kernel_rfl) ?_ _
        go_wp2
        go_meet
        exact ⟨_, _, _, rfl, KA6.out, LB4.out, OV6.out, NE5.out, CB6.out⟩
    obtain ⟨B, oa, oc, rfl, kB, hB, hov, hne, hbc⟩ := hcut
    have HBC := Lib.hid hbc
    have HOV := Lib.hid hov
    have KB := Lib.hid kB
    have HB2 := Lib.hid (stepB HB1.out hbc)
    have K2 := Lib.hid (keepB F2.out hbc)
    have K0 := Lib.hid (keepB F0.out hbc)
    have hH : w.heap.size = H := EH.out.symm
    have HH := Lib.hid hH
    have hs2 := hbc.size
    have hBH : B ≠ H + 1 + 1 := by omega
    have x0 := cell_of_heap (o := 0) kB rfl
    have x1 := cell_of_heap (o := 1) kB rfl
    have gx0 := frozen_of_heap (o := 0) kB
    have gx1 := frozen_of_heap (o := 1) kB
    have y1 := cell_of_heap (o := 1) K0.out rfl
    have y2 := cell_of_heap (o := 2) K0.out rfl
    have z0 := cell_of_heap (o := 0) K2.out rfl
    have z1 := cell_of_heap (o := 1) K2.out rfl
    have gz0 := frozen_of_heap (o := 0) K2.out
    have gz1 := frozen_of_heap (o := 1) K2.out
    clear HCL HS hov hbc kB hH
    by_cases hkz : kn = 0
    · subst hkz
      have hkE : ls.length - leave.toNat = 0 := by have := EKN.out; omega
      by_cases hov : 18446744073709551615 - add < ep
      · have HR := Lib.hid (show R = ((0, []), 41) by rw [ER.out]; unfold applyT; rw [if_neg h40, if_pos hkE, if_pos hov])
        have K22 := Lib.hid ((heap_set_ne (v := .int .u64 (IntKind.u64.wrap (ep + add))) (o := 0) hBH.symm).trans K2.out)
        have HB22 := Lib.hid (HB2.out.setCell (p := ⟨B, 0, none⟩) (by have := HH.out; show w.heap.size ≤ B; omega) (.int .u64 (IntKind.u64.wrap (ep + add))))
        clear hne
        go_wp2_with fail
        refine bodyPost_ret (results_row_tmp rfl _ _ (H + 1 + 1) 46 _ (0, 0) _ rfl (setRow2_at K22.out) Tryz.underlying46 rfl (by kernel_rfl)) rfl ?_
        rw [HR.out]
        exact ⟨_, rfl, ⟨none, 0, rfl, ⟨fun _ => ⟨rfl, rfl⟩, Nat.le_refl _⟩, fun h => absurd rfl h⟩, setRow2_below HB22.out (by have := HH.out; omega)⟩
      · have KB2 := Lib.hid (setRow_one (v := .int .u64 (ep + add)) KB.out)
        have K22 := Lib.hid ((heap_set_ne (v := .int .u64 (ep + add)) (o := 0) hBH.symm).trans K2.out)
        have HB22 := Lib.hid (HB2.out.setCell (p := ⟨B, 0, none⟩) (by have := HH.out; show w.heap.size ≤ B; omega) (.int .u64 (ep + add)))
        have HOV2 := Lib.hid (owns_same HOV.out fun k hk => heap_set_ne (o := 0) (v := .int .u64 (ep + add)) (fun e : k = B => hne (by rw [← e]; exact hk)))
        have NE2 := Lib.hid hne
        by_cases h3 : 3 < en.length
        · have HR := Lib.hid (show R = ((0, []), 40) by rw [ER.out]; unfold applyT; rw [if_neg h40, if_pos hkE, if_neg hov, if_pos h3])
          clear hne
          go_wp2_with fail
          refine bodyPost_ret (results_row_tmp rfl _ _ (H + 1 + 1) 46 _ (0, 0) _ rfl (setRow2_at K22.out) Tryz.underlying46 rfl (by kernel_rfl)) rfl ?_
          rw [HR.out]
          exact ⟨_, rfl, ⟨none, 0, rfl, ⟨fun _ => ⟨rfl, rfl⟩, Nat.le_refl _⟩, fun h => absurd rfl h⟩, setRow2_below HB22.out (by have := HH.out; omega)⟩
        · have HR := Lib.hid (show R = ((ep + add, en), 0) by rw [ER.out]; unfold applyT; rw [if_neg h40, if_pos hkE, if_neg hov, if_neg h3])
          have hwa : w1.heap.size ≤ (wc.setCell ⟨B, 0, none⟩ (.int .u64 (ep + add))).heap.size := by simp [World.setCell]; omega
          have HBV := Lib.hid (HBC.out.setCell (p := ⟨B, 0, none⟩) (by show w1.heap.size ≤ B; omega) (.int .u64 (ep + add)))
          clear hne
          go_wp2_with (at_builtin; go_must (refine wpList_append_any _ rfl _ _ 34 rfl w1.heap.size 33 i0 _ 1 4 Tryz.underlying34 hi0 hz0 hz1 hz2 rfl (by decide) _ _ _ rfl HOV2.out _ _ _ (wordCells en) rfl (fun e => words_none HN.out e) (by simp [wordCells]) (fun ad e jj u hu => words_cell ((HN.out.below HB1.out).below HBV.out) e jj u hu) (fun u hu => words_one hu) (by unfold maxLen; omega) (by omega) hwa ?_))
          intro v3 w3 hv hg
          obtain ⟨va, vc, rfl⟩ := ownsRow_slice hv
          have KB3 := Lib.hid ((hg.block B (lt_of_heap KB2.out) (Ne.symm NE2.out)).trans KB2.out)
          have K23 := Lib.hid ((hg.block (H + 1 + 1) (lt_of_heap K22.out) (Ne.symm (fun e => by have := (HOV2.out.lt _ e).1; omega))).trans K22.out)
          have HB3 := Lib.hid (HB22.out.grown hg HB22.out.size (fun q hq => by have := (HOV2.out.lt _ hq).1; have := HH.out; omega))
          have TY3 := Lib.hid (TyRow.of_own hv)
          have u0 := cell_of_heap (o := 0) KB3.out rfl
          have u1 := cell_of_heap (o := 1) KB3.out rfl
          have gu1 := frozen_of_heap (o := 1) KB3.out
          have q0 := cell_of_heap (o := 0) K23.out rfl
          have q1 := cell_of_heap (o := 1) K23.out rfl
          have gq0 := frozen_of_heap (o := 0) K23.out
          have gq1 := frozen_of_heap (o := 1) K23.out
          have hHB : H + 1 + 1 ≠ B := hBH.symm
          have K24 := Lib.hid ((heap_set_ne (v := .slice va en.length vc) (o := 1) hHB).trans K23.out)
          have HB4 := Lib.hid (HB3.out.setCell (p := ⟨B, 1, none⟩) (by have := HH.out; show w.heap.size ≤ B; omega) (.slice va en.length vc))
          have TY4 := Lib.hid (ty_row2 (x := .int .u64 (ep + add)) (y := .slice va en.length vc) (ty_set (o := 1) (x := .slice va en.length vc) TY3.out KB3.out) K24.out)
          clear hv hg
          go_wp2_with fail
          refine bodyPost_ret (results_row_tmp rfl _ _ (H + 1 + 1) 46 _ (0, 0) _ rfl (setRow2_at K24.out) Tryz.underlying46 rfl (by kernel_rfl)) rfl ?_
          rw [HR.out]
          refine ⟨_, rfl, ?_, setRow2_below HB4.out (by have := HH.out; omega)⟩
          simpa [wordCells, setRow2] using TY4.out
    · obtain ⟨j, ej⟩ : ∃ j, kn = j + 1 := ⟨kn - 1, by omega⟩
      subst ej
      have hkE : ¬ ls.length - leave.toNat = 0 := by have := EKN.out; omega
      have hjE : ls.length - leave.toNat - 1 = j := by have := EKN.out; omega
      have hjL : ls.length - leave.toNat = j + 1 := by have := EKN.out; omega
      obtain ⟨x, hx⟩ : ∃ x, ls[j]? = some x := ⟨ls[j]'(by omega), List.getElem?_eq_getElem _⟩
      have hxD : ls.getD j 0 = x := by rw [List.getD_eq_getElem?_getD, hx]; rfl
      have hux : U32 x := HLO.out x (List.mem_of_getElem? hx)
      obtain ⟨oa', oc', eo, -, hob⟩ := TyRow.of_own HOV.out
      cases eo
      obtain ⟨g, cur, rfl, hgc, hgx⟩ := hob (by omega)
      have hwx : (wordCells (ls.take (j + 1)))[j]? = some (.int .u32 x) := by rw [wordCells, List.getElem?_map, List.getElem?_take, if_pos (by omega), hx]; rfl
      have xe : wc.drew.cell? ⟨g, j, none⟩ = some (.int .u32 x) := cell_of_heap (w := wc.drew) hgc (hgx j _ hwx)
      have gxe : wc.drew.frozen? ⟨g, j, none⟩ = false := frozen_of_heap (w := wc.drew) hgc
      have hgw : w1.heap.size ≤ g := (HOV.out.lt g rfl).1
      have hBg : B ≠ g := fun e => hne (by rw [e]; rfl)
      have HS2 := Lib.hid (show wc.drew.cell? ⟨B, 1, none⟩ = some (.slice (some ⟨g, 0, none⟩) (j + 1) oc) ∧ wc.drew.cell? ⟨H, 1, none⟩ = some (.int .u32 add) from ⟨x1, y1⟩)
      have hj1 : (↑(j + 1) : Int) - 1 = ↑j := by omega
      have hj2 : wrap64 ((↑(j + 1) : Int) - 1) = ↑j := by unfold wrap64; omega
      have hj3 : (↑j : Int).toNat = j := by omega
      have hj4 : (0 : Int) ≤ ↑j := by omega
      have hj5 : (↑j : Int) < ↑(j + 1) := by omega
      have hj6 : IntKind.i64.wrap (↑j : Int) = ↑j := by rw [IntKind.wrap_i64]; omega
      have hj7 : (↑j : Int) < ↑j + 1 := by omega
      have hjz : ¬ (↑(j + 1) : Int) = 0 := by omega
      have HJE := Lib.hid hjE
      have HJL := Lib.hid hjL
      have HXD := Lib.hid hxD
      have HX := Lib.hid hx
      have HGC := Lib.hid hgc
      clear hjE hjL hxD hx hgc hgx hwx
      by_cases hov : 4294967295 - add < x
      · have HR := Lib.hid (show R = ((0, []), 41) by rw [ER.out]; unfold applyT; rw [if_neg h40, if_neg hkE, HJE.out, HXD.out, if_pos hov])
        have HSM : Hid (∀ W, Calls Tryz.prog 52 #[.int .u32 x, .int .u32 add] W fun e w' => e = .returned (.tuple #[.int .u32 0, .int .u16 41]) ∧ w' = W) := Lib.hid fun W => by have := sum_52 x add W hux ⟨a0, a1⟩; rw [if_pos hov, if_pos hov] at this; exact this
        obtain ⟨V, hV⟩ : ∃ V, V = wc.drew.setCell ⟨g, j, none⟩ (.int .u32 0) := ⟨_, rfl⟩
        have hVg : ∀ k, k ≠ g → V.heap[k]? = wc.heap[k]? := fun k hk => by rw [hV]; exact heap_set_ne hk
        have KBV := Lib.hid ((hVg B hBg).trans KB.out)
        have K2V := Lib.hid ((hVg (H + 1 + 1) (by omega)).trans K2.out)
        have K0V := Lib.hid ((hVg H (by omega)).trans K0.out)
        have HBV := Lib.hid (show Below w1.heap.size w1 V by rw [hV]; exact (Go.Pen.below_drewN (n := 1) HBC.out).setCell (p := ⟨g, j, none⟩) (by show w1.heap.size ≤ g; omega) _)
        have HBW := Lib.hid (stepB HB1.out HBV.out)
        have OVV := Lib.hid (show V.ownsRow w1.heap.size 33 1 (.slice (some ⟨g, 0, none⟩) (j + 1) oc) (j + 1) ((wordCells (ls.take (j + 1))).set j (.int .u32 0)) by rw [hV]; exact ownsRow_set (show wc.drew.ownsRow w1.heap.size 33 1 _ _ _ from HOV.out))
        have NEV := Lib.hid hne
        have HSV := Lib.hid (show V.cell? ⟨B, 1, none⟩ = some (.slice (some ⟨g, 0, none⟩) (j + 1) oc) ∧ V.cell? ⟨H, 1, none⟩ = some (.int .u32 add) from ⟨cell_of_heap KBV.out rfl, cell_of_heap K0V.out rfl⟩)
        have HV := Lib.hid hV
        clear hVg
        go_upto_region 10 with fail
        have hds : (wc.drew.setCell ⟨g, j, none⟩ (.int .u32 0)) = V := HV.out.symm
        clear hV hne
        refine wp_region_held_drew (S := fun W => W.cell? ⟨B, 1, none⟩ = some (.slice (some ⟨g, 0, none⟩) (j + 1) oc) ∧ W.cell? ⟨H, 1, none⟩ = some (.int .u32 add)) (by kernel_rfl) HS2.out (fun hHeld => ?_)
        refine wpAnyH_take (i := 0) (oi := ⟨some 48, _, _, _, _, _⟩) (v := ?_) rfl (by kernel_rfl) (by kernel_rfl) (by kernel_rfl) (fun _ _ _ h => h) (Or.inl ⟨by rfl, ?_⟩) (by assumption) ?_; rotate_left; (intro w hSw; (try dsimp only at hSw); go_simp; (try with_reducible rfl)); (try simp only [Act.put, List.setIfInBounds_toArray, List.set_cons_zero, List.set_cons_succ])
        refine wpAnyH_take (i := 1) (oi := ⟨some 49, _, _, _, _, _⟩) (v := ?_) rfl (by kernel_rfl) (by kernel_rfl) (by kernel_rfl) (fun _ _ _ h => h) (Or.inl ⟨by rfl, ?_⟩) (by assumption) ?_; rotate_left; (intro w hSw; (try dsimp only at hSw); go_simp; (try with_reducible rfl)); (try simp only [Act.put, List.setIfInBounds_toArray, List.set_cons_zero, List.set_cons_succ])
        refine wpAnyH_take (i := 2) (oi := ⟨some 50, _, _, _, _, _⟩) (v := ?_) rfl (by kernel_rfl) (by kernel_rfl) (by kernel_rfl) (fun _ _ _ h => h) (Or.inl ⟨by rfl, ?_⟩) (by assumption) ?_; rotate_left; (intro w hSw; (try dsimp only at hSw); go_simp; (try with_reducible rfl)); (try simp only [Act.put, List.setIfInBounds_toArray, List.set_cons_zero, List.set_cons_succ])
        refine wpAnyH_take (i := 3) (oi := ⟨some 51, _, _, _, _, _⟩) (v := ?_) rfl (by kernel_rfl) (by kernel_rfl) (by kernel_rfl) (fun _ _ _ h => h) (Or.inl ⟨by rfl, ?_⟩) (by assumption) ?_; rotate_left; (intro w hSw; (try dsimp only at hSw); go_simp; (try with_reducible rfl)); (try simp only [Act.put, List.setIfInBounds_toArray, List.set_cons_zero, List.set_cons_succ])
        refine wpAnyH_take (i := 4) (oi := ⟨some 52, _, _, _, _, _⟩) (v := ?_) rfl (by kernel_rfl) (by kernel_rfl) (by kernel_rfl) (fun _ _ _ h => h) (Or.inl ⟨by rfl, ?_⟩) (by assumption) ?_; rotate_left; (intro w hSw; (try dsimp only at hSw); go_simp; (try with_reducible rfl)); (try simp only [Act.put, List.setIfInBounds_toArray, List.set_cons_zero, List.set_cons_succ])
        refine wpAnyH_take (i := 5) (oi := ⟨some 53, _, _, _, _, _⟩) (v := ?_) rfl (by kernel_rfl) (by kernel_rfl) (by kernel_rfl) (fun _ _ _ h => h) (Or.inl ⟨by rfl, ?_⟩) (by assumption) ?_; rotate_left; (intro w hSw; (try dsimp only at hSw); go_simp; (try with_reducible rfl)); (try simp only [Act.put, List.setIfInBounds_toArray, List.set_cons_zero, List.set_cons_succ])
        refine wpAnyH_take (i := 6) (oi := ⟨some 54, _, _, _, _, _⟩) (v := ?_) rfl (by kernel_rfl) (by kernel_rfl) (by kernel_rfl) (fun _ _ _ h => h) (Or.inl ⟨by rfl, ?_⟩) (by assumption) ?_; rotate_left; (intro w hSw; (try dsimp only at hSw); go_simp; (try with_reducible rfl)); (try simp only [Act.put, List.setIfInBounds_toArray, List.set_cons_zero, List.set_cons_succ])
        refine wpAnyH_take (i := 7) (oi := ⟨some 55, _, _, _, _, _⟩) (v := ?_) rfl (by kernel_rfl) (by kernel_rfl) (by kernel_rfl) (fun _ _ _ h => h) (Or.inl ⟨by rfl, ?_⟩) (by assumption) ?_; rotate_left; (intro w hSw; (try dsimp only at hSw); go_simp; (try with_reducible rfl)); (try simp only [Act.put, List.setIfInBounds_toArray, List.set_cons_zero, List.set_cons_succ])
        refine wpAnyH_take (i := 8) (oi := ⟨some 56, _, _, _, _, _⟩) (v := ?_) rfl (by kernel_rfl) (by kernel_rfl) (by kernel_rfl) (fun _ _ _ h => h) (Or.inl ⟨by rfl, ?_⟩) (by assumption) ?_; rotate_left; (intro w hSw; (try dsimp only at hSw); go_simp; (try with_reducible rfl)); (try simp only [Act.put, List.setIfInBounds_toArray, List.set_cons_zero, List.set_cons_succ])
        refine wpAnyH_take (i := 10) (oi := ⟨some 58, _, _, _, _, _⟩) (v := ?_) rfl (by kernel_rfl) (by kernel_rfl) (by kernel_rfl) (fun _ _ _ h => h) (Or.inl ⟨by rfl, ?_⟩) (by assumption) ?_; rotate_left; (intro w hSw; (try dsimp only at hSw); go_simp; (try with_reducible rfl)); (try simp only [Act.put, List.setIfInBounds_toArray, List.set_cons_zero, List.set_cons_succ])
        refine wpAnyH_take (i := 11) (oi := ⟨some 59, _, _, _, _, _⟩) (v := ?_) rfl (by kernel_rfl) (by kernel_rfl) (by kernel_rfl) (fun _ _ _ h => h) (Or.inl ⟨by rfl, ?_⟩) (by assumption) ?_; rotate_left; (intro w hSw; (try dsimp only at hSw); go_simp; (try with_reducible rfl)); (try simp only [Act.put, List.setIfInBounds_toArray, List.set_cons_zero, List.set_cons_succ])
        refine wpAnyH_ready (rs := [9]) (by kernel_rfl) (by simp) ?_
        refine AllReadyH.cons (o := ⟨some 57, _, _, _, _, _⟩) rfl (fun K hK => ?_) (AllReadyH.nil)
        go_simp
        refine hK.out _ _ (HS2.out) (fun hHeld => ?_)
        clear hK K
        skip
        refine wpAnyH_ready (rs := [12]) (by kernel_rfl) (by simp) ?_
        refine AllReadyH.cons (o := ⟨some 60, _, _, _, _, _⟩) rfl (fun K hK => ?_) (AllReadyH.nil)
        go_simp
        go_at_call 52
        with_reducible refine (HSM.out _).mono ?_
        rintro ev Y2 ⟨rfl, rfl⟩
        go_wp2_with fail
        refine hK.out _ _ (HS2.out) (fun hHeld => ?_)
        clear hK K
        skip
        refine wpAnyH_take (i := 13) (oi := ⟨some 47, _, _, _, _, _⟩) (v := ?_) rfl (by kernel_rfl) (by kernel_rfl) (by kernel_rfl) (fun _ _ _ h => h) (Or.inl ⟨by rfl, ?_⟩) (by assumption) ?_; rotate_left; (intro w hSw; (try dsimp only at hSw); go_simp; (try with_reducible rfl)); (try simp only [Act.put, List.setIfInBounds_toArray, List.set_cons_zero, List.set_cons_succ])
        refine wpAnyH_take (i := 14) (oi := ⟨some 61, _, _, _, _, _⟩) (v := ?_) rfl (by kernel_rfl) (by kernel_rfl) (by kernel_rfl) (fun _ _ _ h => h) (Or.inl ⟨by rfl, ?_⟩) (by assumption) ?_; rotate_left; (intro w hSw; (try dsimp only at hSw); go_simp; (try with_reducible rfl)); (try simp only [Act.put, List.setIfInBounds_toArray, List.set_cons_zero, List.set_cons_succ])
        refine wpAnyH_take (i := 15) (oi := ⟨some 62, _, _, _, _, _⟩) (v := ?_) rfl (by kernel_rfl) (by kernel_rfl) (by kernel_rfl) (fun _ _ _ h => h) (Or.inl ⟨by rfl, ?_⟩) (by assumption) ?_; rotate_left; (intro w hSw; (try dsimp only at hSw); go_simp; (try with_reducible rfl)); (try simp only [Act.put, List.setIfInBounds_toArray, List.set_cons_zero, List.set_cons_succ])
        refine wpAnyH_take (i := 16) (oi := ⟨some 63, _, _, _, _, _⟩) (v := ?_) rfl (by kernel_rfl) (by kernel_rfl) (by kernel_rfl) (fun _ _ _ h => h) (Or.inl ⟨by rfl, ?_⟩) (by assumption) ?_; rotate_left; (intro w hSw; (try dsimp only at hSw); go_simp; (try with_reducible rfl)); (try simp only [Act.put, List.setIfInBounds_toArray, List.set_cons_zero, List.set_cons_succ])
        refine wpAnyH_ready (rs := [17]) (by kernel_rfl) (by simp) ?_
        refine AllReadyH.cons (o := ⟨none, _, _, _, _, _⟩) rfl (fun K hK => ?_) (AllReadyH.nil)
        go_simp
        refine hK.out _ _ (HSV.out) (fun hHeld => ?_)
        clear hK K
        skip
        refine wpAnyH_take (i := 18) (oi := ⟨some 8, _, _, _, _, _⟩) (v := ?_) rfl (by kernel_rfl) (by kernel_rfl) (by kernel_rfl) (fun _ _ _ h => h) (Or.inl ⟨by rfl, ?_⟩) (by assumption) ?_; rotate_left; (intro w hSw; (try dsimp only at hSw); go_simp; (try with_reducible rfl)); (try simp only [Act.put, List.setIfInBounds_toArray, List.set_cons_zero, List.set_cons_succ])
        refine wpAnyH_done (by kernel_rfl) ?_ _
        have aa0 := cell_of_heap (o := 0) KBV.out rfl
        have aa1 := cell_of_heap (o := 1) KBV.out rfl
        have ga1 := frozen_of_heap (o := 1) KBV.out
        have b2 := cell_of_heap (o := 2) K0V.out rfl
        have c0 := cell_of_heap (o := 0) K2V.out rfl
        have c1 := cell_of_heap (o := 1) K2V.out rfl
        have gc0 := frozen_of_heap (o := 0) K2V.out
        have gc1 := frozen_of_heap (o := 1) K2V.out
        go_wp2_with fail
        refine bodyPost_ret (results_row_tmp rfl _ _ (H + 1 + 1) 46 _ (0, 0) _ rfl (setRow2_at K2V.out) Tryz.underlying46 rfl (by kernel_rfl)) rfl ?_
        rw [HR.out]
        exact ⟨_, rfl, ⟨none, 0, rfl, ⟨fun _ => ⟨rfl, rfl⟩, Nat.le_refl _⟩, fun h => absurd rfl h⟩, setRow2_below HBW.out (by have := HH.out; omega)⟩
      · by_cases h3 : 3 < j + 1 + en.length
        · have HR := Lib.hid (show R = ((0, []), 40) by rw [ER.out]; unfold applyT; rw [if_neg h40, if_neg hkE, HJE.out, HXD.out, if_neg hov, HJL.out, if_pos h3])
          have HSM : Hid (∀ W, Calls Tryz.prog 52 #[.int .u32 x, .int .u32 add] W fun e w' => e = .returned (.tuple #[.int .u32 (x + add), .int .u16 0]) ∧ w' = W) := Lib.hid fun W => by have := sum_52 x add W hux ⟨a0, a1⟩; rw [if_neg hov, if_neg hov] at this; exact this
          obtain ⟨V, hV⟩ : ∃ V, V = wc.drew.setCell ⟨g, j, none⟩ (.int .u32 (x + add)) := ⟨_, rfl⟩
          have hVg : ∀ k, k ≠ g → V.heap[k]? = wc.heap[k]? := fun k hk => by rw [hV]; exact heap_set_ne hk
          have KBV := Lib.hid ((hVg B hBg).trans KB.out)
          have K2V := Lib.hid ((hVg (H + 1 + 1) (by omega)).trans K2.out)
          have K0V := Lib.hid ((hVg H (by omega)).trans K0.out)
          have HBV := Lib.hid (show Below w1.heap.size w1 V by rw [hV]; exact (Go.Pen.below_drewN (n := 1) HBC.out).setCell (p := ⟨g, j, none⟩) (by show w1.heap.size ≤ g; omega) _)
          have HBW := Lib.hid (stepB HB1.out HBV.out)
          have OVV := Lib.hid (show V.ownsRow w1.heap.size 33 1 (.slice (some ⟨g, 0, none⟩) (j + 1) oc) (j + 1) ((wordCells (ls.take (j + 1))).set j (.int .u32 (x + add))) by rw [hV]; exact ownsRow_set (show wc.drew.ownsRow w1.heap.size 33 1 _ _ _ from HOV.out))
          have NEV := Lib.hid hne
          have HSV := Lib.hid (show V.cell? ⟨B, 1, none⟩ = some (.slice (some ⟨g, 0, none⟩) (j + 1) oc) ∧ V.cell? ⟨H, 1, none⟩ = some (.int .u32 add) from ⟨cell_of_heap KBV.out rfl, cell_of_heap K0V.out rfl⟩)
          have HV := Lib.hid hV
          clear hVg
          go_upto_region 10 with fail
          have hds : (wc.drew.setCell ⟨g, j, none⟩ (.int .u32 (x + add))) = V := HV.out.symm
          clear hV hne
          refine wp_region_held_drew (S := fun W => W.cell? ⟨B, 1, none⟩ = some (.slice (some ⟨g, 0, none⟩) (j + 1) oc) ∧ W.cell? ⟨H, 1, none⟩ = some (.int .u32 add)) (by kernel_rfl) HS2.out (fun hHeld => ?_)
          refine wpAnyH_take (i := 0) (oi := ⟨some 48, _, _, _, _, _⟩) (v := ?_) rfl (by kernel_rfl) (by kernel_rfl) (by kernel_rfl) (fun _ _ _ h => h) (Or.inl ⟨by rfl, ?_⟩) (by assumption) ?_; rotate_left; (intro w hSw; (try dsimp only at hSw); go_simp; (try with_reducible rfl)); (try simp only [Act.put, List.setIfInBounds_toArray, List.set_cons_zero, List.set_cons_succ])
          refine wpAnyH_take (i := 1) (oi := ⟨some 49, _, _, _, _, _⟩) (v := ?_) rfl (by kernel_rfl) (by kernel_rfl) (by kernel_rfl) (fun _ _ _ h => h) (Or.inl ⟨by rfl, ?_⟩) (by assumption) ?_; rotate_left; (intro w hSw; (try dsimp only at hSw); go_simp; (try with_reducible rfl)); (try simp only [Act.put, List.setIfInBounds_toArray, List.set_cons_zero, List.set_cons_succ])
          refine wpAnyH_take (i := 2) (oi := ⟨some 50, _, _, _, _, _⟩) (v := ?_) rfl (by kernel_rfl) (by kernel_rfl) (by kernel_rfl) (fun _ _ _ h => h) (Or.inl ⟨by rfl, ?_⟩) (by assumption) ?_; rotate_left; (intro w hSw; (try dsimp only at hSw); go_simp; (try with_reducible rfl)); (try simp only [Act.put, List.setIfInBounds_toArray, List.set_cons_zero, List.set_cons_succ])
          refine wpAnyH_take (i := 3) (oi := ⟨some 51, _, _, _, _, _⟩) (v := ?_) rfl (by kernel_rfl) (by kernel_rfl) (by kernel_rfl) (fun _ _ _ h => h) (Or.inl ⟨by rfl, ?_⟩) (by assumption) ?_; rotate_left; (intro w hSw; (try dsimp only at hSw); go_simp; (try with_reducible rfl)); (try simp only [Act.put, List.setIfInBounds_toArray, List.set_cons_zero, List.set_cons_succ])
          refine wpAnyH_take (i := 4) (oi := ⟨some 52, _, _, _, _, _⟩) (v := ?_) rfl (by kernel_rfl) (by kernel_rfl) (by kernel_rfl) (fun _ _ _ h => h) (Or.inl ⟨by rfl, ?_⟩) (by assumption) ?_; rotate_left; (intro w hSw; (try dsimp only at hSw); go_simp; (try with_reducible rfl)); (try simp only [Act.put, List.setIfInBounds_toArray, List.set_cons_zero, List.set_cons_succ])
          refine wpAnyH_take (i := 5) (oi := ⟨some 53, _, _, _, _, _⟩) (v := ?_) rfl (by kernel_rfl) (by kernel_rfl) (by kernel_rfl) (fun _ _ _ h => h) (Or.inl ⟨by rfl, ?_⟩) (by assumption) ?_; rotate_left; (intro w hSw; (try dsimp only at hSw); go_simp; (try with_reducible rfl)); (try simp only [Act.put, List.setIfInBounds_toArray, List.set_cons_zero, List.set_cons_succ])
          refine wpAnyH_take (i := 6) (oi := ⟨some 54, _, _, _, _, _⟩) (v := ?_) rfl (by kernel_rfl) (by kernel_rfl) (by kernel_rfl) (fun _ _ _ h => h) (Or.inl ⟨by rfl, ?_⟩) (by assumption) ?_; rotate_left; (intro w hSw; (try dsimp only at hSw); go_simp; (try with_reducible rfl)); (try simp only [Act.put, List.setIfInBounds_toArray, List.set_cons_zero, List.set_cons_succ])
          refine wpAnyH_take (i := 7) (oi := ⟨some 55, _, _, _, _, _⟩) (v := ?_) rfl (by kernel_rfl) (by kernel_rfl) (by kernel_rfl) (fun _ _ _ h => h) (Or.inl ⟨by rfl, ?_⟩) (by assumption) ?_; rotate_left; (intro w hSw; (try dsimp only at hSw); go_simp; (try with_reducible rfl)); (try simp only [Act.put, List.setIfInBounds_toArray, List.set_cons_zero, List.set_cons_succ])
          refine wpAnyH_take (i := 8) (oi := ⟨some 56, _, _, _, _, _⟩) (v := ?_) rfl (by kernel_rfl) (by kernel_rfl) (by kernel_rfl) (fun _ _ _ h => h) (Or.inl ⟨by rfl, ?_⟩) (by assumption) ?_; rotate_left; (intro w hSw; (try dsimp only at hSw); go_simp; (try with_reducible rfl)); (try simp only [Act.put, List.setIfInBounds_toArray, List.set_cons_zero, List.set_cons_succ])
          refine wpAnyH_take (i := 10) (oi := ⟨some 58, _, _, _, _, _⟩) (v := ?_) rfl (by kernel_rfl) (by kernel_rfl) (by kernel_rfl) (fun _ _ _ h => h) (Or.inl ⟨by rfl, ?_⟩) (by assumption) ?_; rotate_left; (intro w hSw; (try dsimp only at hSw); go_simp; (try with_reducible rfl)); (try simp only [Act.put, List.setIfInBounds_toArray, List.set_cons_zero, List.set_cons_succ])
          refine wpAnyH_take (i := 11) (oi := ⟨some 59, _, _, _, _, _⟩) (v := ?_) rfl (by kernel_rfl) (by kernel_rfl) (by kernel_rfl) (fun _ _ _ h => h) (Or.inl ⟨by rfl, ?_⟩) (by assumption) ?_; rotate_left; (intro w hSw; (try dsimp only at hSw); go_simp; (try with_reducible rfl)); (try simp only [Act.put, List.setIfInBounds_toArray, List.set_cons_zero, List.set_cons_succ])
          refine wpAnyH_ready (rs := [9]) (by kernel_rfl) (by simp) ?_
          refine AllReadyH.cons (o := ⟨some 57, _, _, _, _, _⟩) rfl (fun K hK => ?_) (AllReadyH.nil)
          go_simp
          refine hK.out _ _ (HS2.out) (fun hHeld => ?_)
          clear hK K
          skip
          refine wpAnyH_ready (rs := [12]) (by kernel_rfl) (by simp) ?_
          refine AllReadyH.cons (o := ⟨some 60, _, _, _, _, _⟩) rfl (fun K hK => ?_) (AllReadyH.nil)
          go_simp
          go_at_call 52
          with_reducible refine (HSM.out _).mono ?_
          rintro ev Y2 ⟨rfl, rfl⟩
          go_wp2_with fail
          refine hK.out _ _ (HS2.out) (fun hHeld => ?_)
          clear hK K
          skip
          refine wpAnyH_take (i := 13) (oi := ⟨some 47, _, _, _, _, _⟩) (v := ?_) rfl (by kernel_rfl) (by kernel_rfl) (by kernel_rfl) (fun _ _ _ h => h) (Or.inl ⟨by rfl, ?_⟩) (by assumption) ?_; rotate_left; (intro w hSw; (try dsimp only at hSw); go_simp; (try with_reducible rfl)); (try simp only [Act.put, List.setIfInBounds_toArray, List.set_cons_zero, List.set_cons_succ])
          refine wpAnyH_take (i := 14) (oi := ⟨some 61, _, _, _, _, _⟩) (v := ?_) rfl (by kernel_rfl) (by kernel_rfl) (by kernel_rfl) (fun _ _ _ h => h) (Or.inl ⟨by rfl, ?_⟩) (by assumption) ?_; rotate_left; (intro w hSw; (try dsimp only at hSw); go_simp; (try with_reducible rfl)); (try simp only [Act.put, List.setIfInBounds_toArray, List.set_cons_zero, List.set_cons_succ])
          refine wpAnyH_take (i := 15) (oi := ⟨some 62, _, _, _, _, _⟩) (v := ?_) rfl (by kernel_rfl) (by kernel_rfl) (by kernel_rfl) (fun _ _ _ h => h) (Or.inl ⟨by rfl, ?_⟩) (by assumption) ?_; rotate_left; (intro w hSw; (try dsimp only at hSw); go_simp; (try with_reducible rfl)); (try simp only [Act.put, List.setIfInBounds_toArray, List.set_cons_zero, List.set_cons_succ])
          refine wpAnyH_take (i := 16) (oi := ⟨some 63, _, _, _, _, _⟩) (v := ?_) rfl (by kernel_rfl) (by kernel_rfl) (by kernel_rfl) (fun _ _ _ h => h) (Or.inl ⟨by rfl, ?_⟩) (by assumption) ?_; rotate_left; (intro w hSw; (try dsimp only at hSw); go_simp; (try with_reducible rfl)); (try simp only [Act.put, List.setIfInBounds_toArray, List.set_cons_zero, List.set_cons_succ])
          refine wpAnyH_ready (rs := [17]) (by kernel_rfl) (by simp) ?_
          refine AllReadyH.cons (o := ⟨none, _, _, _, _, _⟩) rfl (fun K hK => ?_) (AllReadyH.nil)
          go_simp
          refine hK.out _ _ (HSV.out) (fun hHeld => ?_)
          clear hK K
          skip
          refine wpAnyH_take (i := 18) (oi := ⟨some 8, _, _, _, _, _⟩) (v := ?_) rfl (by kernel_rfl) (by kernel_rfl) (by kernel_rfl) (fun _ _ _ h => h) (Or.inl ⟨by rfl, ?_⟩) (by assumption) ?_; rotate_left; (intro w hSw; (try dsimp only at hSw); go_simp; (try with_reducible rfl)); (try simp only [Act.put, List.setIfInBounds_toArray, List.set_cons_zero, List.set_cons_succ])
          refine wpAnyH_done (by kernel_rfl) ?_ _
          have aa0 := cell_of_heap (o := 0) KBV.out rfl
          have aa1 := cell_of_heap (o := 1) KBV.out rfl
          have ga1 := frozen_of_heap (o := 1) KBV.out
          have b2 := cell_of_heap (o := 2) K0V.out rfl
          have c0 := cell_of_heap (o := 0) K2V.out rfl
          have c1 := cell_of_heap (o := 1) K2V.out rfl
          have gc0 := frozen_of_heap (o := 0) K2V.out
          have gc1 := frozen_of_heap (o := 1) K2V.out
          go_wp2_with fail
          refine bodyPost_ret (results_row_tmp rfl _ _ (H + 1 + 1) 46 _ (0, 0) _ rfl (setRow2_at K2V.out) Tryz.underlying46 rfl (by kernel_rfl)) rfl ?_
          rw [HR.out]
          exact ⟨_, rfl, ⟨none, 0, rfl, ⟨fun _ => ⟨rfl, rfl⟩, Nat.le_refl _⟩, fun h => absurd rfl h⟩, setRow2_below HBW.out (by have := HH.out; omega)⟩
        · have HR := Lib.hid (show R = ((ep, ls.take j ++ [x + add] ++ en), 0) by rw [ER.out]; unfold applyT; rw [if_neg h40, if_neg hkE, HJE.out, HXD.out, if_neg hov, HJL.out, if_neg h3])
          have HSM : Hid (∀ W, Calls Tryz.prog 52 #[.int .u32 x, .int .u32 add] W fun e w' => e = .returned (.tuple #[.int .u32 (x + add), .int .u16 0]) ∧ w' = W) := Lib.hid fun W => by have := sum_52 x add W hux ⟨a0, a1⟩; rw [if_neg hov, if_neg hov] at this; exact this
          obtain ⟨V, hV⟩ : ∃ V, V = wc.drew.setCell ⟨g, j, none⟩ (.int .u32 (x + add)) := ⟨_, rfl⟩
          have hVg : ∀ k, k ≠ g → V.heap[k]? = wc.heap[k]? := fun k hk => by rw [hV]; exact heap_set_ne hk
          have KBV := Lib.hid ((hVg B hBg).trans KB.out)
          have K2V := Lib.hid ((hVg (H + 1 + 1) (by omega)).trans K2.out)
          have K0V := Lib.hid ((hVg H (by omega)).trans K0.out)
          have HBV := Lib.hid (show Below w1.heap.size w1 V by rw [hV]; exact (Go.Pen.below_drewN (n := 1) HBC.out).setCell (p := ⟨g, j, none⟩) (by show w1.heap.size ≤ g; omega) _)
          have HBW := Lib.hid (stepB HB1.out HBV.out)
          have OVV := Lib.hid (show V.ownsRow w1.heap.size 33 1 (.slice (some ⟨g, 0, none⟩) (j + 1) oc) (j + 1) ((wordCells (ls.take (j + 1))).set j (.int .u32 (x + add))) by rw [hV]; exact ownsRow_set (show wc.drew.ownsRow w1.heap.size 33 1 _ _ _ from HOV.out))
          have NEV := Lib.hid hne
          have HSV := Lib.hid (show V.cell? ⟨B, 1, none⟩ = some (.slice (some ⟨g, 0, none⟩) (j + 1) oc) ∧ V.cell? ⟨H, 1, none⟩ = some (.int .u32 add) from ⟨cell_of_heap KBV.out rfl, cell_of_heap K0V.out rfl⟩)
          have HV := Lib.hid hV
          clear hVg
          go_upto_region 10 with fail
          have hds : (wc.drew.setCell ⟨g, j, none⟩ (.int .u32 (x + add))) = V := HV.out.symm
          clear hV hne
          refine wp_region_held_drew (S := fun W => W.cell? ⟨B, 1, none⟩ = some (.slice (some ⟨g, 0, none⟩) (j + 1) oc) ∧ W.cell? ⟨H, 1, none⟩ = some (.int .u32 add)) (by kernel_rfl) HS2.out (fun hHeld => ?_)
          refine wpAnyH_take (i := 0) (oi := ⟨some 48, _, _, _, _, _⟩) (v := ?_) rfl (by kernel_rfl) (by kernel_rfl) (by kernel_rfl) (fun _ _ _ h => h) (Or.inl ⟨by rfl, ?_⟩) (by assumption) ?_; rotate_left; (intro w hSw; (try dsimp only at hSw); go_simp; (try with_reducible rfl)); (try simp only [Act.put, List.setIfInBounds_toArray, List.set_cons_zero, List.set_cons_succ])
          refine wpAnyH_take (i := 1) (oi := ⟨some 49, _, _, _, _, _⟩) (v := ?_) rfl (by kernel_rfl) (by kernel_rfl) (by kernel_rfl) (fun _ _ _ h => h) (Or.inl ⟨by rfl, ?_⟩) (by assumption) ?_; rotate_left; (intro w hSw; (try dsimp only at hSw); go_simp; (try with_reducible rfl)); (try simp only [Act.put, List.setIfInBounds_toArray, List.set_cons_zero, List.set_cons_succ])
          refine wpAnyH_take (i := 2) (oi := ⟨some 50, _, _, _, _, _⟩) (v := ?_) rfl (by kernel_rfl) (by kernel_rfl) (by kernel_rfl) (fun _ _ _ h => h) (Or.inl ⟨by rfl, ?_⟩) (by assumption) ?_; rotate_left; (intro w hSw; (try dsimp only at hSw); go_simp; (try with_reducible rfl)); (try simp only [Act.put, List.setIfInBounds_toArray, List.set_cons_zero, List.set_cons_succ])
          refine wpAnyH_take (i := 3) (oi := ⟨some 51, _, _, _, _, _⟩) (v := ?_) rfl (by kernel_rfl) (by kernel_rfl) (by kernel_rfl) (fun _ _ _ h => h) (Or.inl ⟨by rfl, ?_⟩) (by assumption) ?_; rotate_left; (intro w hSw; (try dsimp only at hSw); go_simp; (try with_reducible rfl)); (try simp only [Act.put, List.setIfInBounds_toArray, List.set_cons_zero, List.set_cons_succ])
          refine wpAnyH_take (i := 4) (oi := ⟨some 52, _, _, _, _, _⟩) (v := ?_) rfl (by kernel_rfl) (by kernel_rfl) (by kernel_rfl) (fun _ _ _ h => h) (Or.inl ⟨by rfl, ?_⟩) (by assumption) ?_; rotate_left; (intro w hSw; (try dsimp only at hSw); go_simp; (try with_reducible rfl)); (try simp only [Act.put, List.setIfInBounds_toArray, List.set_cons_zero, List.set_cons_succ])
          refine wpAnyH_take (i := 5) (oi := ⟨some 53, _, _, _, _, _⟩) (v := ?_) rfl (by kernel_rfl) (by kernel_rfl) (by kernel_rfl) (fun _ _ _ h => h) (Or.inl ⟨by rfl, ?_⟩) (by assumption) ?_; rotate_left; (intro w hSw; (try dsimp only at hSw); go_simp; (try with_reducible rfl)); (try simp only [Act.put, List.setIfInBounds_toArray, List.set_cons_zero, List.set_cons_succ])
          refine wpAnyH_take (i := 6) (oi := ⟨some 54, _, _, _, _, _⟩) (v := ?_) rfl (by kernel_rfl) (by kernel_rfl) (by kernel_rfl) (fun _ _ _ h => h) (Or.inl ⟨by rfl, ?_⟩) (by assumption) ?_; rotate_left; (intro w hSw; (try dsimp only at hSw); go_simp; (try with_reducible rfl)); (try simp only [Act.put, List.setIfInBounds_toArray, List.set_cons_zero, List.set_cons_succ])
          refine wpAnyH_take (i := 7) (oi := ⟨some 55, _, _, _, _, _⟩) (v := ?_) rfl (by kernel_rfl) (by kernel_rfl) (by kernel_rfl) (fun _ _ _ h => h) (Or.inl ⟨by rfl, ?_⟩) (by assumption) ?_; rotate_left; (intro w hSw; (try dsimp only at hSw); go_simp; (try with_reducible rfl)); (try simp only [Act.put, List.setIfInBounds_toArray, List.set_cons_zero, List.set_cons_succ])
          refine wpAnyH_take (i := 8) (oi := ⟨some 56, _, _, _, _, _⟩) (v := ?_) rfl (by kernel_rfl) (by kernel_rfl) (by kernel_rfl) (fun _ _ _ h => h) (Or.inl ⟨by rfl, ?_⟩) (by assumption) ?_; rotate_left; (intro w hSw; (try dsimp only at hSw); go_simp; (try with_reducible rfl)); (try simp only [Act.put, List.setIfInBounds_toArray, List.set_cons_zero, List.set_cons_succ])
          refine wpAnyH_take (i := 10) (oi := ⟨some 58, _, _, _, _, _⟩) (v := ?_) rfl (by kernel_rfl) (by kernel_rfl) (by kernel_rfl) (fun _ _ _ h => h) (Or.inl ⟨by rfl, ?_⟩) (by assumption) ?_; rotate_left; (intro w hSw; (try dsimp only at hSw); go_simp; (try with_reducible rfl)); (try simp only [Act.put, List.setIfInBounds_toArray, List.set_cons_zero, List.set_cons_succ])
          refine wpAnyH_take (i := 11) (oi := ⟨some 59, _, _, _, _, _⟩) (v := ?_) rfl (by kernel_rfl) (by kernel_rfl) (by kernel_rfl) (fun _ _ _ h => h) (Or.inl ⟨by rfl, ?_⟩) (by assumption) ?_; rotate_left; (intro w hSw; (try dsimp only at hSw); go_simp; (try with_reducible rfl)); (try simp only [Act.put, List.setIfInBounds_toArray, List.set_cons_zero, List.set_cons_succ])
          refine wpAnyH_ready (rs := [9]) (by kernel_rfl) (by simp) ?_
          refine AllReadyH.cons (o := ⟨some 57, _, _, _, _, _⟩) rfl (fun K hK => ?_) (AllReadyH.nil)
          go_simp
          refine hK.out _ _ (HS2.out) (fun hHeld => ?_)
          clear hK K
          skip
          refine wpAnyH_ready (rs := [12]) (by kernel_rfl) (by simp) ?_
          refine AllReadyH.cons (o := ⟨some 60, _, _, _, _, _⟩) rfl (fun K hK => ?_) (AllReadyH.nil)
          go_simp
          go_at_call 52
          with_reducible refine (HSM.out _).mono ?_
          rintro ev Y2 ⟨rfl, rfl⟩
          go_wp2_with fail
          refine hK.out _ _ (HS2.out) (fun hHeld => ?_)
          clear hK K
          skip
          refine wpAnyH_take (i := 13) (oi := ⟨some 47, _, _, _, _, _⟩) (v := ?_) rfl (by kernel_rfl) (by kernel_rfl) (by kernel_rfl) (fun _ _ _ h => h) (Or.inl ⟨by rfl, ?_⟩) (by assumption) ?_; rotate_left; (intro w hSw; (try dsimp only at hSw); go_simp; (try with_reducible rfl)); (try simp only [Act.put, List.setIfInBounds_toArray, List.set_cons_zero, List.set_cons_succ])
          refine wpAnyH_take (i := 14) (oi := ⟨some 61, _, _, _, _, _⟩) (v := ?_) rfl (by kernel_rfl) (by kernel_rfl) (by kernel_rfl) (fun _ _ _ h => h) (Or.inl ⟨by rfl, ?_⟩) (by assumption) ?_; rotate_left; (intro w hSw; (try dsimp only at hSw); go_simp; (try with_reducible rfl)); (try simp only [Act.put, List.setIfInBounds_toArray, List.set_cons_zero, List.set_cons_succ])
          refine wpAnyH_take (i := 15) (oi := ⟨some 62, _, _, _, _, _⟩) (v := ?_) rfl (by kernel_rfl) (by kernel_rfl) (by kernel_rfl) (fun _ _ _ h => h) (Or.inl ⟨by rfl, ?_⟩) (by assumption) ?_; rotate_left; (intro w hSw; (try dsimp only at hSw); go_simp; (try with_reducible rfl)); (try simp only [Act.put, List.setIfInBounds_toArray, List.set_cons_zero, List.set_cons_succ])
          refine wpAnyH_take (i := 16) (oi := ⟨some 63, _, _, _, _, _⟩) (v := ?_) rfl (by kernel_rfl) (by kernel_rfl) (by kernel_rfl) (fun _ _ _ h => h) (Or.inl ⟨by rfl, ?_⟩) (by assumption) ?_; rotate_left; (intro w hSw; (try dsimp only at hSw); go_simp; (try with_reducible rfl)); (try simp only [Act.put, List.setIfInBounds_toArray, List.set_cons_zero, List.set_cons_succ])
          refine wpAnyH_ready (rs := [17]) (by kernel_rfl) (by simp) ?_
          refine AllReadyH.cons (o := ⟨none, _, _, _, _, _⟩) rfl (fun K hK => ?_) (AllReadyH.nil)
          go_simp
          refine hK.out _ _ (HSV.out) (fun hHeld => ?_)
          clear hK K
          skip
          refine wpAnyH_take (i := 18) (oi := ⟨some 8, _, _, _, _, _⟩) (v := ?_) rfl (by kernel_rfl) (by kernel_rfl) (by kernel_rfl) (fun _ _ _ h => h) (Or.inl ⟨by rfl, ?_⟩) (by assumption) ?_; rotate_left; (intro w hSw; (try dsimp only at hSw); go_simp; (try with_reducible rfl)); (try simp only [Act.put, List.setIfInBounds_toArray, List.set_cons_zero, List.set_cons_succ])
          refine wpAnyH_done (by kernel_rfl) ?_ _
          have aa0 := cell_of_heap (o := 0) KBV.out rfl
          have aa1 := cell_of_heap (o := 1) KBV.out rfl
          have ga1 := frozen_of_heap (o := 1) KBV.out
          have b2 := cell_of_heap (o := 2) K0V.out rfl
          have c0 := cell_of_heap (o := 0) K2V.out rfl
          have c1 := cell_of_heap (o := 1) K2V.out rfl
          have gc0 := frozen_of_heap (o := 0) K2V.out
          have gc1 := frozen_of_heap (o := 1) K2V.out
          go_wp2_with (at_builtin; go_must (refine wpList_append_any _ rfl _ _ 34 rfl w1.heap.size 33 i0 _ 1 4 Tryz.underlying34 hi0 hz0 hz1 hz2 rfl (by decide) _ _ _ rfl OVV.out _ _ _ (wordCells en) rfl (fun e => words_none HN.out e) (by simp [wordCells]) (fun ad e jj u hu => words_cell ((HN.out.below HB1.out).below HBV.out) e jj u hu) (fun u hu => words_one hu) (by unfold maxLen; omega) (by omega) HBV.out.size ?_))
          intro v3 w3 hv hg
          obtain ⟨va, vc, rfl⟩ := ownsRow_slice hv
          have KB3 := Lib.hid ((hg.block B (lt_of_heap KBV.out) (Ne.symm NEV.out)).trans KBV.out)
          have K23 := Lib.hid ((hg.block (H + 1 + 1) (lt_of_heap K2V.out) (Ne.symm (fun e => by have := (OVV.out.lt _ e).1; omega))).trans K2V.out)
          have HB3 := Lib.hid (HBW.out.grown hg HBW.out.size (fun q hq => by have := (OVV.out.lt _ hq).1; have := HH.out; omega))
          have TY3 := Lib.hid (TyRow.of_own hv)
          have u0 := cell_of_heap (o := 0) KB3.out rfl
          have u1 := cell_of_heap (o := 1) KB3.out rfl
          have gu1 := frozen_of_heap (o := 1) KB3.out
          have q0 := cell_of_heap (o := 0) K23.out rfl
          have q1 := cell_of_heap (o := 1) K23.out rfl
          have gq0 := frozen_of_heap (o := 0) K23.out
          have gq1 := frozen_of_heap (o := 1) K23.out
          have hHB : H + 1 + 1 ≠ B := hBH.symm
          have K24 := Lib.hid ((heap_set_ne (v := .slice va ((j + 1) + en.length) vc) (o := 1) hHB).trans K23.out)
          have HB4 := Lib.hid (HB3.out.setCell (p := ⟨B, 1, none⟩) (by have := HH.out; show w.heap.size ≤ B; omega) (.slice va ((j + 1) + en.length) vc))
          have TY4 := Lib.hid (ty_row2 (x := .int .u64 ep) (y := .slice va ((j + 1) + en.length) vc) (ty_set (o := 1) (x := .slice va ((j + 1) + en.length) vc) TY3.out KB3.out) K24.out)
          clear hv hg
          go_wp2_with fail
          refine bodyPost_ret (results_row_tmp rfl _ _ (H + 1 + 1) 46 _ (0, 0) _ rfl (setRow2_at K24.out) Tryz.underlying46 rfl (by kernel_rfl)) rfl ?_
          rw [HR.out]
          refine ⟨_, rfl, ?_, setRow2_below HB4.out (by have := HH.out; omega)⟩
          have h1 := (show (ls.take j ++ [x + add] ++ en).length = j + 1 + en.length ∧ wordCells (ls.take j ++ [x + add] ++ en) = (wordCells (ls.take (j + 1))).set j (.int .u32 (x + add)) ++ wordCells en from words_grown HX.out)
          rw [h1.1, h1.2]
          exact TY4.out
end Go.Proofs.YtlpehdhgdpeoeaaGreatDoor
