import Derived.Test.YtpoilgeffpedoaaE
import Derived.ChangeAlike
namespace Go.Proofs.Ytpoilgeffpedoaa
open Go.RowKit Go.Pen
attribute [local go_sem ↓] Go.wp_at_zero Go.wp_at_succ

set_option maxRecDepth 100000 in
set_option maxHeartbeats 1000000 in
theorem take_none (B L n r i j : Nat) (s : WaySt) (w : World) (hb : BoxIs w B L n r) (hn : n ≤ 8) (hi : i < n) (hj : j < n) (hw : WayIs w L (i * n + j) r s) (hq : s.q = []) :
    Calls Try.prog 9 #[.pointer (some ⟨B, 0, none⟩), .int .i64 i, .int .i64 j] w fun e w' => e = .returned (.tuple #[.agg #[.int .i64 0, .bool false, .int .i64 0, .int .u64 0, .slice none 0 0, .slice none 0 0, .slice none 0 0], .int .u16 91]) ∧ Below w.heap.size w w' := by
  obtain ⟨k, hk⟩ : ∃ k, k = i * n + j := ⟨_, rfl⟩
  have hB : B < w.heap.size := lt_of_heap hb
  have hL : L < w.heap.size := lt_of_heap hw.blk.choose_spec
  have w2 := hw.c2
  rw [hq] at w2
  have hbx : ∀ o, BoxIs (w.alloc o) B L n r := fun o => (Below.heap_alloc w o B hB).trans hb
  have HBX := Lib.hid hbx
  rw [← hk] at w2
  have HK := Lib.hid hk
  have w2' : w.cell? ⟨L, k * 3 + 2, none⟩ = some (.int .i64 0) := w2
  clear hb hw hq hbx hk w2
  go_enter Try.func9, Try.ntmps9
  go_wp2_with (go_at_call 28; refine (way_in B L n r i j _ (HBX.out _) hn hi hj).mono ?_; rw [← HK.out]; rintro e w' ⟨rfl, nw, rfl⟩)
  refine bodyPost_ret (v := .tuple #[.agg #[.int .i64 0, .bool false, .int .i64 0, .int .u64 0, .slice none 0 0, .slice none 0 0, .slice none 0 0], .int .u16 91]) (by simp [results, Try.results9, go_sem]) rfl ⟨rfl, ?_⟩
  have hq := Nat.le_refl w.heap.size
  exact (((((((below_drewN ((Below.refl _ _).alloc (Nat.le_refl _) _) _).setCell hq _).setCell hq _).setCell hq _).setCell hq _).setCell hq _).setCell hq _).setCell hq _

theorem succ_mod {fr r j : Nat} : ((fr + 1) % r + j) % r = (fr + (j + 1)) % r := by
  rw [Nat.mod_add_mod]; congr 1; omega

/-- the end of Take: the first message is gone -/
theorem take_end {w W : World} {L k r g fr o7 : Nat} {m : Msg} {q : List Msg} {cells lcs : Array Value} {v0 v1 v2 v3 v4 v5 v6 : Value}
    (hw : WayIs w L k r ⟨some g, fr, m :: q⟩) (hcells : w.heap[g]? = some (.cells cells 31 (0, 0))) (hlcs : w.heap[L]? = some (.cells lcs 103 (0, 0))) (ho : fr * 7 = o7)
    (gW : W.heap[g]? = some (.cells (cells7 cells o7 v0 v1 v2 v3 v4 v5 v6) 31 (0, 0))) (hone : v0.oneCell' = true ∧ v1.oneCell' = true ∧ v2.oneCell' = true ∧ v3.oneCell' = true ∧ v4.oneCell' = true ∧ v5.oneCell' = true ∧ v6.oneCell' = true)
    (lW : W.heap[L]? = some (.cells ((lcs.setIfInBounds (k * 3 + 1) (.int .i64 ((fr + 1) % r : Nat))).setIfInBounds (k * 3 + 2) (.int .i64 q.length)) 103 (0, 0)))
    (oW : ∀ x, x < w.heap.size → x ≠ g → x ≠ L → W.heap[x]? = w.heap[x]?) (hs : w.heap.size ≤ W.heap.size) (hos : W.os = w.os) (htape : W.tape = w.tape) (hout : W.output = w.output) :
    Turn w W L k (some g) ∧ WayIs W L k r ⟨some g, (fr + 1) % r, q⟩ ∧ ∀ (x : Nat) (cur : Array Value) (t : TypeId), w.heap[x]? = some (.cells cur t (0, 0)) → (t = 37 ∨ t = 89 ∨ t = 111) → W.heap[x]? = w.heap[x]? := by
  have hgL : g ≠ L := type_ne hcells hlcs (by decide)
  obtain ⟨cells', hc', hcs, hc1, hq⟩ := hw.ring g rfl
  rw [hcells] at hc'
  cases hc'
  have hfr := hw.lt
  have hl := hw.len
  simp only [List.length_cons] at hl hfr
  have cW : ∀ o, o ≠ k * 3 + 1 → o ≠ k * 3 + 2 → W.cell? ⟨L, o, none⟩ = w.cell? ⟨L, o, none⟩ := fun o h1 h2 => by
    rw [World.cell?, World.cell?, lW, hlcs]
    simp only []
    rw [Array.getElem?_setIfInBounds_ne (by omega), Array.getElem?_setIfInBounds_ne (by omega)]
  have hlen : k * 3 + 2 < lcs.size := by
    have := hw.c2
    rw [World.cell?, hlcs] at this
    simp only [] at this
    rcases Nat.lt_or_ge (k * 3 + 2) lcs.size with h | h
    · exact h
    · simp [Array.getElem?_eq_none h] at this
  have fw : ∀ (x : Nat) (cur : Array Value) (t : TypeId), w.heap[x]? = some (.cells cur t (0, 0)) → (t = 37 ∨ t = 89 ∨ t = 111) → W.heap[x]? = w.heap[x]? := fun x cur t hx ht =>
    oW x (lt_of_heap hx) (type_ne hx hcells (by rcases ht with rfl | rfl | rfl <;> decide)) (type_ne hx hlcs (by rcases ht with rfl | rfl | rfl <;> decide))
  refine ⟨⟨hos, htape, hout, hs, fun x hx h1 h2 => oW x hx (fun e => h2 (by rw [e])) h1, fun o ho => cW o (by omega) (by omega), fun c _ => ⟨_, lW⟩⟩, ⟨⟨_, lW⟩, ?_, ?_, ?_, by simp only []; omega, Nat.mod_lt _ (by omega), (fun h => by cases h), fun g' hg' => ?_⟩, fw⟩
  · rw [cW _ (by omega) (by omega)]; exact hw.c0
  · refine cell_of_heap lW ?_
    rw [Array.getElem?_setIfInBounds_ne (by omega), Array.getElem?_setIfInBounds_self_of_lt (by omega)]
  · refine cell_of_heap lW ?_
    rw [Array.getElem?_setIfInBounds_self_of_lt (by simp; omega)]
  · cases hg'
    refine ⟨_, gW, by rw [cells7_size]; exact hcs, cells7_one hc1 hone.1 hone.2.1 hone.2.2.1 hone.2.2.2.1 hone.2.2.2.2.1 hone.2.2.2.2.2.1 hone.2.2.2.2.2.2, fun j x hx => ?_⟩
    have hj : j < q.length := (List.getElem?_eq_some_iff.1 hx).1
    have := hq (j + 1) x (by simpa using hx)
    simp only [] at this ⊢
    rw [succ_mod]
    refine msgAt_put (this.frame fw) ho ?_
    have h := mod_ne (fr := fr) (r := r) (j := 0) (l := j + 1) (by omega) (by omega)
    rw [Nat.add_zero, Nat.mod_eq_of_lt hfr] at h
    exact fun e => h e.symm

set_option maxRecDepth 100000 in
set_option maxHeartbeats 2000000 in
theorem take_some (B L n r i j g : Nat) (s : WaySt) (m : Msg) (q : List Msg) (w : World) (hb : BoxIs w B L n r) (hn : n ≤ 8) (hi : i < n) (hj : j < n) (hw : WayIs w L (i * n + j) r s) (hr : r ≤ 64) (hq : s.q = m :: q) (hg : s.ring = some g) :
    Calls Try.prog 9 #[.pointer (some ⟨B, 0, none⟩), .int .i64 i, .int .i64 j] w fun e w' => ∃ la lc ra rc ea ec, e = .returned (.tuple #[.agg #[.int .i64 m.node, .bool m.out, .int .i64 m.port, .int .u64 m.epoch, .slice la m.ln lc, .slice ra m.rows.length rc, .slice ea m.errs.length ec], .int .u16 0]) ∧
      MsgIn w' m.lo m.hi m (.slice la m.ln lc) (.slice ra m.rows.length rc) (.slice ea m.errs.length ec) ∧ Turn w w' L (i * n + j) (some g) ∧ WayIs w' L (i * n + j) r ⟨some g, (s.fr + 1) % r, q⟩ := by
  obtain ⟨k, hk⟩ : ∃ k, k = i * n + j := ⟨_, rfl⟩
  have hB : B < w.heap.size := lt_of_heap hb
  obtain ⟨lcs, hlcs⟩ := hw.blk
  have hL : L < w.heap.size := lt_of_heap hlcs
  obtain ⟨b0, b1, b2⟩ := hb.cells
  have hbx : ∀ o, BoxIs (w.alloc o) B L n r := fun o => (Below.heap_alloc w o B hB).trans hb
  have HBX := Lib.hid hbx
  rw [← hk] at hw ⊢
  have HK := Lib.hid hk
  have w0 := hw.c0
  have w1 := hw.c1
  have w2 := hw.c2
  have hfr := hw.lt
  have f2 : w.frozen? ⟨L, k * 3 + 2, none⟩ = false := frozen_of_heap hlcs
  have f1 : w.frozen? ⟨L, k * 3 + 1, none⟩ = false := frozen_of_heap hlcs
  rw [hg] at w0
  simp only [ringVal] at w0
  obtain ⟨cells, hcells, hcs, hc1, hqs⟩ := hw.ring g hg
  have hgs : g < w.heap.size := lt_of_heap hcells
  obtain ⟨la, lc, ra, rc, ea, ec, a0, a1, a2, a3, a4, a5, a6, hm, hok⟩ := hqs 0 m (by rw [hq]; rfl)
  obtain ⟨fr, efr⟩ : ∃ fr, fr = s.fr := ⟨_, rfl⟩
  obtain ⟨len, elen⟩ : ∃ len, len = q.length := ⟨_, rfl⟩
  have e00 : (s.fr + 0) % r = fr := by rw [Nat.add_zero, Nat.mod_eq_of_lt hfr, efr]
  rw [e00] at a0 a1 a2 a3 a4 a5 a6
  rw [← efr] at w1 hfr
  have w2' : w.cell? ⟨L, k * 3 + 2, none⟩ = some (.int .i64 ((len : Int) + 1)) := by rw [w2, hq, elen]; simp
  have hlr : len < r := by have := hw.len; rw [hq] at this; simp at this; omega
  obtain ⟨o7, ho7⟩ : ∃ o7, fr * 7 = o7 := ⟨_, rfl⟩
  have HO7 := Lib.hid ho7
  rw [ho7] at a0 a1 a2 a3 a4 a5 a6
  have c0 := cell_of_heap hcells a0
  have c1 := cell_of_heap hcells a1
  have c2 := cell_of_heap hcells a2
  have c3 := cell_of_heap hcells a3
  have c4 := cell_of_heap hcells a4
  have c5 := cell_of_heap hcells a5
  have c6 := cell_of_heap hcells a6
  have HCS := Lib.hid hcells
  have HM := Lib.hid hm
  have HW := Lib.hid hw
  have HG := Lib.hid hg
  have HQ := Lib.hid hq
  have EF := Lib.hid efr
  have EL := Lib.hid elen
  have HBB := Lib.hid (show w.heap[B]? = _ from hb)
  have HLC := Lib.hid hlcs
  have HSZ := Lib.hid hcs
  have x1 : (0 : Int) ≤ (fr : Int) := by omega
  have x2 : (fr : Int) < r := by omega
  clear hb b0 b2 hw hm hok efr elen hk hbx hg hlcs hq hqs hcells hcs hc1 a0 a1 a2 a3 a4 a5 a6 w2
  go_enter Try.func9, Try.ntmps9
  go_wp2_with (go_at_call 28; refine (way_in B L n r i j _ (HBX.out _) hn hi hj).mono ?_; rw [← HK.out]; rintro e w' ⟨rfl, nw, rfl⟩)
  go_region
  go_wp2
  obtain ⟨w3, hw3⟩ : ∃ w3, w3 = ((w.alloc (.cells #[.int .i64 0, .bool false, .int .i64 0, .int .u64 0, .slice none 0 0, .slice none 0 0, .slice none 0 0] 31)).drewN (nw + 1)).alloc (.cells #[.int .i64 m.node, .bool m.out, .int .i64 m.port, .int .u64 m.epoch, .slice la m.ln lc, .slice ra m.rows.length rc, .slice ea m.errs.length ec] 31) := ⟨_, rfl⟩
  obtain ⟨b1', eb1⟩ : ∃ b1', b1' = w.heap.size := ⟨_, rfl⟩
  have hb3 : Below w.heap.size w w3 := by rw [hw3]; exact (below_drewN ((Below.refl _ _).alloc (Nat.le_refl _) _) _).alloc (by show _ ≤ (World.alloc _ _).heap.size; simp) _
  have k1 : w3.heap[b1']? = some (.cells #[.int .i64 0, .bool false, .int .i64 0, .int .u64 0, .slice none 0 0, .slice none 0 0, .slice none 0 0] 31 (0, 0)) := by rw [hw3, eb1, Below.heap_alloc _ _ _ (by show _ < (World.alloc _ _).heap.size; simp)]; exact heap_alloc_new w _
  have k2 : w3.heap[b1' + 1]? = some (.cells #[.int .i64 m.node, .bool m.out, .int .i64 m.port, .int .u64 m.epoch, .slice la m.ln lc, .slice ra m.rows.length rc, .slice ea m.errs.length ec] 31 (0, 0)) := by
    rw [hw3, eb1, show w.heap.size + 1 = ((w.alloc (.cells #[.int .i64 0, .bool false, .int .i64 0, .int .u64 0, .slice none 0 0, .slice none 0 0, .slice none 0 0] 31)).drewN (nw + 1)).heap.size by show _ = (World.alloc _ _).heap.size; simp]; exact heap_alloc_new _ _
  rw [← hw3, ← eb1]
  have g3 : w3.heap[g]? = some (.cells cells 31 (0, 0)) := (hb3.block g hgs).trans HCS.out
  have l3 : w3.heap[L]? = some (.cells lcs 103 (0, 0)) := (hb3.block L hL).trans HLC.out
  have d0 := (hb3.cell (p := ⟨g, o7, none⟩) hgs).trans c0
  have z0 : w3.frozen? ⟨g, o7, none⟩ = false := frozen_of_heap g3
  have d1 := (hb3.cell (p := ⟨g, o7 + 1, none⟩) hgs).trans c1
  have z1 : w3.frozen? ⟨g, o7 + 1, none⟩ = false := frozen_of_heap g3
  have d2 := (hb3.cell (p := ⟨g, o7 + 2, none⟩) hgs).trans c2
  have z2 : w3.frozen? ⟨g, o7 + 2, none⟩ = false := frozen_of_heap g3
  have d3 := (hb3.cell (p := ⟨g, o7 + 3, none⟩) hgs).trans c3
  have z3 : w3.frozen? ⟨g, o7 + 3, none⟩ = false := frozen_of_heap g3
  have d4 := (hb3.cell (p := ⟨g, o7 + 4, none⟩) hgs).trans c4
  have z4 : w3.frozen? ⟨g, o7 + 4, none⟩ = false := frozen_of_heap g3
  have d5 := (hb3.cell (p := ⟨g, o7 + 5, none⟩) hgs).trans c5
  have z5 : w3.frozen? ⟨g, o7 + 5, none⟩ = false := frozen_of_heap g3
  have d6 := (hb3.cell (p := ⟨g, o7 + 6, none⟩) hgs).trans c6
  have z6 : w3.frozen? ⟨g, o7 + 6, none⟩ = false := frozen_of_heap g3
  have hs3 : b1' + 1 < w3.heap.size := lt_of_heap k2
  have v0 := (hb3.cell (p := ⟨L, k * 3, none⟩) hL).trans w0
  have v1 := (hb3.cell (p := ⟨L, k * 3 + 1, none⟩) hL).trans w1
  have v2 := (hb3.cell (p := ⟨L, k * 3 + 2, none⟩) hL).trans w2'
  have vb := (hb3.cell (p := ⟨B, 1, none⟩) hB).trans b1
  have hgL : g ≠ L := type_ne HCS.out HLC.out (by decide)
  have hgB : g ≠ B := type_ne HCS.out HBB.out (by decide)
  have hLB : L ≠ B := type_ne HLC.out HBB.out (by decide)
  have G3 := Lib.hid g3
  have L3 := Lib.hid l3
  have K1 := Lib.hid k1
  have K2 := Lib.hid k2
  have HB3 := Lib.hid hb3
  have EB := Lib.hid eb1
  clear hw3 hb3 eb1 k1 k2 g3 l3 w0 w1 w2' b1 f1 f2 c0 c1 c2 c3 c4 c5 c6
  go_region
  obtain ⟨w4, hw4⟩ : ∃ w4, w4 = put7 w3 g o7 (.int .i64 0) (.bool false) (.int .i64 0) (.int .u64 0) (.slice none 0 0) (.slice none 0 0) (.slice none 0 0) := ⟨_, rfl⟩
  have u1 : w4.cell? ⟨L, k * 3 + 1, none⟩ = some (.int .i64 fr) := by rw [hw4, put7]; simp only [cell_set_ne hgL]; exact v1
  have u2 : w4.cell? ⟨L, k * 3 + 2, none⟩ = some (.int .i64 ((len : Int) + 1)) := by rw [hw4, put7]; simp only [cell_set_ne hgL]; exact v2
  have ub : w4.cell? ⟨B, 1, none⟩ = some (.int .i64 r) := by rw [hw4, put7]; simp only [cell_set_ne hgB]; exact vb
  have l4 : w4.heap[L]? = some (.cells lcs 103 (0, 0)) := by rw [hw4, put7_ne (Ne.symm hgL)]; exact L3.out
  have y1 : w4.frozen? ⟨L, k * 3 + 1, none⟩ = false := frozen_of_heap l4
  have y2 : w4.frozen? ⟨L, k * 3 + 2, none⟩ = false := frozen_of_heap l4
  have HW4 := Lib.hid hw4
  have L4 := Lib.hid l4
  unfold put7 at hw4
  rw [← hw4]
  clear hw4 l4 d0 d1 d2 d3 d4 d5 d6 z0 z1 z2 z3 z4 z5 z6 v0 v1 v2 vb ho7
  obtain ⟨fr', efr'⟩ : ∃ fr' : Nat, fr' = (fr + 1) % r := ⟨_, rfl⟩
  have x3 : IntKind.i64.wrap ((fr : Int) + 1) = (fr : Int) + 1 := IntWalk.i64_in _ (by omega)
  have x4 : ((fr : Int) + 1).tmod r = (fr' : Int) := by
    rw [Int.tmod_eq_emod_of_nonneg (by omega), efr']; simp
  have x6 : ¬ r = 0 := by omega
  have EFR := Lib.hid efr'
  clear efr'
  have hgb : g ≠ b1' := by have := EB.out; omega
  have hgb' : g ≠ b1' + 1 := by have := EB.out; omega
  have hLb : L ≠ b1' := by have := EB.out; omega
  have hLb' : L ≠ b1' + 1 := by have := EB.out; omega
  have r1 : w4.heap[b1']? = some (.cells #[.int .i64 0, .bool false, .int .i64 0, .int .u64 0, .slice none 0 0, .slice none 0 0, .slice none 0 0] 31 (0, 0)) := by rw [HW4.out, put7_ne (Ne.symm hgb)]; exact K1.out
  have r2 : w4.heap[b1' + 1]? = some (.cells #[.int .i64 m.node, .bool m.out, .int .i64 m.port, .int .u64 m.epoch, .slice la m.ln lc, .slice ra m.rows.length rc, .slice ea m.errs.length ec] 31 (0, 0)) := by rw [HW4.out, put7_ne (Ne.symm hgb')]; exact K2.out
  have q0 : w4.cell? ⟨b1', 0, none⟩ = some (.int .i64 0) := cell_of_heap r1 rfl
  have t0 : w4.frozen? ⟨b1', 0, none⟩ = false := frozen_of_heap r1
  have s0 : w4.cell? ⟨b1' + 1, 0, none⟩ = some (.int .i64 m.node) := cell_of_heap r2 rfl
  have q1 : w4.cell? ⟨b1', 1, none⟩ = some (.bool false) := cell_of_heap r1 rfl
  have t1 : w4.frozen? ⟨b1', 1, none⟩ = false := frozen_of_heap r1
  have s1 : w4.cell? ⟨b1' + 1, 1, none⟩ = some (.bool m.out) := cell_of_heap r2 rfl
  have q2 : w4.cell? ⟨b1', 2, none⟩ = some (.int .i64 0) := cell_of_heap r1 rfl
  have t2 : w4.frozen? ⟨b1', 2, none⟩ = false := frozen_of_heap r1
  have s2 : w4.cell? ⟨b1' + 1, 2, none⟩ = some (.int .i64 m.port) := cell_of_heap r2 rfl
  have q3 : w4.cell? ⟨b1', 3, none⟩ = some (.int .u64 0) := cell_of_heap r1 rfl
  have t3 : w4.frozen? ⟨b1', 3, none⟩ = false := frozen_of_heap r1
  have s3 : w4.cell? ⟨b1' + 1, 3, none⟩ = some (.int .u64 m.epoch) := cell_of_heap r2 rfl
  have q4 : w4.cell? ⟨b1', 4, none⟩ = some (.slice none 0 0) := cell_of_heap r1 rfl
  have t4 : w4.frozen? ⟨b1', 4, none⟩ = false := frozen_of_heap r1
  have s4 : w4.cell? ⟨b1' + 1, 4, none⟩ = some (.slice la m.ln lc) := cell_of_heap r2 rfl
  have q5 : w4.cell? ⟨b1', 5, none⟩ = some (.slice none 0 0) := cell_of_heap r1 rfl
  have t5 : w4.frozen? ⟨b1', 5, none⟩ = false := frozen_of_heap r1
  have s5 : w4.cell? ⟨b1' + 1, 5, none⟩ = some (.slice ra m.rows.length rc) := cell_of_heap r2 rfl
  have q6 : w4.cell? ⟨b1', 6, none⟩ = some (.slice none 0 0) := cell_of_heap r1 rfl
  have t6 : w4.frozen? ⟨b1', 6, none⟩ = false := frozen_of_heap r1
  have s6 : w4.cell? ⟨b1' + 1, 6, none⟩ = some (.slice ea m.errs.length ec) := cell_of_heap r2 rfl
  have R1 := Lib.hid r1
  clear r1 r2
  go_wp2
  go_region
  go_wp2
  obtain ⟨W, hW⟩ : ∃ W, W = ((((((((w4.setCell ⟨L, k * 3 + 1, none⟩ (.int .i64 fr')).setCell ⟨L, k * 3 + 2, none⟩ (.int .i64 len)).setCell ⟨b1', 0, none⟩ (.int .i64 m.node)).setCell ⟨b1', 1, none⟩ (.bool m.out)).setCell ⟨b1', 2, none⟩ (.int .i64 m.port)).setCell ⟨b1', 3, none⟩ (.int .u64 m.epoch)).setCell ⟨b1', 4, none⟩ (.slice la m.ln lc)).setCell ⟨b1', 5, none⟩ (.slice ra m.rows.length rc)).setCell ⟨b1', 6, none⟩ (.slice ea m.errs.length ec) := ⟨_, rfl⟩
  rw [← hW]
  have gW : W.heap[g]? = some (.cells (cells7 cells o7 (.int .i64 0) (.bool false) (.int .i64 0) (.int .u64 0) (.slice none 0 0) (.slice none 0 0) (.slice none 0 0)) 31 (0, 0)) := by
    rw [hW]; simp only [heap_set_ne hgb, heap_set_ne hgL]; rw [HW4.out]; exact put7_same G3.out
  have lW : W.heap[L]? = some (.cells ((lcs.setIfInBounds (k * 3 + 1) (.int .i64 fr')).setIfInBounds (k * 3 + 2) (.int .i64 len)) 103 (0, 0)) := by
    rw [hW]; simp only [heap_set_ne hLb]; exact heap_set_same (heap_set_same L4.out)
  have bW : W.heap[b1']? = some (.cells #[.int .i64 m.node, .bool m.out, .int .i64 m.port, .int .u64 m.epoch, .slice la m.ln lc, .slice ra m.rows.length rc, .slice ea m.errs.length ec] 31 (0, 0)) := by
    have h0 : ((w4.setCell ⟨L, k * 3 + 1, none⟩ (.int .i64 fr')).setCell ⟨L, k * 3 + 2, none⟩ (.int .i64 len)).heap[b1']? = some (.cells #[.int .i64 0, .bool false, .int .i64 0, .int .u64 0, .slice none 0 0, .slice none 0 0, .slice none 0 0] 31 (0, 0)) := by
      rw [heap_set_ne (Ne.symm hLb), heap_set_ne (Ne.symm hLb)]; exact R1.out
    rw [hW, heap_set_same (heap_set_same (heap_set_same (heap_set_same (heap_set_same (heap_set_same (heap_set_same h0))))))]; rfl
  have oW : ∀ x, x < w.heap.size → x ≠ g → x ≠ L → W.heap[x]? = w.heap[x]? := fun x hx h1 h2 => by
    have hxb : x ≠ b1' := by have := EB.out; omega
    rw [hW]; simp only [heap_set_ne hxb, heap_set_ne h2]; rw [HW4.out, put7_ne h1]; exact HB3.out.block x hx
  have hsW : W.heap.size = w3.heap.size := by rw [hW]; simp only [setCell_size]; rw [HW4.out, put7_size]
  have hoW : W.os = w3.os ∧ W.tape = w3.tape ∧ W.output = w3.output := by
    rw [hW]; simp only [setCell_os, setCell_tape, setCell_output]; rw [HW4.out]; simp only [put7, setCell_os, setCell_tape, setCell_output, and_self]
  clear hW
  have n0 : W.cell? ⟨b1', 0, none⟩ = some (.int .i64 m.node) := cell_of_heap bW rfl
  have n1 : W.cell? ⟨b1', 1, none⟩ = some (.bool m.out) := cell_of_heap bW rfl
  have n2 : W.cell? ⟨b1', 2, none⟩ = some (.int .i64 m.port) := cell_of_heap bW rfl
  have n3 : W.cell? ⟨b1', 3, none⟩ = some (.int .u64 m.epoch) := cell_of_heap bW rfl
  have n4 : W.cell? ⟨b1', 4, none⟩ = some (.slice la m.ln lc) := cell_of_heap bW rfl
  have n5 : W.cell? ⟨b1', 5, none⟩ = some (.slice ra m.rows.length rc) := cell_of_heap bW rfl
  have n6 : W.cell? ⟨b1', 6, none⟩ = some (.slice ea m.errs.length ec) := cell_of_heap bW rfl
  have hs' : s = ⟨some g, fr, m :: q⟩ := by rw [← HG.out, ← HQ.out, EF.out]
  have hw' : WayIs w L k r ⟨some g, fr, m :: q⟩ := by rw [← hs']; exact HW.out
  obtain ⟨ht, hwy, hfw⟩ := take_end (W := W.drew.drew) (o7 := o7) hw' HCS.out HLC.out HO7.out gW ⟨rfl, rfl, rfl, rfl, rfl, rfl, rfl⟩ (by rw [← EL.out, ← EFR.out]; exact lW) oW (by have := HB3.out.size; show _ ≤ W.heap.size; omega) (hoW.1.trans HB3.out.os) (hoW.2.1.trans HB3.out.tape) (hoW.2.2.trans HB3.out.output)
  rw [EF.out] at hwy
  exact bodyPost_ret (v := .tuple #[.agg #[.int .i64 m.node, .bool m.out, .int .i64 m.port, .int .u64 m.epoch, .slice la m.ln lc, .slice ra m.rows.length rc, .slice ea m.errs.length ec], .int .u16 0]) (by simp [results, Try.results9, go_sem, n0, n1, n2, n3, n4, n5, n6]) rfl ⟨la, lc, ra, rc, ea, ec, rfl, HM.out.frame (fun x cur t hx ht _ _ => hfw x cur t hx ht), ht, hwy⟩
end Go.Proofs.Ytpoilgeffpedoaa
