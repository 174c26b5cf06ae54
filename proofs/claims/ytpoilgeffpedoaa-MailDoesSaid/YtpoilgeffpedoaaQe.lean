import Derived.Test.YtpoilgeffpedoaaQd
import Derived.Test.YtpoilgeffpedoaaLs
/- The reference's Send, where there is room. -/
namespace Go.Proofs.Ytpoilgeffpedoaa
open Go.RowKit Go.Pen
attribute [local go_sem ↓] Go.wp_at_zero Go.wp_at_succ

set_option linter.unusedSimpArgs false in
set_option linter.unusedSimpArgs false in
set_option linter.unusedSimpArgs false in
set_option linter.unusedSimpArgs false in
set_option linter.unusedSimpArgs false in
set_option maxRecDepth 100000 in
set_option maxHeartbeats 4000000 in
theorem rsend_yes {b : Nat} {RB RQ : Nat} {RR : Nat → Nat} {n r : Nat} {V : Nat → Nat → Value} {q : Nat → Nat → List AMsg} (i k : Nat) (m : AMsg) (w : World) (h : RefIs b w RB RQ RR n r V q) (hi : i < n) (hk : k < n) (hr : r ≤ 64) (hf : (q i k).length < r) :
    Calls Try.prog 21 #[.pointer (some ⟨RB, 0, none⟩), .int .i64 i, .int .i64 k, msgAgg m] w fun e w' => e = .returned (.int .i64 0) ∧ ∃ v', RefIs b w' RB RQ RR n r (put2 V i k v') (put2 q i k (q i k ++ [m])) ∧
      Only (fun g => g = RR i ∨ (V i k).ownBlock = some g) w w' ∧ ∀ g, v'.ownBlock = some g → (V i k).ownBlock = some g ∨ w.heap.size ≤ g := by
  have hf' : ¬ (r : Int) ≤ ((q i k).length : Int) := by omega
  obtain ⟨ao, cc, hv, -⟩ := h.que i k hi hk
  obtain ⟨l, el⟩ : ∃ l, l = (q i k).length := ⟨_, rfl⟩
  have H := Lib.hid h
  have HV := Lib.hid hv
  have EL := Lib.hid el
  rw [← el] at hf' hf
  clear h hv el
  unfold msgAgg
  go_enter Try.func21, Try.ntmps21
  go_wp2_with fail
  obtain ⟨w0, hw0⟩ : ∃ w0, w0 = w.alloc (.cells #[.int .i64 m.node, .bool m.out, .int .i64 m.port, .int .u64 m.epoch, .slice m.la m.loops.length m.lc, .slice m.ra m.rows.length m.rc, .slice m.ea m.errs.length m.ec] 31) := ⟨_, rfl⟩
  obtain ⟨B, eB⟩ : ∃ B, B = w.heap.size := ⟨_, rfl⟩
  have hb0 : Below w.heap.size w w0 := by rw [hw0]; exact (Below.refl _ _).alloc (Nat.le_refl _) _
  have hB0 : w0.heap[B]? = some (.cells #[.int .i64 m.node, .bool m.out, .int .i64 m.port, .int .u64 m.epoch, .slice m.la m.loops.length m.lc, .slice m.ra m.rows.length m.rc, .slice m.ea m.errs.length m.ec] 31 (0, 0)) := by rw [hw0, eB]; exact heap_alloc_new _ _
  have HB0 := Lib.hid hB0
  have Hb0 := Lib.hid hb0
  have EB := Lib.hid eB
  rw [← hw0, ← eB]
  clear hw0 hb0 hB0 eB
  refine (is_yes i k w0 (H.out.below Hb0.out) hi hk).mono ?_
  rintro e w1 ⟨rfl, hb1⟩
  have Hb1 : Hid (Below w.heap.size w w1) := Hb0.out.trans (hb1.mono Hb0.out.size)
  have HR1 := Lib.hid (H.out.below Hb1.out)
  obtain ⟨c, c0, c1⟩ := HR1.out.cells
  obtain ⟨d0, d1⟩ := HR1.out.way hi hk
  rw [HV.out, ← EL.out] at d1
  have hB1 : w1.heap[B]? = _ := (hb1.block B (lt_of_heap HB0.out)).trans HB0.out
  have HB1 := Lib.hid hB1
  clear hb1 hB1
  go_wp2_with fail
  go_quiet (fail)
  go_wp2_with fail
  obtain ⟨w2, hw2⟩ : ∃ w2, w2 = w1.drewN nq := ⟨_, rfl⟩
  have c1 : w2.cell? ⟨RB, 1, none⟩ = some (.slice (some ⟨RQ, 0, none⟩) n c) := by rw [hw2]; exact c1
  have d0 : w2.cell? ⟨RQ, i, none⟩ = some (.slice (some ⟨RR i, 0, none⟩) n n) := by rw [hw2]; exact d0
  have d1 : w2.cell? ⟨RR i, k, none⟩ = some (.slice ao l cc) := by rw [hw2]; exact d1
  have Hb2 : Hid (Below w.heap.size w w2) := by rw [hw2]; exact below_drewN Hb1.out _
  have HR2 : Hid (RefIs b w2 RB RQ RR n r V q) := by rw [hw2]; exact HR1.out.below (below_drewN (Below.refl _ _) _)
  have hB2 : w2.heap[B]? = some (.cells #[.int .i64 m.node, .bool m.out, .int .i64 m.port, .int .u64 m.epoch, .slice m.la m.loops.length m.lc, .slice m.ra m.rows.length m.rc, .slice m.ea m.errs.length m.ec] 31 (0, 0)) := by rw [hw2]; exact HB1.out
  rw [← hw2]
  clear hw2 c0
  have m0 : w2.cell? ⟨B, 0, none⟩ = some (.int .i64 m.node) := cell_of_heap hB2 rfl
  have m1 : w2.cell? ⟨B, 1, none⟩ = some (.bool m.out) := cell_of_heap hB2 rfl
  have m2 : w2.cell? ⟨B, 2, none⟩ = some (.int .i64 m.port) := cell_of_heap hB2 rfl
  have m3 : w2.cell? ⟨B, 3, none⟩ = some (.int .u64 m.epoch) := cell_of_heap hB2 rfl
  have m4 : w2.cell? ⟨B, 4, none⟩ = some (.slice m.la m.loops.length m.lc) := cell_of_heap hB2 rfl
  have m5 : w2.cell? ⟨B, 5, none⟩ = some (.slice m.ra m.rows.length m.rc) := cell_of_heap hB2 rfl
  have m6 : w2.cell? ⟨B, 6, none⟩ = some (.slice m.ea m.errs.length m.ec) := cell_of_heap hB2 rfl
  have s0 : RB < w2.heap.size := World.block_lt_of_cell? w2 _ c1
  have s1 : RQ < w2.heap.size := World.block_lt_of_cell? w2 _ d0
  have s2 : RR i < w2.heap.size := World.block_lt_of_cell? w2 _ d1
  have s3 : B < w2.heap.size := lt_of_heap hB2
  obtain ⟨w4, hw4⟩ : ∃ w4, w4 = (w2.alloc (.cells #[.int .i64 m.node, .bool m.out, .int .i64 m.port, .int .u64 m.epoch, .slice m.la m.loops.length m.lc, .slice m.ra m.rows.length m.rc, .slice m.ea m.errs.length m.ec] 31)).drew := ⟨_, rfl⟩
  have hb4 : Below w2.heap.size w2 w4 := by rw [hw4]; exact below_a1 _ _
  have hq4 : QueueAt w4 (.slice ao l cc) (q i k) := by
    have := (HR2.out.below hb4).que i k hi hk
    rw [HV.out, ← EL.out] at this; exact this
  obtain ⟨a', c', w3, run, hq3, ho3, hv3⟩ := app_msg (m := m) (ad := ⟨w2.heap.size, 0, none⟩) hq4 (by omega) (by rw [hw4]; exact World.news_of_block (cs := m.vals.toArray) (t := 31) (fr := (0, 0)) (heap_alloc_new _ _))
  have hown : ∀ g, (Value.slice ao l cc).ownBlock = some g → ∃ cells : Array Value, w4.heap[g]? = some (.cells cells 31 (0, 0)) := fun g hg => hq4.block hg
  have far : ∀ (g : Nat) (cur : Array Value) (t : TypeId), w2.heap[g]? = some (.cells cur t (0, 0)) → t ≠ 31 → w3.heap[g]? = some (.cells cur t (0, 0)) := fun g cur t hg ht => by
    have h4 : w4.heap[g]? = some (.cells cur t (0, 0)) := (hb4.block g (lt_of_heap hg)).trans hg
    rw [ho3.block g (lt_of_heap h4) (fun e => by obtain ⟨cells, hc⟩ := hown g e; exact type_ne h4 hc ht rfl)]; exact h4
  obtain ⟨cq, hcq⟩ := HR2.out.box
  obtain ⟨cs, hcs, hcsi⟩ := HR2.out.rows
  obtain ⟨rc, hrc, hrck⟩ := HR2.out.row i hi
  have c1' : w3.cell? ⟨RB, 1, none⟩ = some (.slice (some ⟨RQ, 0, none⟩) n c) := by
    have e := far _ _ _ hcq (by decide)
    have : w2.cell? ⟨RB, 1, none⟩ = some (.slice (some ⟨RQ, 0, none⟩) n cq) := cell_of_heap hcq rfl
    rw [c1] at this; cases this
    exact cell_of_heap e rfl
  have d0' : w3.cell? ⟨RQ, i, none⟩ = some (.slice (some ⟨RR i, 0, none⟩) n n) := cell_of_heap (far _ _ _ hcs (by decide)) (hcsi i hi)
  have hrc3 := far _ _ _ hrc (by decide)
  have d1' : w3.cell? ⟨RR i, k, none⟩ = some (.slice ao l cc) := cell_of_heap hrc3 (by have := hrck k hk; rw [HV.out, ← EL.out] at this; exact this)
  have f1' : w3.frozen? ⟨RR i, k, none⟩ = false := frozen_of_heap hrc3
  have hB4 : w4.heap[B]? = _ := (hb4.block B s3).trans hB2
  have hB3 : w3.heap[B]? = _ := (ho3.block B (lt_of_heap hB4) (fun e => by
    have h0 := (H.out.que i k hi hk).block (g := B) (by rw [HV.out, ← EL.out]; exact e)
    obtain ⟨cells, hc⟩ := h0
    have := lt_of_heap hc
    have := EB.out
    omega)).trans hB4
  have hS4 : w4.cell? ⟨RB, 1, none⟩ = some (.slice (some ⟨RQ, 0, none⟩) n c) ∧ w4.cell? ⟨RQ, i, none⟩ = some (.slice (some ⟨RR i, 0, none⟩) n n) ∧ w4.cell? ⟨RR i, k, none⟩ = some (.slice ao l cc) ∧ w4.cell? ⟨B, 0, none⟩ = some (.int .i64 m.node) ∧ w4.cell? ⟨B, 1, none⟩ = some (.bool m.out) ∧ w4.cell? ⟨B, 2, none⟩ = some (.int .i64 m.port) ∧
    w4.cell? ⟨B, 3, none⟩ = some (.int .u64 m.epoch) ∧ w4.cell? ⟨B, 4, none⟩ = some (.slice m.la m.loops.length m.lc) ∧ w4.cell? ⟨B, 5, none⟩ = some (.slice m.ra m.rows.length m.rc) ∧ w4.cell? ⟨B, 6, none⟩ = some (.slice m.ea m.errs.length m.ec) := ⟨cell_keep hb4 c1, cell_keep hb4 d0, cell_keep hb4 d1, cell_of_heap hB4 rfl, cell_of_heap hB4 rfl, cell_of_heap hB4 rfl, cell_of_heap hB4 rfl, cell_of_heap hB4 rfl, cell_of_heap hB4 rfl, cell_of_heap hB4 rfl⟩
  have hS3 : w3.cell? ⟨RB, 1, none⟩ = some (.slice (some ⟨RQ, 0, none⟩) n c) ∧ w3.cell? ⟨RQ, i, none⟩ = some (.slice (some ⟨RR i, 0, none⟩) n n) ∧ w3.cell? ⟨RR i, k, none⟩ = some (.slice ao l cc) ∧ w3.cell? ⟨B, 0, none⟩ = some (.int .i64 m.node) ∧ w3.cell? ⟨B, 1, none⟩ = some (.bool m.out) ∧ w3.cell? ⟨B, 2, none⟩ = some (.int .i64 m.port) ∧
    w3.cell? ⟨B, 3, none⟩ = some (.int .u64 m.epoch) ∧ w3.cell? ⟨B, 4, none⟩ = some (.slice m.la m.loops.length m.lc) ∧ w3.cell? ⟨B, 5, none⟩ = some (.slice m.ra m.rows.length m.rc) ∧ w3.cell? ⟨B, 6, none⟩ = some (.slice m.ea m.errs.length m.ec) := ⟨c1', d0', d1', cell_of_heap hB3 rfl, cell_of_heap hB3 rfl, cell_of_heap hB3 rfl, cell_of_heap hB3 rfl, cell_of_heap hB3 rfl, cell_of_heap hB3 rfl, cell_of_heap hB3 rfl⟩
  rw [hw4] at run hS4
  have HQ3 := Lib.hid hq3
  have HO3 := Lib.hid ho3
  have HV3 := Lib.hid hv3
  have HRC := Lib.hid hrc
  have HRC3 := Lib.hid hrc3
  have Hb4 := Lib.hid hb4
  clear hq3 ho3 hv3 hrc hrc3 hb4 hown far hcq hcs hcsi hrck hB2 hq4 hB3 hB4 c1' d0'
  refine wp_region_last (fun w' => w'.cell? ⟨RB, 1, none⟩ = some (.slice (some ⟨RQ, 0, none⟩) n c) ∧ w'.cell? ⟨RQ, i, none⟩ = some (.slice (some ⟨RR i, 0, none⟩) n n) ∧ w'.cell? ⟨RR i, k, none⟩ = some (.slice ao l cc) ∧ w'.cell? ⟨B, 0, none⟩ = some (.int .i64 m.node) ∧ w'.cell? ⟨B, 1, none⟩ = some (.bool m.out) ∧ w'.cell? ⟨B, 2, none⟩ = some (.int .i64 m.port) ∧
    w'.cell? ⟨B, 3, none⟩ = some (.int .u64 m.epoch) ∧ w'.cell? ⟨B, 4, none⟩ = some (.slice m.la m.loops.length m.lc) ∧ w'.cell? ⟨B, 5, none⟩ = some (.slice m.ra m.rows.length m.rc) ∧ w'.cell? ⟨B, 6, none⟩ = some (.slice m.ea m.errs.length m.ec)) 22 (by kernel_rfl) ?_
  have hHeld : w2.drew.cell? ⟨RB, 1, none⟩ = some (.slice (some ⟨RQ, 0, none⟩) n c) ∧ w2.drew.cell? ⟨RQ, i, none⟩ = some (.slice (some ⟨RR i, 0, none⟩) n n) ∧ w2.drew.cell? ⟨RR i, k, none⟩ = some (.slice ao l cc) ∧ w2.drew.cell? ⟨B, 0, none⟩ = some (.int .i64 m.node) ∧ w2.drew.cell? ⟨B, 1, none⟩ = some (.bool m.out) ∧ w2.drew.cell? ⟨B, 2, none⟩ = some (.int .i64 m.port) ∧
    w2.drew.cell? ⟨B, 3, none⟩ = some (.int .u64 m.epoch) ∧ w2.drew.cell? ⟨B, 4, none⟩ = some (.slice m.la m.loops.length m.lc) ∧ w2.drew.cell? ⟨B, 5, none⟩ = some (.slice m.ra m.rows.length m.rc) ∧ w2.drew.cell? ⟨B, 6, none⟩ = some (.slice m.ea m.errs.length m.ec) := ⟨c1, d0, d1, m0, m1, m2, m3, m4, m5, m6⟩
  refine wpL_take (i := 0) (v := ?tv0) (by simp only [List.getElem?_toArray, List.getElem?_cons_succ, List.getElem?_cons_zero]; rfl) (by kernel_rfl) (by kernel_rfl) (by kernel_rfl) (by kernel_rfl) (by exact fun _ _ _ h => h) hHeld (by rfl) ?ty0 ?tr0
  case ty0 => intro w hSw; (try dsimp only at hSw); go_simp; try with_reducible rfl
  try simp only [Act.put, List.setIfInBounds_toArray, List.set_cons_zero, List.set_cons_succ]
  refine wpL_take (i := 1) (v := ?tv1) (by simp only [List.getElem?_toArray, List.getElem?_cons_succ, List.getElem?_cons_zero]; rfl) (by kernel_rfl) (by kernel_rfl) (by kernel_rfl) (by kernel_rfl) (by exact fun _ _ _ h => h) hHeld (by rfl) ?ty1 ?tr1
  case ty1 => intro w hSw; (try dsimp only at hSw); go_simp; try with_reducible rfl
  try simp only [Act.put, List.setIfInBounds_toArray, List.set_cons_zero, List.set_cons_succ]
  refine wpL_take (i := 2) (v := ?tv2) (by simp only [List.getElem?_toArray, List.getElem?_cons_succ, List.getElem?_cons_zero]; rfl) (by kernel_rfl) (by kernel_rfl) (by kernel_rfl) (by kernel_rfl) (by exact fun _ _ _ h => h) hHeld (by rfl) ?ty2 ?tr2
  case ty2 => intro w hSw; (try dsimp only at hSw); go_simp; try with_reducible rfl
  try simp only [Act.put, List.setIfInBounds_toArray, List.set_cons_zero, List.set_cons_succ]
  refine wpL_take (i := 3) (v := ?tv3) (by simp only [List.getElem?_toArray, List.getElem?_cons_succ, List.getElem?_cons_zero]; rfl) (by kernel_rfl) (by kernel_rfl) (by kernel_rfl) (by kernel_rfl) (by exact fun _ _ _ h => h) hHeld (by rfl) ?ty3 ?tr3
  case ty3 => intro w hSw; (try dsimp only at hSw); go_simp; try with_reducible rfl
  try simp only [Act.put, List.setIfInBounds_toArray, List.set_cons_zero, List.set_cons_succ]
  refine wpL_take (i := 4) (v := ?tv4) (by simp only [List.getElem?_toArray, List.getElem?_cons_succ, List.getElem?_cons_zero]; rfl) (by kernel_rfl) (by kernel_rfl) (by kernel_rfl) (by kernel_rfl) (by exact fun _ _ _ h => h) hHeld (by rfl) ?ty4 ?tr4
  case ty4 => intro w hSw; (try dsimp only at hSw); go_simp; try with_reducible rfl
  try simp only [Act.put, List.setIfInBounds_toArray, List.set_cons_zero, List.set_cons_succ]
  refine wpL_take (i := 5) (v := ?tv5) (by simp only [List.getElem?_toArray, List.getElem?_cons_succ, List.getElem?_cons_zero]; rfl) (by kernel_rfl) (by kernel_rfl) (by kernel_rfl) (by kernel_rfl) (by exact fun _ _ _ h => h) hHeld (by rfl) ?ty5 ?tr5
  case ty5 => intro w hSw; (try dsimp only at hSw); go_simp; try with_reducible rfl
  try simp only [Act.put, List.setIfInBounds_toArray, List.set_cons_zero, List.set_cons_succ]
  refine wpL_take (i := 6) (v := ?tv6) (by simp only [List.getElem?_toArray, List.getElem?_cons_succ, List.getElem?_cons_zero]; rfl) (by kernel_rfl) (by kernel_rfl) (by kernel_rfl) (by kernel_rfl) (by exact fun _ _ _ h => h) hHeld (by rfl) ?ty6 ?tr6
  case ty6 => intro w hSw; (try dsimp only at hSw); go_simp; try with_reducible rfl
  try simp only [Act.put, List.setIfInBounds_toArray, List.set_cons_zero, List.set_cons_succ]
  refine wpL_take (i := 7) (v := ?tv7) (by simp only [List.getElem?_toArray, List.getElem?_cons_succ, List.getElem?_cons_zero]; rfl) (by kernel_rfl) (by kernel_rfl) (by kernel_rfl) (by kernel_rfl) (by exact fun _ _ _ h => h) hHeld (by rfl) ?ty7 ?tr7
  case ty7 => intro w hSw; (try dsimp only at hSw); go_simp; try with_reducible rfl
  try simp only [Act.put, List.setIfInBounds_toArray, List.set_cons_zero, List.set_cons_succ]
  refine wpL_take (i := 8) (v := ?tv8) (by simp only [List.getElem?_toArray, List.getElem?_cons_succ, List.getElem?_cons_zero]; rfl) (by kernel_rfl) (by kernel_rfl) (by kernel_rfl) (by kernel_rfl) (by exact fun _ _ _ h => h) hHeld (by rfl) ?ty8 ?tr8
  case ty8 => intro w hSw; (try dsimp only at hSw); go_simp; try with_reducible rfl
  try simp only [Act.put, List.setIfInBounds_toArray, List.set_cons_zero, List.set_cons_succ]
  refine wpL_take (i := 9) (v := ?tv9) (by simp only [List.getElem?_toArray, List.getElem?_cons_succ, List.getElem?_cons_zero]; rfl) (by kernel_rfl) (by kernel_rfl) (by kernel_rfl) (by kernel_rfl) (by exact fun _ _ _ h => h) hHeld (by rfl) ?ty9 ?tr9
  case ty9 => intro w hSw; (try dsimp only at hSw); go_simp; try with_reducible rfl
  try simp only [Act.put, List.setIfInBounds_toArray, List.set_cons_zero, List.set_cons_succ]
  refine wpL_take (i := 10) (v := ?tv10) (by simp only [List.getElem?_toArray, List.getElem?_cons_succ, List.getElem?_cons_zero]; rfl) (by kernel_rfl) (by kernel_rfl) (by kernel_rfl) (by kernel_rfl) (by exact fun _ _ _ h => h) hHeld (by rfl) ?ty10 ?tr10
  case ty10 => intro w hSw; (try dsimp only at hSw); go_simp; try with_reducible rfl
  try simp only [Act.put, List.setIfInBounds_toArray, List.set_cons_zero, List.set_cons_succ]
  refine wpL_take (i := 11) (v := ?tv11) (by simp only [List.getElem?_toArray, List.getElem?_cons_succ, List.getElem?_cons_zero]; rfl) (by kernel_rfl) (by kernel_rfl) (by kernel_rfl) (by kernel_rfl) (by exact fun _ _ _ h => h) hHeld (by rfl) ?ty11 ?tr11
  case ty11 => intro w hSw; (try dsimp only at hSw); go_simp; try with_reducible rfl
  try simp only [Act.put, List.setIfInBounds_toArray, List.set_cons_zero, List.set_cons_succ]
  refine wpL_take (i := 12) (v := ?tv12) (by simp only [List.getElem?_toArray, List.getElem?_cons_succ, List.getElem?_cons_zero]; rfl) (by kernel_rfl) (by kernel_rfl) (by kernel_rfl) (by kernel_rfl) (by exact fun _ _ _ h => h) hHeld (by rfl) ?ty12 ?tr12
  case ty12 => intro w hSw; (try dsimp only at hSw); go_simp; try with_reducible rfl
  try simp only [Act.put, List.setIfInBounds_toArray, List.set_cons_zero, List.set_cons_succ]
  refine wpL_take (i := 13) (v := ?tv13) (by simp only [List.getElem?_toArray, List.getElem?_cons_succ, List.getElem?_cons_zero]; rfl) (by kernel_rfl) (by kernel_rfl) (by kernel_rfl) (by kernel_rfl) (by exact fun _ _ _ h => h) hHeld (by rfl) ?ty13 ?tr13
  case ty13 => intro w hSw; (try dsimp only at hSw); go_simp; try with_reducible rfl
  try simp only [Act.put, List.setIfInBounds_toArray, List.set_cons_zero, List.set_cons_succ]
  refine wpL_take (i := 14) (v := ?tv14) (by simp only [List.getElem?_toArray, List.getElem?_cons_succ, List.getElem?_cons_zero]; rfl) (by kernel_rfl) (by kernel_rfl) (by kernel_rfl) (by kernel_rfl) (by exact fun _ _ _ h => h) hHeld (by rfl) ?ty14 ?tr14
  case ty14 => intro w hSw; (try dsimp only at hSw); go_simp; try with_reducible rfl
  try simp only [Act.put, List.setIfInBounds_toArray, List.set_cons_zero, List.set_cons_succ]
  refine wpL_take (i := 15) (v := ?tv15) (by simp only [List.getElem?_toArray, List.getElem?_cons_succ, List.getElem?_cons_zero]; rfl) (by kernel_rfl) (by kernel_rfl) (by kernel_rfl) (by kernel_rfl) (by exact fun _ _ _ h => h) hHeld (by rfl) ?ty15 ?tr15
  case ty15 => intro w hSw; (try dsimp only at hSw); go_simp; try with_reducible rfl
  try simp only [Act.put, List.setIfInBounds_toArray, List.set_cons_zero, List.set_cons_succ]
  refine wpL_take (i := 16) (v := ?tv16) (by simp only [List.getElem?_toArray, List.getElem?_cons_succ, List.getElem?_cons_zero]; rfl) (by kernel_rfl) (by kernel_rfl) (by kernel_rfl) (by kernel_rfl) (by exact fun _ _ _ h => h) hHeld (by rfl) ?ty16 ?tr16
  case ty16 => intro w hSw; (try dsimp only at hSw); go_simp; try with_reducible rfl
  try simp only [Act.put, List.setIfInBounds_toArray, List.set_cons_zero, List.set_cons_succ]
  refine wpL_take (i := 17) (v := ?tv17) (by simp only [List.getElem?_toArray, List.getElem?_cons_succ, List.getElem?_cons_zero]; rfl) (by kernel_rfl) (by kernel_rfl) (by kernel_rfl) (by kernel_rfl) (by exact fun _ _ _ h => h) hHeld (by rfl) ?ty17 ?tr17
  case ty17 => intro w hSw; (try dsimp only at hSw); go_simp; try with_reducible rfl
  try simp only [Act.put, List.setIfInBounds_toArray, List.set_cons_zero, List.set_cons_succ]
  refine wpL_take (i := 18) (v := ?tv18) (by simp only [List.getElem?_toArray, List.getElem?_cons_succ, List.getElem?_cons_zero]; rfl) (by kernel_rfl) (by kernel_rfl) (by kernel_rfl) (by kernel_rfl) (by exact fun _ _ _ h => h) hHeld (by rfl) ?ty18 ?tr18
  case ty18 => intro w hSw; (try dsimp only at hSw); go_simp; try with_reducible rfl
  try simp only [Act.put, List.setIfInBounds_toArray, List.set_cons_zero, List.set_cons_succ]
  refine wpL_one (i := 19) (by simp only [List.getElem?_toArray, List.getElem?_cons_succ, List.getElem?_cons_zero]; rfl) (by kernel_rfl) (by rfl) (fun K hK => ?_)
  go_simp
  refine hK.out _ _ (fun hz => hS4) ?_
  clear hK K
  try simp only [Act.put, List.setIfInBounds_toArray, List.set_cons_zero, List.set_cons_succ]
  refine wpL_one (i := 20) (by simp only [List.getElem?_toArray, List.getElem?_cons_succ, List.getElem?_cons_zero]; rfl) (by kernel_rfl) (by rfl) (fun K hK => ?_)
  refine wp_append_run (.tmp 49) (.tmp 51) 101 rfl (by rfl) (by rfl) run ?_
  refine hK.out _ _ (fun hz => hS3) ?_
  clear hK K
  try simp only [Act.put, List.setIfInBounds_toArray, List.set_cons_zero, List.set_cons_succ]
  refine wpL_one (i := 21) (by simp only [List.getElem?_toArray, List.getElem?_cons_succ, List.getElem?_cons_zero]; rfl) (by kernel_rfl) (by rfl) (fun K hK => ?_)
  go_simp
  refine hK.out _ _ (fun hz => hS3) ?_
  clear hK K
  try simp only [Act.put, List.setIfInBounds_toArray, List.set_cons_zero, List.set_cons_succ]
  refine wpL_one (i := 22) (by simp only [List.getElem?_toArray, List.getElem?_cons_succ, List.getElem?_cons_zero]; rfl) (by kernel_rfl) (by rfl) (fun K hK => ?_)
  go_simp
  refine hK.out _ _ (fun hz => absurd rfl hz) ?_
  clear hK K
  try simp only [Act.put, List.setIfInBounds_toArray, List.set_cons_zero, List.set_cons_succ]
  refine wpL_done (by kernel_rfl) ?_ _
  clear hS3 hS4 hHeld run m0 m1 m2 m3 m4 m5 m6 c1 d0 d1
  obtain ⟨W, hW⟩ : ∃ W, W = w3.setCell ⟨RR i, k, none⟩ (.slice a' (l + 1) c') := ⟨_, rfl⟩
  have hend : (∃ v', RefIs b W RB RQ RR n r (put2 V i k v') (put2 q i k (q i k ++ [m])) ∧ Only (fun g => g = RR i ∨ (V i k).ownBlock = some g) w W ∧ ∀ g, v'.ownBlock = some g → (V i k).ownBlock = some g ∨ w.heap.size ≤ g) := by
    have eV : V i k = .slice ao l cc := by rw [HV.out, ← EL.out]
    have ho : Only (fun g => g = RR i ∨ (V i k).ownBlock = some g) w W := by
      rw [hW]
      refine Only.set ?_ (.inl rfl)
      have h1 : Below w.heap.size w w4 := Hb2.out.trans (Hb4.out.mono Hb2.out.size)
      refine (Only.of_below h1).trans (HO3.out.wide fun g hg => .inr (by rw [eV]; exact hg))
    have hv' : ∀ g, (Value.slice a' (l + 1) c').ownBlock = some g → (V i k).ownBlock = some g ∨ w.heap.size ≤ g := fun g hg => by
      rcases HV3.out g hg with h | h
      · exact .inl (by rw [eV]; exact h)
      · have := Hb2.out.size
        have := Hb4.out.size
        exact .inr (by omega)
    have hlW : W.heap[RR i]? = some (.cells (rc.setIfInBounds k (.slice a' (l + 1) c')) 101 (0, 0)) := by rw [hW]; exact heap_set_same HRC3.out
    refine ⟨_, ref_put H.out hi hk ho (fun cells hc => ?_) (HQ3.out.frame fun g hg => ?_) hv', ho, hv'⟩
    · have h2 : w2.heap[RR i]? = some (.cells cells 101 (0, 0)) := (Hb2.out.block _ (lt_of_heap hc)).trans hc
      rw [HRC.out] at h2; cases h2
      exact hlW
    · obtain ⟨cells, hc⟩ := HQ3.out.block hg
      rw [hW]
      exact heap_set_ne (type_ne hc HRC3.out (by decide))
  have HE := Lib.hid hend
  clear hend
  rw [← hW]
  clear hW
  go_wp2
  go_ret
  exact ⟨rfl, HE.out⟩
end Go.Proofs.Ytpoilgeffpedoaa
