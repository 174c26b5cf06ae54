import Derived.Test.YtpoilgeffpedoaaQe
/- The reference's Take. -/
namespace Go.Proofs.Ytpoilgeffpedoaa
open Go.RowKit Go.Pen
attribute [local go_sem ↓] Go.wp_at_zero Go.wp_at_succ

set_option maxHeartbeats 400000 in
theorem rtake_no {b : Nat} {RB RQ : Nat} {RR : Nat → Nat} {n r : Nat} {V : Nat → Nat → Value} {q : Nat → Nat → List AMsg} (i k : Int) (w : World) (h : RefIs b w RB RQ RR n r V q) (hn : ¬ InBox n i k) :
    Calls Try.prog 10 #[.pointer (some ⟨RB, 0, none⟩), .int .i64 i, .int .i64 k] w fun e w' => e = .returned (.tuple #[.agg #[.int .i64 0, .bool false, .int .i64 0, .int .u64 0, .slice none 0 0, .slice none 0 0, .slice none 0 0], .int .i64 90]) ∧ Below w.heap.size w w' := by
  have H := Lib.hid h
  clear h
  go_enter Try.func10, Try.ntmps10
  go_wp2_with (go_at_call 29; refine (is_no i k _ (H.out.below ((Below.refl _ _).alloc (Nat.le_refl _) _)) hn).mono ?_; rintro e w1 ⟨rfl, hb1⟩; have hB1 := (hb1.block w.heap.size (by simp)).trans (heap_alloc_new w _); have f0 : w1.frozen? ⟨w.heap.size, 0, none⟩ = false := frozen_of_heap hB1; have f1 : w1.frozen? ⟨w.heap.size, 1, none⟩ = false := frozen_of_heap hB1; have f2 : w1.frozen? ⟨w.heap.size, 2, none⟩ = false := frozen_of_heap hB1; have f3 : w1.frozen? ⟨w.heap.size, 3, none⟩ = false := frozen_of_heap hB1; have f4 : w1.frozen? ⟨w.heap.size, 4, none⟩ = false := frozen_of_heap hB1; have f5 : w1.frozen? ⟨w.heap.size, 5, none⟩ = false := frozen_of_heap hB1; have f6 : w1.frozen? ⟨w.heap.size, 6, none⟩ = false := frozen_of_heap hB1; have x0 : w1.cell? ⟨w.heap.size, 0, none⟩ = _ := cell_of_heap hB1 rfl; have x1 : w1.cell? ⟨w.heap.size, 1, none⟩ = _ := cell_of_heap hB1 rfl; have x2 : w1.cell? ⟨w.heap.size, 2, none⟩ = _ := cell_of_heap hB1 rfl; have x3 : w1.cell? ⟨w.heap.size, 3, none⟩ = _ := cell_of_heap hB1 rfl; have x4 : w1.cell? ⟨w.heap.size, 4, none⟩ = _ := cell_of_heap hB1 rfl; have x5 : w1.cell? ⟨w.heap.size, 5, none⟩ = _ := cell_of_heap hB1 rfl; have x6 : w1.cell? ⟨w.heap.size, 6, none⟩ = _ := cell_of_heap hB1 rfl; clear hB1)
  refine bodyPost_ret (v := .tuple #[.agg #[.int .i64 0, .bool false, .int .i64 0, .int .u64 0, .slice none 0 0, .slice none 0 0, .slice none 0 0], .int .i64 90]) (by simp [results, Try.results10, go_sem, x0, x1, x2, x3, x4, x5, x6]) rfl ⟨rfl, ?_⟩
  have hq := Nat.le_refl w.heap.size
  exact (((((((((Below.refl _ _).alloc (Nat.le_refl _) _).trans (hb1.mono (by simp))).setCell hq _).setCell hq _).setCell hq _).setCell hq _).setCell hq _).setCell hq _).setCell hq _

set_option maxHeartbeats 400000 in
theorem rtake_none {b : Nat} {RB RQ : Nat} {RR : Nat → Nat} {n r : Nat} {V : Nat → Nat → Value} {q : Nat → Nat → List AMsg} (i k : Nat) (w : World) (h : RefIs b w RB RQ RR n r V q) (hi : i < n) (hk : k < n) (hq : q i k = []) :
    Calls Try.prog 10 #[.pointer (some ⟨RB, 0, none⟩), .int .i64 i, .int .i64 k] w fun e w' => e = .returned (.tuple #[.agg #[.int .i64 0, .bool false, .int .i64 0, .int .u64 0, .slice none 0 0, .slice none 0 0, .slice none 0 0], .int .i64 91]) ∧ Below w.heap.size w w' := by
  have H := Lib.hid h
  have HQ := Lib.hid hq
  clear h hq
  go_enter Try.func10, Try.ntmps10
  go_wp2_with (go_at_call 29; refine (is_yes i k _ (H.out.below ((Below.refl _ _).alloc (Nat.le_refl _) _)) hi hk).mono ?_; rintro e w1 ⟨rfl, hb1⟩; have hB1 := (hb1.block w.heap.size (by simp)).trans (heap_alloc_new w _); have f0 : w1.frozen? ⟨w.heap.size, 0, none⟩ = false := frozen_of_heap hB1; have x0 : w1.cell? ⟨w.heap.size, 0, none⟩ = _ := cell_of_heap hB1 rfl; have f1 : w1.frozen? ⟨w.heap.size, 1, none⟩ = false := frozen_of_heap hB1; have x1 : w1.cell? ⟨w.heap.size, 1, none⟩ = _ := cell_of_heap hB1 rfl; have f2 : w1.frozen? ⟨w.heap.size, 2, none⟩ = false := frozen_of_heap hB1; have x2 : w1.cell? ⟨w.heap.size, 2, none⟩ = _ := cell_of_heap hB1 rfl; have f3 : w1.frozen? ⟨w.heap.size, 3, none⟩ = false := frozen_of_heap hB1; have x3 : w1.cell? ⟨w.heap.size, 3, none⟩ = _ := cell_of_heap hB1 rfl; have f4 : w1.frozen? ⟨w.heap.size, 4, none⟩ = false := frozen_of_heap hB1; have x4 : w1.cell? ⟨w.heap.size, 4, none⟩ = _ := cell_of_heap hB1 rfl; have f5 : w1.frozen? ⟨w.heap.size, 5, none⟩ = false := frozen_of_heap hB1; have x5 : w1.cell? ⟨w.heap.size, 5, none⟩ = _ := cell_of_heap hB1 rfl; have f6 : w1.frozen? ⟨w.heap.size, 6, none⟩ = false := frozen_of_heap hB1; have x6 : w1.cell? ⟨w.heap.size, 6, none⟩ = _ := cell_of_heap hB1 rfl; clear hB1; obtain ⟨c, c0, c1⟩ := ((H.out.below ((Below.refl _ _).alloc (Nat.le_refl _) _)).below hb1).cells; obtain ⟨d0, d1⟩ := ((H.out.below ((Below.refl _ _).alloc (Nat.le_refl _) _)).below hb1).way hi hk; obtain ⟨a, cc, hv, -⟩ := H.out.que i k hi hk; rw [hv, HQ.out] at d1; simp only [List.length_nil] at d1; clear hv)
  refine bodyPost_ret (v := .tuple #[.agg #[.int .i64 0, .bool false, .int .i64 0, .int .u64 0, .slice none 0 0, .slice none 0 0, .slice none 0 0], .int .i64 91]) (by simp [results, Try.results10, go_sem, x0, x1, x2, x3, x4, x5, x6]) rfl ⟨rfl, ?_⟩
  have hq := Nat.le_refl w.heap.size
  exact (((((((((Below.refl _ _).alloc (Nat.le_refl _) _).trans (hb1.mono (by simp))).setCell hq _).setCell hq _).setCell hq _).setCell hq _).setCell hq _).setCell hq _).setCell hq _

theorem queue_tail {W : World} {g o l cc : Nat} {cells : Array Value} {m : AMsg} {qs : List AMsg} (hc : W.heap[g]? = some (.cells cells 31 (0, 0))) (hs : o + (cc + 1) * 7 ≤ cells.size) (hl : l ≤ cc) (hq : l = qs.length)
    (hms : ∀ (j : Nat) m', (m :: qs)[j]? = some m' → ∀ (t : Nat) x, m'.vals[t]? = some x → cells[o + j * 7 + t]? = some x) : QueueAt W (.slice (if cc = 0 then some ⟨g, o, none⟩ else some ⟨g, o + 7, none⟩) l cc) qs := by
  subst hq
  refine ⟨_, cc, rfl, fun h => ?_, fun ad hd => ?_⟩
  · by_cases hc0 : cc = 0
    · rw [if_pos hc0] at h; cases h
    · rw [if_neg hc0] at h; cases h
  · by_cases hc0 : cc = 0
    · rw [if_pos hc0] at hd; cases hd
      refine ⟨g, o, cells, rfl, hc, by omega, hl, fun j m' hj t x hx => ?_⟩
      have := (List.getElem?_eq_some_iff.1 hj).1
      omega
    · rw [if_neg hc0] at hd; cases hd
      refine ⟨g, o + 7, cells, rfl, hc, by omega, hl, fun j m' hj t x hx => ?_⟩
      have := hms (j + 1) m' (by simpa using hj) t x hx
      rw [show o + 7 + j * 7 + t = o + (j + 1) * 7 + t by omega]; exact this

set_option linter.unusedSimpArgs false in
set_option maxRecDepth 100000 in
set_option maxHeartbeats 4000000 in
theorem rtake_yes {b : Nat} {RB RQ : Nat} {RR : Nat → Nat} {n r : Nat} {V : Nat → Nat → Value} {q : Nat → Nat → List AMsg} (i k : Nat) (m : AMsg) (qs : List AMsg) (w : World) (h : RefIs b w RB RQ RR n r V q) (hi : i < n) (hk : k < n) (hq : q i k = m :: qs) (hqs : qs.length ≤ 64) :
    Calls Try.prog 10 #[.pointer (some ⟨RB, 0, none⟩), .int .i64 i, .int .i64 k] w fun e w' => e = .returned (.tuple #[msgAgg m, .int .i64 0]) ∧ ∃ v', RefIs b w' RB RQ RR n r (put2 V i k v') (put2 q i k qs) ∧
      Only (fun g => g = RR i ∨ (V i k).ownBlock = some g) w w' ∧ ∀ g, v'.ownBlock = some g → (V i k).ownBlock = some g ∨ w.heap.size ≤ g := by
  have hq0 := h.que i k hi hk
  obtain ⟨ao, cc0, hv, hn0, h1⟩ := hq0
  rw [hq] at hv hn0 h1
  cases ao with
  | none => have := (hn0 rfl).1; cases this
  | some ad =>
  obtain ⟨g, o, cells, rfl, hc, hs, hlc, hms⟩ := h1 ad rfl
  obtain ⟨l, el⟩ : ∃ l, l = qs.length := ⟨_, rfl⟩
  simp only [List.length_cons, ← el] at hv hlc
  obtain ⟨cc, rfl⟩ : ∃ cc, cc0 = cc + 1 := ⟨cc0 - 1, by omega⟩
  have hm0 := hms 0 m rfl
  have a0 : w.cell? ⟨g, o, none⟩ = some (.int .i64 m.node) := cell_of_heap hc (by simpa using hm0 0 _ rfl)
  have a1 : w.cell? ⟨g, o + 1, none⟩ = some (.bool m.out) := cell_of_heap hc (by simpa using hm0 1 _ rfl)
  have a2 : w.cell? ⟨g, o + 2, none⟩ = some (.int .i64 m.port) := cell_of_heap hc (by simpa using hm0 2 _ rfl)
  have a3 : w.cell? ⟨g, o + 3, none⟩ = some (.int .u64 m.epoch) := cell_of_heap hc (by simpa using hm0 3 _ rfl)
  have a4 : w.cell? ⟨g, o + 4, none⟩ = some (.slice m.la m.loops.length m.lc) := cell_of_heap hc (by simpa using hm0 4 _ rfl)
  have a5 : w.cell? ⟨g, o + 5, none⟩ = some (.slice m.ra m.rows.length m.rc) := cell_of_heap hc (by simpa using hm0 5 _ rfl)
  have a6 : w.cell? ⟨g, o + 6, none⟩ = some (.slice m.ea m.errs.length m.ec) := cell_of_heap hc (by simpa using hm0 6 _ rfl)
  have A : Hid (w.cell? ⟨g, o, none⟩ = some (.int .i64 m.node) ∧ w.cell? ⟨g, o + 1, none⟩ = some (.bool m.out) ∧ w.cell? ⟨g, o + 2, none⟩ = some (.int .i64 m.port) ∧ w.cell? ⟨g, o + 3, none⟩ = some (.int .u64 m.epoch) ∧ w.cell? ⟨g, o + 4, none⟩ = some (.slice m.la m.loops.length m.lc) ∧ w.cell? ⟨g, o + 5, none⟩ = some (.slice m.ra m.rows.length m.rc) ∧ w.cell? ⟨g, o + 6, none⟩ = some (.slice m.ea m.errs.length m.ec)) := ⟨a0, a1, a2, a3, a4, a5, a6⟩
  have H := Lib.hid h
  have HV := Lib.hid hv
  have EL := Lib.hid el
  have HQ := Lib.hid hq
  have HMS := Lib.hid hms
  have HC := Lib.hid hc
  have HSZ := Lib.hid hs
  have x1 : (1 : Int) ≤ (l : Int) + 1 := by omega
  clear h hv el hn0 h1 hq hms hc hs hm0 a0 a1 a2 a3 a4 a5 a6 hqs
  go_enter Try.func10, Try.ntmps10
  go_wp2_with fail
  obtain ⟨w0, hw0⟩ : ∃ w0, w0 = w.alloc (.cells #[.int .i64 0, .bool false, .int .i64 0, .int .u64 0, .slice none 0 0, .slice none 0 0, .slice none 0 0] 31) := ⟨_, rfl⟩
  obtain ⟨B, eB⟩ : ∃ B, B = w.heap.size := ⟨_, rfl⟩
  have hb0 : Below w.heap.size w w0 := by rw [hw0]; exact (Below.refl _ _).alloc (Nat.le_refl _) _
  have hB0 : w0.heap[B]? = some (.cells #[.int .i64 0, .bool false, .int .i64 0, .int .u64 0, .slice none 0 0, .slice none 0 0, .slice none 0 0] 31 (0, 0)) := by rw [hw0, eB]; exact heap_alloc_new _ _
  have HB0 := Lib.hid hB0
  have Hb0 := Lib.hid hb0
  have EB := Lib.hid eB
  rw [← hw0, ← eB]
  clear hw0 hb0 hB0 eB
  refine (is_yes i k w0 (H.out.below Hb0.out) hi hk).mono ?_
  rintro e w1 ⟨rfl, hb1⟩
  have Hb1 : Hid (Below w.heap.size w w1) := Hb0.out.trans (hb1.mono Hb0.out.size)
  have HR1 := Lib.hid (H.out.below Hb1.out)
  obtain ⟨c, -, c1⟩ := HR1.out.cells
  obtain ⟨d0, d1⟩ := HR1.out.way hi hk
  rw [HV.out] at d1
  have hB1 : w1.heap[B]? = _ := (hb1.block B (lt_of_heap HB0.out)).trans HB0.out
  have HB1 := Lib.hid hB1
  obtain ⟨a0, a1, a2, a3, a4, a5, a6⟩ := A.out
  have a0 := cell_keep Hb1.out a0
  have a1 := cell_keep Hb1.out a1
  have a2 := cell_keep Hb1.out a2
  have a3 := cell_keep Hb1.out a3
  have a4 := cell_keep Hb1.out a4
  have a5 := cell_keep Hb1.out a5
  have a6 := cell_keep Hb1.out a6
  clear hb1 hB1
  go_wp2_with fail
  obtain ⟨w2, hw2⟩ : ∃ w2, w2 = w1.alloc (.cells #[.int .i64 m.node, .bool m.out, .int .i64 m.port, .int .u64 m.epoch, .slice m.la m.loops.length m.lc, .slice m.ra m.rows.length m.rc, .slice m.ea m.errs.length m.ec] 31) := ⟨_, rfl⟩
  obtain ⟨M, eM⟩ : ∃ M, M = w1.heap.size := ⟨_, rfl⟩
  have hb2 : Below w1.heap.size w1 w2 := by rw [hw2]; exact (Below.refl _ _).alloc (Nat.le_refl _) _
  have hM2 : w2.heap[M]? = some (.cells #[.int .i64 m.node, .bool m.out, .int .i64 m.port, .int .u64 m.epoch, .slice m.la m.loops.length m.lc, .slice m.ra m.rows.length m.rc, .slice m.ea m.errs.length m.ec] 31 (0, 0)) := by rw [hw2, eM]; exact heap_alloc_new _ _
  have hB2 : w2.heap[B]? = some (.cells #[.int .i64 0, .bool false, .int .i64 0, .int .u64 0, .slice none 0 0, .slice none 0 0, .slice none 0 0] 31 (0, 0)) := (hb2.block B (lt_of_heap HB1.out)).trans HB1.out
  have hMB : B ≠ M := by have := lt_of_heap HB1.out; omega
  have Hb2 : Hid (Below w.heap.size w w2) := Hb1.out.trans (hb2.mono Hb1.out.size)
  have c1 := cell_keep hb2 c1
  have d0 := cell_keep hb2 d0
  have d1 := cell_keep hb2 d1
  rw [← hw2, ← eM]
  clear hw2 hb2 a0 a1 a2 a3 a4 a5 a6
  obtain ⟨rc, hrc, -⟩ := (H.out.below Hb2.out).row i hi
  have hRM : RR i ≠ M := type_ne hrc hM2 (by decide)
  have hRB : RR i ≠ B := type_ne hrc hB2 (by decide)
  have f1 : w2.frozen? ⟨RR i, k, none⟩ = false := frozen_of_heap hrc
  have s2 : RR i < w2.heap.size := lt_of_heap hrc
  have HM2 := Lib.hid hM2
  have HB2 := Lib.hid hB2
  have HRC := Lib.hid hrc
  have EM := Lib.hid eM
  clear hM2 hB2 hrc eM
  refine wp_region_last (fun w' => w'.cell? ⟨RB, 1, none⟩ = some (.slice (some ⟨RQ, 0, none⟩) n c) ∧ w'.cell? ⟨RQ, i, none⟩ = some (.slice (some ⟨RR i, 0, none⟩) n n) ∧ w'.cell? ⟨RR i, k, none⟩ = some (.slice (some ⟨g, o, none⟩) (l + 1) (cc + 1))) 20 (by kernel_rfl) ?_
  have hHeld : w2.drew.cell? ⟨RB, 1, none⟩ = some (.slice (some ⟨RQ, 0, none⟩) n c) ∧ w2.drew.cell? ⟨RQ, i, none⟩ = some (.slice (some ⟨RR i, 0, none⟩) n n) ∧ w2.drew.cell? ⟨RR i, k, none⟩ = some (.slice (some ⟨g, o, none⟩) (l + 1) (cc + 1)) := ⟨c1, d0, d1⟩
  refine wpL_take (i := 0) (v := ?tv0) (by simp only [List.getElem?_toArray, List.getElem?_cons_succ, List.getElem?_cons_zero]; rfl) (by kernel_rfl) (by kernel_rfl) (by kernel_rfl) (by kernel_rfl) (by exact fun _ _ _ h => h) hHeld (by rfl) ?ty0 ?tr0
  case ty0 => intro w hSw; (try dsimp only at hSw); go_simp; try with_reducible rfl
  try simp only [Act.put, List.setIfInBounds_toArray, List.set_cons_zero, List.set_cons_succ]
  refine wpL_take (i := 1) (v := ?tv1) (by simp only [List.getElem?_toArray, List.getElem?_cons_succ, List.getElem?_cons_zero]; rfl) (by kernel_rfl) (by kernel_rfl) (by kernel_rfl) (by kernel_rfl) (by exact fun _ _ _ h => h) hHeld (by rfl) ?ty1 ?tr1
  case ty1 => intro w hSw; (try dsimp only at hSw); go_simp; try with_reducible rfl
  try simp only [Act.put, List.setIfInBounds_toArray, List.set_cons_zero, List.set_cons_succ]
  refine wpL_take (i := 2) (v := ?tv2) (by simp only [List.getElem?_toArray, List.getElem?_cons_succ, List.getElem?_cons_zero]; rfl) (by kernel_rfl) (by kernel_rfl) (by kernel_rfl) (by kernel_rfl) (by exact fun _ _ _ h => h) hHeld (by rfl) ?ty2 ?tr2
  case ty2 => intro w hSw; (try dsimp only at hSw); go_simp; try with_reducible rfl
  try simp only [Act.put, List.setIfInBounds_toArray, List.set_cons_zero, List.set_cons_succ]
  refine wpL_take (i := 3) (v := ?tv3) (by simp only [List.getElem?_toArray, List.getElem?_cons_succ, List.getElem?_cons_zero]; rfl) (by kernel_rfl) (by kernel_rfl) (by kernel_rfl) (by kernel_rfl) (by exact fun _ _ _ h => h) hHeld (by rfl) ?ty3 ?tr3
  case ty3 => intro w hSw; (try dsimp only at hSw); go_simp; try with_reducible rfl
  try simp only [Act.put, List.setIfInBounds_toArray, List.set_cons_zero, List.set_cons_succ]
  refine wpL_take (i := 4) (v := ?tv4) (by simp only [List.getElem?_toArray, List.getElem?_cons_succ, List.getElem?_cons_zero]; rfl) (by kernel_rfl) (by kernel_rfl) (by kernel_rfl) (by kernel_rfl) (by exact fun _ _ _ h => h) hHeld (by rfl) ?ty4 ?tr4
  case ty4 => intro w hSw; (try dsimp only at hSw); go_simp; try with_reducible rfl
  try simp only [Act.put, List.setIfInBounds_toArray, List.set_cons_zero, List.set_cons_succ]
  refine wpL_take (i := 5) (v := ?tv5) (by simp only [List.getElem?_toArray, List.getElem?_cons_succ, List.getElem?_cons_zero]; rfl) (by kernel_rfl) (by kernel_rfl) (by kernel_rfl) (by kernel_rfl) (by exact fun _ _ _ h => h) hHeld (by rfl) ?ty5 ?tr5
  case ty5 => intro w hSw; (try dsimp only at hSw); go_simp; try with_reducible rfl
  try simp only [Act.put, List.setIfInBounds_toArray, List.set_cons_zero, List.set_cons_succ]
  refine wpL_take (i := 6) (v := ?tv6) (by simp only [List.getElem?_toArray, List.getElem?_cons_succ, List.getElem?_cons_zero]; rfl) (by kernel_rfl) (by kernel_rfl) (by kernel_rfl) (by kernel_rfl) (by exact fun _ _ _ h => h) hHeld (by rfl) ?ty6 ?tr6
  case ty6 => intro w hSw; (try dsimp only at hSw); go_simp; try with_reducible rfl
  try simp only [Act.put, List.setIfInBounds_toArray, List.set_cons_zero, List.set_cons_succ]
  refine wpL_take (i := 7) (v := ?tv7) (by simp only [List.getElem?_toArray, List.getElem?_cons_succ, List.getElem?_cons_zero]; rfl) (by kernel_rfl) (by kernel_rfl) (by kernel_rfl) (by kernel_rfl) (by exact fun _ _ _ h => h) hHeld (by rfl) ?ty7 ?tr7
  case ty7 => intro w hSw; (try dsimp only at hSw); go_simp; try with_reducible rfl
  try simp only [Act.put, List.setIfInBounds_toArray, List.set_cons_zero, List.set_cons_succ]
  refine wpL_take (i := 8) (v := ?tv8) (by simp only [List.getElem?_toArray, List.getElem?_cons_succ, List.getElem?_cons_zero]; rfl) (by kernel_rfl) (by kernel_rfl) (by kernel_rfl) (by kernel_rfl) (by exact fun _ _ _ h => h) hHeld (by rfl) ?ty8 ?tr8
  case ty8 => intro w hSw; (try dsimp only at hSw); go_simp; try with_reducible rfl
  try simp only [Act.put, List.setIfInBounds_toArray, List.set_cons_zero, List.set_cons_succ]
  refine wpL_take (i := 9) (v := ?tv9) (by simp only [List.getElem?_toArray, List.getElem?_cons_succ, List.getElem?_cons_zero]; rfl) (by kernel_rfl) (by kernel_rfl) (by kernel_rfl) (by kernel_rfl) (by exact fun _ _ _ h => h) hHeld (by rfl) ?ty9 ?tr9
  case ty9 => intro w hSw; (try dsimp only at hSw); go_simp; try with_reducible rfl
  try simp only [Act.put, List.setIfInBounds_toArray, List.set_cons_zero, List.set_cons_succ]
  refine wpL_take (i := 10) (v := ?tv10) (by simp only [List.getElem?_toArray, List.getElem?_cons_succ, List.getElem?_cons_zero]; rfl) (by kernel_rfl) (by kernel_rfl) (by kernel_rfl) (by kernel_rfl) (by exact fun _ _ _ h => h) hHeld (by rfl) ?ty10 ?tr10
  case ty10 => intro w hSw; (try dsimp only at hSw); go_simp; try with_reducible rfl
  try simp only [Act.put, List.setIfInBounds_toArray, List.set_cons_zero, List.set_cons_succ]
  refine wpL_take (i := 11) (v := ?tv11) (by simp only [List.getElem?_toArray, List.getElem?_cons_succ, List.getElem?_cons_zero]; rfl) (by kernel_rfl) (by kernel_rfl) (by kernel_rfl) (by kernel_rfl) (by exact fun _ _ _ h => h) hHeld (by rfl) ?ty11 ?tr11
  case ty11 => intro w hSw; (try dsimp only at hSw); go_simp; try with_reducible rfl
  try simp only [Act.put, List.setIfInBounds_toArray, List.set_cons_zero, List.set_cons_succ]
  refine wpL_take (i := 12) (v := ?tv12) (by simp only [List.getElem?_toArray, List.getElem?_cons_succ, List.getElem?_cons_zero]; rfl) (by kernel_rfl) (by kernel_rfl) (by kernel_rfl) (by kernel_rfl) (by exact fun _ _ _ h => h) hHeld (by rfl) ?ty12 ?tr12
  case ty12 => intro w hSw; (try dsimp only at hSw); go_simp; try with_reducible rfl
  try simp only [Act.put, List.setIfInBounds_toArray, List.set_cons_zero, List.set_cons_succ]
  refine wpL_take (i := 13) (v := ?tv13) (by simp only [List.getElem?_toArray, List.getElem?_cons_succ, List.getElem?_cons_zero]; rfl) (by kernel_rfl) (by kernel_rfl) (by kernel_rfl) (by kernel_rfl) (by exact fun _ _ _ h => h) hHeld (by rfl) ?ty13 ?tr13
  case ty13 => intro w hSw; (try dsimp only at hSw); go_simp; try with_reducible rfl
  try simp only [Act.put, List.setIfInBounds_toArray, List.set_cons_zero, List.set_cons_succ]
  refine wpL_take (i := 14) (v := ?tv14) (by simp only [List.getElem?_toArray, List.getElem?_cons_succ, List.getElem?_cons_zero]; rfl) (by kernel_rfl) (by kernel_rfl) (by kernel_rfl) (by kernel_rfl) (by exact fun _ _ _ h => h) hHeld (by rfl) ?ty14 ?tr14
  case ty14 => intro w hSw; (try dsimp only at hSw); go_simp; try with_reducible rfl
  try simp only [Act.put, List.setIfInBounds_toArray, List.set_cons_zero, List.set_cons_succ]
  refine wpL_take (i := 15) (v := ?tv15) (by simp only [List.getElem?_toArray, List.getElem?_cons_succ, List.getElem?_cons_zero]; rfl) (by kernel_rfl) (by kernel_rfl) (by kernel_rfl) (by kernel_rfl) (by exact fun _ _ _ h => h) hHeld (by rfl) ?ty15 ?tr15
  case ty15 => intro w hSw; (try dsimp only at hSw); go_simp; try with_reducible rfl
  try simp only [Act.put, List.setIfInBounds_toArray, List.set_cons_zero, List.set_cons_succ]
  refine wpL_take (i := 16) (v := ?tv16) (by simp only [List.getElem?_toArray, List.getElem?_cons_succ, List.getElem?_cons_zero]; rfl) (by kernel_rfl) (by kernel_rfl) (by kernel_rfl) (by kernel_rfl) (by exact fun _ _ _ h => h) hHeld (by rfl) ?ty16 ?tr16
  case ty16 => intro w hSw; (try dsimp only at hSw); go_simp; try with_reducible rfl
  try simp only [Act.put, List.setIfInBounds_toArray, List.set_cons_zero, List.set_cons_succ]
  refine wpL_take (i := 17) (v := ?tv17) (by simp only [List.getElem?_toArray, List.getElem?_cons_succ, List.getElem?_cons_zero]; rfl) (by kernel_rfl) (by kernel_rfl) (by kernel_rfl) (by kernel_rfl) (by exact fun _ _ _ h => h) hHeld (by rfl) ?ty17 ?tr17
  case ty17 => intro w hSw; (try dsimp only at hSw); go_simp; try with_reducible rfl
  try simp only [Act.put, List.setIfInBounds_toArray, List.set_cons_zero, List.set_cons_succ]
  refine wpL_take (i := 18) (v := ?tv18) (by simp only [List.getElem?_toArray, List.getElem?_cons_succ, List.getElem?_cons_zero]; rfl) (by kernel_rfl) (by kernel_rfl) (by kernel_rfl) (by kernel_rfl) (by exact fun _ _ _ h => h) hHeld (by rfl) ?ty18 ?tr18
  case ty18 => intro w hSw; (try dsimp only at hSw); go_simp; try with_reducible rfl
  try simp only [Act.put, List.setIfInBounds_toArray, List.set_cons_zero, List.set_cons_succ]
  refine wpL_one (i := 19) (by simp only [List.getElem?_toArray, List.getElem?_cons_succ, List.getElem?_cons_zero]; rfl) (by kernel_rfl) (by rfl) (fun K hK => ?_)
  go_simp
  refine hK.out _ _ (fun hz => hHeld) ?_
  clear hK K
  try simp only [Act.put, List.setIfInBounds_toArray, List.set_cons_zero, List.set_cons_succ]
  refine wpL_one (i := 20) (by simp only [List.getElem?_toArray, List.getElem?_cons_succ, List.getElem?_cons_zero]; rfl) (by kernel_rfl) (by rfl) (fun K hK => ?_)
  go_simp
  refine hK.out _ _ (fun hz => absurd rfl hz) ?_
  clear hK K
  try simp only [Act.put, List.setIfInBounds_toArray, List.set_cons_zero, List.set_cons_succ]
  refine wpL_done (by kernel_rfl) ?_ _
  obtain ⟨w3, hw3⟩ : ∃ w3, w3 = w2.setCell ⟨RR i, k, none⟩ (.slice (if cc = 0 then some ⟨g, o, none⟩ else some ⟨g, o + 7, none⟩) l cc) := ⟨_, rfl⟩
  have hM3 : w3.heap[M]? = some (.cells #[.int .i64 m.node, .bool m.out, .int .i64 m.port, .int .u64 m.epoch, .slice m.la m.loops.length m.lc, .slice m.ra m.rows.length m.rc, .slice m.ea m.errs.length m.ec] 31 (0, 0)) := by rw [hw3, heap_set_ne (Ne.symm hRM)]; exact HM2.out
  have hB3 : w3.heap[B]? = some (.cells #[.int .i64 0, .bool false, .int .i64 0, .int .u64 0, .slice none 0 0, .slice none 0 0, .slice none 0 0] 31 (0, 0)) := by rw [hw3, heap_set_ne (Ne.symm hRB)]; exact HB2.out
  have hR3 : w3.heap[RR i]? = some (.cells (rc.setIfInBounds k (.slice (if cc = 0 then some ⟨g, o, none⟩ else some ⟨g, o + 7, none⟩) l cc)) 101 (0, 0)) := by rw [hw3]; exact heap_set_same HRC.out
  have ho3 : Only (fun g => g = RR i ∨ (V i k).ownBlock = some g) w w3 := by rw [hw3]; exact (Only.of_below Hb2.out).set (.inl rfl)
  have heB : ∀ x, x < w.heap.size → x ≠ B := fun x hx => by have := EB.out; omega
  obtain ⟨W, hW⟩ : ∃ W, W = ((((((w3.setCell ⟨B, 0, none⟩ (.int .i64 m.node)).setCell ⟨B, 1, none⟩ (.bool m.out)).setCell ⟨B, 2, none⟩ (.int .i64 m.port)).setCell ⟨B, 3, none⟩ (.int .u64 m.epoch)).setCell ⟨B, 4, none⟩ (.slice m.la m.loops.length m.lc)).setCell ⟨B, 5, none⟩ (.slice m.ra m.rows.length m.rc)).setCell ⟨B, 6, none⟩ (.slice m.ea m.errs.length m.ec) := ⟨_, rfl⟩
  have hWo : ∀ x, x ≠ B → W.heap[x]? = w3.heap[x]? := fun x hx => by rw [hW]; simp only [heap_set_ne hx]
  have hBW : W.heap[B]? = some (.cells #[.int .i64 m.node, .bool m.out, .int .i64 m.port, .int .u64 m.epoch, .slice m.la m.loops.length m.lc, .slice m.ra m.rows.length m.rc, .slice m.ea m.errs.length m.ec] 31 (0, 0)) := by
    rw [hW, heap_set_same (heap_set_same (heap_set_same (heap_set_same (heap_set_same (heap_set_same (heap_set_same hB3))))))]; rfl
  have hoW : Only (fun g => g = RR i ∨ (V i k).ownBlock = some g) w W := by
    refine ⟨by rw [hW]; simp only [setCell_os]; exact ho3.os, by rw [hW]; simp only [setCell_tape]; exact ho3.tape, by rw [hW]; simp only [setCell_output]; exact ho3.output, by rw [hW]; simp only [setCell_size]; exact ho3.size, fun x hx hn => ?_⟩
    rw [hWo x (heB x hx)]; exact ho3.block x hx hn
  have hv' : ∀ x, (Value.slice (if cc = 0 then some (⟨g, o, none⟩ : Addr) else some ⟨g, o + 7, none⟩) l cc).ownBlock = some x → x = g := fun x hx => by
    by_cases hc0 : cc = 0
    · rw [if_pos hc0] at hx; cases hx; rfl
    · rw [if_neg hc0] at hx; cases hx; rfl
  have hgo : (V i k).ownBlock = some g := by rw [HV.out]; rfl
  have hq0 : QueueAt W (.slice (if cc = 0 then some ⟨g, o, none⟩ else some ⟨g, o + 7, none⟩) l cc) qs := by
    have hgW : W.heap[g]? = some (.cells cells 31 (0, 0)) := by
      obtain ⟨rc0, hrc0, -⟩ := H.out.row i hi
      rw [hWo g (heB g (lt_of_heap HC.out)), hw3, heap_set_ne (type_ne HC.out hrc0 (by decide))]
      exact (Hb2.out.block g (lt_of_heap HC.out)).trans HC.out
    exact queue_tail hgW HSZ.out (by omega) EL.out HMS.out
  have hend : (∃ v', RefIs b W RB RQ RR n r (put2 V i k v') (put2 q i k qs) ∧ Only (fun g => g = RR i ∨ (V i k).ownBlock = some g) w W ∧ ∀ g, v'.ownBlock = some g → (V i k).ownBlock = some g ∨ w.heap.size ≤ g) := by
    refine ⟨_, ref_put H.out hi hk hoW (fun cs hc => ?_) hq0 (fun x hx => .inl (by rw [hgo, hv' x hx])), hoW, fun x hx => .inl (by rw [hgo, hv' x hx])⟩
    have h2 : w2.heap[RR i]? = some (.cells cs 101 (0, 0)) := (Hb2.out.block _ (lt_of_heap hc)).trans hc
    rw [HRC.out] at h2; cases h2
    rw [hWo _ hRB]; exact hR3
  have HE := Lib.hid hend
  have HWW := Lib.hid hW
  have HBW := Lib.hid hBW
  rw [← hw3]
  have m0 : w3.cell? ⟨M, 0, none⟩ = some (.int .i64 m.node) := cell_of_heap hM3 rfl
  have m1 : w3.cell? ⟨M, 1, none⟩ = some (.bool m.out) := cell_of_heap hM3 rfl
  have m2 : w3.cell? ⟨M, 2, none⟩ = some (.int .i64 m.port) := cell_of_heap hM3 rfl
  have m3 : w3.cell? ⟨M, 3, none⟩ = some (.int .u64 m.epoch) := cell_of_heap hM3 rfl
  have m4 : w3.cell? ⟨M, 4, none⟩ = some (.slice m.la m.loops.length m.lc) := cell_of_heap hM3 rfl
  have m5 : w3.cell? ⟨M, 5, none⟩ = some (.slice m.ra m.rows.length m.rc) := cell_of_heap hM3 rfl
  have m6 : w3.cell? ⟨M, 6, none⟩ = some (.slice m.ea m.errs.length m.ec) := cell_of_heap hM3 rfl
  have x0 : w3.cell? ⟨B, 0, none⟩ = _ := cell_of_heap hB3 rfl
  have f0 : w3.frozen? ⟨B, 0, none⟩ = false := frozen_of_heap hB3
  have x1 : w3.cell? ⟨B, 1, none⟩ = _ := cell_of_heap hB3 rfl
  have f1 : w3.frozen? ⟨B, 1, none⟩ = false := frozen_of_heap hB3
  have x2 : w3.cell? ⟨B, 2, none⟩ = _ := cell_of_heap hB3 rfl
  have f2 : w3.frozen? ⟨B, 2, none⟩ = false := frozen_of_heap hB3
  have x3 : w3.cell? ⟨B, 3, none⟩ = _ := cell_of_heap hB3 rfl
  have f3 : w3.frozen? ⟨B, 3, none⟩ = false := frozen_of_heap hB3
  have x4 : w3.cell? ⟨B, 4, none⟩ = _ := cell_of_heap hB3 rfl
  have f4 : w3.frozen? ⟨B, 4, none⟩ = false := frozen_of_heap hB3
  have x5 : w3.cell? ⟨B, 5, none⟩ = _ := cell_of_heap hB3 rfl
  have f5 : w3.frozen? ⟨B, 5, none⟩ = false := frozen_of_heap hB3
  have x6 : w3.cell? ⟨B, 6, none⟩ = _ := cell_of_heap hB3 rfl
  have f6 : w3.frozen? ⟨B, 6, none⟩ = false := frozen_of_heap hB3
  clear hw3 hM3 hB3 hR3 ho3 heB hWo hBW hoW hv' hgo hq0 hend hW HM2 HB2 HRC c1 d0 d1 hHeld
  go_wp2
  all_goals
    rw [← HWW.out]
    have n0 : W.cell? ⟨B, 0, none⟩ = some (.int .i64 m.node) := cell_of_heap HBW.out rfl
    have n1 : W.cell? ⟨B, 1, none⟩ = some (.bool m.out) := cell_of_heap HBW.out rfl
    have n2 : W.cell? ⟨B, 2, none⟩ = some (.int .i64 m.port) := cell_of_heap HBW.out rfl
    have n3 : W.cell? ⟨B, 3, none⟩ = some (.int .u64 m.epoch) := cell_of_heap HBW.out rfl
    have n4 : W.cell? ⟨B, 4, none⟩ = some (.slice m.la m.loops.length m.lc) := cell_of_heap HBW.out rfl
    have n5 : W.cell? ⟨B, 5, none⟩ = some (.slice m.ra m.rows.length m.rc) := cell_of_heap HBW.out rfl
    have n6 : W.cell? ⟨B, 6, none⟩ = some (.slice m.ea m.errs.length m.ec) := cell_of_heap HBW.out rfl
    obtain ⟨v', e1, e2, e3⟩ := HE.out
    exact bodyPost_ret (v := .tuple #[msgAgg m, .int .i64 0]) (by simp [results, Try.results10, go_sem, n0, n1, n2, n3, n4, n5, n6, msgAgg]) rfl ⟨rfl, v', e1.below (Below.refl _ _).drew, ⟨e2.os, e2.tape, e2.output, e2.size, e2.block⟩, e3⟩
end Go.Proofs.Ytpoilgeffpedoaa
