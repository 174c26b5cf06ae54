import Derived.Test.YtpoilgeffpedoaaQg
/- The program's box, asked for a way that there is not. -/
namespace Go.Proofs.Ytpoilgeffpedoaa
open Go.RowKit Go.Pen
attribute [local go_sem ↓] Go.wp_at_zero Go.wp_at_succ

set_option maxHeartbeats 400000 in
theorem way_out (B L n r : Nat) (i j : Int) (w : World) (hb : BoxIs w B L n r) (hn : ¬ InBox n i j) :
    Calls Try.prog 28 #[.pointer (some ⟨B, 0, none⟩), .int .i64 i, .int .i64 j] w fun e w' => e = .returned (.pointer none) ∧ Below w.heap.size w w' := by
  obtain ⟨h0, -, -⟩ := hb.cells
  clear hb
  rcases not_inBox hn with h | ⟨h, h1⟩ | ⟨h, h1, h2⟩ | ⟨h, h1, h2, h3⟩
  · have h' : ¬ (0 ≤ i) := by omega
    clear hn
    go_enter Try.func28, Try.ntmps28
    go_wp2
    go_ret
    exact ⟨rfl, Below.refl _ _⟩
  · have h' : ¬ (i < n) := by omega
    clear hn
    go_enter Try.func28, Try.ntmps28
    go_wp2
    go_ret
    exact ⟨rfl, Below.refl _ _⟩
  · have h' : ¬ (0 ≤ j) := by omega
    clear hn
    go_enter Try.func28, Try.ntmps28
    go_wp2
    go_ret
    exact ⟨rfl, Below.refl _ _⟩
  · have h' : ¬ (j < n) := by omega
    clear hn
    go_enter Try.func28, Try.ntmps28
    go_wp2
    go_ret
    exact ⟨rfl, Below.refl _ _⟩

set_option maxHeartbeats 400000 in
theorem len_out (B L n r : Nat) (i j : Int) (w : World) (hb : BoxIs w B L n r) (hn : ¬ InBox n i j) :
    Calls Try.prog 24 #[.pointer (some ⟨B, 0, none⟩), .int .i64 i, .int .i64 j] w fun e w' => e = .returned (.int .i64 0) ∧ Below w.heap.size w w' := by
  have HB := Lib.hid hb
  clear hb
  go_enter Try.func24, Try.ntmps24
  go_wp2_with (go_at_call 28; refine (way_out B L n r i j _ HB.out hn).mono ?_; rintro e w1 ⟨rfl, hb1⟩)
  go_ret
  exact ⟨rfl, hb1⟩

theorem box_keep {w w' : World} {B L n r : Nat} (h : BoxIs w B L n r) (hb : Below w.heap.size w w') : BoxIs w' B L n r := show _ = _ from (hb.block B (lt_of_heap h)).trans h

set_option maxRecDepth 100000 in
set_option maxHeartbeats 1000000 in
theorem send_out (B L n r : Nat) (i j : Int) (w : World) (hb : BoxIs w B L n r) (hn : ¬ InBox n i j) (c0 c1 c2 c3 c4 c5 c6 : Value) :
    Calls Try.prog 16 #[.pointer (some ⟨B, 0, none⟩), .int .i64 i, .int .i64 j, .agg #[c0, c1, c2, c3, c4, c5, c6]] w fun e w' => e = .returned (.int .u16 90) ∧ Below w.heap.size w w' := by
  have HB := Lib.hid hb
  clear hb
  go_enter Try.func16, Try.ntmps16
  go_wp2_with (go_at_call 28; refine (way_out B L n r i j _ (box_keep HB.out ((Below.refl _ _).alloc (Nat.le_refl _) _)) hn).mono ?_; rintro e w1 ⟨rfl, hb1⟩)
  go_ret
  exact ⟨rfl, ((Below.refl _ _).alloc (Nat.le_refl _) _).trans (hb1.mono (by simp))⟩

set_option maxRecDepth 100000 in
set_option maxHeartbeats 1000000 in
theorem take_out (B L n r : Nat) (i j : Int) (w : World) (hb : BoxIs w B L n r) (hn : ¬ InBox n i j) :
    Calls Try.prog 9 #[.pointer (some ⟨B, 0, none⟩), .int .i64 i, .int .i64 j] w fun e w' => e = .returned (.tuple #[.agg #[.int .i64 0, .bool false, .int .i64 0, .int .u64 0, .slice none 0 0, .slice none 0 0, .slice none 0 0], .int .u16 90]) ∧ Below w.heap.size w w' := by
  have HB := Lib.hid hb
  clear hb
  go_enter Try.func9, Try.ntmps9
  go_wp2_with (go_at_call 28; refine (way_out B L n r i j _ (box_keep HB.out ((Below.refl _ _).alloc (Nat.le_refl _) _)) hn).mono ?_; rintro e w1 ⟨rfl, hb1⟩; have hB1 := (hb1.block w.heap.size (by simp)).trans (heap_alloc_new w _); have f0 : w1.frozen? ⟨w.heap.size, 0, none⟩ = false := frozen_of_heap hB1; have x0 : w1.cell? ⟨w.heap.size, 0, none⟩ = _ := cell_of_heap hB1 rfl; have f1 : w1.frozen? ⟨w.heap.size, 1, none⟩ = false := frozen_of_heap hB1; have x1 : w1.cell? ⟨w.heap.size, 1, none⟩ = _ := cell_of_heap hB1 rfl; have f2 : w1.frozen? ⟨w.heap.size, 2, none⟩ = false := frozen_of_heap hB1; have x2 : w1.cell? ⟨w.heap.size, 2, none⟩ = _ := cell_of_heap hB1 rfl; have f3 : w1.frozen? ⟨w.heap.size, 3, none⟩ = false := frozen_of_heap hB1; have x3 : w1.cell? ⟨w.heap.size, 3, none⟩ = _ := cell_of_heap hB1 rfl; have f4 : w1.frozen? ⟨w.heap.size, 4, none⟩ = false := frozen_of_heap hB1; have x4 : w1.cell? ⟨w.heap.size, 4, none⟩ = _ := cell_of_heap hB1 rfl; have f5 : w1.frozen? ⟨w.heap.size, 5, none⟩ = false := frozen_of_heap hB1; have x5 : w1.cell? ⟨w.heap.size, 5, none⟩ = _ := cell_of_heap hB1 rfl; have f6 : w1.frozen? ⟨w.heap.size, 6, none⟩ = false := frozen_of_heap hB1; have x6 : w1.cell? ⟨w.heap.size, 6, none⟩ = _ := cell_of_heap hB1 rfl; clear hB1)
  refine bodyPost_ret (v := .tuple #[.agg #[.int .i64 0, .bool false, .int .i64 0, .int .u64 0, .slice none 0 0, .slice none 0 0, .slice none 0 0], .int .u16 90]) (by simp [results, Try.results9, go_sem, x0, x1, x2, x3, x4, x5, x6]) rfl ⟨rfl, ?_⟩
  have hq := Nat.le_refl w.heap.size
  exact (((((((((Below.refl _ _).alloc (Nat.le_refl _) _).trans (hb1.mono (by simp))).setCell hq _).setCell hq _).setCell hq _).setCell hq _).setCell hq _).setCell hq _).setCell hq _

set_option maxHeartbeats 400000 in
theorem new_bad (n r : Int) (w : World) (h : ¬ (1 ≤ n ∧ n ≤ 8 ∧ 1 ≤ r ∧ r ≤ 64)) :
    Calls Try.prog 6 #[.int .i64 n, .int .i64 r] w fun e w' => e = .returned (.tuple #[.pointer none, .int .u16 90]) ∧ w = w' := by
  have hc : n < 1 ∨ (1 ≤ n ∧ 8 < n) ∨ (1 ≤ n ∧ n ≤ 8 ∧ r < 1) ∨ (1 ≤ n ∧ n ≤ 8 ∧ 1 ≤ r ∧ 64 < r) := by omega
  clear h
  rcases hc with h | ⟨h, h1⟩ | ⟨h, h1, h2⟩ | ⟨h, h1, h2, h3⟩
  all_goals
    go_enter Try.func6, Try.ntmps6
    go_wp2
    go_ret2
    exact ⟨rfl, rfl⟩
end Go.Proofs.Ytpoilgeffpedoaa
