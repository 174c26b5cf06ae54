import Derived.Test.YtpoilgeffpedoaaQa
/- The reference's New. -/
namespace Go.Proofs.Ytpoilgeffpedoaa
open Go.RowKit Go.Pen
attribute [local go_sem ↓] Go.wp_at_zero Go.wp_at_succ

theorem info98 : (Try.prog.info? 98).map (fun i => (i.zero, i.size, i.bytes)) = some (some (.slice none 0 0), 1, 24) := by kernel_rfl
theorem info101 : (Try.prog.info? 101).map (fun i => (i.zero, i.size, i.bytes)) = some (some (.slice none 0 0), 1, 24) := by kernel_rfl

/-- the rows so far -/
def rowVals (n k : Nat) (RR : Nat → Nat) : List Value := (List.range k).map fun i => .slice (some ⟨RR i, 0, none⟩) n n

/-- what New's loop keeps -/
def NewRel (n r : Nat) (w : World) (k : Nat) (wr : World) : Prop :=
  ∃ qv RR, wr.heap[w.heap.size]? = some (.cells #[.int .i64 r, qv] 97 (0, 0)) ∧ wr.ownsRow (w.heap.size + 1) 98 1 qv k (rowVals n k RR) ∧ (∀ i, i < k → w.heap.size < RR i ∧ wr.heap[RR i]? = some (.cells (madeCells #[.slice none 0 0] n) 101 (0, 0))) ∧
    (∀ i j, i < k → j < k → RR i = RR j → i = j) ∧ Below w.heap.size w wr

theorem made_none (n k : Nat) (h : k < n) : (madeCells #[.slice none 0 0] n)[k]? = some (.slice none 0 0) := by
  simp [madeCells, h, Nat.mod_one]

theorem rowVals_succ (n k : Nat) (RR : Nat → Nat) (x : Nat) : rowVals n (k + 1) (fun j => if j = k then x else RR j) = rowVals n k RR ++ [.slice (some ⟨x, 0, none⟩) n n] := by
  unfold rowVals
  rw [List.range_succ, List.map_append]
  congr 1
  · refine List.map_congr_left fun j hj => ?_
    have : j ≠ k := by have := List.mem_range.1 hj; omega
    simp [this]
  · simp

theorem fz_alloc {w : World} {b o : Nat} {x : Obj} (h : b < w.heap.size) (hf : w.frozen? ⟨b, o, none⟩ = false) : (w.alloc x).frozen? ⟨b, o, none⟩ = false :=
  (World.frozen?_of_block (Below.heap_alloc w x b h)).trans hf
theorem cf_alloc {w : World} {b o : Nat} {v : Value} {x : Obj} (h : b < w.heap.size) (hf : w.cell? ⟨b, o, none⟩ = some v ∧ w.frozen? ⟨b, o, none⟩ = false) : (w.alloc x).cell? ⟨b, o, none⟩ = some v ∧ (w.alloc x).frozen? ⟨b, o, none⟩ = false :=
  ⟨(World.cell?_of_block (Below.heap_alloc w x b h)).trans hf.1, (World.frozen?_of_block (Below.heap_alloc w x b h)).trans hf.2⟩
theorem heap_new2 (w : World) (x y : Obj) : (w.alloc x |>.alloc y).drew.heap[w.heap.size + 1]? = some y := by
  have h : (w.alloc x).heap.size = w.heap.size + 1 := by simp
  rw [← h]; exact heap_alloc_new _ _
theorem fz_drew {w : World} {b o : Nat} (hf : w.frozen? ⟨b, o, none⟩ = false) : w.drew.frozen? ⟨b, o, none⟩ = false := hf

theorem new_step {n r k B qc gg cap : Nat} {w wr w1 : World} {qa : Option Addr} {RR : Nat → Nat} {xs : List Value} (eB : B = w.heap.size) (hB : wr.heap[B]? = some (.cells #[.int .i64 r, .slice qa k qc] 97 (0, 0)))
    (hown : wr.ownsRow (B + 1) 98 1 (.slice qa k qc) k xs) (hrows : ∀ i, i < k → B < RR i ∧ wr.heap[RR i]? = some (.cells (madeCells #[.slice none 0 0] n) 101 (0, 0))) (hinj : ∀ i j, i < k → j < k → RR i = RR j → i = j) (hbw : Below B w wr) (hxs : xs = rowVals n k RR)
    (hown1 : w1.ownsRow (B + 1) 98 1 (.slice (some ⟨gg, 0, none⟩) (k + 1) cap) (k + 1) (xs ++ [.slice (some ⟨wr.heap.size, 0, none⟩) n n]))
    (hgrow : ((wr.alloc (.cells (madeCells #[.slice none 0 0] n) 101)).alloc (.cells #[.slice (some ⟨wr.heap.size, 0, none⟩) n n] 98)).drew.grownBy w1 (Value.slice qa k qc).ownBlock) (hne : ∀ g, (Value.slice qa k qc).ownBlock = some g → B ≠ g) :
    NewRel n r w (k + 1) (w1.setCell ⟨B, 1, none⟩ (.slice (some ⟨gg, 0, none⟩) (k + 1) cap)) := by
  have hBl := lt_of_heap hB
  obtain ⟨w3, hw3⟩ : ∃ w3, w3 = ((wr.alloc (.cells (madeCells #[.slice none 0 0] n) 101)).alloc (.cells #[.slice (some ⟨wr.heap.size, 0, none⟩) n n] 98)).drew := ⟨_, rfl⟩
  have hsz3 : w3.heap.size = wr.heap.size + 2 := by rw [hw3]; simp
  have hb3 : Below wr.heap.size wr w3 := by rw [hw3]; exact (((Below.refl _ _).alloc (Nat.le_refl _) _).alloc (by simp) _).drew
  have hnew : w3.heap[wr.heap.size]? = some (.cells (madeCells #[.slice none 0 0] n) 101 (0, 0)) := by
    rw [hw3]
    exact (Below.heap_alloc _ _ _ (by simp)).trans (heap_alloc_new _ _)
  rw [← hw3] at hgrow
  have far : ∀ g, g < w3.heap.size → (Value.slice qa k qc).ownBlock ≠ some g → w1.heap[g]? = w3.heap[g]? := fun g hg hn => hgrow.block g hg (fun e => hn e.symm)
  have ownT : ∀ g, (Value.slice qa k qc).ownBlock = some g → ∃ cur, w3.heap[g]? = some (.cells cur 98 (0, 0)) ∧ g < wr.heap.size := fun g hg => by
    obtain ⟨-, h2, cur, hc⟩ := ownsRow_block hown hg
    exact ⟨cur, (hb3.block g h2).trans hc, h2⟩
  have keep : ∀ (g : Nat) (cur : Array Value), w3.heap[g]? = some (.cells cur 101 (0, 0)) → B < g → (w1.setCell ⟨B, 1, none⟩ (.slice (some ⟨gg, 0, none⟩) (k + 1) cap)).heap[g]? = some (.cells cur 101 (0, 0)) := fun g cur hg hBg => by
    rw [heap_set_ne (by omega), far g (lt_of_heap hg) (fun e => by obtain ⟨c, hc, -⟩ := ownT g e; exact type_ne hg hc (by decide) rfl)]; exact hg
  refine ⟨.slice (some ⟨gg, 0, none⟩) (k + 1) cap, fun j => if j = k then wr.heap.size else RR j, ?_, ?_, ?_, ?_, ?_⟩
  · rw [← eB]
    have h1 : w1.heap[B]? = some (.cells #[.int .i64 r, .slice qa k qc] 97 (0, 0)) := by
      rw [far B (by omega) (fun e => hne B e rfl), hb3.block B hBl]; exact hB
    rw [heap_set_same h1]; rfl
  · rw [← eB, rowVals_succ, ← hxs]
    refine ownsRow_frame hown1 fun g hg => heap_set_ne ?_
    have := (hown1.lt g hg).1
    omega
  · intro i hi
    by_cases hik : i = k
    · subst hik
      simp only [if_true]
      exact ⟨by omega, keep _ _ hnew (by omega)⟩
    · simp only [if_neg hik]
      obtain ⟨h1, h2⟩ := hrows i (by omega)
      exact ⟨by omega, keep _ _ ((hb3.block _ (lt_of_heap h2)).trans h2) h1⟩
  · intro i j hi hj e
    simp only [] at e
    have lt : ∀ i, i < k → RR i < wr.heap.size := fun i hi => lt_of_heap (hrows i hi).2
    by_cases h1 : i = k <;> by_cases h2 : j = k
    · omega
    · rw [if_pos h1, if_neg h2] at e; have := lt j (by omega); omega
    · rw [if_neg h1, if_pos h2] at e; have := lt i (by omega); omega
    · rw [if_neg h1, if_neg h2] at e; exact hinj i j (by omega) (by omega) e
  · rw [← eB]
    refine ((hbw.trans (hb3.mono (Nat.le_of_lt hBl))).grown hgrow (by omega) (fun g hg => ?_)).setCell (Nat.le_refl _) _
    have := (hown.lt g hg).1; omega

set_option maxRecDepth 100000 in
set_option maxHeartbeats 2000000 in
theorem rnew_ok (n r : Nat) (w : World) (h1 : 1 ≤ n) (h2 : n ≤ 8) (h3 : 1 ≤ r) (h4 : r ≤ 64) :
    Calls Try.prog 7 #[.int .i64 n, .int .i64 r] w fun e w' => e = .returned (.tuple #[.pointer (some ⟨w.heap.size, 0, none⟩), .int .i64 0]) ∧ NewRel n r w n w' := by
  obtain ⟨i0, hi, hz0, hz1, hz2⟩ := info_parts info98
  obtain ⟨i1, hi1, hy0, hy1, hy2⟩ := info_parts info101
  have hmk : ∀ u : World, (Instr.makeSlice 98 (.int .i64 (n : Int)) (.int .i64 (n : Int))).run Try.prog u =
      .ok (.slice (some ⟨u.heap.size, 0, none⟩) n n) (u.alloc (.cells (madeCells #[.slice none 0 0] n) 101)) := fun u => by
    have h := run_make (P := Try.prog) u 98 101 i1 _ Try.underlying98 hi1 hy0 .i64 .i64 (n : Int) (n : Int) (by omega) (Int.le_refl _) (by rw [hy2]; omega) (by omega)
    have e : ((n : Int)).toNat = n := by omega
    rw [e] at h
    simpa [hy1, Value.cells] using h
  have n1 : (1 : Int) ≤ n := by omega
  have n2 : (n : Int) ≤ 8 := by omega
  have n3 : (1 : Int) ≤ r := by omega
  have n4 : (r : Int) ≤ 64 := by omega
  go_enter Try.func7, Try.ntmps7
  go_wp2
  go_loopw [7] (fun i wr => ∃ k : Nat, k ≤ n ∧ i = .int .i64 k ∧ NewRel n r w k wr) (fun i _ => n - (intOf i).toNat)
  case atStart =>
    refine ⟨0, Nat.zero_le _, rfl, .slice none 0 0, fun _ => 0, heap_alloc_new w _, World.ownsRow_nil _ _ _ _, fun i hi => by omega, fun i j hi => by omega, (Below.refl _ _).alloc (Nat.le_refl _) _⟩
  case round =>
    obtain ⟨k, hk, rfl, hr⟩ := hrel
    by_cases hlt : k < n
    · obtain ⟨qv, RR, hB, hown, hrows, hinj, hbw⟩ := hr
      obtain ⟨B, eB⟩ : ∃ B, B = w.heap.size := ⟨_, rfl⟩
      rw [← eB] at hB hown hrows hbw
      rw [← eB]
      have EB := Lib.hid eB
      obtain ⟨qa, qc, rfl⟩ := ownsRow_slice hown
      have hBl : B < wr.heap.size := lt_of_heap hB
      have cB : wr.cell? ⟨B, 1, none⟩ = some (.slice qa k qc) := cell_of_heap hB rfl
      have fB : wr.frozen? ⟨B, 1, none⟩ = false := frozen_of_heap hB
      have hne : ∀ g, (Value.slice qa k qc).ownBlock = some g → B ≠ g := fun g hg e => by have := (hown.lt g hg).1; omega
      have HNE := Lib.hid hne
      have HBk := Lib.hid hB
      have HOW := Lib.hid hown
      have HRW := Lib.hid hrows
      have HIN := Lib.hid hinj
      have HBW := Lib.hid hbw
      have hl : (rowVals n k RR).length = k := by simp [rowVals]
      have HL := Lib.hid hl
      obtain ⟨xs, exs⟩ : ∃ xs, xs = rowVals n k RR := ⟨_, rfl⟩
      rw [← exs] at HOW
      have EXS := Lib.hid exs
      clear hB hown hrows hinj hbw eB hne hl exs
      go_wp2_with fail
      go_region_law
        (refine step_append_lies _ (by rfl) _ _ _ (by rfl) (B + 1) 98 i0 _ 1 24 Try.underlying95 hi hz0 hz1 hz2 rfl (by omega) (.slice qa k qc) k xs (by rfl) (((HOW.out.alloc _).alloc _).drew) ⟨wr.heap.size + 1, 0, none⟩ 1 1 [.slice (some ⟨wr.heap.size, 0, none⟩) n n] (by rfl) (by rfl) (World.news_of_block (cs := #[.slice (some ⟨wr.heap.size, 0, none⟩) n n]) (t := 98) (fr := (0, 0)) (heap_new2 wr _ _)) (by simp [Value.oneCell']) (by omega) (by unfold maxLen; omega) (by omega) (by simp; omega) (wr.heap.size + 2) (by simp) ?_; intro gg cap w1 hown1 hgrow hat hlt1; have q1 : w1.cell? ⟨B, 1, none⟩ = some (.slice qa k qc) := (hgrow.cell_far _ (by simp; omega) (fun e => by have := HNE.out _ e.symm; simp at this)).trans (cf_alloc (by simp; omega) (cf_alloc (w := wr) hBl ⟨cB, fB⟩)).1; have p1 : w1.frozen? ⟨B, 1, none⟩ = false := (hgrow.frozen_far _ (by simp; omega) (fun e => by have := HNE.out _ e.symm; simp at this)).trans (cf_alloc (by simp; omega) (cf_alloc (w := wr) hBl ⟨cB, fB⟩)).2)
      all_goals
        have hstep : NewRel n r w (k + 1) (w1.setCell ⟨B, 1, none⟩ (.slice (some ⟨gg, 0, none⟩) (k + 1) cap)) := new_step EB.out HBk.out HOW.out (HRW.out) HIN.out HBW.out EXS.out hown1 hgrow HNE.out
        have HSP := Lib.hid hstep
        clear hstep hown1 hgrow hat hlt1 q1 p1
        go_wp2
        go_roundw
        case rel => exact ⟨k + 1, hlt, by go_num, HSP.out⟩
        case measure => simp [intOf]; omega
    · obtain rfl : k = n := by omega
      go_wp2
      go_ret2
      exact ⟨rfl, hr⟩
/-- a box that has just been made -/
theorem refIs_new {n r : Nat} {w wr : World} (hn : 1 ≤ n) (h : NewRel n r w n wr) : ∃ RQ RR, RefIs w.heap.size wr w.heap.size RQ RR n r (fun _ _ => .slice none 0 0) (fun _ _ => []) ∧ Below w.heap.size w wr := by
  obtain ⟨qv, RR, hB, hown, hrows, hinj, hbw⟩ := h
  obtain ⟨g, cap, rfl, hg, hlt⟩ := hown.form (by omega)
  obtain ⟨-, -, cur, hc⟩ := ownsRow_block hown (g := g) rfl
  refine ⟨g, RR, ⟨⟨_, hB⟩, ⟨cur, hc, fun i hi => ?_⟩, fun i hi => ⟨_, (hrows i hi).2, fun k hk => made_none n k hk⟩, hinj, fun i k _ _ => ⟨none, 0, rfl, fun _ => ⟨rfl, rfl⟩, (fun _ h => by cases h)⟩, (fun i k i' k' g _ _ _ _ h _ => by cases h), ⟨Nat.le_refl _, by omega, fun i hi => by have := (hrows i hi).1; omega, fun i k g _ _ h => by cases h⟩⟩, hbw⟩
  have h1 : (rowVals n n RR)[i]? = some (.slice (some ⟨RR i, 0, none⟩) n n) := by simp [rowVals, hi]
  have h2 := (ownsRow_heap hown).2.2.2 i _ h1
  simpa [World.cell?, hc] using h2

set_option maxHeartbeats 400000 in
theorem rnew_bad (n r : Int) (w : World) (h : ¬ (1 ≤ n ∧ n ≤ 8 ∧ 1 ≤ r ∧ r ≤ 64)) :
    Calls Try.prog 7 #[.int .i64 n, .int .i64 r] w fun e w' => e = .returned (.tuple #[.pointer none, .int .i64 90]) ∧ w = w' := by
  have hc : n < 1 ∨ (1 ≤ n ∧ 8 < n) ∨ (1 ≤ n ∧ n ≤ 8 ∧ r < 1) ∨ (1 ≤ n ∧ n ≤ 8 ∧ 1 ≤ r ∧ 64 < r) := by omega
  clear h
  rcases hc with h | ⟨h, h1⟩ | ⟨h, h1, h2⟩ | ⟨h, h1, h2, h3⟩
  all_goals
    go_enter Try.func7, Try.ntmps7
    go_wp2
    go_ret2
    exact ⟨rfl, rfl⟩
end Go.Proofs.Ytpoilgeffpedoaa
