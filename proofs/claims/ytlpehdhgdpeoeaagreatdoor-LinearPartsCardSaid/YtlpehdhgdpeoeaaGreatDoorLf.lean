import Derived.Test.YtlpehdhgdpeoeaaGreatDoorLe
import Derived.StillTailTactics
import Derived.Lib.AppendZeros
/- The reference's add: one update more. -/
namespace Go.Proofs.YtlpehdhgdpeoeaaGreatDoor
open Go.RowKit Go.Pen Go.Shelf
attribute [local go_sem] Oper.semAt_some

theorem info51 : (Tryz.prog.info? 51).map (fun i => (i.zero, i.size, i.bytes)) = some (some (.agg #[.slice none 0 0, .int .u64 0, .slice none 0 0, .int .i64 0]), 4, 64) := by kernel_rfl
theorem ownsRow_set {w : World} {base e size n g c j : Nat} {xs : List Value} {x : Value} (h : w.ownsRow base e size (.slice (some ⟨g, 0, none⟩) n c) n xs) :
    (w.setCell ⟨g, j, none⟩ x).ownsRow base e size (.slice (some ⟨g, 0, none⟩) n c) n (xs.set j x) := by
  refine ⟨by rw [List.length_set]; exact h.1, ?_⟩
  rcases h.2 with ⟨hv, _⟩ | ⟨g', cap, cur, hv, hb, hg, h1, h2, h3, h4⟩
  · cases hv
  · cases hv
    refine .inr ⟨g, c, cur.setIfInBounds j x, rfl, hb, heap_set_same hg, h1, h2, by simpa using h3, ?_⟩
    rw [← h4, Array.toList_setIfInBounds, List.take_set]
theorem ownsRow_free {w : World} {base e size n g c j : Nat} {xs : List Value} (h : w.ownsRow base e size (.slice (some ⟨g, 0, none⟩) n c) n xs) : w.frozen? ⟨g, j, none⟩ = false := by
  rcases h.2 with ⟨hv, _⟩ | ⟨g', cap, cur, hv, hb, hg, _⟩
  · cases hv
  · cases hv; exact frozen_of_heap hg
theorem Els.ones {w : World} {xs : List Value} {us : List Upd} (h : Els w xs us) : ∀ v ∈ xs, v.oneCell' = true := by
  intro v hv
  obtain ⟨j, hj⟩ := List.getElem?_of_mem hv
  have hl := (List.getElem?_eq_some_iff.1 hj).1
  have hn := h.len
  have hi : j / 4 < us.length := by omega
  obtain ⟨rv, lv, q0, q1, q2, q3, hr, hw⟩ := h.el (j / 4) us[j / 4] (List.getElem?_eq_getElem hi)
  obtain ⟨a1, c1, rfl⟩ := rowAt_slice hr
  obtain ⟨a2, c2, rfl⟩ := hw.slice
  have : j % 4 = 0 ∨ j % 4 = 1 ∨ j % 4 = 2 ∨ j % 4 = 3 := by omega
  rcases this with e | e | e | e
  · rw [show j / 4 * 4 = j by omega, hj] at q0; cases q0; rfl
  · rw [show j / 4 * 4 + 1 = j by omega, hj] at q1; cases q1; rfl
  · rw [show j / 4 * 4 + 2 = j by omega, hj] at q2; cases q2; rfl
  · rw [show j / 4 * 4 + 3 = j by omega, hj] at q3; cases q3; rfl
theorem owns_cap {w : World} {base e size n : Nat} {v : Value} {xs : List Value} (h : w.ownsRow base e size v n xs) : ∀ a m c, v = .slice a m c → m ≤ c := by
  intro a m c e
  rcases h.2 with ⟨hv, _⟩ | ⟨g', cap, cur, hv, hb, hg, hc, _⟩
  · rw [hv] at e; cases e; exact Nat.le_refl _
  · rw [hv] at e; cases e; exact hc
theorem run_append_zero {P : Program} {w : World} {base n size cx : Nat} {t ty e : TypeId} {i : TypeInfo} {v : Value} {xs : List Value} {ox : Option Addr} (ht : P.underlying t = some (.slice e)) (hi : P.info? e = some i) (hown : w.ownsRow base e size v n xs) :
    (Builtin.append_ #[t, t] ty #[v, .slice ox 0 cx]).run P w = .ok v w := by
  have h0 : ∀ s, (Builtin.firstCells s 0 (.slice ox 0 cx)).run P w = .ok #[] w := fun s => by cases ox <;> simp [Builtin.firstCells, loadCells, loadCellsFrom]
  rcases hown.2 with ⟨rfl, rfl⟩ | ⟨g, cap, cur, rfl, _, _, hnc, _⟩
  · simp [Builtin.append_, run_underlying ht, sizeOf, typeInfo, hi, Builtin.lenOf, h0]
  · simp [Builtin.append_, run_underlying ht, sizeOf, typeInfo, hi, Builtin.lenOf, h0, hnc, storeCells]
theorem wpList_append_zero {P : Program} {w : World} {ops : Array Oper} {rest : List Oper} {o : Oper} {a : Act} {Q : Exit → Act → World → Prop} (hgd : o.guard = none) (s x : Operand) (t : TypeId)
    (ho : o.op = .call { callee := .builtin .append, args := #[s, x], argTypes := #[t, t] })
    (base : Nat) (e : TypeId) (i : TypeInfo) (size : Nat) (ht : P.underlying t = some (.slice e)) (hi : P.info? e = some i)
    (v : Value) (n : Nat) (xs : List Value) (hs : a.eval s = v) (hown : w.ownsRow base e size v n xs) (ox : Option Addr) (m cx : Nat) (hx : a.eval x = .slice ox m cx) (hm : m = 0)
    (h : wpList P ops Q rest (a.put o.dst v) w) : wpList P ops Q (o :: rest) a w := by
  subst hm
  exact Lib.wpList_append_run w hgd s x t t ho v _ hs hx v w (run_append_zero ht hi hown) h
theorem mem_take' {α : Type} {l : List α} {k : Nat} {x : α} (h : x ∈ l.take k) : x ∈ l := List.mem_of_mem_take h
theorem cut_step {u x : Upd} {us : List Upd} {q : Nat} (hg : us.getD q u = x) : cutN u us (q + 1) = if 0 < cmpK x u then cutN u us q else q + 1 := by
  simp only [cutN, hg]

set_option maxRecDepth 100000 in
set_option maxHeartbeats 4000000 in
theorem add_28 (us : List Upd) (u : Upd) (v rv lv : Value) (w : World) (h : UpsAt w v us) (hr : RowAt w rv u.row) (hl : WordsAt w lv u.loops) (fus : ∀ x ∈ us, x.fits) (fu : u.fits) (hn : us.length ≤ 1000000) (hcc : ∀ a n c, v = .slice a n c → n ≤ c) :
    Calls Tryz.prog 28 #[v, .agg (upV rv lv u)] w fun ev w' => ∃ v', ev = .returned v' ∧ UpsAt w' v' (addU us u) ∧ (∀ a n c, v' = .slice a n c → n ≤ c) ∧ Below w.heap.size w w' := by
  obtain ⟨i0, hi0, hz0, hz1, hz2⟩ := info_parts info51
  obtain ⟨a, c, xs, hv, hels, hcell, hnil⟩ := h.els
  obtain ⟨a', c', hv', hz', hat⟩ := h
  obtain ⟨rfl, rfl⟩ : a = a' ∧ c = c' := by rw [hv] at hv'; simp at hv'; exact hv'
  subst hv
  have hnc := hcc _ _ _ rfl
  clear hcc
  obtain ⟨ra, rc, rfl⟩ := rowAt_slice hr
  obtain ⟨la, lc, rfl⟩ := hl.slice
  obtain ⟨rn, ern⟩ : ∃ rn, rn = u.row.length := ⟨_, rfl⟩
  obtain ⟨ln, eln⟩ : ∃ ln, ln = u.loops.length := ⟨_, rfl⟩
  rw [← ern] at hr ⊢
  rw [← eln] at hl ⊢
  obtain ⟨n, en⟩ : ∃ n, n = us.length := ⟨_, rfl⟩
  rw [← en] at hn hnc ⊢
  obtain ⟨H, eH⟩ : ∃ H, H = w.heap.size := ⟨_, rfl⟩
  have hfu := fu.diff
  have EN := Lib.hid en
  have EH := Lib.hid eH
  have HELS := Lib.hid hels
  have HCELL := Lib.hid hcell
  have HNIL := Lib.hid hnil
  have HAT := Lib.hid hat
  have HRU := Lib.hid hr
  have HLU := Lib.hid hl
  have FUS := Lib.hid fus
  have FU := Lib.hid fu
  clear en eH hels hcell hnil hat hr hl fus fu ern eln hv' hz'
  unfold upV
  go_enter Tryz.func28, Tryz.ntmps28
  go_upto_region 1 with fail
  obtain ⟨w1, hw1⟩ : ∃ w1, w1 = w.alloc (.cells #[.slice ra rn rc, .int .u64 u.epoch, .slice la ln lc, .int .i64 u.diff] 51) := ⟨_, rfl⟩
  have hb1 : Below w.heap.size w w1 := by rw [hw1]; exact one_below _ _
  have kh : w1.heap[H]? = some (.cells #[.slice ra rn rc, .int .u64 u.epoch, .slice la ln lc, .int .i64 u.diff] 51 (0, 0)) := by rw [hw1, EH.out]; exact heap_alloc_new _ _
  rw [← hw1, ← EH.out]
  have HB1 := Lib.hid hb1
  have KH1 := Lib.hid kh
  clear hw1 hb1 kh
  go_wp2_with fail
  go_loopg [5] n (fun g s5 wr => ∃ k : Nat, k ≤ n ∧ g = k ∧ s5 = .int .i64 k ∧ cutN u us us.length = cutN u us k ∧ Below w.heap.size w wr ∧ wr.heap[H]? = some (.cells #[.slice ra rn rc, .int .u64 u.epoch, .slice la ln lc, .int .i64 u.diff] 51 (0, 0)))
  case atStart => exact ⟨n, Nat.le_refl _, rfl, rfl, by rw [← EN.out], HB1.out, KH1.out⟩
  case round =>
    obtain ⟨k, hk, hgk, rfl, hcut, hbr, khr⟩ := hrel
    have HBR := Lib.hid hbr
    have KH := Lib.hid khr
    have HCUT := Lib.hid hcut
    clear hbr khr hcut
    rcases k with _ | q
    · have hc0 : cutN u us us.length = 0 := HCUT.out
      have HC0 := Lib.hid hc0
      clear hc0
      go_wp2_with fail
      refine wp_region_held_drew (S := fun _ => True) (by kernel_rfl) trivial (fun hHeld => ?_)
      refine wpAnyH_take (i := 0) (oi := ⟨some 10, _, _, _, _, _⟩) (v := ?_) rfl (by kernel_rfl) (by kernel_rfl) (by kernel_rfl) (fun _ _ _ h => h) (Or.inl ⟨by rfl, ?_⟩) (by assumption) ?_; rotate_left; (intro w hSw; (try dsimp only at hSw); go_simp; (try with_reducible rfl)); simp only [Act.put, List.setIfInBounds_toArray, List.set_cons_zero, List.set_cons_succ]
      refine wpAnyH_take (i := 1) (oi := ⟨some 11, _, _, _, _, _⟩) (v := ?_) rfl (by kernel_rfl) (by kernel_rfl) (by kernel_rfl) (fun _ _ _ h => h) (Or.inl ⟨by rfl, ?_⟩) (by assumption) ?_; rotate_left; (intro w hSw; (try dsimp only at hSw); go_simp; (try with_reducible rfl)); simp only [Act.put, List.setIfInBounds_toArray, List.set_cons_zero, List.set_cons_succ]
      refine wpAnyH_take (i := 2) (oi := ⟨some 12, _, _, _, _, _⟩) (v := ?_) rfl (by kernel_rfl) (by kernel_rfl) (by kernel_rfl) (fun _ _ _ h => h) (Or.inl ⟨by rfl, ?_⟩) (by assumption) ?_; rotate_left; (intro w hSw; (try dsimp only at hSw); go_simp; (try with_reducible rfl)); simp only [Act.put, List.setIfInBounds_toArray, List.set_cons_zero, List.set_cons_succ]
      refine wpAnyH_take (i := 3) (oi := ⟨some 13, _, _, _, _, _⟩) (v := undef) rfl (by kernel_rfl) (by kernel_rfl) (by kernel_rfl) (fun _ _ _ h => h) (Or.inr ⟨by rfl, rfl⟩) (by assumption) ?_; simp only [Act.put, List.setIfInBounds_toArray, List.set_cons_zero, List.set_cons_succ]
      refine wpAnyH_take (i := 4) (oi := ⟨some 14, _, _, _, _, _⟩) (v := undef) rfl (by kernel_rfl) (by kernel_rfl) (by kernel_rfl) (fun _ _ _ h => h) (Or.inr ⟨by rfl, rfl⟩) (by assumption) ?_; simp only [Act.put, List.setIfInBounds_toArray, List.set_cons_zero, List.set_cons_succ]
      refine wpAnyH_take (i := 5) (oi := ⟨some 15, _, _, _, _, _⟩) (v := undef) rfl (by kernel_rfl) (by kernel_rfl) (by kernel_rfl) (fun _ _ _ h => h) (Or.inr ⟨by rfl, rfl⟩) (by assumption) ?_; simp only [Act.put, List.setIfInBounds_toArray, List.set_cons_zero, List.set_cons_succ]
      refine wpAnyH_take (i := 6) (oi := ⟨some 16, _, _, _, _, _⟩) (v := undef) rfl (by kernel_rfl) (by kernel_rfl) (by kernel_rfl) (fun _ _ _ h => h) (Or.inr ⟨by rfl, rfl⟩) (by assumption) ?_; simp only [Act.put, List.setIfInBounds_toArray, List.set_cons_zero, List.set_cons_succ]
      refine wpAnyH_take (i := 7) (oi := ⟨some 17, _, _, _, _, _⟩) (v := undef) rfl (by kernel_rfl) (by kernel_rfl) (by kernel_rfl) (fun _ _ _ h => h) (Or.inr ⟨by rfl, rfl⟩) (by assumption) ?_; simp only [Act.put, List.setIfInBounds_toArray, List.set_cons_zero, List.set_cons_succ]
      refine wpAnyH_take (i := 8) (oi := ⟨some 18, _, _, _, _, _⟩) (v := undef) rfl (by kernel_rfl) (by kernel_rfl) (by kernel_rfl) (fun _ _ _ h => h) (Or.inr ⟨by rfl, rfl⟩) (by assumption) ?_; simp only [Act.put, List.setIfInBounds_toArray, List.set_cons_zero, List.set_cons_succ]
      refine wpAnyH_take (i := 9) (oi := ⟨some 19, _, _, _, _, _⟩) (v := undef) rfl (by kernel_rfl) (by kernel_rfl) (by kernel_rfl) (fun _ _ _ h => h) (Or.inr ⟨by rfl, rfl⟩) (by assumption) ?_; simp only [Act.put, List.setIfInBounds_toArray, List.set_cons_zero, List.set_cons_succ]
      refine wpAnyH_take (i := 10) (oi := ⟨some 20, _, _, _, _, _⟩) (v := undef) rfl (by kernel_rfl) (by kernel_rfl) (by kernel_rfl) (fun _ _ _ h => h) (Or.inr ⟨by rfl, rfl⟩) (by assumption) ?_; simp only [Act.put, List.setIfInBounds_toArray, List.set_cons_zero, List.set_cons_succ]
      refine wpAnyH_take (i := 11) (oi := ⟨some 21, _, _, _, _, _⟩) (v := ?_) rfl (by kernel_rfl) (by kernel_rfl) (by kernel_rfl) (fun _ _ _ h => h) (Or.inl ⟨by rfl, ?_⟩) (by assumption) ?_; rotate_left; (intro w hSw; (try dsimp only at hSw); go_simp; (try with_reducible rfl)); simp only [Act.put, List.setIfInBounds_toArray, List.set_cons_zero, List.set_cons_succ]
      refine wpAnyH_done (by kernel_rfl) ?_ _
      clear hHeld
      go_wp2_with fail
      refine wp_region_held_drew (S := fun _ => True) (by kernel_rfl) trivial (fun hHeld => ?_)
      refine wpAnyH_take (i := 0) (oi := ⟨some 24, _, _, _, _, _⟩) (v := ?_) rfl (by kernel_rfl) (by kernel_rfl) (by kernel_rfl) (fun _ _ _ h => h) (Or.inl ⟨by rfl, ?_⟩) (by assumption) ?_; rotate_left; (intro w hSw; (try dsimp only at hSw); go_simp; (try with_reducible rfl)); simp only [Act.put, List.setIfInBounds_toArray, List.set_cons_zero, List.set_cons_succ]
      refine wpAnyH_take (i := 1) (oi := ⟨some 25, _, _, _, _, _⟩) (v := ?_) rfl (by kernel_rfl) (by kernel_rfl) (by kernel_rfl) (fun _ _ _ h => h) (Or.inl ⟨by rfl, ?_⟩) (by assumption) ?_; rotate_left; (intro w hSw; (try dsimp only at hSw); go_simp; (try with_reducible rfl)); simp only [Act.put, List.setIfInBounds_toArray, List.set_cons_zero, List.set_cons_succ]
      refine wpAnyH_take (i := 2) (oi := ⟨some 26, _, _, _, _, _⟩) (v := ?_) rfl (by kernel_rfl) (by kernel_rfl) (by kernel_rfl) (fun _ _ _ h => h) (Or.inl ⟨by rfl, ?_⟩) (by assumption) ?_; rotate_left; (intro w hSw; (try dsimp only at hSw); go_simp; (try with_reducible rfl)); simp only [Act.put, List.setIfInBounds_toArray, List.set_cons_zero, List.set_cons_succ]
      refine wpAnyH_take (i := 3) (oi := ⟨some 27, _, _, _, _, _⟩) (v := undef) rfl (by kernel_rfl) (by kernel_rfl) (by kernel_rfl) (fun _ _ _ h => h) (Or.inr ⟨by rfl, rfl⟩) (by assumption) ?_; simp only [Act.put, List.setIfInBounds_toArray, List.set_cons_zero, List.set_cons_succ]
      refine wpAnyH_take (i := 4) (oi := ⟨some 28, _, _, _, _, _⟩) (v := undef) rfl (by kernel_rfl) (by kernel_rfl) (by kernel_rfl) (fun _ _ _ h => h) (Or.inr ⟨by rfl, rfl⟩) (by assumption) ?_; simp only [Act.put, List.setIfInBounds_toArray, List.set_cons_zero, List.set_cons_succ]
      refine wpAnyH_take (i := 5) (oi := ⟨some 29, _, _, _, _, _⟩) (v := undef) rfl (by kernel_rfl) (by kernel_rfl) (by kernel_rfl) (fun _ _ _ h => h) (Or.inr ⟨by rfl, rfl⟩) (by assumption) ?_; simp only [Act.put, List.setIfInBounds_toArray, List.set_cons_zero, List.set_cons_succ]
      refine wpAnyH_take (i := 6) (oi := ⟨some 30, _, _, _, _, _⟩) (v := undef) rfl (by kernel_rfl) (by kernel_rfl) (by kernel_rfl) (fun _ _ _ h => h) (Or.inr ⟨by rfl, rfl⟩) (by assumption) ?_; simp only [Act.put, List.setIfInBounds_toArray, List.set_cons_zero, List.set_cons_succ]
      refine wpAnyH_take (i := 7) (oi := ⟨some 31, _, _, _, _, _⟩) (v := undef) rfl (by kernel_rfl) (by kernel_rfl) (by kernel_rfl) (fun _ _ _ h => h) (Or.inr ⟨by rfl, rfl⟩) (by assumption) ?_; simp only [Act.put, List.setIfInBounds_toArray, List.set_cons_zero, List.set_cons_succ]
      refine wpAnyH_take (i := 8) (oi := ⟨some 32, _, _, _, _, _⟩) (v := undef) rfl (by kernel_rfl) (by kernel_rfl) (by kernel_rfl) (fun _ _ _ h => h) (Or.inr ⟨by rfl, rfl⟩) (by assumption) ?_; simp only [Act.put, List.setIfInBounds_toArray, List.set_cons_zero, List.set_cons_succ]
      refine wpAnyH_take (i := 9) (oi := ⟨some 33, _, _, _, _, _⟩) (v := undef) rfl (by kernel_rfl) (by kernel_rfl) (by kernel_rfl) (fun _ _ _ h => h) (Or.inr ⟨by rfl, rfl⟩) (by assumption) ?_; simp only [Act.put, List.setIfInBounds_toArray, List.set_cons_zero, List.set_cons_succ]
      refine wpAnyH_take (i := 10) (oi := ⟨some 34, _, _, _, _, _⟩) (v := undef) rfl (by kernel_rfl) (by kernel_rfl) (by kernel_rfl) (fun _ _ _ h => h) (Or.inr ⟨by rfl, rfl⟩) (by assumption) ?_; simp only [Act.put, List.setIfInBounds_toArray, List.set_cons_zero, List.set_cons_succ]
      refine wpAnyH_take (i := 11) (oi := ⟨some 35, _, _, _, _, _⟩) (v := ?_) rfl (by kernel_rfl) (by kernel_rfl) (by kernel_rfl) (fun _ _ _ h => h) (Or.inl ⟨by rfl, ?_⟩) (by assumption) ?_; rotate_left; (intro w hSw; (try dsimp only at hSw); go_simp; (try with_reducible rfl)); simp only [Act.put, List.setIfInBounds_toArray, List.set_cons_zero, List.set_cons_succ]
      refine wpAnyH_done (by kernel_rfl) ?_ _
      clear hHeld
      have hadd : addU us u = us.take 0 ++ u :: us.drop 0 := by
        unfold addU
        rw [HC0.out, if_neg (fun h => absurd h.1 (by decide))]
      have HADD := Lib.hid hadd
      clear hadd
      obtain ⟨w6, hw6⟩ : ∃ w6, w6 = wr.drew.drew := ⟨_, rfl⟩
      have HB6 : Hid (Below w.heap.size w w6) := by rw [hw6]; exact Lib.hid (Go.Pen.below_drewN (n := 1) (Go.Pen.below_drewN (n := 1) HBR.out))
      have KH6 : Hid (w6.heap[H]? = some (.cells #[.slice ra rn rc, .int .u64 u.epoch, .slice la ln lc, .int .i64 u.diff] 51 (0, 0))) := by rw [hw6]; exact KH
      rw [← hw6]
      clear hw6
      by_cases hn0 : n = 0
      · subst hn0
        rcases a with _ | ad
        · obtain ⟨rfl, -⟩ := HNIL.out rfl
          try rw [show ((0 : Nat) : Int) = 0 from rfl]
          have y0 : w6.cell? ⟨H, 0, none⟩ = some (.slice ra rn rc) := cell_of_heap KH6.out rfl
          have y1 : w6.cell? ⟨H, 1, none⟩ = some (.int .u64 u.epoch) := cell_of_heap KH6.out rfl
          have y2 : w6.cell? ⟨H, 2, none⟩ = some (.slice la ln lc) := cell_of_heap KH6.out rfl
          have y3 : w6.cell? ⟨H, 3, none⟩ = some (.int .i64 u.diff) := cell_of_heap KH6.out rfl
          have hs7 := HB6.out.size
          have hone : ∀ y ∈ ([.slice ra rn rc, .int .u64 u.epoch, .slice la ln lc, .int .i64 u.diff] : List Value), y.oneCell' = true := by
            intro y hy
            simp at hy
            rcases hy with rfl | rfl | rfl | rfl <;> rfl
          have hnews := World.news_of_block (w := w6.alloc (.cells #[.slice ra rn rc, .int .u64 u.epoch, .slice la ln lc, .int .i64 u.diff] 51)) (B := w6.heap.size) (cs := #[.slice ra rn rc, .int .u64 u.epoch, .slice la ln lc, .int .i64 u.diff]) (heap_alloc_new _ _)
          have hs7' : w.heap.size ≤ (w6.alloc (.cells #[.slice ra rn rc, .int .u64 u.epoch, .slice la ln lc, .int .i64 u.diff] 51)).heap.size := by rw [World.size_alloc]; omega
          go_wp2_with (at_builtin; go_must (first | (refine wpList_append_zero rfl _ _ 22 rfl w.heap.size 51 i0 4 Tryz.underlying22 hi0 (.slice none 0 0) 0 [] rfl (World.ownsRow_nil _ _ _ _) _ _ _ rfl (by rfl) ?_) | (refine wpList_append_lies _ rfl _ _ 22 rfl w.heap.size 51 i0 _ 4 64 Tryz.underlying22 hi0 hz0 hz1 hz2 rfl (by decide) (.slice none 0 0) 0 [] rfl (World.ownsRow_nil _ _ _ _) ⟨w6.heap.size, 0, none⟩ 1 1 [.slice ra rn rc, .int .u64 u.epoch, .slice la ln lc, .int .i64 u.diff] rfl rfl hnews hone (by decide) (by unfold maxLen; omega) (by omega) hs7' _ rfl ?_)))
          clear hone hnews hs7'
          intro g8 cap8 w8 hown8 hgrow8 _ _
          have HB8 := Lib.hid ((HB6.out.alloc (o := .cells #[.slice ra rn rc, .int .u64 u.epoch, .slice la ln lc, .int .i64 u.diff] 51) HB6.out.size).grown hgrow8 (by rw [World.size_alloc]; omega) (fun g hg => by cases hg))
          have HO8 : Hid (w8.ownsRow w.heap.size 51 4 (.slice (some ⟨g8, 0, none⟩) 1 cap8) 1 [.slice ra rn rc, .int .u64 u.epoch, .slice la ln lc, .int .i64 u.diff]) := Lib.hid hown8
          clear hown8 hgrow8 y0 y1 y2 y3
          have hs8 := HB8.out.size
          have hend : UpsAt w8 (.slice (some ⟨g8, 0, none⟩) 1 cap8) (addU us u) := by
            have h1 : us = [] := List.length_eq_zero_iff.1 (by have := EN.out; omega)
            rw [HADD.out, h1]
            exact ((Els.one (HRU.out.below HB8.out) (HLU.out.below HB8.out)).at HO8.out).2
          have HEND := Lib.hid hend
          clear hend
          go_wp2_with (at_builtin; go_must (refine wpList_append_zero rfl _ _ 22 rfl w.heap.size 51 i0 4 Tryz.underlying22 hi0 _ 1 _ rfl HO8.out _ _ _ rfl (by first | rfl | omega) ?_))
          go_ret
          exact ⟨_, rfl, HEND.out, owns_cap HO8.out, HB8.out⟩
        · by_cases hcK : c = 0
          · try rw [show ((0 : Nat) : Int) = 0 from rfl]
            have y0 : w6.cell? ⟨H, 0, none⟩ = some (.slice ra rn rc) := cell_of_heap KH6.out rfl
            have y1 : w6.cell? ⟨H, 1, none⟩ = some (.int .u64 u.epoch) := cell_of_heap KH6.out rfl
            have y2 : w6.cell? ⟨H, 2, none⟩ = some (.slice la ln lc) := cell_of_heap KH6.out rfl
            have y3 : w6.cell? ⟨H, 3, none⟩ = some (.int .i64 u.diff) := cell_of_heap KH6.out rfl
            have hs7 := HB6.out.size
            have hone : ∀ y ∈ ([.slice ra rn rc, .int .u64 u.epoch, .slice la ln lc, .int .i64 u.diff] : List Value), y.oneCell' = true := by
              intro y hy
              simp at hy
              rcases hy with rfl | rfl | rfl | rfl <;> rfl
            have hnews := World.news_of_block (w := w6.alloc (.cells #[.slice ra rn rc, .int .u64 u.epoch, .slice la ln lc, .int .i64 u.diff] 51)) (B := w6.heap.size) (cs := #[.slice ra rn rc, .int .u64 u.epoch, .slice la ln lc, .int .i64 u.diff]) (heap_alloc_new _ _)
            have hs7' : w.heap.size ≤ (w6.alloc (.cells #[.slice ra rn rc, .int .u64 u.epoch, .slice la ln lc, .int .i64 u.diff] 51)).heap.size := by rw [World.size_alloc]; omega
            go_wp2_with (at_builtin; go_must (first | (refine wpList_append_zero rfl _ _ 22 rfl w.heap.size 51 i0 4 Tryz.underlying22 hi0 (.slice none 0 0) 0 [] rfl (World.ownsRow_nil _ _ _ _) _ _ _ rfl (by rfl) ?_) | (refine wpList_append_lies _ rfl _ _ 22 rfl w.heap.size 51 i0 _ 4 64 Tryz.underlying22 hi0 hz0 hz1 hz2 rfl (by decide) (.slice none 0 0) 0 [] rfl (World.ownsRow_nil _ _ _ _) ⟨w6.heap.size, 0, none⟩ 1 1 [.slice ra rn rc, .int .u64 u.epoch, .slice la ln lc, .int .i64 u.diff] rfl rfl hnews hone (by decide) (by unfold maxLen; omega) (by omega) hs7' _ rfl ?_)))
            clear hone hnews hs7'
            intro g8 cap8 w8 hown8 hgrow8 _ _
            have HB8 := Lib.hid ((HB6.out.alloc (o := .cells #[.slice ra rn rc, .int .u64 u.epoch, .slice la ln lc, .int .i64 u.diff] 51) HB6.out.size).grown hgrow8 (by rw [World.size_alloc]; omega) (fun g hg => by cases hg))
            have HO8 : Hid (w8.ownsRow w.heap.size 51 4 (.slice (some ⟨g8, 0, none⟩) 1 cap8) 1 [.slice ra rn rc, .int .u64 u.epoch, .slice la ln lc, .int .i64 u.diff]) := Lib.hid hown8
            clear hown8 hgrow8 y0 y1 y2 y3
            have hs8 := HB8.out.size
            have hend : UpsAt w8 (.slice (some ⟨g8, 0, none⟩) 1 cap8) (addU us u) := by
              have h1 : us = [] := List.length_eq_zero_iff.1 (by have := EN.out; omega)
              rw [HADD.out, h1]
              exact ((Els.one (HRU.out.below HB8.out) (HLU.out.below HB8.out)).at HO8.out).2
            have HEND := Lib.hid hend
            clear hend
            go_wp2_with (at_builtin; go_must (refine wpList_append_zero rfl _ _ 22 rfl w.heap.size 51 i0 4 Tryz.underlying22 hi0 _ 1 _ rfl HO8.out _ _ _ rfl (by first | rfl | omega) ?_))
            go_ret
            exact ⟨_, rfl, HEND.out, owns_cap HO8.out, HB8.out⟩
          · try rw [show ((0 : Nat) : Int) = 0 from rfl]
            have y0 : w6.cell? ⟨H, 0, none⟩ = some (.slice ra rn rc) := cell_of_heap KH6.out rfl
            have y1 : w6.cell? ⟨H, 1, none⟩ = some (.int .u64 u.epoch) := cell_of_heap KH6.out rfl
            have y2 : w6.cell? ⟨H, 2, none⟩ = some (.slice la ln lc) := cell_of_heap KH6.out rfl
            have y3 : w6.cell? ⟨H, 3, none⟩ = some (.int .i64 u.diff) := cell_of_heap KH6.out rfl
            have hs7 := HB6.out.size
            have hone : ∀ y ∈ ([.slice ra rn rc, .int .u64 u.epoch, .slice la ln lc, .int .i64 u.diff] : List Value), y.oneCell' = true := by
              intro y hy
              simp at hy
              rcases hy with rfl | rfl | rfl | rfl <;> rfl
            have hnews := World.news_of_block (w := w6.alloc (.cells #[.slice ra rn rc, .int .u64 u.epoch, .slice la ln lc, .int .i64 u.diff] 51)) (B := w6.heap.size) (cs := #[.slice ra rn rc, .int .u64 u.epoch, .slice la ln lc, .int .i64 u.diff]) (heap_alloc_new _ _)
            have hs7' : w.heap.size ≤ (w6.alloc (.cells #[.slice ra rn rc, .int .u64 u.epoch, .slice la ln lc, .int .i64 u.diff] 51)).heap.size := by rw [World.size_alloc]; omega
            go_wp2_with (at_builtin; go_must (first | (refine wpList_append_zero rfl _ _ 22 rfl w.heap.size 51 i0 4 Tryz.underlying22 hi0 (.slice none 0 0) 0 [] rfl (World.ownsRow_nil _ _ _ _) _ _ _ rfl (by rfl) ?_) | (refine wpList_append_lies _ rfl _ _ 22 rfl w.heap.size 51 i0 _ 4 64 Tryz.underlying22 hi0 hz0 hz1 hz2 rfl (by decide) (.slice none 0 0) 0 [] rfl (World.ownsRow_nil _ _ _ _) ⟨w6.heap.size, 0, none⟩ 1 1 [.slice ra rn rc, .int .u64 u.epoch, .slice la ln lc, .int .i64 u.diff] rfl rfl hnews hone (by decide) (by unfold maxLen; omega) (by omega) hs7' _ rfl ?_)))
            clear hone hnews hs7'
            intro g8 cap8 w8 hown8 hgrow8 _ _
            have HB8 := Lib.hid ((HB6.out.alloc (o := .cells #[.slice ra rn rc, .int .u64 u.epoch, .slice la ln lc, .int .i64 u.diff] 51) HB6.out.size).grown hgrow8 (by rw [World.size_alloc]; omega) (fun g hg => by cases hg))
            have HO8 : Hid (w8.ownsRow w.heap.size 51 4 (.slice (some ⟨g8, 0, none⟩) 1 cap8) 1 [.slice ra rn rc, .int .u64 u.epoch, .slice la ln lc, .int .i64 u.diff]) := Lib.hid hown8
            clear hown8 hgrow8 y0 y1 y2 y3
            have hs8 := HB8.out.size
            have hend : UpsAt w8 (.slice (some ⟨g8, 0, none⟩) 1 cap8) (addU us u) := by
              have h1 : us = [] := List.length_eq_zero_iff.1 (by have := EN.out; omega)
              rw [HADD.out, h1]
              exact ((Els.one (HRU.out.below HB8.out) (HLU.out.below HB8.out)).at HO8.out).2
            have HEND := Lib.hid hend
            clear hend
            go_wp2_with (at_builtin; go_must (refine wpList_append_zero rfl _ _ 22 rfl w.heap.size 51 i0 4 Tryz.underlying22 hi0 _ 1 _ rfl HO8.out _ _ _ rfl (by first | rfl | omega) ?_))
            go_ret
            exact ⟨_, rfl, HEND.out, owns_cap HO8.out, HB8.out⟩
      · have hm0 : 0 < n := by omega
        have hcK : ¬(c = 0) := by omega
        obtain ⟨b, o, rfl, -⟩ := HAT.out (fun e => by rw [e] at EN; exact hn0 EN.out)
        try rw [show ((0 : Nat) : Int) = 0 from rfl]
        have y0 : w6.cell? ⟨H, 0, none⟩ = some (.slice ra rn rc) := cell_of_heap KH6.out rfl
        have y1 : w6.cell? ⟨H, 1, none⟩ = some (.int .u64 u.epoch) := cell_of_heap KH6.out rfl
        have y2 : w6.cell? ⟨H, 2, none⟩ = some (.slice la ln lc) := cell_of_heap KH6.out rfl
        have y3 : w6.cell? ⟨H, 3, none⟩ = some (.int .i64 u.diff) := cell_of_heap KH6.out rfl
        have hs7 := HB6.out.size
        have hone : ∀ y ∈ ([.slice ra rn rc, .int .u64 u.epoch, .slice la ln lc, .int .i64 u.diff] : List Value), y.oneCell' = true := by
          intro y hy
          simp at hy
          rcases hy with rfl | rfl | rfl | rfl <;> rfl
        have hnews := World.news_of_block (w := w6.alloc (.cells #[.slice ra rn rc, .int .u64 u.epoch, .slice la ln lc, .int .i64 u.diff] 51)) (B := w6.heap.size) (cs := #[.slice ra rn rc, .int .u64 u.epoch, .slice la ln lc, .int .i64 u.diff]) (heap_alloc_new _ _)
        have hs7' : w.heap.size ≤ (w6.alloc (.cells #[.slice ra rn rc, .int .u64 u.epoch, .slice la ln lc, .int .i64 u.diff] 51)).heap.size := by rw [World.size_alloc]; omega
        go_wp2_with (at_builtin; go_must (first | (refine wpList_append_zero rfl _ _ 22 rfl w.heap.size 51 i0 4 Tryz.underlying22 hi0 (.slice none 0 0) 0 [] rfl (World.ownsRow_nil _ _ _ _) _ _ _ rfl (by rfl) ?_) | (refine wpList_append_lies _ rfl _ _ 22 rfl w.heap.size 51 i0 _ 4 64 Tryz.underlying22 hi0 hz0 hz1 hz2 rfl (by decide) (.slice none 0 0) 0 [] rfl (World.ownsRow_nil _ _ _ _) ⟨w6.heap.size, 0, none⟩ 1 1 [.slice ra rn rc, .int .u64 u.epoch, .slice la ln lc, .int .i64 u.diff] rfl rfl hnews hone (by decide) (by unfold maxLen; omega) (by omega) hs7' _ rfl ?_)))
        clear hone hnews hs7'
        intro g8 cap8 w8 hown8 hgrow8 _ _
        have HB8 := Lib.hid ((HB6.out.alloc (o := .cells #[.slice ra rn rc, .int .u64 u.epoch, .slice la ln lc, .int .i64 u.diff] 51) HB6.out.size).grown hgrow8 (by rw [World.size_alloc]; omega) (fun g hg => by cases hg))
        have HO8 : Hid (w8.ownsRow w.heap.size 51 4 (.slice (some ⟨g8, 0, none⟩) 1 cap8) 1 [.slice ra rn rc, .int .u64 u.epoch, .slice la ln lc, .int .i64 u.diff]) := Lib.hid hown8
        clear hown8 hgrow8 y0 y1 y2 y3
        have hs8 := HB8.out.size
        have hend : ∀ W v, W.ownsRow w.heap.size 51 4 v (1 + n) ([.slice ra rn rc, .int .u64 u.epoch, .slice la ln lc, .int .i64 u.diff] ++ xs) → Below w.heap.size w W → UpsAt W v (addU us u) := fun W v ho hb => by
          have he := (Els.one (HRU.out.below hb) (HLU.out.below hb)).append (HELS.out.below hb)
          rw [HADD.out]
          exact (he.at ho).2
        have HEND := Lib.hid hend
        clear hend
        go_wp2_with (at_builtin; go_must (refine wpList_append_lies _ rfl _ _ 22 rfl w.heap.size 51 i0 _ 4 64 Tryz.underlying22 hi0 hz0 hz1 hz2 rfl (by decide) (.slice (some ⟨g8, 0, none⟩) 1 cap8) 1 _ rfl HO8.out ⟨b, o, none⟩ n _ xs rfl ?e0 ?e1 ?e2 hm0 ?e3 ?e4 ?e5 _ rfl ?_))
        case e0 => rw [HELS.out.len]; have := EN.out; omega
        case e1 => exact fun j y hy => cell_keep HB8.out (HCELL.out _ rfl j y hy)
        case e2 => exact HELS.out.ones
        case e3 => unfold maxLen; omega
        case e4 => omega
        case e5 => exact hs8
        intro g9 cap9 w9 hown9 hgrow9 _ _
        have HB9 := Lib.hid (HB8.out.grown hgrow9 hs8 (fun g hg => (HO8.out.lt g hg).1))
        have HO9 := Lib.hid hown9
        clear hown9 hgrow9
        go_wp2_with fail
        go_ret
        exact ⟨.slice (some ⟨g9, 0, none⟩) (1 + n) cap9, rfl, HEND.out _ _ HO9.out HB9.out, owns_cap HO9.out, HB9.out⟩
    · have hq1 : IntKind.i64.wrap (((q + 1 : Nat) : Int) - 1) = (q : Int) := by rw [IntWalk.i64_in _ (by omega)]; omega
      have hq2 : (0 : Int) < ((q + 1 : Nat) : Int) := by omega
      have hq3 : (q : Int) < (n : Int) := by omega
      obtain ⟨x, hx⟩ : ∃ x, us[q]? = some x := ⟨us[q]'(by have := EN.out; omega), List.getElem?_eq_getElem _⟩
      obtain ⟨b, o, rfl, hg⟩ := HAT.out (fun e => by rw [e] at hx; simp at hx)
      obtain ⟨xrv, xlv, p0, p1, p2, p3, hxr, hxl⟩ := hg q x hx
      obtain ⟨xa, xc, rfl⟩ := rowAt_slice hxr
      obtain ⟨xl, xd, rfl⟩ := hxl.slice
      obtain ⟨xn, exn⟩ : ∃ xn, xn = x.row.length := ⟨_, rfl⟩
      obtain ⟨xm, exm⟩ : ∃ xm, xm = x.loops.length := ⟨_, rfl⟩
      rw [← exn] at p0 hxr
      rw [← exm] at p2 hxl
      have hcmp := fun (W : World) (hb : Below w.heap.size w W) => cmp_49 x u (.slice xa xn xc) (.slice xl xm xd) (.slice ra rn rc) (.slice la ln lc) W (hxr.below hb) (hxl.below hb) (HRU.out.below hb) (HLU.out.below hb) (FUS.out x (List.mem_of_getElem? hx)) FU.out
      unfold upV at hcmp
      obtain ⟨C, eC⟩ : ∃ C, C = cmpK x u := ⟨_, rfl⟩
      rw [← eC] at hcmp
      have HCMP := Lib.hid hcmp
      have EC := Lib.hid eC
      have HXQ := Lib.hid hx
      have hgd : us.getD q u = x := by rw [List.getD_eq_getElem?_getD, hx]; rfl
      have HGD := Lib.hid hgd
      have hks : ∀ W, Below w.heap.size w W → W.heap[H]? = some (.cells #[.slice ra rn rc, .int .u64 u.epoch, .slice la ln lc, .int .i64 u.diff] 51 (0, 0)) → W.cell? ⟨b, o + q * 4, none⟩ = some (.slice xa xn xc) ∧ W.cell? ⟨b, o + q * 4 + 1, none⟩ = some (.int .u64 x.epoch) ∧ W.cell? ⟨b, o + q * 4 + 2, none⟩ = some (.slice xl xm xd) ∧ W.cell? ⟨b, o + q * 4 + 3, none⟩ = some (.int .i64 x.diff) ∧ W.cell? ⟨H, 0, none⟩ = some (.slice ra rn rc) ∧ W.cell? ⟨H, 1, none⟩ = some (.int .u64 u.epoch) ∧ W.cell? ⟨H, 2, none⟩ = some (.slice la ln lc) ∧ W.cell? ⟨H, 3, none⟩ = some (.int .i64 u.diff) := fun W hb kh => ⟨cell_keep hb p0, cell_keep hb p1, cell_keep hb p2, cell_keep hb p3, cell_of_heap kh rfl, cell_of_heap kh rfl, cell_of_heap kh rfl, cell_of_heap kh rfl⟩
      have HKS := Lib.hid hks
      clear hg hx hxr hxl hcmp eC exn exm hgd hks p0 p1 p2 p3
      obtain ⟨K, eK⟩ : ∃ K, K = q + 1 := ⟨_, rfl⟩
      rw [← eK] at hq1 hq2 ⊢
      have EK := Lib.hid eK
      have hd1 : 0 < K := by omega
      have hdn : K ≤ n := by omega
      have hKc : K ≤ c := by omega
      clear eK
      go_wp2_with fail
      refine wp_region_held_drew (S := fun W => W.cell? ⟨b, o + q * 4, none⟩ = some (.slice xa xn xc) ∧ W.cell? ⟨b, o + q * 4 + 1, none⟩ = some (.int .u64 x.epoch) ∧ W.cell? ⟨b, o + q * 4 + 2, none⟩ = some (.slice xl xm xd) ∧ W.cell? ⟨b, o + q * 4 + 3, none⟩ = some (.int .i64 x.diff) ∧ W.cell? ⟨H, 0, none⟩ = some (.slice ra rn rc) ∧ W.cell? ⟨H, 1, none⟩ = some (.int .u64 u.epoch) ∧ W.cell? ⟨H, 2, none⟩ = some (.slice la ln lc) ∧ W.cell? ⟨H, 3, none⟩ = some (.int .i64 u.diff)) (by kernel_rfl) (HKS.out _ (Go.Pen.below_drewN (n := 1) HBR.out) KH.out) (fun hHeld => ?_)
      refine wpAnyH_take (i := 0) (oi := ⟨some 10, _, _, _, _, _⟩) (v := ?_) rfl (by kernel_rfl) (by kernel_rfl) (by kernel_rfl) (fun _ _ _ h => h) (Or.inl ⟨by rfl, ?_⟩) (by assumption) ?_; rotate_left; (intro w hSw; (try dsimp only at hSw); go_simp; (try with_reducible rfl)); simp only [Act.put, List.setIfInBounds_toArray, List.set_cons_zero, List.set_cons_succ]
      refine wpAnyH_take (i := 1) (oi := ⟨some 11, _, _, _, _, _⟩) (v := ?_) rfl (by kernel_rfl) (by kernel_rfl) (by kernel_rfl) (fun _ _ _ h => h) (Or.inl ⟨by rfl, ?_⟩) (by assumption) ?_; rotate_left; (intro w hSw; (try dsimp only at hSw); go_simp; (try with_reducible rfl)); simp only [Act.put, List.setIfInBounds_toArray, List.set_cons_zero, List.set_cons_succ]
      refine wpAnyH_take (i := 2) (oi := ⟨some 12, _, _, _, _, _⟩) (v := ?_) rfl (by kernel_rfl) (by kernel_rfl) (by kernel_rfl) (fun _ _ _ h => h) (Or.inl ⟨by rfl, ?_⟩) (by assumption) ?_; rotate_left; (intro w hSw; (try dsimp only at hSw); go_simp; (try with_reducible rfl)); simp only [Act.put, List.setIfInBounds_toArray, List.set_cons_zero, List.set_cons_succ]
      refine wpAnyH_take (i := 3) (oi := ⟨some 13, _, _, _, _, _⟩) (v := ?_) rfl (by kernel_rfl) (by kernel_rfl) (by kernel_rfl) (fun _ _ _ h => h) (Or.inl ⟨by rfl, ?_⟩) (by assumption) ?_; rotate_left; (intro w hSw; (try dsimp only at hSw); go_simp; (try with_reducible rfl)); simp only [Act.put, List.setIfInBounds_toArray, List.set_cons_zero, List.set_cons_succ]
      refine wpAnyH_take (i := 4) (oi := ⟨some 14, _, _, _, _, _⟩) (v := ?_) rfl (by kernel_rfl) (by kernel_rfl) (by kernel_rfl) (fun _ _ _ h => h) (Or.inl ⟨by rfl, ?_⟩) (by assumption) ?_; rotate_left; (intro w hSw; (try dsimp only at hSw); go_simp; (try with_reducible rfl)); simp only [Act.put, List.setIfInBounds_toArray, List.set_cons_zero, List.set_cons_succ]
      refine wpAnyH_take (i := 5) (oi := ⟨some 15, _, _, _, _, _⟩) (v := ?_) rfl (by kernel_rfl) (by kernel_rfl) (by kernel_rfl) (fun _ _ _ h => h) (Or.inl ⟨by rfl, ?_⟩) (by assumption) ?_; rotate_left; (intro w hSw; (try dsimp only at hSw); go_simp; (try with_reducible rfl)); simp only [Act.put, List.setIfInBounds_toArray, List.set_cons_zero, List.set_cons_succ]
      refine wpAnyH_take (i := 6) (oi := ⟨some 16, _, _, _, _, _⟩) (v := ?_) rfl (by kernel_rfl) (by kernel_rfl) (by kernel_rfl) (fun _ _ _ h => h) (Or.inl ⟨by rfl, ?_⟩) (by assumption) ?_; rotate_left; (intro w hSw; (try dsimp only at hSw); go_simp; (try with_reducible rfl)); simp only [Act.put, List.setIfInBounds_toArray, List.set_cons_zero, List.set_cons_succ]
      refine wpAnyH_take (i := 7) (oi := ⟨some 17, _, _, _, _, _⟩) (v := ?_) rfl (by kernel_rfl) (by kernel_rfl) (by kernel_rfl) (fun _ _ _ h => h) (Or.inl ⟨by rfl, ?_⟩) (by assumption) ?_; rotate_left; (intro w hSw; (try dsimp only at hSw); go_simp; (try with_reducible rfl)); simp only [Act.put, List.setIfInBounds_toArray, List.set_cons_zero, List.set_cons_succ]
      refine wpAnyH_take (i := 8) (oi := ⟨some 18, _, _, _, _, _⟩) (v := ?_) rfl (by kernel_rfl) (by kernel_rfl) (by kernel_rfl) (fun _ _ _ h => h) (Or.inl ⟨by rfl, ?_⟩) (by assumption) ?_; rotate_left; (intro w hSw; (try dsimp only at hSw); go_simp; (try with_reducible rfl)); simp only [Act.put, List.setIfInBounds_toArray, List.set_cons_zero, List.set_cons_succ]
      refine wpAnyH_ready (rs := [9]) (by kernel_rfl) (by simp) ?_
      refine AllReadyH.cons (o := ⟨some 19, _, _, _, _, _⟩) rfl (fun KK hK => ?_) AllReadyH.nil
      go_simp
      go_at_call 49
      refine (HCMP.out _ (Go.Pen.below_drewN (n := 1) HBR.out)).mono ?_
      rintro e w5 ⟨rfl, hb5⟩
      have hb5' : Below wr.heap.size wr w5 := below_undrewN (n := 1) hb5
      have HB5 := Lib.hid (HBR.out.trans (hb5'.mono HBR.out.size))
      have KH5 := Lib.hid ((hb5'.block _ (lt_of_heap KH.out)).trans KH.out)
      go_wp2_with fail
      refine hK.out _ _ (HKS.out _ HB5.out KH5.out) (fun hHeld => ?_)
      clear hK KK hb5 hb5'
      by_cases hC : 0 < C
      · refine wpAnyH_take (i := 10) (oi := ⟨some 20, _, _, _, _, _⟩) (v := ?_) rfl (by kernel_rfl) (by kernel_rfl) (by kernel_rfl) (fun _ _ _ h => h) (Or.inl ⟨by rfl, ?_⟩) (by assumption) ?_; rotate_left; (intro w hSw; (try dsimp only at hSw); go_simp; (try with_reducible rfl)); simp only [Act.put, List.setIfInBounds_toArray, List.set_cons_zero, List.set_cons_succ]
        refine wpAnyH_take (i := 11) (oi := ⟨some 21, _, _, _, _, _⟩) (v := ?_) rfl (by kernel_rfl) (by kernel_rfl) (by kernel_rfl) (fun _ _ _ h => h) (Or.inl ⟨by rfl, ?_⟩) (by assumption) ?_; rotate_left; (intro w hSw; (try dsimp only at hSw); go_simp; (try with_reducible rfl)); simp only [Act.put, List.setIfInBounds_toArray, List.set_cons_zero, List.set_cons_succ]
        refine wpAnyH_done (by kernel_rfl) ?_ _
        clear hHeld
        go_wp2
        go_roundg q
        case measure => omega
        case rel => exact ⟨q, by omega, rfl, by go_num, by rw [HCUT.out, cut_step HGD.out, ← EC.out, if_pos hC], HB5.out, KH5.out⟩
      · have hcK : cutN u us us.length = K := by rw [HCUT.out, cut_step HGD.out, ← EC.out, if_neg hC, EK.out]
        have HCK := Lib.hid hcK
        clear hcK
        refine wpAnyH_take (i := 10) (oi := ⟨some 20, _, _, _, _, _⟩) (v := ?_) rfl (by kernel_rfl) (by kernel_rfl) (by kernel_rfl) (fun _ _ _ h => h) (Or.inl ⟨by rfl, ?_⟩) (by assumption) ?_; rotate_left; (intro w hSw; (try dsimp only at hSw); go_simp; (try with_reducible rfl)); simp only [Act.put, List.setIfInBounds_toArray, List.set_cons_zero, List.set_cons_succ]
        refine wpAnyH_take (i := 11) (oi := ⟨some 21, _, _, _, _, _⟩) (v := ?_) rfl (by kernel_rfl) (by kernel_rfl) (by kernel_rfl) (fun _ _ _ h => h) (Or.inl ⟨by rfl, ?_⟩) (by assumption) ?_; rotate_left; (intro w hSw; (try dsimp only at hSw); go_simp; (try with_reducible rfl)); simp only [Act.put, List.setIfInBounds_toArray, List.set_cons_zero, List.set_cons_succ]
        refine wpAnyH_done (by kernel_rfl) ?_ _
        clear hHeld
        go_wp2_with fail
        refine wp_region_held_drew (S := fun W => W.cell? ⟨b, o + q * 4, none⟩ = some (.slice xa xn xc) ∧ W.cell? ⟨b, o + q * 4 + 1, none⟩ = some (.int .u64 x.epoch) ∧ W.cell? ⟨b, o + q * 4 + 2, none⟩ = some (.slice xl xm xd) ∧ W.cell? ⟨b, o + q * 4 + 3, none⟩ = some (.int .i64 x.diff) ∧ W.cell? ⟨H, 0, none⟩ = some (.slice ra rn rc) ∧ W.cell? ⟨H, 1, none⟩ = some (.int .u64 u.epoch) ∧ W.cell? ⟨H, 2, none⟩ = some (.slice la ln lc) ∧ W.cell? ⟨H, 3, none⟩ = some (.int .i64 u.diff)) (by kernel_rfl) (HKS.out _ (Go.Pen.below_drewN (n := 1) HB5.out) KH5.out) (fun hHeld => ?_)
        refine wpAnyH_take (i := 0) (oi := ⟨some 24, _, _, _, _, _⟩) (v := ?_) rfl (by kernel_rfl) (by kernel_rfl) (by kernel_rfl) (fun _ _ _ h => h) (Or.inl ⟨by rfl, ?_⟩) (by assumption) ?_; rotate_left; (intro w hSw; (try dsimp only at hSw); go_simp; (try with_reducible rfl)); simp only [Act.put, List.setIfInBounds_toArray, List.set_cons_zero, List.set_cons_succ]
        refine wpAnyH_take (i := 1) (oi := ⟨some 25, _, _, _, _, _⟩) (v := ?_) rfl (by kernel_rfl) (by kernel_rfl) (by kernel_rfl) (fun _ _ _ h => h) (Or.inl ⟨by rfl, ?_⟩) (by assumption) ?_; rotate_left; (intro w hSw; (try dsimp only at hSw); go_simp; (try with_reducible rfl)); simp only [Act.put, List.setIfInBounds_toArray, List.set_cons_zero, List.set_cons_succ]
        refine wpAnyH_take (i := 2) (oi := ⟨some 26, _, _, _, _, _⟩) (v := ?_) rfl (by kernel_rfl) (by kernel_rfl) (by kernel_rfl) (fun _ _ _ h => h) (Or.inl ⟨by rfl, ?_⟩) (by assumption) ?_; rotate_left; (intro w hSw; (try dsimp only at hSw); go_simp; (try with_reducible rfl)); simp only [Act.put, List.setIfInBounds_toArray, List.set_cons_zero, List.set_cons_succ]
        refine wpAnyH_take (i := 3) (oi := ⟨some 27, _, _, _, _, _⟩) (v := ?_) rfl (by kernel_rfl) (by kernel_rfl) (by kernel_rfl) (fun _ _ _ h => h) (Or.inl ⟨by rfl, ?_⟩) (by assumption) ?_; rotate_left; (intro w hSw; (try dsimp only at hSw); go_simp; (try with_reducible rfl)); simp only [Act.put, List.setIfInBounds_toArray, List.set_cons_zero, List.set_cons_succ]
        refine wpAnyH_take (i := 4) (oi := ⟨some 28, _, _, _, _, _⟩) (v := ?_) rfl (by kernel_rfl) (by kernel_rfl) (by kernel_rfl) (fun _ _ _ h => h) (Or.inl ⟨by rfl, ?_⟩) (by assumption) ?_; rotate_left; (intro w hSw; (try dsimp only at hSw); go_simp; (try with_reducible rfl)); simp only [Act.put, List.setIfInBounds_toArray, List.set_cons_zero, List.set_cons_succ]
        refine wpAnyH_take (i := 5) (oi := ⟨some 29, _, _, _, _, _⟩) (v := ?_) rfl (by kernel_rfl) (by kernel_rfl) (by kernel_rfl) (fun _ _ _ h => h) (Or.inl ⟨by rfl, ?_⟩) (by assumption) ?_; rotate_left; (intro w hSw; (try dsimp only at hSw); go_simp; (try with_reducible rfl)); simp only [Act.put, List.setIfInBounds_toArray, List.set_cons_zero, List.set_cons_succ]
        refine wpAnyH_take (i := 6) (oi := ⟨some 30, _, _, _, _, _⟩) (v := ?_) rfl (by kernel_rfl) (by kernel_rfl) (by kernel_rfl) (fun _ _ _ h => h) (Or.inl ⟨by rfl, ?_⟩) (by assumption) ?_; rotate_left; (intro w hSw; (try dsimp only at hSw); go_simp; (try with_reducible rfl)); simp only [Act.put, List.setIfInBounds_toArray, List.set_cons_zero, List.set_cons_succ]
        refine wpAnyH_take (i := 7) (oi := ⟨some 31, _, _, _, _, _⟩) (v := ?_) rfl (by kernel_rfl) (by kernel_rfl) (by kernel_rfl) (fun _ _ _ h => h) (Or.inl ⟨by rfl, ?_⟩) (by assumption) ?_; rotate_left; (intro w hSw; (try dsimp only at hSw); go_simp; (try with_reducible rfl)); simp only [Act.put, List.setIfInBounds_toArray, List.set_cons_zero, List.set_cons_succ]
        refine wpAnyH_take (i := 8) (oi := ⟨some 32, _, _, _, _, _⟩) (v := ?_) rfl (by kernel_rfl) (by kernel_rfl) (by kernel_rfl) (fun _ _ _ h => h) (Or.inl ⟨by rfl, ?_⟩) (by assumption) ?_; rotate_left; (intro w hSw; (try dsimp only at hSw); go_simp; (try with_reducible rfl)); simp only [Act.put, List.setIfInBounds_toArray, List.set_cons_zero, List.set_cons_succ]
        refine wpAnyH_ready (rs := [9]) (by kernel_rfl) (by simp) ?_
        refine AllReadyH.cons (o := ⟨some 33, _, _, _, _, _⟩) rfl (fun KK hK => ?_) AllReadyH.nil
        go_simp
        go_at_call 49
        refine (HCMP.out _ (Go.Pen.below_drewN (n := 1) HB5.out)).mono ?_
        rintro e w6 ⟨rfl, hb5⟩
        have hb5' : Below w5.heap.size w5 w6 := below_undrewN (n := 1) hb5
        have HB6 := Lib.hid (HB5.out.trans (hb5'.mono HB5.out.size))
        have KH6 := Lib.hid ((hb5'.block _ (lt_of_heap KH5.out)).trans KH5.out)
        go_wp2_with fail
        refine hK.out _ _ (HKS.out _ HB6.out KH6.out) (fun hHeld => ?_)
        clear hK KK hb5 hb5'
        by_cases hC0 : C = 0
        · have hadd : addU us u = us.set q { x with diff := wrap64 (x.diff + u.diff) } := by
            unfold addU
            have hk1 : K - 1 = q := by have := EK.out; omega
            rw [HCK.out, hk1, HGD.out, if_pos ⟨by omega, by rw [← EC.out]; exact hC0⟩]
          have HADD := Lib.hid hadd
          have qC : (C == 0) = true := by simp [hC0]
          clear hadd hC hC0
          refine wpAnyH_take (i := 10) (oi := ⟨some 34, _, _, _, _, _⟩) (v := ?_) rfl (by kernel_rfl) (by kernel_rfl) (by kernel_rfl) (fun _ _ _ h => h) (Or.inl ⟨by rfl, ?_⟩) (by assumption) ?_; rotate_left; (intro w hSw; (try dsimp only at hSw); go_simp; (try with_reducible rfl)); simp only [Act.put, List.setIfInBounds_toArray, List.set_cons_zero, List.set_cons_succ]
          refine wpAnyH_take (i := 11) (oi := ⟨some 35, _, _, _, _, _⟩) (v := ?_) rfl (by kernel_rfl) (by kernel_rfl) (by kernel_rfl) (fun _ _ _ h => h) (Or.inl ⟨by rfl, ?_⟩) (by assumption) ?_; rotate_left; (intro w hSw; (try dsimp only at hSw); go_simp; (try with_reducible rfl)); simp only [Act.put, List.setIfInBounds_toArray, List.set_cons_zero, List.set_cons_succ]
          refine wpAnyH_done (by kernel_rfl) ?_ _
          clear hHeld
          have hn0 : 0 < n := by omega
          have hs6 := HB6.out.size
          go_wp2_with (at_builtin; go_must (refine wpList_append_lies _ rfl _ _ 22 rfl w.heap.size 51 i0 _ 4 64 Tryz.underlying22 hi0 hz0 hz1 hz2 rfl (by decide) (.slice none 0 0) 0 [] rfl (World.ownsRow_nil _ _ _ _) ⟨b, o, none⟩ n _ xs rfl ?d0 ?d1 ?d2 ?d3 ?d4 ?d5 ?d6 _ rfl ?_))
          case d0 => rw [HELS.out.len, EN.out]
          case d1 => exact fun j y hy => cell_keep HB6.out (HCELL.out _ rfl j y hy)
          case d2 => exact HELS.out.ones
          case d3 => exact hn0
          case d4 => unfold maxLen; omega
          case d5 => omega
          case d6 => exact hs6
          intro g cap w7 hown hgrow hat7 _
          have hgs : g = w6.heap.size := by simpa [Value.ownBlock] using hat7
          have HB7 := Lib.hid (HB6.out.grown hgrow hs6 (fun g hg => by cases hg))
          have kh7 : w7.heap[H]? = some (.cells #[.slice ra rn rc, .int .u64 u.epoch, .slice la ln lc, .int .i64 u.diff] 51 (0, 0)) := (hgrow.block H (lt_of_heap KH6.out) (by simp [Value.ownBlock])).trans KH6.out
          have KH7 := Lib.hid kh7
          obtain ⟨-, -, -, -, -, e3, -⟩ := HELS.out.el q x HXQ.out
          have z3 : w7.cell? ⟨g, q * 4 + 3, none⟩ = some (.int .i64 x.diff) := (ownsRow_heap hown).2.2.2 _ _ e3
          have g3 : w7.frozen? ⟨g, q * 4 + 3, none⟩ = false := ownsRow_free hown
          have y3 : w7.cell? ⟨H, 3, none⟩ = some (.int .i64 u.diff) := cell_of_heap kh7 rfl
          have HOWN := Lib.hid hown
          have hlo : w.heap.size ≤ g := by omega
          have HLO := Lib.hid hlo
          clear hown hgrow kh7 e3 hat7 hgs hlo
          try rw [Nat.zero_add]
          go_wp2_with fail
          go_still_tail 11, (by kernel_rfl)
          change wpList _ _ _ _ _ w7.drew
          obtain ⟨w8, hw8⟩ : ∃ w8, w8 = w7.drew := ⟨_, rfl⟩
          rw [← hw8]
          have z3 : w8.cell? ⟨g, q * 4 + 3, none⟩ = some (.int .i64 x.diff) := by rw [hw8]; exact z3
          have g3 : w8.frozen? ⟨g, q * 4 + 3, none⟩ = false := by rw [hw8]; exact g3
          have y3 : w8.cell? ⟨H, 3, none⟩ = some (.int .i64 u.diff) := by rw [hw8]; exact y3
          have HOWN8 : Hid (w8.ownsRow w.heap.size 51 4 (.slice (some ⟨g, 0, none⟩) n cap) n xs) := by rw [hw8]; exact HOWN
          have HB8 : Hid (Below w.heap.size w w8) := by rw [hw8]; exact Lib.hid (Go.Pen.below_drewN (n := 1) HB7.out)
          clear hw8
          go_wp2
          go_ret
          have hb9 : Below w.heap.size w (w8.setCell ⟨g, q * 4 + 3, none⟩ (.int .i64 (wrap64 (x.diff + u.diff)))) := HB8.out.setCell (p := ⟨g, q * 4 + 3, none⟩) HLO.out _
          refine ⟨_, rfl, ?_, owns_cap HOWN8.out, hb9⟩
          rw [HADD.out]
          have ha := (((HELS.out.below hb9).set HXQ.out (wrap64 (x.diff + u.diff))).at (ownsRow_set (j := q * 4 + 3) HOWN8.out)).2
          exact ha
        · have hadd : addU us u = us.take K ++ u :: us.drop K := by
            unfold addU
            have hk1 : K - 1 = q := by have := EK.out; omega
            rw [HCK.out, hk1, HGD.out, if_neg (fun h => hC0 (by rw [EC.out]; exact h.2))]
          have HADD := Lib.hid hadd
          have qC : (C == 0) = false := by simp [hC0]
          clear hadd hC hC0
          refine wpAnyH_take (i := 10) (oi := ⟨some 34, _, _, _, _, _⟩) (v := ?_) rfl (by kernel_rfl) (by kernel_rfl) (by kernel_rfl) (fun _ _ _ h => h) (Or.inl ⟨by rfl, ?_⟩) (by assumption) ?_; rotate_left; (intro w hSw; (try dsimp only at hSw); go_simp; (try with_reducible rfl)); simp only [Act.put, List.setIfInBounds_toArray, List.set_cons_zero, List.set_cons_succ]
          refine wpAnyH_take (i := 11) (oi := ⟨some 35, _, _, _, _, _⟩) (v := ?_) rfl (by kernel_rfl) (by kernel_rfl) (by kernel_rfl) (fun _ _ _ h => h) (Or.inl ⟨by rfl, ?_⟩) (by assumption) ?_; rotate_left; (intro w hSw; (try dsimp only at hSw); go_simp; (try with_reducible rfl)); simp only [Act.put, List.setIfInBounds_toArray, List.set_cons_zero, List.set_cons_succ]
          refine wpAnyH_done (by kernel_rfl) ?_ _
          clear hHeld
          have hK0 : 0 < K := by omega
          have hs6 := HB6.out.size
          go_wp2_with (at_builtin; go_must (refine wpList_append_lies _ rfl _ _ 22 rfl w.heap.size 51 i0 _ 4 64 Tryz.underlying22 hi0 hz0 hz1 hz2 rfl (by decide) (.slice none 0 0) 0 [] rfl (World.ownsRow_nil _ _ _ _) ⟨b, o, none⟩ K _ (xs.take (K * 4)) rfl ?d0 ?d1 ?d2 ?d3 ?d4 ?d5 ?d6 _ rfl ?_))
          case d0 => rw [List.length_take, HELS.out.len]; have := EN.out; omega
          case d1 => exact fun j y hy => cell_keep HB6.out (HCELL.out _ rfl j y (by rw [List.getElem?_take] at hy; split at hy; exact hy; cases hy))
          case d2 => exact fun y hy => HELS.out.ones y (mem_take' hy)
          case d3 => exact hK0
          case d4 => unfold maxLen; omega
          case d5 => omega
          case d6 => first | exact hs6 | (rw [World.size_alloc]; omega) | (simp; omega)
          intro g7 cap7 w7 hown7 hgrow7 _ _
          have HB7 := Lib.hid (HB6.out.grown hgrow7 hs6 (fun g hg => by cases hg))
          have kh7 : w7.heap[H]? = some (.cells #[.slice ra rn rc, .int .u64 u.epoch, .slice la ln lc, .int .i64 u.diff] 51 (0, 0)) := (hgrow7.block H (lt_of_heap KH6.out) (by simp [Value.ownBlock])).trans KH6.out
          have KH7 := Lib.hid kh7
          have HO7 := Lib.hid hown7
          clear hown7 hgrow7 kh7
          have y0 : w7.cell? ⟨H, 0, none⟩ = some (.slice ra rn rc) := cell_of_heap KH7.out rfl
          have y1 : w7.cell? ⟨H, 1, none⟩ = some (.int .u64 u.epoch) := cell_of_heap KH7.out rfl
          have y2 : w7.cell? ⟨H, 2, none⟩ = some (.slice la ln lc) := cell_of_heap KH7.out rfl
          have y3 : w7.cell? ⟨H, 3, none⟩ = some (.int .i64 u.diff) := cell_of_heap KH7.out rfl
          have hs7 := HB7.out.size
          go_wp2_with (at_builtin; go_must (refine wpList_append_lies _ rfl _ _ 22 rfl w.heap.size 51 i0 _ 4 64 Tryz.underlying22 hi0 hz0 hz1 hz2 rfl (by decide) (.slice (some ⟨g7, 0, none⟩) K cap7) K (xs.take (K * 4)) rfl (HO7.out.alloc _) ⟨w7.heap.size, 0, none⟩ 1 1 [.slice ra rn rc, .int .u64 u.epoch, .slice la ln lc, .int .i64 u.diff] rfl rfl ?c1 ?c2 (by decide) ?c3 ?c4 ?c5 _ rfl ?_))
          case c1 => first | exact fun _ _ hj => hj | exact World.news_of_block (cs := #[.slice ra rn rc, .int .u64 u.epoch, .slice la ln lc, .int .i64 u.diff]) (heap_alloc_new _ _)
          case c2 => intro y hy; simp at hy; rcases hy with rfl | rfl | rfl | rfl <;> rfl
          case c3 => unfold maxLen; omega
          case c4 => omega
          case c5 => first | omega | (simp; omega)
          intro g8 cap8 w8 hown8 hgrow8 _ _
          have HB8 := Lib.hid ((HB7.out.alloc (o := .cells #[.slice ra rn rc, .int .u64 u.epoch, .slice la ln lc, .int .i64 u.diff] 51) HB7.out.size).grown hgrow8 (by rw [World.size_alloc]; omega) (fun g hg => (HO7.out.lt g hg).1))
          have HO8 := Lib.hid hown8
          clear hown8 hgrow8 y0 y1 y2 y3
          have hs8 := HB8.out.size
          have hels8 : Els w8 ((xs.take (K * 4)) ++ [.slice ra rn rc, .int .u64 u.epoch, .slice la ln lc, .int .i64 u.diff]) (us.take K ++ [u]) := ((HELS.out.below HB8.out).take (k := K) (by have := EN.out; omega)).append (Els.one (HRU.out.below HB8.out) (HLU.out.below HB8.out))
          have HELS8 := Lib.hid hels8
          clear hels8
          by_cases hlast : n - K = 0
          · have hend : ∀ W v, W.ownsRow w.heap.size 51 4 v (K + 1) ((xs.take (K * 4)) ++ [.slice ra rn rc, .int .u64 u.epoch, .slice la ln lc, .int .i64 u.diff]) → Els W ((xs.take (K * 4)) ++ [.slice ra rn rc, .int .u64 u.epoch, .slice la ln lc, .int .i64 u.diff]) (us.take K ++ [u]) → UpsAt W v (addU us u) := fun W v ho he => by
              have h1 : us.drop K = [] := List.drop_eq_nil_of_le (by have := EN.out; omega)
              rw [HADD.out, h1]
              exact (he.at ho).2
            have HEND := Lib.hid hend
            clear hend
            by_cases hcK : c - K = 0
            all_goals
              go_wp2_with (at_builtin; go_must (refine wpList_append_zero rfl _ _ 22 rfl w.heap.size 51 i0 4 Tryz.underlying22 hi0 _ (K + 1) _ rfl HO8.out _ _ _ rfl (by first | rfl | exact hlast | omega) ?_))
              go_ret
              exact ⟨_, rfl, HEND.out _ _ HO8.out HELS8.out, owns_cap HO8.out, HB8.out⟩
          · have hcK : ¬(c - K = 0) := by omega
            have hm0 : 0 < n - K := by omega
            have hend : ∀ W v, W.ownsRow w.heap.size 51 4 v (K + 1 + (n - K)) ((xs.take (K * 4)) ++ [.slice ra rn rc, .int .u64 u.epoch, .slice la ln lc, .int .i64 u.diff] ++ xs.drop (K * 4)) → Below w.heap.size w W → UpsAt W v (addU us u) := fun W v ho hb => by
              have he := (((HELS.out.below hb).take (k := K) (by have := EN.out; omega)).append (Els.one (HRU.out.below hb) (HLU.out.below hb))).append ((HELS.out.drop K).below hb)
              rw [HADD.out, show us.take K ++ u :: us.drop K = us.take K ++ [u] ++ us.drop K by simp]
              exact (he.at ho).2
            have HEND := Lib.hid hend
            clear hend
            go_wp2_with (at_builtin; go_must (refine wpList_append_lies _ rfl _ _ 22 rfl w.heap.size 51 i0 _ 4 64 Tryz.underlying22 hi0 hz0 hz1 hz2 rfl (by decide) (.slice (some ⟨g8, 0, none⟩) (K + 1) cap8) (K + 1) _ rfl HO8.out ⟨b, o + K * 4, none⟩ (n - K) _ (xs.drop (K * 4)) rfl ?e0 ?e1 ?e2 hm0 ?e3 ?e4 ?e5 _ rfl ?_))
            case e0 => rw [List.length_drop, HELS.out.len]; have := EN.out; omega
            case e1 =>
              intro j y hy
              rw [List.getElem?_drop] at hy
              have h2 := cell_keep HB8.out (HCELL.out _ rfl _ y hy)
              rw [add_lit] at h2 ⊢
              rw [← Nat.add_assoc] at h2
              exact h2
            case e2 => exact fun y hy => HELS.out.ones y (List.mem_of_mem_drop hy)
            case e3 => unfold maxLen; omega
            case e4 => omega
            case e5 => exact hs8
            intro g9 cap9 w9 hown9 hgrow9 _ _
            have HB9 := Lib.hid (HB8.out.grown hgrow9 hs8 (fun g hg => (HO8.out.lt g hg).1))
            have HO9 := Lib.hid hown9
            clear hown9 hgrow9
            go_wp2_with fail
            go_ret
            exact ⟨.slice (some ⟨g9, 0, none⟩) (K + 1 + (n - K)) cap9, rfl, HEND.out _ _ (by have := HO9.out; simp only [List.append_assoc, List.cons_append, List.nil_append] at this ⊢; exact this) HB9.out, owns_cap HO9.out, HB9.out⟩
end Go.Proofs.YtlpehdhgdpeoeaaGreatDoor
