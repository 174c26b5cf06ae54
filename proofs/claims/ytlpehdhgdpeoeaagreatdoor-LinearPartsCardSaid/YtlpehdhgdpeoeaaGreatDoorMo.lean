import Derived.Test.YtlpehdhgdpeoeaaGreatDoorMe
import Derived.Test.YtlpehdhgdpeoeaaGreatDoorMf
/- linear.Move. -/
namespace Go.Proofs.YtlpehdhgdpeoeaaGreatDoor
open Go.RowKit Go.Pen Go.Shelf
attribute [local go_sem] Oper.semAt_some

/-- what Move does to an update -/
def moveR (leave add : Int) (en : List Int) : Upd → Upd × Bool := fun u => ({ u with epoch := (applyT leave add en u.epoch u.loops).1.1, loops := (applyT leave add en u.epoch u.loops).1.2 }, decide ((applyT leave add en u.epoch u.loops).2 = 0))
/-- an update's time put in its box -/
theorem put_fin2 {w W : World} {p n : Nat} {v x0 x1 x2 x3 y : Value} {xs : List Value} (hp : W.heap[p]? = some (.cells #[x0, x1, x2, x3] 51 (0, 0))) (hb : Below w.heap.size w W) (h : TyRow W 33 v n xs) :
    ((W.setCell ⟨p, 1, none⟩ y).setCell ⟨p, 2, none⟩ v).heap[p]? = some (.cells #[x0, y, v, x3] 51 (0, 0)) ∧ TyRow ((W.setCell ⟨p, 1, none⟩ y).setCell ⟨p, 2, none⟩ v) 33 v n xs ∧ But p w ((W.setCell ⟨p, 1, none⟩ y).setCell ⟨p, 2, none⟩ v) ∧ Kt w ((W.setCell ⟨p, 1, none⟩ y).setCell ⟨p, 2, none⟩ v) := by
  have hne : ∀ k, k ≠ p → ((W.setCell ⟨p, 1, none⟩ y).setCell ⟨p, 2, none⟩ v).heap[k]? = W.heap[k]? := fun k hk => by rw [heap_set_ne hk, heap_set_ne hk]
  have hs : ((W.setCell ⟨p, 1, none⟩ y).setCell ⟨p, 2, none⟩ v).heap.size = W.heap.size := by simp [World.setCell]
  have hk : Kt W ((W.setCell ⟨p, 1, none⟩ y).setCell ⟨p, 2, none⟩ v) := Kt.but hp (by decide) (by omega) fun k _ hk => hne k hk
  have h3 : (W.setCell ⟨p, 1, none⟩ y).heap[p]? = some (.cells #[x0, y, x2, x3] 51 (0, 0)) := by rw [heap_set_same hp]; rfl
  exact ⟨by rw [heap_set_same h3]; rfl, h.kt rfl hk, ⟨hb.os, hb.tape, hb.output, by rw [hs]; exact hb.size, fun k h1 h2 => (hne k h2).trans (hb.block k h1)⟩, (Kt.of_below hb).trans hk⟩

set_option maxRecDepth 100000 in
set_option maxHeartbeats 1000000 in
theorem move1_34 (u : Upd) (leave add : Int) (en : List Int) (p Y : Nat) (rv lv nv : Value) (w : World) (hp : w.heap[p]? = some (.cells (upV rv lv u) 51 (0, 0))) (hty : TyRow w 33 lv u.loops.length (wordCells u.loops)) (fu : u.fits)
    (hY : w.heap[Y]? = some (.cells #[.int .i64 leave, .int .u32 add, nv] 36 (0, 0))) (hn : WordsAt w nv en) (hnl : en.length ≤ 1073741824) (hlv : -9223372036854775808 ≤ leave ∧ leave ≤ 9223372036854775807) (had : U32 add) :
    Calls Tryz.prog 34 #[.pointer (some ⟨p, 0, none⟩), .pointer (some ⟨Y, 0, none⟩)] w fun e w' => ∃ lv', e = .returned (.bool (moveR leave add en u).2) ∧ w'.heap[p]? = some (.cells (upV rv lv' (moveR leave add en u).1) 51 (0, 0)) ∧ TyRow w' 33 lv' (moveR leave add en u).1.loops.length (wordCells (moveR leave add en u).1.loops) ∧ But p w w' ∧ Kt w w' := by
  obtain ⟨la, lc, rfl, -, -⟩ := id hty
  obtain ⟨na, nc, rfl⟩ := hn.slice
  have hap : ∀ W, Below w.heap.size w W → Calls Tryz.prog 35 #[.agg #[.int .i64 leave, .int .u32 add, .slice na en.length nc], .agg #[.int .u64 u.epoch, .slice la u.loops.length lc]] W fun e w' => ∃ lv', e = .returned (.tuple #[.agg #[.int .u64 (applyT leave add en u.epoch u.loops).1.1, lv'], .int .u16 (applyT leave add en u.epoch u.loops).2]) ∧ TyRow w' 33 lv' (applyT leave add en u.epoch u.loops).1.2.length (wordCells (applyT leave add en u.epoch u.loops).1.2) ∧ Below W.heap.size W w' := fun W hb =>
    apply_35 leave add en _ _ u.epoch u.loops W (hty.kt rfl (Kt.of_below hb)) (hn.below hb) fu.ll hnl hlv had fu.ep fu.lo
  unfold moveR
  simp only []
  obtain ⟨T, eT⟩ : ∃ T, T = (applyT leave add en u.epoch u.loops) := ⟨_, rfl⟩
  rw [← eT] at hap ⊢
  have HAP := Lib.hid hap
  have HP := Lib.hid hp
  have HY := Lib.hid hY
  have yp := cell_of_heap (o := 0) hp rfl
  clear hap hY eT hn hty
  unfold upV at HP yp hp
  go_enter Tryz.func34, Tryz.ntmps34
  go_upto_region 1 with fail
  have hs : ∀ W, Below w.heap.size w W → W.cell? ⟨Y, 0, none⟩ = some (.int .i64 leave) ∧ W.cell? ⟨Y, 1, none⟩ = some (.int .u32 add) ∧ W.cell? ⟨Y, 2, none⟩ = some (.slice na en.length nc) ∧ W.cell? ⟨p, 1, none⟩ = some (.int .u64 u.epoch) ∧ W.cell? ⟨p, 2, none⟩ = some (.slice la u.loops.length lc) := fun W hb => ⟨cell_of_heap (keepB HY.out hb) rfl, cell_of_heap (keepB HY.out hb) rfl, cell_of_heap (keepB HY.out hb) rfl, cell_of_heap (keepB HP.out hb) rfl, cell_of_heap (keepB HP.out hb) rfl⟩
  have HS := Lib.hid hs
  clear hs hp
  go_cut [4, 5] from 6 to 14 (fun s4 s5 wx => ∃ B la' lc', s4 = .pointer (some ⟨B, 0, none⟩) ∧ s5 = .int .u16 T.2 ∧ wx.heap[B]? = some (.cells #[.int .u64 T.1.1, .slice la' T.1.2.length lc'] 46 (0, 0)) ∧ w.heap.size ≤ B ∧ TyRow wx 33 (.slice la' T.1.2.length lc') T.1.2.length (wordCells T.1.2) ∧ Below w.heap.size w wx)
  case first =>
    have CB0 := Lib.hid (show Below w.heap.size w w.drew from ⟨rfl, rfl, rfl, Nat.le_refl _, fun _ _ => rfl⟩)
    refine wp_region_held_drew (S := fun W => W.cell? ⟨Y, 0, none⟩ = some (.int .i64 leave) ∧ W.cell? ⟨Y, 1, none⟩ = some (.int .u32 add) ∧ W.cell? ⟨Y, 2, none⟩ = some (.slice na en.length nc) ∧ W.cell? ⟨p, 1, none⟩ = some (.int .u64 u.epoch) ∧ W.cell? ⟨p, 2, none⟩ = some (.slice la u.loops.length lc)) (by kernel_rfl) (HS.out _ CB0.out) (fun hHeld => ?_)
    refine wpAnyH_take (i := 0) (oi := ⟨some 7, _, _, _, _, _⟩) (v := ?_) rfl (by kernel_rfl) (by kernel_rfl) (by kernel_rfl) (fun _ _ _ h => h) (Or.inl ⟨by rfl, ?_⟩) (by assumption) ?_; rotate_left; (intro w hSw; (try dsimp only at hSw); go_simp; (try with_reducible rfl)); (try simp only [Act.put, List.setIfInBounds_toArray, List.set_cons_zero, List.set_cons_succ])
    refine wpAnyH_take (i := 1) (oi := ⟨some 8, _, _, _, _, _⟩) (v := ?_) rfl (by kernel_rfl) (by kernel_rfl) (by kernel_rfl) (fun _ _ _ h => h) (Or.inl ⟨by rfl, ?_⟩) (by assumption) ?_; rotate_left; (intro w hSw; (try dsimp only at hSw); go_simp; (try with_reducible rfl)); (try simp only [Act.put, List.setIfInBounds_toArray, List.set_cons_zero, List.set_cons_succ])
    refine wpAnyH_take (i := 2) (oi := ⟨some 9, _, _, _, _, _⟩) (v := ?_) rfl (by kernel_rfl) (by kernel_rfl) (by kernel_rfl) (fun _ _ _ h => h) (Or.inl ⟨by rfl, ?_⟩) (by assumption) ?_; rotate_left; (intro w hSw; (try dsimp only at hSw); go_simp; (try with_reducible rfl)); (try simp only [Act.put, List.setIfInBounds_toArray, List.set_cons_zero, List.set_cons_succ])
    refine wpAnyH_take (i := 3) (oi := ⟨some 10, _, _, _, _, _⟩) (v := ?_) rfl (by kernel_rfl) (by kernel_rfl) (by kernel_rfl) (fun _ _ _ h => h) (Or.inl ⟨by rfl, ?_⟩) (by assumption) ?_; rotate_left; (intro w hSw; (try dsimp only at hSw); go_simp; (try with_reducible rfl)); (try simp only [Act.put, List.setIfInBounds_toArray, List.set_cons_zero, List.set_cons_succ])
    refine wpAnyH_take (i := 4) (oi := ⟨some 11, _, _, _, _, _⟩) (v := ?_) rfl (by kernel_rfl) (by kernel_rfl) (by kernel_rfl) (fun _ _ _ h => h) (Or.inl ⟨by rfl, ?_⟩) (by assumption) ?_; rotate_left; (intro w hSw; (try dsimp only at hSw); go_simp; (try with_reducible rfl)); (try simp only [Act.put, List.setIfInBounds_toArray, List.set_cons_zero, List.set_cons_succ])
    refine wpAnyH_ready (rs := [5, 9]) (by kernel_rfl) (by simp) ?_
    refine AllReadyH.cons (o := ⟨some 12, _, _, _, _, _⟩) rfl (fun K hK => ?_) (AllReadyH.cons (o := ⟨some 4, _, _, _, _, _⟩) rfl (fun K hK => ?_) (AllReadyH.nil))
    · go_simp
      go_at_call 35
      with_reducible refine (HAP.out _ CB0.out).mono ?_
      rintro ev V1 ⟨v1, rfl, hty, hbx⟩
      obtain ⟨la1, lc1, rfl, -, -⟩ := id hty
      have CB1 := Lib.hid (stepB CB0.out hbx)
      have TY1 := Lib.hid hty
      clear hbx hty
      go_wp2_with fail
      refine hK.out _ _ (HS.out _ CB1.out) (fun hHeld => ?_)
      clear hK K
      skip
      refine wpAnyH_take (i := 6) (oi := ⟨some 6, _, _, _, _, _⟩) (v := ?_) rfl (by kernel_rfl) (by kernel_rfl) (by kernel_rfl) (fun _ _ _ h => h) (Or.inl ⟨by rfl, ?_⟩) (by assumption) ?_; rotate_left; (intro w hSw; (try dsimp only at hSw); go_simp; (try with_reducible rfl)); (try simp only [Act.put, List.setIfInBounds_toArray, List.set_cons_zero, List.set_cons_succ])
      refine wpAnyH_take (i := 7) (oi := ⟨some 13, _, _, _, _, _⟩) (v := ?_) rfl (by kernel_rfl) (by kernel_rfl) (by kernel_rfl) (fun _ _ _ h => h) (Or.inl ⟨by rfl, ?_⟩) (by assumption) ?_; rotate_left; (intro w hSw; (try dsimp only at hSw); go_simp; (try with_reducible rfl)); (try simp only [Act.put, List.setIfInBounds_toArray, List.set_cons_zero, List.set_cons_succ])
      refine wpAnyH_take (i := 8) (oi := ⟨some 14, _, _, _, _, _⟩) (v := ?_) rfl (by kernel_rfl) (by kernel_rfl) (by kernel_rfl) (fun _ _ _ h => h) (Or.inl ⟨by rfl, ?_⟩) (by assumption) ?_; rotate_left; (intro w hSw; (try dsimp only at hSw); go_simp; (try with_reducible rfl)); (try simp only [Act.put, List.setIfInBounds_toArray, List.set_cons_zero, List.set_cons_succ])
      refine wpAnyH_ready (rs := [9]) (by kernel_rfl) (by simp) ?_
      refine AllReadyH.cons (o := ⟨some 4, _, _, _, _, _⟩) rfl (fun K hK => ?_) (AllReadyH.nil)
      refine step_alloc46 rfl rfl ?_
      intro b2 V2 hV hb
      have CB2 := Lib.hid (show Below w.heap.size w V2 by rw [hV]; exact CB1.out.alloc CB1.out.size _)
      have KA2 := Lib.hid (show V2.heap[b2]? = some (.cells #[.int .u64 0, .slice none 0 0] 46 (0, 0)) by rw [hV, hb]; exact heap_alloc_new _ _)
      have LB2 := Lib.hid (show w.heap.size ≤ b2 by rw [hb]; exact CB1.out.size)
      have TY2 := Lib.hid (show TyRow V2 33 _ _ _ by rw [hV]; exact TY1.out.kt rfl (Kt.alloc _ _))
      clear hV hb
      refine hK.out _ _ (HS.out _ CB2.out) (fun hHeld => ?_)
      clear hK K
      simp only [Act.put, List.setIfInBounds_toArray, List.set_cons_zero, List.set_cons_succ]
      refine wpAnyH_ready (rs := [10]) (by kernel_rfl) (by simp) ?_
      refine AllReadyH.cons (o := ⟨none, _, _, _, _, _⟩) rfl (fun K hK => ?_) (AllReadyH.nil)
      refine step_store46 rfl (.tmp 4) (.tmp 13) rfl (by simp [Act.eval]) (v0 := T.1.1) (va := la1) (vn := T.1.2.length) (vc := lc1) (by simp [Act.eval]) KA2.out ?_
      intro V3 hV
      have CB3 := Lib.hid (show Below w.heap.size w V3 by rw [hV]; exact setRow2_below CB2.out LB2.out)
      have KA3 := Lib.hid (show V3.heap[b2]? = some (.cells #[.int .u64 T.1.1, .slice la1 T.1.2.length lc1] 46 (0, 0)) by rw [hV]; exact setRow2_at KA2.out)
      have TY3 := Lib.hid (show TyRow V3 33 _ _ _ by rw [hV]; exact ty_row2 TY2.out KA2.out)
      clear hV
      refine hK.out _ _ (HS.out _ CB3.out) (fun hHeld => ?_)
      clear hK K
      skip
      refine wpAnyH_take (i := 11) (oi := ⟨some 5, _, _, _, _, _⟩) (v := ?_) rfl (by kernel_rfl) (by kernel_rfl) (by kernel_rfl) (fun _ _ _ h => h) (Or.inl ⟨by rfl, ?_⟩) (by assumption) ?_; rotate_left; (intro w hSw; (try dsimp only at hSw); go_simp; (try with_reducible rfl)); (try simp only [Act.put, List.setIfInBounds_toArray, List.set_cons_zero, List.set_cons_succ])
      refine wpAnyH_done (by kernel_rfl) ?_ _
      go_wp2
      go_meet
      exact ⟨_, _, _, rfl, rfl, KA3.out, LB2.out, TY3.out, CB3.out⟩
    · refine step_alloc46 rfl rfl ?_
      intro b4 V4 hV hb
      have CB4 := Lib.hid (show Below w.heap.size w V4 by rw [hV]; exact CB0.out.alloc CB0.out.size _)
      have KA4 := Lib.hid (show V4.heap[b4]? = some (.cells #[.int .u64 0, .slice none 0 0] 46 (0, 0)) by rw [hV, hb]; exact heap_alloc_new _ _)
      have LB4 := Lib.hid (show w.heap.size ≤ b4 by rw [hb]; exact CB0.out.size)
      clear hV hb
      refine hK.out _ _ (HS.out _ CB4.out) (fun hHeld => ?_)
      clear hK K
      simp only [Act.put, List.setIfInBounds_toArray, List.set_cons_zero, List.set_cons_succ]
      refine wpAnyH_ready (rs := [5]) (by kernel_rfl) (by simp) ?_
      refine AllReadyH.cons (o := ⟨some 12, _, _, _, _, _⟩) rfl (fun K hK => ?_) (AllReadyH.nil)
      go_simp
      go_at_call 35
      with_reducible refine (HAP.out _ CB4.out).mono ?_
      rintro ev V5 ⟨v5, rfl, hty, hbx⟩
      obtain ⟨la5, lc5, rfl, -, -⟩ := id hty
      have CB5 := Lib.hid (stepB CB4.out hbx)
      have TY5 := Lib.hid hty
      have KA5 := Lib.hid (keepB KA4.out hbx)
      clear hbx hty
      go_wp2_with fail
      refine hK.out _ _ (HS.out _ CB5.out) (fun hHeld => ?_)
      clear hK K
      skip
      refine wpAnyH_take (i := 6) (oi := ⟨some 6, _, _, _, _, _⟩) (v := ?_) rfl (by kernel_rfl) (by kernel_rfl) (by kernel_rfl) (fun _ _ _ h => h) (Or.inl ⟨by rfl, ?_⟩) (by assumption) ?_; rotate_left; (intro w hSw; (try dsimp only at hSw); go_simp; (try with_reducible rfl)); (try simp only [Act.put, List.setIfInBounds_toArray, List.set_cons_zero, List.set_cons_succ])
      refine wpAnyH_take (i := 7) (oi := ⟨some 13, _, _, _, _, _⟩) (v := ?_) rfl (by kernel_rfl) (by kernel_rfl) (by kernel_rfl) (fun _ _ _ h => h) (Or.inl ⟨by rfl, ?_⟩) (by assumption) ?_; rotate_left; (intro w hSw; (try dsimp only at hSw); go_simp; (try with_reducible rfl)); (try simp only [Act.put, List.setIfInBounds_toArray, List.set_cons_zero, List.set_cons_succ])
      refine wpAnyH_take (i := 8) (oi := ⟨some 14, _, _, _, _, _⟩) (v := ?_) rfl (by kernel_rfl) (by kernel_rfl) (by kernel_rfl) (fun _ _ _ h => h) (Or.inl ⟨by rfl, ?_⟩) (by assumption) ?_; rotate_left; (intro w hSw; (try dsimp only at hSw); go_simp; (try with_reducible rfl)); (try simp only [Act.put, List.setIfInBounds_toArray, List.set_cons_zero, List.set_cons_succ])
      refine wpAnyH_ready (rs := [10]) (by kernel_rfl) (by simp) ?_
      refine AllReadyH.cons (o := ⟨none, _, _, _, _, _⟩) rfl (fun K hK => ?_) (AllReadyH.nil)
      refine step_store46 rfl (.tmp 4) (.tmp 13) rfl (by simp [Act.eval]) (v0 := T.1.1) (va := la5) (vn := T.1.2.length) (vc := lc5) (by simp [Act.eval]) KA5.out ?_
      intro V6 hV
      have CB6 := Lib.hid (show Below w.heap.size w V6 by rw [hV]; exact setRow2_below CB5.out LB4.out)
      have KA6 := Lib.hid (show V6.heap[b4]? = some (.cells #[.int .u64 T.1.1, .slice la5 T.1.2.length lc5] 46 (0, 0)) by rw [hV]; exact setRow2_at KA5.out)
      have TY6 := Lib.hid (show TyRow V6 33 _ _ _ by rw [hV]; exact ty_row2 TY5.out KA5.out)
      clear hV
      refine hK.out _ _ (HS.out _ CB6.out) (fun hHeld => ?_)
      clear hK K
      skip
      refine wpAnyH_take (i := 11) (oi := ⟨some 5, _, _, _, _, _⟩) (v := ?_) rfl (by kernel_rfl) (by kernel_rfl) (by kernel_rfl) (fun _ _ _ h => h) (Or.inl ⟨by rfl, ?_⟩) (by assumption) ?_; rotate_left; (intro w hSw; (try dsimp only at hSw); go_simp; (try with_reducible rfl)); (try simp only [Act.put, List.setIfInBounds_toArray, List.set_cons_zero, List.set_cons_succ])
      refine wpAnyH_done (by kernel_rfl) ?_ _
      go_wp2
      go_meet
      exact ⟨_, _, _, rfl, rfl, KA6.out, LB4.out, TY6.out, CB6.out⟩
  obtain ⟨B, la', lc', rfl, rfl, kB, hB, hty, hbc⟩ := hcut
  have hpc := keepB HP.out hbc
  have HFIN := Lib.hid (put_fin2 (y := .int .u64 T.1.1) hpc hbc hty)
  have b0 := cell_of_heap (o := 0) kB rfl
  have b1 := cell_of_heap (o := 1) kB rfl
  have p1 := cell_of_heap (o := 1) hpc rfl
  have p2 := cell_of_heap (o := 2) hpc rfl
  have g1 := frozen_of_heap (o := 1) hpc
  have g2 := frozen_of_heap (o := 2) hpc
  obtain ⟨⟨ep', ls'⟩, er⟩ := T
  simp only [] at b0 b1 HFIN ⊢
  clear HS HAP kB hty hbc hpc
  by_cases her : er = 0
  · subst her
    go_wp2_with fail
    go_ret
    exact ⟨rfl, _, HFIN.out⟩
  · have h1 : ((er : Int) == 0) = false := by simp; omega
    go_wp2_with fail
    go_ret
    exact ⟨by first | rfl | (simp [her]), _, HFIN.out⟩

set_option maxRecDepth 100000 in
set_option maxHeartbeats 1000000 in
theorem move_14 (us : List Upd) (leave add : Int) (en : List Int) (a : Option Addr) (uc : Nat) (nv : Value) (w : World) (hus : UpsAt w (.slice a us.length uc) us) (hn : us.length ≤ 300) (fus : ∀ u ∈ us, u.fits) (hnv : WordsAt w nv en) (hnl : en.length ≤ 1073741824) (hlv : -9223372036854775808 ≤ leave ∧ leave ≤ 9223372036854775807) (had : U32 add) :
    Calls Tryz.prog 14 #[.slice a us.length uc, .agg #[.int .i64 leave, .int .u32 add, nv]] w fun e w' => ∃ ov, e = .returned ov ∧ UpsAt w' ov (allF (moveR leave add en) us) ∧ Below w.heap.size w w' := by
  obtain ⟨na, nc, rfl⟩ := hnv.slice
  obtain ⟨w1, hw1⟩ : ∃ w1, w1 = w.alloc (.cells #[.int .i64 leave, .int .u32 add, .slice na en.length nc] 36) := ⟨_, rfl⟩
  have hb1 : Below w.heap.size w w1 := by rw [hw1]; exact one_below _ _
  have hs1 : w1.heap.size = w.heap.size + 1 := by rw [hw1]; simp
  have hy1 : w1.heap[w.heap.size]? = some (.cells #[.int .i64 leave, .int .u32 add, .slice na en.length nc] 36 (0, 0)) := by rw [hw1]; exact heap_alloc_new _ _
  have hk := all_32 (moveR leave add en) 34 #[.pointer (some ⟨w.heap.size, 0, none⟩)] (enters_of Tryz.func34 (by kernel_rfl) rfl) us a uc w1 w1.heap.size rfl (hus.below hb1) hn fus (fun u p rv lv outs W hu hps hJ hp hut => by
    have hbw : Below w1.heap.size w1 W := hJ.1
    have hbb : Below w.heap.size w W := hb1.trans (hbw.mono (by omega))
    refine (move1_34 u leave add en p w.heap.size rv lv _ W hp hut.loops (fus u hu) ((hbw.block _ (by omega)).trans hy1) (hnv.below hbb) hnl hlv had).mono ?_
    rintro e W' ⟨lv', rfl, hp', ht', hb', hk'⟩
    exact ⟨rv, lv', rfl, hp', ⟨(hut.kt hk').row, ht'⟩, hb', hk'⟩)
  rw [hw1] at hk
  have HK := Lib.hid hk
  clear hk hw1 hb1 hs1 hy1
  go_enter Tryz.func14, Tryz.ntmps14
  go_wp2_with (go_at_call 32; refine HK.out.mono ?_; rintro e w5 ⟨ov, rfl, ho, hb5⟩)
  go_ret
  exact ⟨ov, rfl, ho, (one_below _ _).trans (hb5.mono (by simp))⟩
end Go.Proofs.YtlpehdhgdpeoeaaGreatDoor
