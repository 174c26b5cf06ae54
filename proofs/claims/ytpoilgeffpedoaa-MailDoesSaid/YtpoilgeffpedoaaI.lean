import Derived.Test.YtpoilgeffpedoaaH
namespace Go.Proofs.Ytpoilgeffpedoaa
open Go.RowKit Go.Pen
attribute [local go_sem ↓] Go.wp_at_zero Go.wp_at_succ

theorem new_box (b n r : Nat) (D : Nat → Nat → Prop) (σ : Nat → Nat → WaySt) (w : World) (h1 : 1 ≤ n) (h2 : n ≤ 8) (h3 : 1 ≤ r) (h4 : r ≤ 64) (hbs : b ≤ w.heap.size) (hW : Ways b w D (fun _ => r) σ) :
    Calls Try.prog 6 #[.int .i64 n, .int .i64 r] w fun e w' => e = .returned (.tuple #[.pointer (some ⟨w.heap.size + 1, 0, none⟩), .int .u16 0]) ∧ BoxIs w' (w.heap.size + 1) w.heap.size n r ∧
      Ways b w' (fun L k => D L k ∨ L = w.heap.size ∧ k < n * n) (fun _ => r) (fun L k => if L = w.heap.size then ⟨none, 0, []⟩ else σ L k) ∧ Below w.heap.size w w' := by
  refine (new_ok n r w h1 h2 h3 h4).mono ?_
  rintro e w' ⟨rfl, rfl⟩
  refine ⟨rfl, ?_, ways_new b w n r h3 hbs D σ hW, ((Below.refl _ _).alloc (Nat.le_refl _) _).alloc (by simp) _⟩
  obtain ⟨w1, hw1⟩ : ∃ w1, w1 = w.alloc (.cells (madeCells #[.slice none 0 0, .int .i64 0, .int .i64 0] (n * n * 3)) 103) := ⟨_, rfl⟩
  have h1 : w1.heap.size = w.heap.size + 1 := by rw [hw1]; simp
  rw [← hw1, BoxIs, ← h1]
  exact heap_alloc_new _ _

theorem lens_of_ways {b : Nat} {w : World} {D : Nat → Nat → Prop} {r : Nat → Nat} {σ : Nat → Nat → WaySt} {L n : Nat} (hW : Ways b w D r σ) (hD : ∀ k, k < n * n → D L k) : LensAre w L n (fun k => (σ L k).q.length) := fun k hk => by
  have h := hW.1 L k (hD k hk)
  have h0 := h.c0
  cases hr : (σ L k).ring with
  | none => rw [hr] at h0; exact ⟨_, _, _, _, h0, h.c1, h.c2⟩
  | some g => rw [hr] at h0; exact ⟨_, _, _, _, h0, h.c1, h.c2⟩

theorem msg_open {w : World} {n : Int} {bs : Nat} {lv ev : Value} {ra : Option Addr} {rc : Nat} (h : MsgIs w bs (msgOf n) lv (.slice ra 1 rc) ev) :
    ∃ u d dc, ra = some ⟨u, 0, none⟩ ∧ u < w.heap.size ∧ d < w.heap.size ∧ w.cell? ⟨u, 0, none⟩ = some (.slice (some ⟨d, 0, none⟩) 1 dc) ∧ w.cell? ⟨d, 2, none⟩ = some (.int .i64 n) := by
  obtain ⟨xs, hr, hel⟩ := h.rows
  obtain ⟨rv, lv', a0, a1, a2, a3, hrow, hlp⟩ := hel 0 _ rfl
  obtain ⟨u, uc, hu, _, hul⟩ := hr.form (by simp [msgOf])
  obtain ⟨d, dc, hd, _, hdl⟩ := hrow.form (by simp)
  simp only [Value.slice.injEq] at hu
  obtain ⟨rfl, _, rfl⟩ := hu
  subst hd
  exact ⟨u, d, dc, rfl, hul, hdl, (ownsRow_heap hr).2.2.2 0 _ a0, (ownsRow_heap hrow).2.2.2 2 _ rfl⟩

set_option maxRecDepth 100000 in
set_option maxHeartbeats 2000000 in
theorem known_any (w : World) : Calls Try.prog 8 #[] w fun e w' => e = .returned (.bool true) ∧ Below w.heap.size w w' := by
  go_enter Try.func8, Try.ntmps8
  go_wp2_with fail
  refine (new_box w.heap.size 2 1 (fun _ _ => False) (fun _ _ => ⟨none, 0, []⟩) w (by omega) (by omega) (by omega) (by omega) (Nat.le_refl _) (ways_none _ _ _ _)).mono ?_
  rintro e w1 ⟨rfl, hB1, hW1, hb1⟩
  obtain ⟨b, hb⟩ : ∃ b, b = w.heap.size := ⟨_, rfl⟩
  obtain ⟨L, hL⟩ : ∃ L, L = b := ⟨_, rfl⟩
  obtain ⟨B, hB⟩ : ∃ B, B = b + 1 := ⟨_, rfl⟩
  obtain ⟨D, hD⟩ : ∃ D : Nat → Nat → Prop, D = fun L' k => False ∨ L' = b ∧ k < 2 * 2 := ⟨_, rfl⟩
  obtain ⟨σ1, hσ1⟩ : ∃ σ1 : Nat → Nat → WaySt, σ1 = fun L' k => if L' = b then ⟨none, 0, []⟩ else ⟨none, 0, []⟩ := ⟨_, rfl⟩
  rw [← hb] at hB1 hW1 hb1 ⊢
  rw [← hD, ← hσ1] at hW1
  rw [← hB, ← hL] at hB1
  rw [← hB]
  have hDk : ∀ k, k < 2 * 2 → D L k := fun k hk => by rw [hD]; exact .inr ⟨hL, hk⟩
  have q1 : ∀ k, (σ1 L k).q = [] := fun k => by rw [hσ1]; simp [hL]
  have HD := Lib.hid hDk
  have Q1 := Lib.hid q1
  have Hbw := Lib.hid hb
  have HB1 := Lib.hid hB1
  have HW1 := Lib.hid hW1
  have Hb1 := Lib.hid hb1
  clear hL hB hB1 hW1 hb1 hb hD hσ1 hDk q1
  go_wp2_with fail
  refine (message_any 1 _).mono ?_
  rintro e w2 ⟨rfl, hm2, hb2⟩
  have HM2 := Lib.hid hm2
  have HB2 : Hid (BoxIs w2 B L 2 1) := show _ = _ from (hb2.block B (lt_of_heap HB1.out)).trans HB1.out
  have HW2 := Lib.hid (HW1.out.below hb2)
  have hbs1 : b ≤ w1.heap.size := by have := Hb1.out.size; have := Hbw.out; omega
  have Hb2 : Hid (Below b w w2) := Hb1.out.trans (hb2.mono hbs1)
  clear hm2 hb2
  go_wp2_with fail
  refine (send_yes b B L 2 1 0 1 D σ1 w2 HB2.out (by omega) (by omega) (by omega) (by omega) HW2.out (HD.out 1 (by omega)) (by rw [Q1.out]; simp) (msgOf 1) _ _ _ _ _ _ HM2.out (msgOf_ok 1)).mono ?_
  rintro e w3 ⟨rfl, s3, hs3, hW3, ht3⟩
  rw [Q1.out] at hs3
  obtain ⟨a1, ha1⟩ : ∃ a1, a1 = w2.heap.size := ⟨_, rfl⟩
  obtain ⟨c1, hc1⟩ : ∃ c1, c1 = w3.heap.size := ⟨_, rfl⟩
  rw [← ha1, ← hc1] at hs3
  clear ha1 hc1
  have HB3 : Hid (BoxIs w3 B L 2 1) := HW2.out.keep (HD.out 1 (by omega)) ht3 HB2.out (by decide) (by decide)
  have Hb3 : Hid (Below b w w3) := Hb2.out.trans (HW2.out.turn_below (HD.out 1 (by omega)) ht3)
  obtain ⟨σ3, hσ3⟩ : ∃ σ3, σ3 = upd σ1 L (0 * 2 + 1) s3 := ⟨_, rfl⟩
  rw [← hσ3] at hW3
  have q3 : (σ3 L 1).q = [(msgOf 1).at a1 c1] ∧ ∀ k, k ≠ 1 → (σ3 L k).q = [] := by
    rw [hσ3]
    refine ⟨by rw [upd_same, hs3]; rfl, fun k hk => ?_⟩
    rw [upd_ne (by omega)]; exact Q1.out k
  have Q3 := Lib.hid q3
  have HW3 := Lib.hid hW3
  clear hs3 hσ3 q3 hW3 ht3
  go_wp2_with fail
  refine (message_any 2 _).mono ?_
  rintro e w4 ⟨rfl, hm4, hb4⟩
  have hbs3 : b ≤ w3.heap.size := by have := Hb3.out.size; have := Hbw.out; omega
  have HB4 : Hid (BoxIs w4 B L 2 1) := show _ = _ from (hb4.block B (lt_of_heap HB3.out)).trans HB3.out
  have HW4 := Lib.hid (HW3.out.below hb4)
  have Hb4 : Hid (Below b w w4) := Hb3.out.trans (hb4.mono hbs3)
  clear hm4 hb4
  go_wp2_with fail
  refine (send_no b B L 2 1 0 1 D σ3 w4 HB4.out (by omega) (by omega) (by omega) HW4.out (HD.out 1 (by omega)) (by rw [Q3.out.1]; rfl) _ _ _ _ _ _ _).mono ?_
  rintro e w5 ⟨rfl, hb5⟩
  have hbs4 : b ≤ w4.heap.size := by have := Hb4.out.size; have := Hbw.out; omega
  have HB5 : Hid (BoxIs w5 B L 2 1) := show _ = _ from (hb5.block B (lt_of_heap HB4.out)).trans HB4.out
  have HW5 := Lib.hid (HW4.out.below hb5)
  have Hb5 : Hid (Below b w w5) := Hb4.out.trans (hb5.mono hbs4)
  clear hb5
  go_wp2_with fail
  refine (message_any 2 _).mono ?_
  rintro e w6 ⟨rfl, hm6, hb6⟩
  have hbs5 : b ≤ w5.heap.size := by have := Hb5.out.size; have := Hbw.out; omega
  have HM6 := Lib.hid hm6
  have HB6 : Hid (BoxIs w6 B L 2 1) := show _ = _ from (hb6.block B (lt_of_heap HB5.out)).trans HB5.out
  have HW6 := Lib.hid (HW5.out.below hb6)
  have Hb6 : Hid (Below b w w6) := Hb5.out.trans (hb6.mono hbs5)
  clear hm6 hb6
  go_wp2_with fail
  refine (send_yes b B L 2 1 0 0 D σ3 w6 HB6.out (by omega) (by omega) (by omega) (by omega) HW6.out (HD.out 0 (by omega)) (by rw [Q3.out.2 0 (by omega)]; simp) (msgOf 2) _ _ _ _ _ _ HM6.out (msgOf_ok 2)).mono ?_
  rintro e w7 ⟨rfl, s7, hs7, hW7, ht7⟩
  rw [show 0 * 2 + 0 = 0 from rfl, Q3.out.2 0 (by omega)] at hs7
  obtain ⟨a2, ha2⟩ : ∃ a2, a2 = w6.heap.size := ⟨_, rfl⟩
  obtain ⟨c2, hc2⟩ : ∃ c2, c2 = w7.heap.size := ⟨_, rfl⟩
  rw [← ha2, ← hc2] at hs7
  clear ha2 hc2
  have HB7 : Hid (BoxIs w7 B L 2 1) := HW6.out.keep (HD.out 0 (by omega)) ht7 HB6.out (by decide) (by decide)
  have Hb7 : Hid (Below b w w7) := Hb6.out.trans (HW6.out.turn_below (HD.out 0 (by omega)) ht7)
  obtain ⟨σ7, hσ7⟩ : ∃ σ7, σ7 = upd σ3 L (0 * 2 + 0) s7 := ⟨_, rfl⟩
  rw [← hσ7] at hW7
  have q7 : (σ7 L 0).q = [(msgOf 2).at a2 c2] ∧ (σ7 L 1).q = [(msgOf 1).at a1 c1] ∧ (σ7 L 2).q = [] ∧ (σ7 L 3).q = [] := by
    rw [hσ7]
    refine ⟨by rw [upd_same, hs7]; rfl, ?_, ?_, ?_⟩
    · rw [upd_ne (by omega)]; exact Q3.out.1
    · rw [upd_ne (by omega)]; exact Q3.out.2 2 (by omega)
    · rw [upd_ne (by omega)]; exact Q3.out.2 3 (by omega)
  have Q7 := Lib.hid q7
  have HW7 := Lib.hid hW7
  clear hs7 hσ7 q7 hW7 ht7
  go_wp2_with fail
  have hL7 : L < w7.heap.size := lt_of_heap (HW7.out.1 L 0 (HD.out 0 (by omega))).blk.choose_spec
  refine (ready_any B L 2 1 (fun k => (σ7 L k).q.length) w7 HB7.out (by omega) (by omega) hL7 (lens_of_ways HW7.out HD.out)).mono ?_
  rintro e w8 ⟨v8, rfl, hr8⟩
  have hidx : readyIdx (fun k => (σ7 L k).q.length) (2 * 2) = [0, 1] := by
    simp [readyIdx, List.range_succ, Q7.out.1, Q7.out.2.1, Q7.out.2.2.1, Q7.out.2.2.2]
  obtain ⟨ho8, hb8⟩ := hr8
  rw [hidx] at ho8
  obtain ⟨g8, cap8, hv8, hg8, hlt8⟩ := ho8.form (by simp)
  rw [hv8] at ho8 ⊢
  have HO8 := Lib.hid ho8
  have HB8 : Hid (BoxIs w8 B L 2 1) := show _ = _ from (hb8.block B (lt_of_heap HB7.out)).trans HB7.out
  have HW8 := Lib.hid (HW7.out.below hb8)
  have hbs7 : b ≤ w7.heap.size := by have := Hb7.out.size; have := Hbw.out; omega
  have Hb8 : Hid (Below b w w8) := Hb7.out.trans (hb8.mono hbs7)
  have H8g : Hid (b ≤ g8) := show b ≤ g8 by omega
  clear ho8 hb8 hidx hL7 hv8 hg8
  go_wp2_with fail
  refine (take_yes b B L 2 1 0 1 D σ7 w8 HB8.out (by omega) (by omega) (by omega) (by omega) HW8.out (HD.out 1 (by omega)) ((msgOf 1).at a1 c1) [] Q7.out.2.1).mono ?_
  rintro e w9 ⟨la, lc, ra, rc, ea, ec, rfl, hm9, s9, hs9, hW9, ht9⟩
  have HB9 : Hid (BoxIs w9 B L 2 1) := HW8.out.keep (HD.out 1 (by omega)) ht9 HB8.out (by decide) (by decide)
  have Hb9 : Hid (Below b w w9) := Hb8.out.trans (HW8.out.turn_below (HD.out 1 (by omega)) ht9)
  have HO9 : Hid (w9.ownsRow w7.heap.size 81 2 (.slice (some ⟨g8, 0, none⟩) 2 cap8) 2 (pairCells 2 [0, 1])) := ownsRow_frame HO8.out fun x hx => by
    obtain ⟨_, _, cur, hc⟩ := ownsRow_block HO8.out hx
    rw [HW8.out.keep (HD.out 1 (by omega)) ht9 hc (by decide) (by decide), hc]
  obtain ⟨σ9, hσ9⟩ : ∃ σ9, σ9 = upd σ7 L (0 * 2 + 1) s9 := ⟨_, rfl⟩
  rw [← hσ9] at hW9
  have q9 : (σ9 L 1).q = [] := by rw [hσ9, show (1 : Nat) = 0 * 2 + 1 from rfl, upd_same, hs9]
  have Q9 := Lib.hid q9
  have HW9 := Lib.hid hW9
  have HM9 : Hid (MsgIs w9 a1 (msgOf 1) (.slice la 0 lc) (.slice ra 1 rc) (.slice ea 0 ec)) := ⟨hm9.is.loops, hm9.is.rows, hm9.is.errs⟩
  clear hs9 hσ9 q9 hW9 ht9 hm9
  go_wp2_with fail
  obtain ⟨wa, hwa⟩ : ∃ wa, wa = w9.alloc (.cells #[.int .i64 ((msgOf 1).at a1 c1).node, .bool ((msgOf 1).at a1 c1).out, .int .i64 ((msgOf 1).at a1 c1).port, .int .u64 ((msgOf 1).at a1 c1).epoch, .slice la ((msgOf 1).at a1 c1).ln lc, .slice ra ((msgOf 1).at a1 c1).rows.length rc, .slice ea ((msgOf 1).at a1 c1).errs.length ec] 31) := ⟨_, rfl⟩
  obtain ⟨mb, emb⟩ : ∃ mb, mb = w9.heap.size := ⟨_, rfl⟩
  have hba : Below w9.heap.size w9 wa := by rw [hwa]; exact (Below.refl _ _).alloc (Nat.le_refl _) _
  have hmb : wa.heap[mb]? = some (.cells #[.int .i64 0, .bool false, .int .i64 0, .int .u64 0, .slice la 0 lc, .slice ra 1 rc, .slice ea 0 ec] 31 (0, 0)) := by rw [hwa, emb]; exact heap_alloc_new _ _
  rw [← hwa, ← emb]
  have hbs9 : b ≤ w9.heap.size := by have := Hb9.out.size; have := Hbw.out; omega
  have HBa : Hid (BoxIs wa B L 2 1) := show _ = _ from (hba.block B (lt_of_heap HB9.out)).trans HB9.out
  have HWa := Lib.hid (HW9.out.below hba)
  have Hba : Hid (Below b w wa) := Hb9.out.trans (hba.mono hbs9)
  have HOa := Lib.hid (Below.ownsRow' hba HO9.out)
  have HMa := Lib.hid (HM9.out.below hba)
  have HMB := Lib.hid hmb
  clear hwa emb hba hmb
  refine (take_none B L 2 1 0 1 (σ9 L (0 * 2 + 1)) wa HBa.out (by omega) (by omega) (by omega) (HWa.out.1 L _ (HD.out 1 (by omega))) Q9.out).mono ?_
  rintro e wb ⟨rfl, hbb⟩
  have hbsa : b ≤ wa.heap.size := by have := Hba.out.size; have := Hbw.out; omega
  have Hbb : Hid (Below b w wb) := Hba.out.trans (hbb.mono hbsa)
  have HOb := Lib.hid (Below.ownsRow' hbb HOa.out)
  have HMb := Lib.hid (HMa.out.below hbb)
  have HMBb : Hid (wb.heap[mb]? = _) := (hbb.block mb (lt_of_heap HMB.out)).trans HMB.out
  obtain ⟨u, d, dc, rfl, hu, hd, cu, cd⟩ := msg_open HMb.out
  have c5 : wb.cell? ⟨mb, 5, none⟩ = some (.slice (some ⟨u, 0, none⟩) 1 rc) := cell_of_heap HMBb.out rfl
  have hmbs : mb < wb.heap.size := lt_of_heap HMBb.out
  obtain ⟨hg8, _, _, cg⟩ := ownsRow_heap HOb.out
  have g0 : wb.cell? ⟨g8, 0, none⟩ = some (.int .i64 0) := cg 0 _ rfl
  have g1 : wb.cell? ⟨g8, 1, none⟩ = some (.int .i64 0) := cg 1 _ rfl
  have g2 : wb.cell? ⟨g8, 2, none⟩ = some (.int .i64 0) := cg 2 _ rfl
  have g3 : wb.cell? ⟨g8, 3, none⟩ = some (.int .i64 1) := cg 3 _ rfl
  clear hbb cg
  go_wp2_with fail
  refine (new_zero 1 _).mono ?_
  rintro e wc ⟨rfl, rfl⟩
  have eq0 : ∀ z, (Op.equalIn 10000 81 (.agg #[.int .i64 0, .int .i64 0]) (.agg #[.int .i64 0, .int .i64 0])).run Try.prog z = .ok true z := fun _ => by kernel_rfl
  have eq1 : ∀ z, (Op.equalIn 10000 81 (.agg #[.int .i64 0, .int .i64 1]) (.agg #[.int .i64 0, .int .i64 1])).run Try.prog z = .ok true z := fun _ => by kernel_rfl
  go_wp2_with fail
  go_ret
  refine ⟨rfl, ?_⟩
  have hq : w.heap.size ≤ wb.heap.size := Hbb.out.size
  rw [← Hbw.out] at hq ⊢
  exact Hbb.out.alloc hq _
end Go.Proofs.Ytpoilgeffpedoaa
