import Derived.Test.YtolikaginhjbhaaGreatDoorJ
import Derived.Test.YtolikaginhjbhaaGreatDoorK
/- The reference's Check of data. -/
namespace Go.Proofs.YtolikaginhjbhaaGreatDoor
open Go.RowKit Go.Pen
attribute [local go_sem] Oper.semAt_some

theorem te_t {t : ByteArray} (h : (!t.toList.isEmpty) = true) : ¬ t.toList = [] := fun e => by rw [e] at h; cases h
theorem te_f {t : ByteArray} (h : (!t.toList.isEmpty) = false) : t.toList = [] := by
  cases hl : t.toList
  · rfl
  · rw [hl] at h; cases h
theorem neg_t {r : Int} {b : Bool} (h : decide (r < 0) = !b) (hr : r < 0) : (!b) = true := by rw [← h]; exact decide_eq_true hr
theorem neg_f {r : Int} {b : Bool} (h : decide (r < 0) = !b) (hr : 0 ≤ r) : (!b) = false := by rw [← h]; exact decide_eq_false (by omega)
theorem chk_finI {d : Dat} {m c B : Nat} {w W : World} (h : chkD d = m) (h2 : chkD d = c) (h3 : Below B w W) : Ending.returned (.int .i64 (m : Int)) = Ending.returned (.int .i64 (c : Int)) ∧ Below B w W := ⟨by rw [h.symm.trans h2], h3⟩
theorem one_below (w : World) (a : Obj) : Below w.heap.size w (w.alloc a) := (Below.refl _ _).alloc (Nat.le_refl _) _

set_option maxRecDepth 100000 in
set_option maxHeartbeats 1000000 in
theorem check_105 (d : Dat) (w : World) (hf : d.fits) :
    Calls Tryz.prog 105 #[d.agg] w fun e w' => e = .returned (.int .i64 (chkD d)) ∧ Below w.heap.size w w' := by
  obtain ⟨k, b, n, t⟩ := d
  obtain ⟨c, hc⟩ : ∃ c, chkD ⟨k, b, n, t⟩ = c := ⟨_, rfl⟩
  rw [hc]
  have HC := Lib.hid hc
  have hk0 := hf.1.1
  have hk1 := hf.1.2
  have hn0 := hf.2.1.1
  have hn1 := hf.2.1.2
  have hts : t.size ≤ 140737488355328 := hf.2.2
  clear hf hc
  simp only at hk0 hk1 hn0 hn1
  have val := fun (W : World) => runes_149 t W hts
  have VAL := Lib.hid val
  clear val
  unfold Dat.agg
  simp only
  rcases (show (k = 1 ∨ k = 2 ∨ k = 3 ∨ k = 4) ∨ (k < 1 ∨ 4 < k) by omega) with (rfl | rfl | rfl | rfl) | hbad
  rotate_left 4
  · have hc : chkD ⟨k, b, n, t⟩ = 13 := chkD_13 (.inl hbad)
    obtain rfl := hc.symm.trans HC.out
    clear hc HC
    rcases hbad with hbad | hbad
    · go_enter Tryz.func105, Tryz.ntmps105
      go_wp2_with fail
      go_ret
      exact ⟨rfl, one_below _ _⟩
    · go_enter Tryz.func105, Tryz.ntmps105
      go_wp2_with fail
      go_ret
      exact ⟨rfl, one_below _ _⟩
  all_goals
    go_enter Tryz.func105, Tryz.ntmps105
    go_wp2_with (go_at_call 149; refine (VAL.out _).mono ?_; rintro _ w2 ⟨r, rfl, ⟨hv, -⟩, rfl⟩; have HV := Lib.hid hv; clear hv)
    all_goals
      go_ret
      first
        | exact chk_finI (chkD_b (by decide) (by assumption)) HC.out (one_below _ _)
        | exact chk_finI (chkD_n (by decide) (by assumption)) HC.out (one_below _ _)
        | exact chk_finI (chkD_t (by decide) (te_t (by assumption))) HC.out (one_below _ _)
        | exact chk_finI (chkD_v (neg_t HV.out (by assumption))) HC.out (one_below _ _)
        | exact chk_finI (chkD_z12 (by decide) (by first | exact .inl rfl | exact .inr (by assumption) | exact .inr (te_f (by assumption))) (by first | exact .inl rfl | exact .inr (by assumption) | exact .inr (te_f (by assumption))) (by first | exact .inl rfl | exact .inr (by assumption) | exact .inr (te_f (by assumption))) (neg_f HV.out (by assumption)) (by assumption)) HC.out (one_below _ _)
        | exact chk_finI (chkD_z0 (by decide) (by first | exact .inl rfl | exact .inr (by assumption) | exact .inr (te_f (by assumption))) (by first | exact .inl rfl | exact .inr (by assumption) | exact .inr (te_f (by assumption))) (by first | exact .inl rfl | exact .inr (by assumption) | exact .inr (te_f (by assumption))) (neg_f HV.out (by assumption)) (by assumption)) HC.out (one_below _ _)
end Go.Proofs.YtolikaginhjbhaaGreatDoor
