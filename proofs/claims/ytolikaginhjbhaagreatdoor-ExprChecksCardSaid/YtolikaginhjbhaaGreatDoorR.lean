import Derived.Test.YtolikaginhjbhaaGreatDoorN
import Derived.Test.YtolikaginhjbhaaGreatDoorT
/- The reference's Far, Check and Turn. -/
namespace Go.Proofs.YtolikaginhjbhaaGreatDoor
open Go.RowKit Go.Pen
attribute [local go_sem] Oper.semAt_some

theorem mayB_may (e : ET) : MayB e 1 0 = e.may okD := by simp [MayB, ET.may]

set_option maxRecDepth 100000 in
set_option maxHeartbeats 400000 in
theorem check_33 (e : ET) (a : Option Addr) (n cc : Nat) (w : World) (hat : e.At w (.slice a n cc)) (hfit : e.fits) :
    Calls Tryz.prog 33 #[e.agg (.slice a n cc)] w fun ev w' => ev = .returned (.int .i64 (if e.may okD then 0 else 30)) ∧ Below w.heap.size w w' := by
  have hm := fun (W : World) (hb : Below w.heap.size w W) => may_73 e _ 1 0 W (hat.below hb) hfit (by decide) (by decide)
  unfold ET.agg at hm
  have HM := Lib.hid hm
  clear hm hat
  unfold ET.agg
  obtain ⟨X, eX⟩ : ∃ X : Int, X = if e.may okD = true then 0 else 30 := ⟨_, rfl⟩
  rw [← eX]
  have EX := Lib.hid eX
  clear eX
  go_enter Tryz.func33, Tryz.ntmps33
  go_wp2_with fail
  refine (HM.out _ (one_below _ _)).mono ?_
  rintro ev w2 ⟨B, m, rfl, hB, -, hb2⟩
  have hB2 : Below w.heap.size w w2 := (one_below _ _).trans (hb2.mono (by simp))
  rw [mayB_may] at hB
  have HB2 := Lib.hid hB2
  have HBB := Lib.hid hB
  clear hB hb2 hB2
  cases B
  · go_wp2
    go_ret
    have h := EX.out
    rw [← HBB.out] at h
    exact ⟨by rw [h]; rfl, HB2.out⟩
  · go_wp2
    go_ret
    have h := EX.out
    rw [← HBB.out] at h
    exact ⟨by rw [h]; rfl, HB2.out⟩

set_option maxRecDepth 100000 in
set_option maxHeartbeats 400000 in
theorem far_8 (e : ET) (a : Option Addr) (n cc : Nat) (w : World) (hat : e.At w (.slice a n cc)) (hfit : e.fits) :
    Calls Tryz.prog 8 #[e.agg (.slice a n cc)] w fun ev w' => ev = .returned (.bool (decide (12000 < e.weight))) ∧ Below w.heap.size w w' := by
  have hm := fun (W : World) (hb : Below w.heap.size w W) => parts_39 e _ 0 W (hat.below hb) hfit (by decide)
  unfold ET.agg at hm
  have HM := Lib.hid hm
  clear hm hat
  unfold ET.agg
  obtain ⟨X, eX⟩ : ∃ X : Bool, X = decide (12000 < e.weight) := ⟨_, rfl⟩
  rw [← eX]
  have EX := Lib.hid eX
  clear eX
  go_enter Tryz.func8, Tryz.ntmps8
  go_wp2_with fail
  refine (HM.out _ (one_below _ _)).mono ?_
  rintro ev w2 ⟨m, rfl, ⟨h1, h2, h3⟩, hb2⟩
  have hB2 : Below w.heap.size w w2 := (one_below _ _).trans (hb2.mono (by simp))
  have hq : X = decide ((12000 : Int) < (m : Int)) := by
    rw [EX.out]
    by_cases h : 12000 < e.weight
    · rw [decide_eq_true h, decide_eq_true (by have := h2 (by omega); omega)]
    · rw [decide_eq_false h, decide_eq_false (by have := h1 (by omega); omega)]
  subst hq
  clear h1 h2 hb2 EX
  go_wp2
  go_ret
  exact ⟨rfl, hB2⟩

/-- the reference's Turn -/
theorem rturn_19 (cols : List Int) (e : ET) (a : Option Addr) (cc : Nat) (va : Option Addr) (vcc : Nat) (w : World) (hfit : e.fits) (hat : e.At w (.slice a e.kids.length cc)) (hcols : IntsOn (fun _ => True) w cols (.slice va cols.length vcc)) :
    Calls Tryz.prog 19 #[e.agg (.slice a e.kids.length cc), .slice va cols.length vcc] w (T19 cols e w) :=
  turn_19 cols e a cc va vcc w hfit hat hcols fun W hb => check_33 e a _ cc W (hat.below hb) hfit
end Go.Proofs.YtolikaginhjbhaaGreatDoor
