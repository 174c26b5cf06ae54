import Derived.Test.YtolikaginhjbhaaDoorN
import Derived.Test.YtolikaginhjbhaaDoorT
/- The reference's Far, Check and Turn. -/
namespace Go.Proofs.YtolikaginhjbhaaDoor
open Go.RowKit Go.Pen
attribute [local go_sem] Oper.semAt_some

theorem mayB_may (e : ET) : MayB e 1 0 = e.may okD := by simp [MayB, ET.may]

set_option maxRecDepth 100000 in
set_option maxHeartbeats 400000 in
theorem far_8 (e : ET) (a : Option Addr) (n cc : Nat) (w : World) (hat : e.At w (.slice a n cc)) (hfit : e.fits) :
    Calls Tryd.prog 5 #[e.agg (.slice a n cc)] w fun ev w' => ev = .returned (.bool (decide (12000 < e.weight))) ∧ Below w.heap.size w w' := by
  have hm := fun (W : World) (hb : Below w.heap.size w W) => parts_39 e _ 0 W (hat.below hb) hfit (by decide)
  unfold ET.agg at hm
  have HM := Lib.hid hm
  clear hm hat
  unfold ET.agg
  obtain ⟨X, eX⟩ : ∃ X : Bool, X = decide (12000 < e.weight) := ⟨_, rfl⟩
  rw [← eX]
  have EX := Lib.hid eX
  clear eX
  go_enter Tryd.func5, Tryd.ntmps5
  go_wp2_with fail
  refine (HM.out _ (one_below _ _)).mono ?_
  rintro ev w2 ⟨m, rfl, ⟨h1, h2, h3⟩, hb2⟩
  have hB2 : Below w.heap.size w w2 := (one_below _ _).trans (hb2.mono (by simp))
  have hq : X = decide ((12000 : Int) < (m : Int)) := by
    rw [EX.out]
    by_cases h : 12000 < e.weight
    · rw [decide_eq_true h, decide_eq_true (by have := h2 (by omega); omega)]
    · rw [decide_eq_false h, decide_eq_false (by have := h1 (by omega); omega)]
  subst hq
  clear h1 h2 hb2 EX
  go_wp2
  go_ret
  exact ⟨rfl, hB2⟩

end Go.Proofs.YtolikaginhjbhaaDoor
