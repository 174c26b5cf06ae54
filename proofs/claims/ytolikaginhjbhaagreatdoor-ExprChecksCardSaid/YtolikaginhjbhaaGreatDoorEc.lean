import Derived.Test.YtolikaginhjbhaaGreatDoorEb
/- datum.apply. -/
namespace Go.Proofs.YtolikaginhjbhaaGreatDoor
open Go.RowKit Go.Pen Go.Shelf
attribute [local go_sem] Oper.semAt_some

def apR (k : Int) (l : List Dat) (r : Res) : Res := if (ofR k l).2 ≠ 0 then bad 13 else if (ofR k l).1 = true then (nul, 0) else r
def ResPost (r : Res) (w : World) (ev : Ending) (w' : World) : Prop := ev = .returned (resT r) ∧ Below w.heap.size w w'
theorem ofR_num (k : Int) (l : List Dat) : (ofR k l).2 = 0 ∨ (ofR k l).2 = 13 := by
  unfold ofR
  split
  · exact .inl rfl
  · exact .inr rfl

set_option maxRecDepth 100000 in
set_option maxHeartbeats 1000000 in
theorem apply_163 (k : Int) (g : FuncId) (bound : Array Value) (l : List Dat) (v : Value) (r : Res) (w : World) (hl : l.length ≤ 1000000) (hf : ∀ d ∈ l, d.fits) (hv : DatsOn (fun _ => True) w l v) (hT : Lib.Utf8Tabs 1 2 w) (h11 : 3 ≤ w.heap.size)
    (hen : ∀ args w, (callFunc g args).run Tryz.prog w = .ok (.enter g args) w)
    (hdo : (ofR k l) = (false, 0) → ∀ W, Below w.heap.size w W → Calls Tryz.prog g bound W (ResPost r W)) :
    Calls Tryz.prog 163 #[.int .u8 k, .func (.func g) #[] bound, v] w (ResPost (apR k l r) w) := by
  have hof := fun W hb => of_206 k l v W hl hf (hv.below (w' := W) hb) (tabs_below hT hb h11) (Nat.le_trans h11 hb.size)
  have HOF := Lib.hid hof
  clear hof hf hv hT
  obtain ⟨R, eR⟩ : ∃ R, R = apR k l r := ⟨_, rfl⟩
  rw [← eR]
  unfold apR at eR
  unfold OfPost at HOF
  have hnum := ofR_num k l
  generalize ofR k l = p at eR hnum HOF hdo
  obtain ⟨s, e⟩ := p
  simp only at eR hnum HOF hdo
  rcases hnum with rfl | rfl
  · cases s
    · rw [if_neg (by decide), if_neg (by decide)] at eR
      subst eR
      have HDO := Lib.hid (hdo rfl)
      clear hdo
      go_enter Tryz.func163, Tryz.ntmps163
      go_wp2_with (go_at_call 206; refine (HOF.out _ (one_below _ _)).mono ?_; rintro ev w3 ⟨rfl, hb3⟩; have t1 := one_at hb3; have HB3 := Lib.hid ((one_below _ _).trans (hb3.mono (by simp))); have T1 := Lib.hid t1; clear hb3 t1)
      refine (HDO.out w3 HB3.out).mono ?_
      rintro ev w5 ⟨rfl, hb5⟩
      have t5 := (hb5.block _ (lt_of_heap T1.out)).trans T1.out
      have T5 := Lib.hid t5
      have HB5 := Lib.hid (HB3.out.trans (hb5.mono HB3.out.size))
      have z0 := cell_of_heap (o := 0) t5 rfl
      have g0 := frozen_of_heap (o := 0) t5
      have z1 := cell_of_heap (o := 1) t5 rfl
      have g1 := frozen_of_heap (o := 1) t5
      have z2 := cell_of_heap (o := 2) t5 rfl
      have g2 := frozen_of_heap (o := 2) t5
      have z3 := cell_of_heap (o := 3) t5 rfl
      have g3 := frozen_of_heap (o := 3) t5
      clear hb5 t5
      unfold resT Dat.agg
      go_wp2
      refine bodyPost_ret (results_row_tmp rfl _ _ w.heap.size 25 _ (0, 0) _ rfl (setRow4_at T5.out) Tryz.underlying25 rfl (by kernel_rfl)) rfl ?_
      exact ⟨rfl, setRow4_below HB5.out (Nat.le_refl _)⟩
    · rw [if_neg (by decide), if_pos rfl] at eR
      subst eR
      clear hdo
      go_enter Tryz.func163, Tryz.ntmps163
      go_wp2_with (first | (go_at_call 206; refine (HOF.out _ (one_below _ _)).mono ?_; rintro ev w3 ⟨rfl, hb3⟩; have t1 := one_at hb3; have HB3 := Lib.hid ((one_below _ _).trans (hb3.mono (by simp))); have T1 := Lib.hid t1; clear hb3 t1) | (go_at_call 207; refine (null_207 _).mono ?_; rintro ev w5 ⟨rfl, hb5⟩; have t5 := (hb5.block _ (lt_of_heap T1.out)).trans T1.out; have z0 := cell_of_heap (o := 0) t5 rfl; have g0 := frozen_of_heap (o := 0) t5; have z1 := cell_of_heap (o := 1) t5 rfl; have g1 := frozen_of_heap (o := 1) t5; have z2 := cell_of_heap (o := 2) t5 rfl; have g2 := frozen_of_heap (o := 2) t5; have z3 := cell_of_heap (o := 3) t5 rfl; have g3 := frozen_of_heap (o := 3) t5; have T5 := Lib.hid t5; have HB5 := Lib.hid (HB3.out.trans (hb5.mono HB3.out.size)); unfold nul Dat.agg; clear hb5 t5))
      refine bodyPost_ret (results_row_tmp rfl _ _ w.heap.size 25 _ (0, 0) _ rfl (setRow4_at T5.out) Tryz.underlying25 rfl (by kernel_rfl)) rfl ?_
      exact ⟨rfl, setRow4_below HB5.out (Nat.le_refl _)⟩
  · rw [if_pos (by decide)] at eR
    subst eR
    clear hdo
    go_enter Tryz.func163, Tryz.ntmps163
    go_wp2_with (go_at_call 206; refine (HOF.out _ (one_below _ _)).mono ?_; rintro ev w3 ⟨rfl, hb3⟩; have t1 := one_at hb3; have HB3 := Lib.hid ((one_below _ _).trans (hb3.mono (by simp))); have T1 := Lib.hid t1; have z0 := cell_of_heap (o := 0) t1 rfl; have g0 := frozen_of_heap (o := 0) t1; have z1 := cell_of_heap (o := 1) t1 rfl; have g1 := frozen_of_heap (o := 1) t1; have z2 := cell_of_heap (o := 2) t1 rfl; have g2 := frozen_of_heap (o := 2) t1; have z3 := cell_of_heap (o := 3) t1 rfl; have g3 := frozen_of_heap (o := 3) t1; clear hb3 t1)
    refine bodyPost_ret (results_row_tmp rfl _ _ w.heap.size 25 _ (0, 0) _ rfl (setRow4_at T1.out) Tryz.underlying25 rfl (by kernel_rfl)) rfl ?_
    exact ⟨rfl, setRow4_below HB3.out (Nat.le_refl _)⟩
end Go.Proofs.YtolikaginhjbhaaGreatDoor
