import Derived.Test.YtolikaginhjbhaaDoorL
/- The reference's within. -/
namespace Go.Proofs.YtolikaginhjbhaaDoor
open Go.RowKit Go.Pen
attribute [local go_sem ↓] Go.wp_at_zero Go.wp_at_succ
attribute [local go_sem] Oper.semAt_some

theorem ET.withins_take {n : Int} {ks : List ET} {i : Nat} {k : ET} (hk : ks[i]? = some k) (h : ET.withins n (ks.take i) = true) (hg : k.within n = true) : ET.withins n (ks.take (i + 1)) = true := by
  rw [ET.withins_iff] at h ⊢
  intro x hx
  rw [List.take_succ_eq_append_getElem (by exact (List.getElem?_eq_some_iff.1 hk).1)] at hx
  rcases List.mem_append.1 hx with hx | hx
  · exact h x hx
  · simp at hx
    rw [(List.getElem?_eq_some_iff.1 hk).2] at hx
    subst hx; exact hg

def WiPost (b : Bool) (w : World) (ev : Ending) (w' : World) : Prop := ev = .returned (.bool b) ∧ Below w.heap.size w w'
theorem wi_mk {b c : Bool} {w w' : World} (h : c = b) (hb : Below w.heap.size w w') : WiPost b w (.returned (.bool c)) w' := ⟨by rw [h], hb⟩
theorem wi_kid {o c n : Int} {d : Dat} {ks : List ET} {k : ET} {i : Nat} (hk : ks[i]? = some k) (h : k.within n = false) : false = (ET.mk o c d ks).within n := by
  cases hw : (ET.mk o c d ks).within n
  · rfl
  · simp only [ET.within, Bool.and_eq_true, ET.withins_iff] at hw
    rw [hw.2 k (List.mem_of_getElem? hk)] at h
    cases h
theorem wi_far {o c n : Int} {d : Dat} {ks : List ET} (h1 : o = 1) (h2 : n ≤ c) : false = (ET.mk o c d ks).within n := by
  simp [ET.within, h1, h2]
theorem wi_all {o c n : Int} {d : Dat} {ks : List ET} (h : ¬ (o = 1 ∧ n ≤ c)) (hk : ET.withins n ks = true) : true = (ET.mk o c d ks).within n := by
  have h2 : (decide (o = 1) && decide (n ≤ c)) = false := by
    rw [Bool.and_eq_false_iff, decide_eq_false_iff_not, decide_eq_false_iff_not]
    by_cases h1 : o = 1
    · exact .inr fun h3 => h ⟨h1, h3⟩
    · exact .inl h1
  simp only [ET.within, hk, h2]
  rfl

end Go.Proofs.YtolikaginhjbhaaDoor
