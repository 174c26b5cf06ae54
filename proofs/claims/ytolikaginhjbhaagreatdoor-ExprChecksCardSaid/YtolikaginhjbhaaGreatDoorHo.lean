import Derived.Test.YtolikaginhjbhaaGreatDoorL
/- What a part that may be is. -/
namespace Go.Proofs.YtolikaginhjbhaaGreatDoor

theorem own_inv {ok : Dat → Bool} {e : ET} (h : e.own ok = true) : kidsOk e.op e.kids.length = true ∧ (e.op = 1 → 0 ≤ e.col ∧ e.col ≤ 9999) ∧ (e.op ≠ 1 → e.col = 0) ∧ (e.op = 2 → ok e.lit = true) ∧ (e.op = 23 → e.lit = ⟨3, false, e.lit.int, ⟨#[]⟩⟩ ∧ 1 ≤ e.lit.int ∧ e.lit.int ≤ 65535) ∧ (e.op ≠ 2 → e.op ≠ 23 → e.lit = Dat.zero) := by
  simp only [ET.own, Bool.and_eq_true] at h
  obtain ⟨⟨h1, h2⟩, h3⟩ := h
  refine ⟨h1, fun e1 => ?_, fun e1 => ?_, fun e2 => ?_, fun e3 => ?_, fun e2 e3 => ?_⟩
  · rw [if_pos e1] at h2; exact of_decide_eq_true h2
  · rw [if_neg e1] at h2; exact of_decide_eq_true h2
  · rw [if_pos e2] at h3; exact h3
  · rw [if_neg (by omega), if_pos e3] at h3; exact of_decide_eq_true h3
  · rw [if_neg e2, if_neg e3] at h3; exact of_decide_eq_true h3

theorem own_mk {ok : Dat → Bool} {o c : Int} {d : Dat} {ks : List ET} (h : ET.own ok (.mk o c d ks) = true) : kidsOk o ks.length = true ∧ (o = 1 → 0 ≤ c ∧ c ≤ 9999) ∧ (o ≠ 1 → c = 0) ∧ (o = 2 → ok d = true) ∧ (o = 23 → d = ⟨3, false, d.int, ⟨#[]⟩⟩ ∧ 1 ≤ d.int ∧ d.int ≤ 65535) ∧ (o ≠ 2 → o ≠ 23 → d = Dat.zero) := own_inv h
theorem zero_inv {d : Dat} (h : d = Dat.zero) : d.kind = 0 ∧ d.bool = false ∧ d.int = 0 ∧ d.text = ⟨#[]⟩ := by subst h; exact ⟨rfl, rfl, rfl, rfl⟩
theorem fail_inv {d : Dat} (h : d = ⟨3, false, d.int, ⟨#[]⟩⟩) : d.kind = 3 ∧ d.bool = false ∧ d.text = ⟨#[]⟩ := by rw [h]; exact ⟨rfl, rfl, rfl⟩
end Go.Proofs.YtolikaginhjbhaaGreatDoor
