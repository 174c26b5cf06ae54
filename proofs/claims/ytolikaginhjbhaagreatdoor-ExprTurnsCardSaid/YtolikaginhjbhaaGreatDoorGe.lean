import Derived.Test.YtolikaginhjbhaaGreatDoorGa
import Derived.Test.YtolikaginhjbhaaGreatDoorGc
/- A row of numbers that came in, opened. -/
namespace Go.Proofs.YtolikaginhjbhaaGreatDoor
open Go.RowKit Go.Pen

section
variable {H : Type} {enc : TypeId × Value → H} {w : World} {base : Nat} {spare : Nat → Bool} {held : Bool}

theorem range_ne {α : Type} {q : Nat → α} {len : Nat} (hne : (List.range len).map q ≠ []) : 0 < len := by
  rcases Nat.eq_zero_or_pos len with e | h
  · subst e; exact absurd rfl hne
  · exact h

set_option maxRecDepth 100000 in
theorem open_ints {fuel : Nat} {cs : List Value} {x : DataW H × List MemPlace} (h : DataW.trod enc Tryz.prog w base spare held fuel 44 cs = some x) (hw : ∀ n ∈ x.1.weights Tryz.prog 44, n ≤ reachBytes) :
    ∃ a c xs, cs = [.slice a (List.length xs) c] ∧ IntsAt w (.slice a xs.length c) xs ∧ xs.length ≤ 17592186043904 := by
  rcases Go.Deep.open_slice1 Tryz.underlying44 (by kernel_rfl) h with h0 | ⟨a, len, cap, m, n, V, D, Pl, rfl, hb, hl, hm, hmm, rfl, hx⟩
  · exact ⟨none, 0, [], h0.1, ⟨none, 0, rfl, fun _ => rfl, fun h => absurd rfl h⟩, by simp⟩
  have hlm : len ≤ m := by rw [hmm]; split <;> omega
  have hwl : len ≤ 17592186043904 := by
    have h1 : (len + (m - len)) * 8 ≤ reachBytes := by
      refine hw _ ?_
      have hb : Tryz.prog.bytesOf 3 = 8 := by kernel_rfl
      simp [DataW.weights, Tryz.underlying44, hb]
    unfold reachBytes at h1
    omega
  have each : ∀ i, i < len → ∃ z : Int, w.cell? (a.add i) = some (.int .i64 z) := fun i hi => by
    obtain ⟨h1, h2⟩ := hx i (by omega)
    obtain ⟨n0, e0, -, -⟩ := DataW.trod_int Tryz.underlying3 h2
    simp at e0
    exact ⟨n0, by rw [h1, e0]⟩
  obtain ⟨q, hq⟩ := Go.Deep.choose_lt each
  refine ⟨some a, cap, (List.range len).map q, by simp, ⟨some a, cap, by simp, (fun h => by cases h), fun hne => ?_⟩, by simpa using hwl⟩
  have h0 := range_ne hne
  have h0c := hq 0 h0
  rw [add_zero'] at h0c
  obtain ⟨bl, off, rfl⟩ := addr_plain h0c
  refine ⟨bl, off, rfl, fun i y hy => ?_⟩
  obtain ⟨hi, rfl⟩ := range_at hy
  have := hq i hi
  rwa [Go.Pen.add_lit] at this
end
end Go.Proofs.YtolikaginhjbhaaGreatDoor
