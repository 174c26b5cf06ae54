import Derived.Test.YtpjfkfbijimliaaGreatDoorH
import Derived.Lib.SmallJoins
namespace Go.Proofs.YtpjfkfbijimliaaGreatDoor
open Go.RowKit Go.Pen

theorem dig_iff {c : UInt8} (h : dig c = true) : 48 ≤ c.toNat ∧ c.toNat ≤ 57 := by simpa [dig] using h

/-- of digits: the number, or too great -/
theorem parseU_digits (M : Nat) (hM : M ≤ 18446744073709551615) (hM1 : 9223372036854775807 ≤ M) (l : Bytes) : ∀ acc, acc ≤ M → (∀ c ∈ l, dig c = true) →
    Lib.parseUintM M acc l = if numFrom acc l ≤ M then .ok (numFrom acc l) else .range := by
  induction l with
  | nil => intro acc ha _; rw [numFrom_nil, if_pos ha, Lib.parseUintM]
  | cons c cs ih =>
    intro acc ha hd
    have hc := dig_iff (hd c List.mem_cons_self)
    have hcs : ∀ x ∈ cs, dig x = true := fun x hx => hd x (List.mem_cons_of_mem _ hx)
    have hle := le_numFrom cs (numStep acc c)
    have hst : numStep acc c = acc * 10 + (c.toNat - 48) := by rw [numStep]; omega
    rw [Lib.parseUintM, if_pos hc, numFrom_cons]
    by_cases h1 : 1844674407370955162 ≤ acc
    · rw [if_pos h1, if_neg (by omega)]
    · rw [if_neg h1]
      by_cases h2 : M < acc * 10 + (c.toNat - 48)
      · rw [if_pos h2, if_neg (by omega)]
      · rw [if_neg h2, ← hst, ih _ (by omega) hcs]

theorem parseI_digits (l : Bytes) (hne : l ≠ []) (hd : ∀ c ∈ l, dig c = true) :
    Lib.parseIntB 64 l = if num l ≤ 9223372036854775807 then .ok (num l : Int) else .range := by
  cases l with
  | nil => exact absurd rfl hne
  | cons c cs =>
    have hc := dig_iff (hd c List.mem_cons_self)
    have h1 : ¬ (c.toNat = 43 ∨ c.toNat = 45) := by omega
    have h2 : ¬ (c.toNat = 45) := by omega
    have h3 := parseU_digits (2 ^ 64 - 1) (by decide) (by decide) (c :: cs) 0 (Nat.zero_le _) hd
    simp only [Lib.parseIntB, if_neg h1, Lib.parseUintB, if_neg hne, h3]
    rw [show numFrom 0 (c :: cs) = num (c :: cs) from rfl]
    generalize num (c :: cs) = N
    by_cases h4 : N ≤ 2 ^ 64 - 1
    · rw [if_pos h4]
      by_cases h5 : N ≤ 9223372036854775807
      · simp [h2, h5]; omega
      · simp [h2, h5]; omega
    · rw [if_neg h4, if_neg (by omega)]

/-- the errors' variables -/
def Errs (w : World) : Prop := ∃ ev, w.cell? ⟨7, 0, none⟩ = some ev ∧ (ev = .nilIface ∨ ∃ te pe, ev = .iface te pe)

theorem parse_40 (t : ByteArray) (w : World) (hs : t.size ≤ 16384) (hne : t.data.toList ≠ []) (hdg : ∀ c ∈ t.data.toList, dig c = true) (he : Errs w) :
    Calls Tryz.prog 49 #[.string t, .int .i64 10, .int .i64 64] w fun e w' => (if num t.data.toList ≤ 9223372036854775807 then e = .returned (.tuple #[.int .i64 (num t.data.toList), .nilIface]) else ∃ x a, e = .returned (.tuple #[.int .i64 x, .iface 119 (.pointer (some a))])) ∧ Below w.heap.size w w' := by
  have hp := parseI_digits _ hne hdg
  by_cases h : num t.data.toList ≤ 9223372036854775807
  · rw [if_pos h] at hp
    simp only [if_pos h]
    refine (Tryz.strconv_ParseInt_10_at64_ok t (by omega) _ hp w).mono ?_
    rintro _ w' ⟨rfl, hw⟩
    refine ⟨rfl, ?_⟩
    rcases hw with rfl | ⟨u, rfl⟩
    · exact Below.refl _ _
    · exact Lib.bytesWorld_below _ _ _
  · rw [if_neg h] at hp
    simp only [if_neg h]
    obtain ⟨ev, hv, hev⟩ := he
    refine (Tryz.strconv_ParseInt_10_at64_range t (by omega) hp ev w hv hev).mono ?_
    rintro _ w' ⟨N, rfl, _, _, hb⟩
    exact ⟨⟨_, _, rfl⟩, hb⟩
end Go.Proofs.YtpjfkfbijimliaaGreatDoor
