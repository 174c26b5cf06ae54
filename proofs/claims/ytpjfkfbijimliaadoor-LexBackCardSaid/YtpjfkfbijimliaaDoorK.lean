import Derived.Test.YtpjfkfbijimliaaDoorJ
namespace Go.Proofs.YtpjfkfbijimliaaDoor
open Go.RowKit Go.Pen

def hexv (c : UInt8) : Int :=
  if 48 ≤ c.toNat ∧ c.toNat ≤ 57 then (c.toNat : Int) - 48 else if 97 ≤ c.toNat ∧ c.toNat ≤ 102 then (c.toNat : Int) - 97 + 10 else if 65 ≤ c.toNat ∧ c.toNat ≤ 70 then (c.toNat : Int) - 65 + 10 else -1

theorem hex_66 (c : UInt8) (w : World) : Calls Tryd.prog 66 #[.int .u8 c.toNat] w fun e w' => e = .returned (.int .i64 (hexv c)) ∧ w' = w := by
  go_enter Tryd.func66, Tryd.ntmps66
  go_wp2_with fail
  refine (digit_27 c _).mono ?_
  rintro _ _ ⟨rfl, rfl⟩
  by_cases h0 : 48 ≤ c.toNat ∧ c.toNat ≤ 57
  · have hd : dig c = true := by simp [dig, h0.1, h0.2]
    obtain ⟨h1, h2⟩ := h0
    rw [hd]
    have hv : hexv c = (c.toNat : Int) - 48 := by rw [hexv, if_pos ⟨h1, h2⟩]
    go_wp2_with fail
    go_ret
    exact ⟨by rw [hv]; rfl, rfl⟩
  · have hd : dig c = false := by
      cases h : dig c
      · rfl
      · exact absurd (dig_iff h) h0
    rw [hd]
    by_cases h3 : 97 ≤ c.toNat ∧ c.toNat ≤ 102
    · have hv : hexv c = (c.toNat : Int) - 97 + 10 := by rw [hexv, if_neg h0, if_pos h3]
      have hd1 : decide (97 ≤ (c.toNat : Int)) = true := by simp; omega
      have hd2 : decide ((c.toNat : Int) ≤ 102) = true := by simp; omega
      go_wp2_with fail
      go_ret
      exact ⟨by rw [hv]; rfl, rfl⟩
    · by_cases h4 : 65 ≤ c.toNat ∧ c.toNat ≤ 70
      · have hv : hexv c = (c.toNat : Int) - 65 + 10 := by rw [hexv, if_neg h0, if_neg h3, if_pos h4]
        have hd0 : decide (97 ≤ (c.toNat : Int)) = false := by simp; omega
        have hd1 : decide (65 ≤ (c.toNat : Int)) = true := by simp; omega
        have hd2 : decide ((c.toNat : Int) ≤ 70) = true := by simp; omega
        go_wp2_with fail
        go_ret
        exact ⟨by rw [hv]; rfl, rfl⟩
      · have hv : hexv c = -1 := by rw [hexv, if_neg h0, if_neg h3, if_neg h4]
        go_wp2_with fail
        all_goals first | (exfalso; omega) | (go_ret; exact ⟨by first | rfl | (rw [hv]; rfl), rfl⟩)

/-- what stands for a letter behind a backslash -/
def esc1 (c : UInt8) : Option UInt8 := if c.toNat = 92 then some 92 else if c.toNat = 110 then some 10 else if c.toNat = 114 then some 13 else if c.toNat = 116 then some 9 else none

theorem escape_67 (c : UInt8) (w : World) : Calls Tryd.prog 67 #[.int .u8 c.toNat] w fun e w' => e = .returned (match esc1 c with | some b => .tuple #[.int .u8 b.toNat, .bool true] | none => .tuple #[.int .u8 0, .bool false]) ∧ w' = w := by
  have hn : (c.toNat : Int) = 92 ∨ (c.toNat : Int) = 110 ∨ (c.toNat : Int) = 114 ∨ (c.toNat : Int) = 116 ∨ (¬ (c.toNat : Int) = 92 ∧ ¬ (c.toNat : Int) = 110 ∧ ¬ (c.toNat : Int) = 114 ∧ ¬ (c.toNat : Int) = 116) := by omega
  rcases hn with h | h | h | h | ⟨h1, h2, h3, h4⟩
  · have he : esc1 c = some 92 := by simp [esc1, show c.toNat = 92 by omega]
    rw [he]
    go_enter Tryd.func67, Tryd.ntmps67
    go_wp2_with fail
    exact bodyPost_ret (v := .tuple #[.int .u8 92, .bool true]) (by simp [results, Tryd.results67, go_sem]) rfl ⟨rfl, rfl⟩
  · have he : esc1 c = some 10 := by simp [esc1, show c.toNat = 110 by omega]
    rw [he]
    go_enter Tryd.func67, Tryd.ntmps67
    go_wp2_with fail
    exact bodyPost_ret (v := .tuple #[.int .u8 10, .bool true]) (by simp [results, Tryd.results67, go_sem]) rfl ⟨rfl, rfl⟩
  · have he : esc1 c = some 13 := by simp [esc1, show c.toNat = 114 by omega]
    rw [he]
    go_enter Tryd.func67, Tryd.ntmps67
    go_wp2_with fail
    exact bodyPost_ret (v := .tuple #[.int .u8 13, .bool true]) (by simp [results, Tryd.results67, go_sem]) rfl ⟨rfl, rfl⟩
  · have he : esc1 c = some 9 := by simp [esc1, show c.toNat = 116 by omega]
    rw [he]
    go_enter Tryd.func67, Tryd.ntmps67
    go_wp2_with fail
    exact bodyPost_ret (v := .tuple #[.int .u8 9, .bool true]) (by simp [results, Tryd.results67, go_sem]) rfl ⟨rfl, rfl⟩
  · have he : esc1 c = none := by rw [esc1, if_neg (by omega), if_neg (by omega), if_neg (by omega), if_neg (by omega)]
    rw [he]
    have g1 : ((c.toNat : Int) == 92) = false := by simpa using h1
    have g2 : ((c.toNat : Int) == 110) = false := by simpa using h2
    have g3 : ((c.toNat : Int) == 114) = false := by simpa using h3
    have g4 : ((c.toNat : Int) == 116) = false := by simpa using h4
    go_enter Tryd.func67, Tryd.ntmps67
    go_wp2_with fail
    exact bodyPost_ret (v := .tuple #[.int .u8 0, .bool false]) (by simp [results, Tryd.results67, go_sem]) rfl ⟨rfl, rfl⟩
end Go.Proofs.YtpjfkfbijimliaaDoor
