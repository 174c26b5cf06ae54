/- the reference's Word. -/
import Derived.Test.YtpjfkfbijimliaaGreatDoorS
namespace Go.Proofs.YtpjfkfbijimliaaGreatDoor
open Go.RowKit Go.Pen

set_option maxRecDepth 100000 in
set_option maxHeartbeats 2000000 in
theorem word_20_loop (t : ByteArray) (w : World) (h32 : t.size ≤ 32) (c0 : UInt8) (hz : 0 < t.size) (hc0 : t[0] = c0) (hd0 : dig c0 = false) :
    Calls Tryz.prog 25 #[.string t] w fun e w' => e = .returned (.bool (t.data.toList.all wch)) ∧ w' = w := by
  obtain ⟨A, hA⟩ : ∃ A, t.data.toList.all wch = A := ⟨_, rfl⟩
  rw [hA]
  have HA := Lib.hid hA
  clear hA
  have hd : decide ((32 : Int) < (t.size : Int)) = false := by simp; omega
  have hd1 : decide ((t.size : Int) < 1) = false := by simp; omega
  have hi0 : (0 : Int) < (t.size : Int) := by omega
  go_enter Tryz.func25, Tryz.ntmps25
  go_wp2_with fail
  refine (digit_27 c0 _).mono ?_
  rintro _ wx ⟨rfl, hwx⟩
  rw [hwx, hd0]
  clear hwx
  go_wp2_with fail
  go_loop [3] (fun i => ∃ m : Nat, m ≤ t.size ∧ i = .int .i64 m ∧ (t.data.toList.take m).all wch = true) (fun i => t.size - (intOf i).toNat)
  case atStart => exact ⟨0, Nat.zero_le _, rfl, rfl⟩
  case round =>
    obtain ⟨p, hp, rfl, hall⟩ := hrel
    have HL := Lib.hid hall
    clear hall hc0 hd hd1 hi0
    by_cases hlt : p < t.size
    · have hdl : decide ((p : Int) < (t.size : Int)) = true := by simpa using hlt
      obtain ⟨c, cs, hcs, hcs'⟩ := drop_cons hlt
      have hget := get_of_drop hcs hlt
      have HC := Lib.hid hcs
      have HD := Lib.hid hcs'
      have hwi := wch_iff c
      have HWI := Lib.hid hwi
      clear hcs hcs' hwi
      go_wp2_with fail
      refine (digit_27 c _).mono ?_
      rintro _ wx ⟨rfl, hwx⟩
      rw [hwx]
      clear hwx
      cases hg : dig c
      · go_wp2_with fail
        refine (letter_28 c _).mono ?_
        rintro _ wx ⟨rfl, hwx⟩
        rw [hwx]
        clear hwx
        cases hl : let_ c
        · have hF := all_bad HC.out (by rw [HWI.out, hl, hg]; simp)
          rw [HA.out] at hF
          subst hF
          go_wp2_with fail
          go_ret
          exact ⟨rfl, rfl⟩
        · by_cases hup : 65 ≤ c.toNat ∧ c.toNat ≤ 90
          · have e1 : decide ((65 : Int) ≤ (c.toNat : Int)) = true := by simp; omega
            have e2 : decide ((c.toNat : Int) ≤ 90) = true := by simp; omega
            have hF := all_bad HC.out (by rw [HWI.out]; simp [hup.1, hup.2])
            rw [HA.out] at hF
            subst hF
            clear hup
            go_wp2_with fail
            go_ret
            exact ⟨rfl, rfl⟩
          · have hnu : (decide (65 ≤ c.toNat) && decide (c.toNat ≤ 90)) = false := by rw [Bool.eq_false_iff]; simp; omega
            have HS := Lib.hid (all_take_succ HL.out (by rw [HC.out, HD.out]) (by rw [HWI.out, hnu, hl]; rfl))
            have hdd : decide ((65 : Int) ≤ (c.toNat : Int)) = false ∨ (decide ((65 : Int) ≤ (c.toNat : Int)) = true ∧ decide ((c.toNat : Int) ≤ 90) = false) := by simp; omega
            clear hnu hup
            rcases hdd with e1 | ⟨e1, e2⟩ <;> (
              go_wp2_with fail
              exact ⟨⟨p + 1, hlt, by simp, HS.out⟩, by simp [intOf]; omega⟩)
      · have hnu : (decide (65 ≤ c.toNat) && decide (c.toNat ≤ 90)) = false := by
          have := dig_iff hg
          rw [Bool.eq_false_iff]; simp; omega
        have HS := Lib.hid (all_take_succ HL.out (by rw [HC.out, HD.out]) (by rw [HWI.out, hnu, hg]; simp))
        clear hnu
        go_wp2_with fail
        exact ⟨⟨p + 1, hlt, by simp, HS.out⟩, by simp [intOf]; omega⟩
    · have hdl : decide ((p : Int) < (t.size : Int)) = false := by simpa using hlt
      have hta : t.data.toList.take p = t.data.toList := List.take_of_length_le (by rw [len_list]; omega)
      have hF := HL.out
      rw [hta, HA.out] at hF
      subst hF
      clear hta
      go_wp2_with fail
      go_ret
      exact ⟨rfl, rfl⟩

set_option maxRecDepth 100000 in
set_option maxHeartbeats 2000000 in
theorem word_20 (t : ByteArray) (w : World) :
    Calls Tryz.prog 25 #[.string t] w fun e w' => e = .returned (.bool (wordB t.data.toList)) ∧ w' = w := by
  by_cases hz : 0 < t.size
  · have hd1 : decide ((t.size : Int) < 1) = false := by simp; omega
    obtain ⟨c, cs, hcs, -⟩ := drop_cons hz
    have hget := get_of_drop hcs hz
    rw [List.drop_zero] at hcs
    have hlen : t.data.toList.length = t.size := len_list t
    by_cases h32 : t.size ≤ 32
    · cases hdg : dig c
      · have := word_20_loop t w h32 c hz hget hdg
        have he : wordB t.data.toList = t.data.toList.all wch := by
          rw [wordB, hlen, hcs]
          simp [h32, hdg]
        rw [he]
        exact this
      · have he : wordB t.data.toList = false := by rw [wordB, hcs]; simp [hdg]
        rw [he]
        have hd : decide ((32 : Int) < (t.size : Int)) = false := by simp; omega
        have hi0 : (0 : Int) < (t.size : Int) := by omega
        clear hcs hlen he
        go_enter Tryz.func25, Tryz.ntmps25
        go_wp2_with fail
        refine (digit_27 c _).mono ?_
        rintro _ wx ⟨rfl, hwx⟩
        rw [hwx, hdg]
        clear hwx
        go_wp2_with fail
        go_ret
        exact ⟨rfl, rfl⟩
    · have he : wordB t.data.toList = false := by rw [wordB, hlen]; simp [h32]
      rw [he]
      have hd : decide ((32 : Int) < (t.size : Int)) = true := by simp; omega
      clear hcs hlen he hget
      go_enter Tryz.func25, Tryz.ntmps25
      go_wp2_with fail
      go_ret
      exact ⟨rfl, rfl⟩
  · have hnil : t.data.toList = [] := List.eq_nil_of_length_eq_zero (by rw [len_list]; omega)
    have he : wordB t.data.toList = false := by rw [hnil]; rfl
    rw [he]
    have hd1 : decide ((t.size : Int) < 1) = true := by simp; omega
    clear hnil he
    go_enter Tryz.func25, Tryz.ntmps25
    go_wp2_with fail
    go_ret
    exact ⟨rfl, rfl⟩
end Go.Proofs.YtpjfkfbijimliaaGreatDoor
