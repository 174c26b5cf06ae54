import Derived.Test.YtpjfkfbijimliaaGreatDoorK
import Derived.Lib.ConvBytes
namespace Go.Proofs.YtpjfkfbijimliaaGreatDoor
open Go.RowKit Go.Pen

/-- what stands in the slots at a round's head -/
def PuIs (a b : UInt8) (m : Nat) (v : Int) : Prop :=
  (m = 0 ∧ v = 0) ∨ (m = 1 ∧ 0 ≤ hexv a ∧ v = hexv a) ∨ (m = 2 ∧ 0 ≤ hexv a ∧ 0 ≤ hexv b ∧ v = 16 * hexv a + hexv b)

theorem hexv_le (c : UInt8) : hexv c ≤ 15 := by
  unfold hexv
  split
  · omega
  · split
    · omega
    · split <;> omega

set_option maxRecDepth 100000 in
theorem or_letters (c : UInt8) : (97 ≤ c.toNat ∧ c.toNat ≤ 122 → bits BinOp.or IntKind.u8 (c.toNat : Int) 32 = c.toNat) ∧ (65 ≤ c.toNat ∧ c.toNat ≤ 90 → bits BinOp.or IntKind.u8 (c.toNat : Int) 32 = c.toNat + 32) :=
  all_bytes (P := fun n => (97 ≤ n ∧ n ≤ 122 → bits BinOp.or IntKind.u8 (n : Int) 32 = n) ∧ (65 ≤ n ∧ n ≤ 90 → bits BinOp.or IntKind.u8 (n : Int) 32 = n + 32)) (by decide) c

set_option maxRecDepth 100000 in
set_option maxHeartbeats 4000000 in
theorem parse_76 (t : ByteArray) (a b : UInt8) (ht : t.data.toList = [a, b]) (w : World) :
    Calls Tryz.prog 82 #[.string t, .int .i64 16, .int .i64 8] w fun e w' => e = .returned (if 0 ≤ hexv a ∧ 0 ≤ hexv b then .tuple #[.int .u64 (16 * hexv a + hexv b), .nilIface] else .tuple #[.int .u64 0, .iface 116 (.int .i64 2)]) ∧ Below w.heap.size w w' := by
  have hsz : t.size = 2 := by rw [← len_list, ht]; rfl
  have hcv := Lib.run_convert_string_bytes (P := Tryz.prog) w 9 56 5 t (u := .string) Tryz.underlying9 Tryz.underlying56 Tryz.underlying5
  have hne : t.toList.isEmpty = false := by
    have : t.toList = t.data.toList := ByteArray.toList_eq ..
    rw [this, ht]; rfl
  have ha0 := Lib.bytesWorld_cell w 5 t 0 (by omega)
  have hb0 := Lib.bytesWorld_cell w 5 t 1 (by omega)
  rw [ht] at ha0 hb0
  have hbel := Lib.bytesWorld_below w 5 t
  rw [hsz] at hcv
  generalize grownCap w 2 0 5 = C at hcv
  obtain ⟨w1, hw1⟩ : ∃ w1, Lib.bytesWorld w 5 t = w1 := ⟨_, rfl⟩
  rw [hw1] at hcv ha0 hb0 hbel
  obtain ⟨H, hH⟩ : ∃ H, w.heap.size = H := ⟨_, rfl⟩
  rw [hH] at hcv ha0 hb0 hbel
  clear hw1
  go_enter Tryz.func82, Tryz.ntmps82
  go_wp2_with fail
  go_loop [12, 13, 101] (fun u v i => u = .bool false ∧ ∃ (m : Nat) (x : Int), i = .int .i64 m ∧ v = .int .u64 x ∧ PuIs a b m x) (fun _ _ i => 2 - (intOf i).toNat)
  case atStart => exact ⟨rfl, 0, 0, rfl, rfl, Or.inl ⟨rfl, rfl⟩⟩
  case round =>
    obtain ⟨rfl, m, x, rfl, rfl, hr⟩ := hrel
    have hone : m = 2 ∧ 0 ≤ hexv a ∧ 0 ≤ hexv b ∧ x = 16 * hexv a + hexv b ∨ m < 2 ∧ ∃ c : UInt8, w1.cell? ⟨H, m, none⟩ = some (.int .u8 c.toNat) ∧ 0 ≤ x ∧ x ≤ 15 ∧ (x = 0 ∨ m = 1) ∧ (0 ≤ hexv c → PuIs a b (m + 1) (x * 16 + hexv c) ∧ x * 16 + hexv c ≤ 255) ∧ (hexv c < 0 → ¬ (0 ≤ hexv a ∧ 0 ≤ hexv b)) := by
      have la := hexv_le a
      have lb := hexv_le b
      rcases hr with ⟨rfl, rfl⟩ | ⟨rfl, h1, rfl⟩ | ⟨rfl, h1, h2, h3⟩
      · exact Or.inr ⟨by omega, a, ha0, by omega, by omega, Or.inl rfl, fun h => ⟨Or.inr (Or.inl ⟨rfl, h, by omega⟩), by omega⟩, fun h => by omega⟩
      · exact Or.inr ⟨by omega, b, hb0, h1, la, Or.inr rfl, fun h => ⟨Or.inr (Or.inr ⟨rfl, h1, h, by omega⟩), by omega⟩, fun h => by omega⟩
      · exact Or.inl ⟨rfl, h1, h2, h3⟩
    rcases hone with ⟨rfl, h1, h2, rfl⟩ | ⟨hlt, c, hc, hx0, hx1, -, hnext, hbad⟩
    · have la := hexv_le a
      have lb := hexv_le b
      have hif : (0 ≤ hexv a ∧ 0 ≤ hexv b) := ⟨h1, h2⟩
      go_wp2_with fail
      exact bodyPost_ret (v := .tuple #[.int .u64 (16 * hexv a + hexv b), .nilIface]) (by simp [results, Tryz.results82, go_sem]) rfl ⟨rfl, hbel⟩
    · have hd : decide ((m : Int) < 2) = true := by simp; omega
      by_cases h0 : 48 ≤ c.toNat ∧ c.toNat ≤ 57
      · have hv : hexv c = (c.toNat : Int) - 48 := by rw [hexv, if_pos h0]
        obtain ⟨hn1, hn2⟩ := hnext (by omega)
        rw [hv] at hn1 hn2
        obtain ⟨g1, g2⟩ := h0
        have hd1 : decide (48 ≤ (c.toNat : Int)) = true := by simp; omega
        have hd2 : decide ((c.toNat : Int) ≤ 57) = true := by simp; omega
        have h95 : ((c.toNat : Int) == 95) = false := by simp; omega
        have h95' : ¬ (c.toNat : Int) = 95 := by omega
        clear hnext hbad
        have HN := Lib.hid hn1
        clear hn1
        go_wp2_with fail
        exact ⟨⟨rfl, m + 1, _, by simp, rfl, HN.out⟩, by simp [intOf]; omega⟩
      · have hol := or_let c
        obtain ⟨ol1, ol2⟩ := or_letters c
        have h95 : ((c.toNat : Int) == 95) = false ∨ (c.toNat : Int) = 95 := by
          by_cases h : (c.toNat : Int) = 95
          · exact Or.inr h
          · exact Or.inl (by simpa using h)
        obtain ⟨L, hL⟩ : ∃ L, bits BinOp.or IntKind.u8 (c.toNat : Int) 32 = L := ⟨_, rfl⟩
        rw [hL] at hol ol1 ol2
        by_cases hlet : (97 ≤ c.toNat ∧ c.toNat ≤ 122) ∨ (65 ≤ c.toNat ∧ c.toNat ≤ 90)
        · have hLr : 97 ≤ L ∧ L ≤ 122 := by omega
          have e1 : decide (48 ≤ (c.toNat : Int)) = true := by simp; omega
          have e2 : decide ((c.toNat : Int) ≤ 57) = false := by simp; omega
          have g95 : ((c.toNat : Int) == 95) = false := by simp; omega
          have e3 : decide (97 ≤ L) = true := by simp; omega
          have e4 : decide (L ≤ 122) = true := by simp; omega
          clear hol h95
          have HN := Lib.hid hnext
          have HB := Lib.hid hbad
          clear hnext hbad
          go_wp2_with fail
          refine (Tryz.internal_strconv_lower _ _).mono ?_
          rintro _ _ ⟨rfl, rfl⟩
          rw [hL]
          go_wp2_with fail
          refine (Tryz.internal_strconv_lower _ _).mono ?_
          rintro _ _ ⟨rfl, rfl⟩
          rw [hL]
          go_wp2_with fail
          refine (Tryz.internal_strconv_lower _ _).mono ?_
          rintro _ _ ⟨rfl, rfl⟩
          rw [hL]
          by_cases h16 : L ≤ 102
          · have hv : hexv c = L - 97 + 10 := by
              rw [hexv, if_neg h0]
              split
              · omega
              · rw [if_pos (by omega)]; omega
            have hn := HN.out (by omega)
            rw [hv] at hn
            obtain ⟨hn1, hn2⟩ := hn
            have HN1 := Lib.hid hn1
            clear hn1
            go_wp2_with fail
            exact ⟨⟨rfl, m + 1, _, by simp, rfl, HN1.out⟩, by simp [intOf]; omega⟩
          · have hv : hexv c = -1 := by rw [hexv, if_neg h0, if_neg (by omega), if_neg (by omega)]
            have hif := HB.out (by omega)
            go_wp2_with fail
            exact bodyPost_ret (v := .tuple #[.int .u64 0, .iface 116 (.int .i64 2)]) (by simp [results, Tryz.results82, go_sem]) rfl ⟨rfl, hbel⟩
        · have hv : hexv c = -1 := by rw [hexv, if_neg h0, if_neg (by omega), if_neg (by omega)]
          have hif := hbad (by omega)
          have hLn : ¬ (97 ≤ L ∧ L ≤ 122) := by
            intro h
            have e : (decide (97 ≤ L) && decide (L ≤ 122)) = true := by simp [h.1, h.2]
            rw [hol] at e
            simp at e
            omega
          clear hol hnext hbad ol1 ol2
          have hc3 : (decide (48 ≤ (c.toNat : Int)) = false) ∨ (decide (48 ≤ (c.toNat : Int)) = true ∧ decide ((c.toNat : Int) ≤ 57) = false) := by simp; omega
          have hl3 : (decide (97 ≤ L) = false) ∨ (decide (97 ≤ L) = true ∧ decide (L ≤ 122) = false) := by simp; omega
          rcases h95 with h95 | h95 <;> rcases hc3 with e1 | ⟨e1, e2⟩ <;> (
            try rw [h95] at hL
            go_wp2_with fail
            refine (Tryz.internal_strconv_lower _ _).mono ?_
            rintro _ _ ⟨rfl, rfl⟩
            try rw [hL]
            rcases hl3 with e3 | ⟨e3, e4⟩
            · go_wp2_with fail
              exact bodyPost_ret (v := .tuple #[.int .u64 0, .iface 116 (.int .i64 2)]) (by simp [results, Tryz.results82, go_sem]) rfl ⟨rfl, hbel⟩
            · go_wp2_with fail
              refine (Tryz.internal_strconv_lower _ _).mono ?_
              rintro _ _ ⟨rfl, rfl⟩
              try rw [hL]
              go_wp2_with fail
              exact bodyPost_ret (v := .tuple #[.int .u64 0, .iface 116 (.int .i64 2)]) (by simp [results, Tryz.results82, go_sem]) rfl ⟨rfl, hbel⟩)
end Go.Proofs.YtpjfkfbijimliaaGreatDoor
