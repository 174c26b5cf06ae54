/- ref digits 30. -/
import Derived.Test.YtpjfkfbijimliaaGreatDoorJ
import Derived.Lib.ItoaLen
import Derived.Lib.ItoaMem
import Derived.Deep.RegionHeld3
import Derived.Deep.RegionWith
namespace Go.Proofs.YtpjfkfbijimliaaGreatDoor
open Go.RowKit Go.Pen

theorem new_lt (w : World) (o : Obj) : w.heap.size < (w.alloc o).drew.heap.size := by
  have : (w.alloc o).drew.heap.size = w.heap.size + 1 := by simp
  rw [this]; exact Nat.lt_succ_self _
theorem new_cell (w : World) (c : UInt8) : (w.alloc (.cells #[.int .u8 c.toNat] 5)).drew.cell? ⟨w.heap.size, 0, none⟩ = some (.int .u8 c.toNat) := cell_of_heap (heap_alloc_new w _) rfl

set_option maxRecDepth 100000 in
set_option maxHeartbeats 4000000 in
theorem digits_30 (u : Nat) (hu : u ≤ 9223372036854775807) (w : World) :
    Calls Tryz.prog 30 #[.int .u64 u] w fun e w' => e = .returned (.string ⟨(Lib.decDigits u).toArray⟩) ∧ Below w.heap.size w w' := by
  induction u using Nat.strongRecOn generalizing w with
  | ind u ih =>
    have hconv : ∀ (W : World) (b : Nat) (c : UInt8), W.cell? ⟨b, 0, none⟩ = some (.int .u8 c.toNat) → (convert 56 9 (.slice (some ⟨b, 0, none⟩) 1 1)).run Tryz.prog W = .ok (.string ⟨#[c]⟩) W := fun W b c hc =>
      run_convert_bytes_back (P := Tryz.prog) W 56 9 5 ⟨b, 0, none⟩ 1 [c] Tryz.underlying56 Tryz.underlying5 Tryz.underlying9 (fun j hj => by
        obtain rfl : j = 0 := by simp at hj; omega
        exact hc)
    by_cases h10 : u < 10
    · have hd : decide ((u : Int) < 10) = true := by simp; omega
      rw [Lib.decDigits_one h10]
      obtain ⟨c, hcu⟩ : ∃ c : UInt8, UInt8.ofNat (48 + u) = c := ⟨_, rfl⟩
      have hc : ((48 : Int) + (u : Int)) = (c.toNat : Int) := by
        rw [← hcu, UInt8.toNat_ofNat']; omega
      rw [hcu]
      clear hcu
      go_enter Tryz.func30, Tryz.ntmps30
      have hA : ∀ W : World, (convert 56 9 (.slice (some ⟨W.heap.size, 0, none⟩) 1 1)).run Tryz.prog (W.alloc (.cells #[.int .u8 c.toNat] 5)) = .ok (.string ⟨#[c]⟩) (W.alloc (.cells #[.int .u8 c.toNat] 5)) := fun W => hconv _ _ c (by simp)
      go_wp2_with fail
      go_ret
      exact ⟨rfl, (Below.refl _ _).alloc (Nat.le_refl _) _⟩
    · have hd : decide ((u : Int) < 10) = false := by simp; omega
      have hde : Lib.decDigits u = Lib.decDigits (u / 10) ++ [UInt8.ofNat (48 + u % 10)] := by rw [Lib.decDigits, dif_neg h10]
      obtain ⟨c, hcu⟩ : ∃ c : UInt8, UInt8.ofNat (48 + u % 10) = c := ⟨_, rfl⟩
      obtain ⟨q, hq⟩ : ∃ q, u / 10 = q := ⟨_, rfl⟩
      obtain ⟨r, hr⟩ : ∃ r, u % 10 = r := ⟨_, rfl⟩
      have hc : ((48 : Int) + (r : Int)) = (c.toNat : Int) := by
        rw [← hcu, UInt8.toNat_ofNat', hr]; omega
      have hr' : (u : Int).tmod 10 = (r : Int) := by rw [← hr, Int.tmod_eq_emod_of_nonneg (by omega)]; omega
      have hq' : (u : Int).tdiv 10 = (q : Int) := by rw [← hq, Int.tdiv_eq_ediv_of_nonneg (by omega)]; omega
      have hr9 : r < 10 := by omega
      have ihq := fun W => ih q (by omega) (by omega) W
      obtain ⟨DQ, hDQ⟩ : ∃ DQ : ByteArray, ⟨(Lib.decDigits q).toArray⟩ = DQ := ⟨_, rfl⟩
      have hln : DQ.size ≤ 21 := by
        have := Lib.itoa_length_le (q : Int) (by omega) (by omega)
        rw [Lib.itoa_nonneg] at this
        rw [← hDQ]; simpa [ByteArray.size] using this
      have hadd : ¬ (9223372036854775807 < DQ.size + (⟨#[c]⟩ : ByteArray).size) := by
        have : (⟨#[c]⟩ : ByteArray).size = 1 := rfl
        omega
      have hadd' : ¬ (9223372036854775807 < DQ.size + 1) := by omega
      have hres : DQ ++ (⟨#[c]⟩ : ByteArray) = ⟨(Lib.decDigits q ++ [c]).toArray⟩ := by
        rw [← hDQ]; apply ByteArray.ext; simp
      rw [hDQ] at ihq
      have IH := Lib.hid ihq
      have HRES := Lib.hid hres
      rw [hcu, hq] at hde
      have HD := Lib.hid hde
      have hwq : IntKind.u64.wrap (q : Int) = (q : Int) := by rw [IntKind.wrap_u64]; omega
      have hwr : IntKind.u8.wrap (r : Int) = (r : Int) := by rw [IntKind.wrap_u8]; omega
      have hwc : IntKind.u8.wrap (48 + (r : Int)) = (c.toNat : Int) := by rw [hc, IntKind.wrap_u8]; have := c.toNat_lt; omega
      have hA : ∀ W : World, (convert 56 9 (.slice (some ⟨W.heap.size, 0, none⟩) 1 1)).run Tryz.prog (W.alloc (.cells #[.int .u8 c.toNat] 5)) = .ok (.string ⟨#[c]⟩) (W.alloc (.cells #[.int .u8 c.toNat] 5)) := fun W => hconv _ _ c (by simp)
      have hA2 := hconv _ _ c (new_cell w c)
      clear hcu hq hr ih ihq hde hc hr9 hDQ hres hln
      go_enter Tryz.func30, Tryz.ntmps30
      go_wp2_with fail
      go_region_with (go_at_call 30; refine (IH.out _).mono ?_; rintro e w5 ⟨rfl, hb5⟩; (try (have hcB := hconv w5 w.heap.size c ((hb5.cell (p := ⟨w.heap.size, 0, none⟩) (new_lt w _)).trans (new_cell w c)))))
      all_goals (
        have HB : Hid (Below w.heap.size w w5) := Lib.hid (by first | exact (((Below.refl _ _).alloc (Nat.le_refl _) _).drew).trans (hb5.mono (Nat.le_of_lt (new_lt w _))) | exact below_undrew hb5)
        clear hb5
        go_wp2_with fail
        go_ret
        refine ⟨by show Ending.returned (.string (DQ ++ ⟨#[c]⟩)) = _; rw [HD.out, HRES.out], ?_⟩
        first | exact HB.out | exact HB.out.alloc HB.out.size _)
end Go.Proofs.YtpjfkfbijimliaaGreatDoor
