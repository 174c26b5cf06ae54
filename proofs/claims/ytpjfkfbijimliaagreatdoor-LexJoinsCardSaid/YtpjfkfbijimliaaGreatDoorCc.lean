/- ref Check 28, Int 13, Text 14, Print 12 of numbers and texts that may be; sign 27 of any text; right 11. -/
import Derived.Test.YtpjfkfbijimliaaGreatDoorCb
import Derived.Test.YtpjfkfbijimliaaGreatDoorZt
import Derived.Test.YtpjfkfbijimliaaGreatDoorZd
import Derived.Test.YtpjfkfbijimliaaGreatDoorBe
namespace Go.Proofs.YtpjfkfbijimliaaGreatDoor
open Go.RowKit Go.Pen

def intDat (n : Int) : Value := .agg #[.int .u8 3, .bool false, .int .i64 n, .string ⟨#[]⟩]

set_option maxRecDepth 100000 in
set_option maxHeartbeats 4000000 in
theorem int_13 (n : Int) (w : World) : Calls Tryz.prog 13 #[.int .i64 n] w fun e w' => e = .returned (intDat n) ∧ Below w.heap.size w w' := by
  have hI := heap_alloc_new w (.cells #[.int .u8 3, .bool false, .int .i64 n, .string ⟨#[]⟩] 43)
  go_enter Tryz.func13, Tryz.ntmps13
  go_wp2_with fail
  refine bodyPost_ret (v := intDat n) ?_ rfl ⟨rfl, (Below.refl _ _).alloc (Nat.le_refl _) _⟩
  exact results_cell_row rfl _ _ w.heap.size 43 _ (0, 0) _ rfl hI Tryz.underlying43 rfl (by kernel_rfl)

set_option maxRecDepth 100000 in
set_option maxHeartbeats 4000000 in
theorem text_14 (t : ByteArray) (w : World) : Calls Tryz.prog 14 #[.string t] w fun e w' => e = .returned (txtDat t) ∧ Below w.heap.size w w' := by
  have hI := heap_alloc_new w (.cells #[.int .u8 4, .bool false, .int .i64 0, .string t] 43)
  go_enter Tryz.func14, Tryz.ntmps14
  go_wp2_with fail
  refine bodyPost_ret (v := txtDat t) ?_ rfl ⟨rfl, (Below.refl _ _).alloc (Nat.le_refl _) _⟩
  exact results_cell_row rfl _ _ w.heap.size 43 _ (0, 0) _ rfl hI Tryz.underlying43 rfl (by kernel_rfl)

set_option maxRecDepth 100000 in
set_option maxHeartbeats 4000000 in
theorem checkI_28 (n : Int) (w : World) : Calls Tryz.prog 28 #[intDat n] w fun e w' => e = .returned (.int .i64 0) ∧ Below w.heap.size w w' := by
  obtain ⟨H, hH⟩ : ∃ H, w.heap.size = H := ⟨_, rfl⟩
  have HH := Lib.hid hH
  clear hH
  unfold intDat
  go_enter Tryz.func28, Tryz.ntmps28
  go_wp2_with fail
  rw [HH.out]
  generalize hw1 : World.alloc _ _ = w1
  have hb1 : Below H w w1 := by rw [← hw1]; exact (Below.refl _ _).alloc (by have := HH.out; omega) _
  have e1 : w1.heap[H]? = some (.cells #[.int .u8 3, .bool false, .int .i64 n, .string ⟨#[]⟩] 43 (0, 0)) := by
    rw [← hw1, ← HH.out]; exact heap_alloc_new w _
  have c3 : w1.cell? ⟨H, 3, none⟩ = some (.string ⟨#[]⟩) := cell_of_heap e1 rfl
  have HB := Lib.hid hb1
  clear hw1 hb1 e1
  refine (runes_65 ⟨#[]⟩ w1 (by decide)).mono ?_
  rintro _ w9 ⟨r, rfl, hr, hw⟩
  rw [hw]; clear hw
  have hd : decide (r < 0) = false := by rw [hr]; decide +kernel
  clear hr
  go_wp2_with fail
  go_ret
  exact ⟨rfl, by rw [HH.out]; exact HB.out⟩

set_option maxRecDepth 100000 in
set_option maxHeartbeats 4000000 in
theorem checkT_28 (t : ByteArray) (w : World) (hv : Lib.validD t.data.toList = true) (hl : t.size ≤ 1000) : Calls Tryz.prog 28 #[txtDat t] w fun e w' => e = .returned (.int .i64 0) ∧ Below w.heap.size w w' := by
  obtain ⟨H, hH⟩ : ∃ H, w.heap.size = H := ⟨_, rfl⟩
  have HH := Lib.hid hH
  have HV := Lib.hid hv
  clear hH hv
  unfold txtDat
  go_enter Tryz.func28, Tryz.ntmps28
  go_wp2_with fail
  rw [HH.out]
  generalize hw1 : World.alloc _ _ = w1
  have hb1 : Below H w w1 := by rw [← hw1]; exact (Below.refl _ _).alloc (by have := HH.out; omega) _
  have e1 : w1.heap[H]? = some (.cells #[.int .u8 4, .bool false, .int .i64 0, .string t] 43 (0, 0)) := by
    rw [← hw1, ← HH.out]; exact heap_alloc_new w _
  have c3 : w1.cell? ⟨H, 3, none⟩ = some (.string t) := cell_of_heap e1 rfl
  have HB := Lib.hid hb1
  clear hw1 hb1 e1
  refine (runes_65 t w1 (by omega)).mono ?_
  rintro _ w9 ⟨r, rfl, hr, hw⟩
  rw [hw]; clear hw
  have hd : decide (r < 0) = false := by rw [hr, HV.out]; rfl
  have hd1 : decide ((1000 : Int) < (t.size : Int)) = false := by simp; omega
  clear hr
  go_wp2_with fail
  go_ret
  exact ⟨rfl, by rw [HH.out]; exact HB.out⟩

set_option maxRecDepth 100000 in
set_option maxHeartbeats 4000000 in
theorem printI_12 (u : Nat) (hu : u ≤ 9223372036854775807) (w : World) : Calls Tryz.prog 12 #[intDat u] w fun e w' => e = .returned (.string ⟨(Lib.itoa u).toArray⟩) ∧ Below w.heap.size w w' := by
  obtain ⟨H, hH⟩ : ∃ H, w.heap.size = H := ⟨_, rfl⟩
  have HH := Lib.hid hH
  clear hH
  rw [Lib.itoa_nonneg]
  have hck := checkI_28 (u : Int)
  unfold intDat at hck ⊢
  have HCK := Lib.hid hck
  clear hck
  go_enter Tryz.func12, Tryz.ntmps12
  go_wp2_with fail
  rw [HH.out]
  generalize hw1 : World.alloc _ _ = w1
  have hb1 : Below H w w1 := by rw [← hw1]; exact (Below.refl _ _).alloc (by have := HH.out; omega) _
  have e1 : w1.heap[H]? = some (.cells #[.int .u8 3, .bool false, .int .i64 u, .string ⟨#[]⟩] 43 (0, 0)) := by
    rw [← hw1, ← HH.out]; exact heap_alloc_new w _
  have hz1 := lt_of_heap e1
  clear hw1
  refine (HCK.out w1).mono ?_
  rintro _ w2 ⟨rfl, hb2⟩
  have c0 : w2.cell? ⟨H, 0, none⟩ = some (.int .u8 3) := (hb2.cell (p := ⟨H, 0, none⟩) hz1).trans (cell_of_heap e1 rfl)
  have c2 : w2.cell? ⟨H, 2, none⟩ = some (.int .i64 u) := (hb2.cell (p := ⟨H, 2, none⟩) hz1).trans (cell_of_heap e1 rfl)
  have HB := Lib.hid (hb1.trans (hb2.mono (Nat.le_of_lt hz1)))
  have hd : decide ((u : Int) < 0) = false := by simp
  have hwu : IntKind.u64.wrap (u : Int) = (u : Int) := by rw [IntKind.wrap_u64]; omega
  clear hb1 hb2 e1
  go_wp2_with fail
  refine (digits_30 u hu _).mono ?_
  rintro _ w3 ⟨rfl, hb3⟩
  have HB3 := Lib.hid (HB.out.trans (hb3.mono (by have := HB.out.size; have := HH.out; omega)))
  clear hb3
  go_wp2_with fail
  go_ret
  exact ⟨rfl, by rw [HH.out]; exact HB3.out⟩

set_option maxRecDepth 100000 in
set_option maxHeartbeats 4000000 in
theorem printT_12 (t : ByteArray) (w : World) (hv : Lib.validD t.data.toList = true) (hl : t.size ≤ 1000) : Calls Tryz.prog 12 #[txtDat t] w fun e w' => e = .returned (.string ⟨(quf t.data.toList).toArray⟩) ∧ Below w.heap.size w w' := by
  obtain ⟨H, hH⟩ : ∃ H, w.heap.size = H := ⟨_, rfl⟩
  have HH := Lib.hid hH
  clear hH
  have hck := fun W => checkT_28 t W hv hl
  unfold txtDat at hck ⊢
  have HCK := Lib.hid hck
  clear hck
  go_enter Tryz.func12, Tryz.ntmps12
  go_wp2_with fail
  rw [HH.out]
  generalize hw1 : World.alloc _ _ = w1
  have hb1 : Below H w w1 := by rw [← hw1]; exact (Below.refl _ _).alloc (by have := HH.out; omega) _
  have e1 : w1.heap[H]? = some (.cells #[.int .u8 4, .bool false, .int .i64 0, .string t] 43 (0, 0)) := by
    rw [← hw1, ← HH.out]; exact heap_alloc_new w _
  have hz1 := lt_of_heap e1
  clear hw1
  refine (HCK.out w1).mono ?_
  rintro _ w2 ⟨rfl, hb2⟩
  have c0 : w2.cell? ⟨H, 0, none⟩ = some (.int .u8 4) := (hb2.cell (p := ⟨H, 0, none⟩) hz1).trans (cell_of_heap e1 rfl)
  have c3 : w2.cell? ⟨H, 3, none⟩ = some (.string t) := (hb2.cell (p := ⟨H, 3, none⟩) hz1).trans (cell_of_heap e1 rfl)
  have HB := Lib.hid (hb1.trans (hb2.mono (Nat.le_of_lt hz1)))
  clear hb1 hb2 e1
  go_wp2_with fail
  refine (quoted_29 t _ hl).mono ?_
  rintro _ w3 ⟨rfl, hb3⟩
  have HB3 := Lib.hid (HB.out.trans (hb3.mono (by have := HB.out.size; have := HH.out; omega)))
  clear hb3
  go_wp2_with fail
  go_ret
  exact ⟨rfl, by rw [HH.out]; exact HB3.out⟩

set_option maxRecDepth 100000 in
set_option maxHeartbeats 2000000 in
theorem sign_any (s : ByteArray) (k : Nat) (w : World) (hk : k ≤ s.size) (hk2 : k ≤ 16384) (hs : s.size ≤ 9223372036854775807) :
    Calls Tryz.prog 27 #[.string s, .int .i64 k] w fun e w' => e = .returned (.string ⟨(sgn (s.data.toList.drop k)).toArray⟩) ∧ Below w.heap.size w w' := by
  go_enter Tryz.func27, Tryz.ntmps27
  go_wp2_with fail
  refine (signs_45 w).mono ?_
  rintro _ _ ⟨rfl, rfl⟩
  obtain ⟨w1, hw1⟩ : ∃ w1, w1 = w.alloc (.cells sgv.toArray 9) := ⟨_, rfl⟩
  rw [← hw1]
  have hbw : Below w.heap.size w w1 := by rw [hw1]; exact (Below.refl _ _).alloc (Nat.le_refl _) _
  have hH : w1.heap[w.heap.size]? = some (.cells sgv.toArray 9 (0, 0)) := by rw [hw1]; exact Array.getElem?_push_size
  obtain ⟨H, hHe⟩ : ∃ H, w.heap.size = H := ⟨_, rfl⟩
  rw [hHe] at hH hbw ⊢
  have hHlt := lt_of_heap hH
  have hsz : H ≤ w1.heap.size := Nat.le_of_lt hHlt
  clear hw1
  go_wp2_with fail
  go_loopw [6] (fun i wr => ∃ m : Nat, m ≤ 17 ∧ i = .int .i64 m ∧ SgRel w1 (s.data.toList.drop k) m wr) (fun i _ => 17 - (intOf i).toNat)
  case atStart => exact ⟨0, Nat.zero_le _, rfl, Below.refl _ _, rfl⟩
  case round =>
    obtain ⟨m, hm, rfl, hr⟩ := hrel
    obtain ⟨hbr, hsg⟩ := hr
    have hHr : wr.heap[H]? = some (.cells sgv.toArray 9 (0, 0)) := (hbr.block H hHlt).trans hH
    rcases Nat.lt_or_ge m 17 with hlt | hge
    · obtain ⟨x, hx⟩ : ∃ x, sgs[m]? = some x := ⟨_, List.getElem?_eq_getElem (by simpa [sgs] using hlt)⟩
      have hcx : wr.cell? ⟨H, m, none⟩ = some (.string ⟨x.toArray⟩) := cell_of_heap hHr (by simp [sgv, hx])
      have hd : decide ((m : Int) < 17) = true := by simp; omega
      have hxl : x.length ≤ 2 := (by decide : ∀ y ∈ sgs, y.length ≤ 2) x (List.mem_of_getElem? hx)
      have hxs : (⟨x.toArray⟩ : ByteArray).size = x.length := by simp [ByteArray.size]
      have hll : (s.data.toList.drop k).length = s.size - k := by rw [List.length_drop, len_list]
      by_cases hfit : k + x.length ≤ s.size
      · have hd1 : decide ((k : Int) + (x.length : Int) ≤ (s.size : Int)) = true := by simp; omega
        have hpt := pre_take (l := s.data.toList.drop k) (x := x)
        go_wp2_with fail
        go_quiet (fail)
        rw [Lib.extract_toList, Nat.add_sub_cancel_left, hpt]
        cases hp : x.isPrefixOf (s.data.toList.drop k)
        · go_wp2_with fail
          go_roundw
          case rel => exact ⟨m + 1, by omega, by simp, Go.Pen.below_drewN hbr, sgn_miss hsg hx hp⟩
          case measure => simp [intOf]; omega
        · go_wp2_with fail
          go_ret
          rw [hHe]
          exact ⟨by rw [sgn_hit hsg hx hp]; rfl, (hbw.trans ((Go.Pen.below_drewN hbr).mono hsz))⟩
      · have hd1 : decide ((k : Int) + (x.length : Int) ≤ (s.size : Int)) = false := by simp; omega
        have hp : x.isPrefixOf (s.data.toList.drop k) = false := by
          cases h : x.isPrefixOf (s.data.toList.drop k)
          · rfl
          · have := (List.isPrefixOf_iff_prefix.1 h).length_le; omega
        go_wp2_with fail
        go_quiet (fail)
        go_wp2_with fail
        go_roundw
        case rel => exact ⟨m + 1, by omega, by simp, Go.Pen.below_drewN hbr, sgn_miss hsg hx hp⟩
        case measure => simp [intOf]; omega
    · have hd : decide ((m : Int) < 17) = false := by simp; omega
      obtain rfl : m = 17 := by omega
      go_wp2_with fail
      go_ret
      rw [hHe]
      exact ⟨by rw [hsg]; rfl, hbw.trans (hbr.mono hsz)⟩
end Go.Proofs.YtpjfkfbijimliaaGreatDoor
