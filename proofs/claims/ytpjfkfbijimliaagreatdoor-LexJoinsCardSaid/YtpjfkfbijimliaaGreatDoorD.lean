import Derived.Test.YtpjfkfbijimliaaGreatDoorC
import Derived.Lib.SmallJoins
namespace Go.Proofs.YtpjfkfbijimliaaGreatDoor
open Go.RowKit Go.Pen

def sgs : List Bytes := [[60, 62], [60, 61], [62, 61], [124, 124], [40], [41], [44], [46], [59], [61], [60], [62], [43], [45], [42], [47], [37]]
def sgn (l : Bytes) : Bytes := (sgs.find? fun x => x.isPrefixOf l).getD []
def sgv : List Value := sgs.map fun l => Value.string ⟨l.toArray⟩
abbrev Spaces (w : World) : Prop := Lib.TabIs Tryz.prog w "strings.asciiSpace" .u8 Lib.asciiSpaceTab

def sgText : ByteArray := ⟨#[60, 62, 32, 60, 61, 32, 62, 61, 32, 124, 124, 32, 40, 32, 41, 32, 44, 32, 46, 32, 59, 32, 61, 32, 60, 32, 62, 32, 43, 32, 45, 32, 42, 32, 47, 32, 37]⟩
set_option maxRecDepth 100000 in
theorem sg_fields : Lib.fields sgText.data.toList = sgs := by decide

set_option maxRecDepth 100000 in
theorem sg_ascii : ∀ b ∈ sgText.data.toList, b.toNat < 128 := by decide

theorem signs_58 (w : World) (ht : Spaces w) :
    Calls Tryz.prog 40 #[] w fun e w' => e = .returned (.slice (some ⟨w.heap.size, 0, none⟩) 17 17) ∧ w' = w.alloc (.cells sgv.toArray 9) := by
  have hf := Tryz.strings_Fields sgText w (by decide) (fun j b hb => sg_ascii b (List.mem_of_getElem? hb)) ht
  rw [sg_fields] at hf
  go_enter Tryz.func40, Tryz.ntmps40
  go_wp2_with fail
  refine hf.mono ?_
  rintro _ _ ⟨rfl, rfl⟩
  go_wp2_with fail
  go_ret
  exact ⟨rfl, rfl⟩

theorem signs_45 (w : World) :
    Calls Tryz.prog 47 #[] w fun e w' => e = .returned (.slice (some ⟨w.heap.size, 0, none⟩) 17 17) ∧ w' = w.alloc (.cells sgv.toArray 9) := by
  go_enter Tryz.func47, Tryz.ntmps47
  go_wp2_with fail
  go_ret
  exact ⟨rfl, rfl⟩

theorem sgn_hit {l x : Bytes} {k : Nat} (h : sgn l = ((sgs.drop k).find? fun x => x.isPrefixOf l).getD []) (hx : sgs[k]? = some x) (hp : x.isPrefixOf l = true) : sgn l = x := by
  rw [h, List.drop_eq_getElem_cons (List.getElem?_eq_some_iff.1 hx).1, (List.getElem?_eq_some_iff.1 hx).2, List.find?_cons, hp]
  rfl
theorem sgn_miss {l x : Bytes} {k : Nat} (h : sgn l = ((sgs.drop k).find? fun x => x.isPrefixOf l).getD []) (hx : sgs[k]? = some x) (hp : x.isPrefixOf l = false) : sgn l = ((sgs.drop (k + 1)).find? fun x => x.isPrefixOf l).getD [] := by
  rw [h, List.drop_eq_getElem_cons (List.getElem?_eq_some_iff.1 hx).1, (List.getElem?_eq_some_iff.1 hx).2, List.find?_cons, hp]

def SgRel (w1 : World) (l : Bytes) (k : Nat) (wr : World) : Prop := Below w1.heap.size w1 wr ∧ sgn l = ((sgs.drop k).find? fun x => x.isPrefixOf l).getD []

set_option maxRecDepth 100000 in
set_option maxHeartbeats 2000000 in
theorem sign_39 (B : Nat) (s : ByteArray) (k : Nat) (w : World) (hB : LexIs w B s k) (hk : k ≤ s.size) (ht : Spaces w) :
    Calls Tryz.prog 21 #[.pointer (some ⟨B, 0, none⟩)] w fun e w' => e = .returned (.string ⟨(sgn (s.data.toList.drop k)).toArray⟩) ∧ Below w.heap.size w w' := by
  go_enter Tryz.func21, Tryz.ntmps21
  go_wp2_with fail
  refine (signs_58 w ht).mono ?_
  rintro _ _ ⟨rfl, rfl⟩
  obtain ⟨w1, hw1⟩ : ∃ w1, w1 = w.alloc (.cells sgv.toArray 9) := ⟨_, rfl⟩
  rw [← hw1]
  have hbw : Below w.heap.size w w1 := by rw [hw1]; exact (Below.refl _ _).alloc (Nat.le_refl _) _
  have hH : w1.heap[w.heap.size]? = some (.cells sgv.toArray 9 (0, 0)) := by rw [hw1]; exact Array.getElem?_push_size
  have hL1 : LexIs w1 B s k := (hbw.block B (lt_of_heap hB)).trans hB
  obtain ⟨H, hHe⟩ : ∃ H, w.heap.size = H := ⟨_, rfl⟩
  rw [hHe] at hH hbw ⊢
  have hHlt := lt_of_heap hH
  have hBlt := lt_of_heap hL1
  have hsz : H ≤ w1.heap.size := Nat.le_of_lt hHlt
  clear hw1
  go_wp2_with fail
  go_loopw [7] (fun i wr => ∃ m : Nat, m ≤ 17 ∧ i = .int .i64 m ∧ SgRel w1 (s.data.toList.drop k) m wr) (fun i _ => 17 - (intOf i).toNat)
  case atStart => exact ⟨0, Nat.zero_le _, rfl, Below.refl _ _, rfl⟩
  case round =>
    obtain ⟨m, hm, rfl, hr⟩ := hrel
    obtain ⟨hbr, hsg⟩ := hr
    have hLr : LexIs wr B s k := (hbr.block B hBlt).trans hL1
    have hHr : wr.heap[H]? = some (.cells sgv.toArray 9 (0, 0)) := (hbr.block H hHlt).trans hH
    have hc0 : wr.cell? ⟨B, 0, none⟩ = some (.string s) := cell_of_heap hLr rfl
    have hc1 : wr.cell? ⟨B, 1, none⟩ = some (.int .i64 k) := cell_of_heap hLr rfl
    rcases Nat.lt_or_ge m 17 with hlt | hge
    · obtain ⟨x, hx⟩ : ∃ x, sgs[m]? = some x := ⟨_, List.getElem?_eq_getElem (by simpa [sgs] using hlt)⟩
      have hcx : wr.cell? ⟨H, m, none⟩ = some (.string ⟨x.toArray⟩) := cell_of_heap hHr (by simp [sgv, hx])
      have hd : decide ((m : Int) < 17) = true := by simp; omega
      go_wp2_with fail
      go_quiet ((go_at_call 41; exact Calls.quiet_of_same (Tryz.strings_HasPrefix _ _ _)))
      rw [ext_list]
      have hpe : Lib.hasPrefix (s.data.toList.drop k) (⟨x.toArray⟩ : ByteArray).data.toList = x.isPrefixOf (s.data.toList.drop k) := rfl
      rw [hpe]
      cases hp : x.isPrefixOf (s.data.toList.drop k)
      · go_wp2_with fail
        go_roundw
        case rel => exact ⟨m + 1, by omega, by simp, Go.Pen.below_drewN hbr, sgn_miss hsg hx hp⟩
        case measure => simp [intOf]; omega
      · go_wp2_with fail
        go_ret
        exact ⟨by rw [hsg.symm.trans (sgn_hit hsg hx hp)]; rfl, (hbw.trans ((Go.Pen.below_drewN hbr).mono hsz))⟩
    · have hd : decide ((m : Int) < 17) = false := by simp; omega
      obtain rfl : m = 17 := by omega
      go_wp2_with fail
      go_ret
      rw [hHe]
      exact ⟨by rw [hsg]; rfl, hbw.trans (hbr.mono hsz)⟩

theorem ext_take (s : ByteArray) (k n : Nat) : (s.extract k (k + n)).data.toList = (s.data.toList.drop k).take n := by
  rw [Lib.extract_data, Nat.add_sub_cancel_left]

theorem pre_take {l x : Bytes} : (l.take x.length == x) = x.isPrefixOf l := by
  rw [Bool.eq_iff_iff, beq_iff_eq, List.isPrefixOf_iff_prefix, List.prefix_iff_eq_take, eq_comm]

set_option maxRecDepth 100000 in
set_option maxHeartbeats 2000000 in
theorem sign_29 (s : ByteArray) (k : Nat) (w : World) (hk : k ≤ s.size) (hs : s.size ≤ 16384) :
    Calls Tryz.prog 27 #[.string s, .int .i64 k] w fun e w' => e = .returned (.string ⟨(sgn (s.data.toList.drop k)).toArray⟩) ∧ Below w.heap.size w w' := by
  go_enter Tryz.func27, Tryz.ntmps27
  go_wp2_with fail
  refine (signs_45 w).mono ?_
  rintro _ _ ⟨rfl, rfl⟩
  obtain ⟨w1, hw1⟩ : ∃ w1, w1 = w.alloc (.cells sgv.toArray 9) := ⟨_, rfl⟩
  rw [← hw1]
  have hbw : Below w.heap.size w w1 := by rw [hw1]; exact (Below.refl _ _).alloc (Nat.le_refl _) _
  have hH : w1.heap[w.heap.size]? = some (.cells sgv.toArray 9 (0, 0)) := by rw [hw1]; exact Array.getElem?_push_size
  obtain ⟨H, hHe⟩ : ∃ H, w.heap.size = H := ⟨_, rfl⟩
  rw [hHe] at hH hbw ⊢
  have hHlt := lt_of_heap hH
  have hsz : H ≤ w1.heap.size := Nat.le_of_lt hHlt
  clear hw1
  go_wp2_with fail
  go_loopw [6] (fun i wr => ∃ m : Nat, m ≤ 17 ∧ i = .int .i64 m ∧ SgRel w1 (s.data.toList.drop k) m wr) (fun i _ => 17 - (intOf i).toNat)
  case atStart => exact ⟨0, Nat.zero_le _, rfl, Below.refl _ _, rfl⟩
  case round =>
    obtain ⟨m, hm, rfl, hr⟩ := hrel
    obtain ⟨hbr, hsg⟩ := hr
    have hHr : wr.heap[H]? = some (.cells sgv.toArray 9 (0, 0)) := (hbr.block H hHlt).trans hH
    rcases Nat.lt_or_ge m 17 with hlt | hge
    · obtain ⟨x, hx⟩ : ∃ x, sgs[m]? = some x := ⟨_, List.getElem?_eq_getElem (by simpa [sgs] using hlt)⟩
      have hcx : wr.cell? ⟨H, m, none⟩ = some (.string ⟨x.toArray⟩) := cell_of_heap hHr (by simp [sgv, hx])
      have hd : decide ((m : Int) < 17) = true := by simp; omega
      have hxl : x.length ≤ 2 := (by decide : ∀ y ∈ sgs, y.length ≤ 2) x (List.mem_of_getElem? hx)
      have hxs : (⟨x.toArray⟩ : ByteArray).size = x.length := by simp [ByteArray.size]
      have hll : (s.data.toList.drop k).length = s.size - k := by rw [List.length_drop, len_list]
      by_cases hfit : k + x.length ≤ s.size
      · have hd1 : decide ((k : Int) + (x.length : Int) ≤ (s.size : Int)) = true := by simp; omega
        have hpt := pre_take (l := s.data.toList.drop k) (x := x)
        go_wp2_with fail
        go_quiet (fail)
        rw [Lib.extract_toList, Nat.add_sub_cancel_left, hpt]
        cases hp : x.isPrefixOf (s.data.toList.drop k)
        · go_wp2_with fail
          go_roundw
          case rel => exact ⟨m + 1, by omega, by simp, Go.Pen.below_drewN hbr, sgn_miss hsg hx hp⟩
          case measure => simp [intOf]; omega
        · go_wp2_with fail
          go_ret
          rw [hHe]
          exact ⟨by rw [sgn_hit hsg hx hp]; rfl, (hbw.trans ((Go.Pen.below_drewN hbr).mono hsz))⟩
      · have hd1 : decide ((k : Int) + (x.length : Int) ≤ (s.size : Int)) = false := by simp; omega
        have hp : x.isPrefixOf (s.data.toList.drop k) = false := by
          cases h : x.isPrefixOf (s.data.toList.drop k)
          · rfl
          · have := (List.isPrefixOf_iff_prefix.1 h).length_le; omega
        go_wp2_with fail
        go_quiet (fail)
        go_wp2_with fail
        go_roundw
        case rel => exact ⟨m + 1, by omega, by simp, Go.Pen.below_drewN hbr, sgn_miss hsg hx hp⟩
        case measure => simp [intOf]; omega
    · have hd : decide ((m : Int) < 17) = false := by simp; omega
      obtain rfl : m = 17 := by omega
      go_wp2_with fail
      go_ret
      rw [hHe]
      exact ⟨by rw [hsg]; rfl, hbw.trans (hbr.mono hsz)⟩
end Go.Proofs.YtpjfkfbijimliaaGreatDoor
