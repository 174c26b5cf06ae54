/- the reference's Reserved. -/
import Derived.Test.YtpjfkfbijimliaaDoorZd
namespace Go.Proofs.YtpjfkfbijimliaaDoor
open Go.RowKit Go.Pen

/-- the language's words -/
def rws : List Bytes := [[97, 108, 108], [97, 110, 100], [97, 115], [97, 115, 99], [98, 101, 103, 105, 110], [98, 111, 111, 108], [98, 121], [99, 97, 115, 101], [99, 111, 97, 108, 101, 115, 99, 101], [99, 111, 109, 109, 105, 116], [99, 111, 117, 110, 116], [99, 114, 101, 97, 116, 101], [100, 101, 108, 101, 116, 101], [100, 101, 115, 99], [100, 105, 115, 116, 105, 110, 99, 116], [100, 114, 111, 112], [101, 108, 115, 101], [101, 110, 100], [101, 120, 99, 101, 112, 116], [101, 120, 105, 115, 116, 115], [102, 97, 108, 115, 101], [102, 114, 111, 109], [103, 114, 111, 117, 112], [104, 97, 118, 105, 110, 103], [105, 110], [105, 110, 115, 101, 114, 116], [105, 110, 116], [105, 110, 116, 101, 114, 115, 101, 99, 116], [105, 110, 116, 111], [105, 115], [106, 111, 105, 110], [108, 101, 102, 116], [108, 101, 110, 103, 116, 104], [108, 105, 109, 105, 116], [109, 97, 116, 101, 114, 105, 97, 108, 105, 122, 101, 100], [109, 97, 120], [109, 105, 110], [109, 117, 116, 117, 97, 108, 108, 121], [110, 111, 116], [110, 117, 108, 108], [111, 102], [111, 102, 102, 115, 101, 116], [111, 110], [111, 114], [111, 114, 100, 101, 114], [114, 101, 99, 117, 114, 115, 105, 118, 101], [114, 111, 108, 108, 98, 97, 99, 107], [115, 101, 108, 101, 99, 116], [115, 117, 98, 115, 99, 114, 105, 98, 101], [115, 117, 109], [116, 97, 98, 108, 101], [116, 101, 120, 116], [116, 104, 101, 110], [116, 114, 117, 101], [117, 110, 105, 111, 110], [118, 97, 108, 117, 101, 115], [118, 105, 101, 119], [119, 104, 101, 110], [119, 104, 101, 114, 101], [119, 105, 116, 104]]
def rwv : List Value := rws.map fun l => Value.string ⟨l.toArray⟩

set_option maxRecDepth 100000 in
theorem words_36 (w : World) :
    Calls Tryd.prog 36 #[] w fun e w' => e = .returned (.slice (some ⟨w.heap.size, 0, none⟩) 60 60) ∧ w' = w.alloc (.cells rwv.toArray 9) := by
  go_enter Tryd.func36, Tryd.ntmps36
  go_wp2_with fail
  go_ret
  exact ⟨rfl, rfl⟩

theorem rws_len : rws.length = 60 := rfl

set_option maxRecDepth 100000 in
set_option maxHeartbeats 2000000 in
theorem reserved_22 (t : ByteArray) (w : World) :
    Calls Tryd.prog 22 #[.string t] w fun e w' => e = .returned (.bool (rws.contains t.data.toList)) ∧ Below w.heap.size w w' := by
  obtain ⟨A, hA⟩ : ∃ A, rws.contains t.data.toList = A := ⟨_, rfl⟩
  rw [hA]
  have HA := Lib.hid hA
  clear hA
  have htl : t.toList = t.data.toList := ByteArray.toList_eq ..
  have HTL := Lib.hid htl
  clear htl
  go_enter Tryd.func22, Tryd.ntmps22
  go_wp2_with fail
  refine (words_36 w).mono ?_
  rintro _ w1 ⟨rfl, hw1⟩
  have hbw : Below w.heap.size w w1 := by rw [hw1]; exact (Below.refl _ _).alloc (Nat.le_refl _) _
  have hH : w1.heap[w.heap.size]? = some (.cells rwv.toArray 9 (0, 0)) := by rw [hw1]; exact Array.getElem?_push_size
  obtain ⟨H, hHe⟩ : ∃ H, w.heap.size = H := ⟨_, rfl⟩
  have HHE := Lib.hid hHe
  rw [hHe] at hH hbw ⊢
  clear hw1 hHe
  go_wp2_with fail
  go_loop [4] (fun i => ∃ m : Nat, m ≤ 60 ∧ i = .int .i64 m ∧ (rws.take m).contains t.data.toList = false) (fun i => 60 - (intOf i).toNat)
  case atStart => exact ⟨0, Nat.zero_le _, rfl, rfl⟩
  case round =>
    obtain ⟨m, hm, rfl, hno⟩ := hrel
    have HNO := Lib.hid hno
    clear hno
    rcases Nat.lt_or_ge m 60 with hlt | hge
    · obtain ⟨x, hx⟩ : ∃ x, rws[m]? = some x := ⟨_, List.getElem?_eq_getElem (by rw [rws_len]; exact hlt)⟩
      have hcx : w1.cell? ⟨H, m, none⟩ = some (.string ⟨x.toArray⟩) := cell_of_heap hH (by simp [rwv, hx])
      have hd : decide ((m : Int) < 60) = true := by simp; omega
      have HX := Lib.hid hx
      clear hx hH
      by_cases hxe : x = t.data.toList
      · have he : (x == t.toList) = true := by rw [HTL.out, hxe]; simp
        have hT : A = true := by
          rw [← HA.out, List.contains_iff_mem, ← hxe]
          exact List.mem_of_getElem? HX.out
        subst hT
        clear hxe
        go_wp2_with fail
        go_ret
        exact ⟨rfl, by rw [HHE.out]; exact hbw⟩
      · have he : (x == t.toList) = false := by rw [HTL.out]; simpa using hxe
        have HS : Hid ((rws.take (m + 1)).contains t.data.toList = false) := Lib.hid (by
          rw [List.take_add_one, HX.out, Bool.eq_false_iff]
          intro h
          rw [List.contains_iff_mem, List.mem_append] at h
          rcases h with h | h
          · have h2 := HNO.out
            rw [Bool.eq_false_iff] at h2
            exact h2 (List.contains_iff_mem.2 h)
          · simp at h; exact hxe h.symm)
        clear hxe
        go_wp2_with fail
        exact ⟨⟨m + 1, hlt, by simp, HS.out⟩, by simp [intOf]; omega⟩
    · have hd : decide ((m : Int) < 60) = false := by simp; omega
      obtain rfl : m = 60 := by omega
      have hF := HNO.out
      rw [show rws.take 60 = rws from rfl, HA.out] at hF
      subst hF
      clear hH
      go_wp2_with fail
      go_ret
      exact ⟨rfl, by rw [HHE.out]; exact hbw⟩
end Go.Proofs.YtpjfkfbijimliaaDoor
