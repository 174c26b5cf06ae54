import Derived.Test.YtpjfkfbijimliaaGreatDoorD
namespace Go.Proofs.YtpjfkfbijimliaaGreatDoor
open Go.RowKit Go.Pen

/-- does a token begin with these bytes -/
def beg : Bytes → Bool
  | [] => false
  | c :: cs => c == 39 || dig c || let_ c || !(sgn (c :: cs)).isEmpty

theorem str_ne_empty (l : Bytes) : (⟨l.toArray⟩ : ByteArray).toList.isEmpty = l.isEmpty := by
  have : (⟨l.toArray⟩ : ByteArray).toList = l := by rw [ByteArray.toList_eq]
  rw [this]

set_option maxRecDepth 100000 in
set_option maxHeartbeats 2000000 in
theorem begins_24 (B : Nat) (s : ByteArray) (k : Nat) (w : World) (hB : LexIs w B s k) (hk : k < s.size) (ht : Spaces w) :
    Calls Tryz.prog 32 #[.pointer (some ⟨B, 0, none⟩)] w fun e w' => e = .returned (.bool (beg (s.data.toList.drop k))) ∧ Below w.heap.size w w' := by
  obtain ⟨c, cs, hcs, -⟩ := drop_cons hk
  have hget := get_of_drop hcs hk
  have hc0 : w.cell? ⟨B, 0, none⟩ = some (.string s) := cell_of_heap hB rfl
  have hc1 : w.cell? ⟨B, 1, none⟩ = some (.int .i64 k) := cell_of_heap hB rfl
  have h39 : (c == 39) = ((c.toNat : Int) == 39) := byte_eq (n := 39) (by omega)
  rw [hcs, beg, h39]
  go_enter Tryz.func32, Tryz.ntmps32
  go_wp2_with fail
  go_quiet (fail)
  by_cases hq : (c.toNat : Int) = 39
  · go_wp2_with fail
    go_ret
    refine ⟨by simp [hq], Go.Pen.below_drewN (Below.refl _ _)⟩
  · have hq' : ((c.toNat : Int) == 39) = false := by simpa using hq
    go_wp2_with fail
    refine (digit_33 c _).mono ?_
    rintro _ _ ⟨rfl, rfl⟩
    cases hdg : dig c
    · go_wp2_with fail
      refine (letter_34 c _).mono ?_
      rintro _ _ ⟨rfl, rfl⟩
      cases hlt : let_ c
      · go_wp2_with fail
        refine (sign_39 B s k (w.drewN nq) hB (Nat.le_of_lt hk) ht).mono ?_
        rintro _ w2 ⟨rfl, hb2⟩
        rw [hcs]
        have hne := str_ne_empty (sgn (c :: cs))
        generalize (⟨(sgn (c :: cs)).toArray⟩ : ByteArray) = t at hne ⊢
        generalize hz : (sgn (c :: cs)).isEmpty = z at hne ⊢
        go_wp2_with fail
        go_ret
        refine ⟨by simp [hlt, hdg, hq', hz], below_undrewN hb2⟩
      · go_wp2_with fail
        go_ret
        refine ⟨by simp [hlt], Go.Pen.below_drewN (Below.refl _ _)⟩
    · go_wp2_with fail
      go_ret
      refine ⟨by simp [hdg], Go.Pen.below_drewN (Below.refl _ _)⟩
end Go.Proofs.YtpjfkfbijimliaaGreatDoor
