import Derived.Test.YtpjfkfbijimliaaGreatDoorProg
import Derived.ProofKit
import Derived.Lib.Hide
import Derived.BigQuiet
namespace Go.Proofs.YtpjfkfbijimliaaGreatDoor
open Go.RowKit

abbrev Bytes := List UInt8
def dig (c : UInt8) : Bool := 48 ≤ c.toNat && c.toNat ≤ 57
def let_ (c : UInt8) : Bool := c.toNat == 95 || (97 ≤ c.toNat && c.toNat ≤ 122) || (65 ≤ c.toNat && c.toNat ≤ 90)

theorem all_bytes {P : Nat → Prop} [DecidablePred P] (h : ∀ n : Fin 256, P n.val) (c : UInt8) : P c.toNat := h ⟨c.toNat, c.toNat_lt⟩

set_option maxRecDepth 100000 in
theorem or_let (c : UInt8) : (decide (97 ≤ bits BinOp.or IntKind.u8 (c.toNat : Int) 32) && decide (bits BinOp.or IntKind.u8 (c.toNat : Int) 32 ≤ 122)) = ((97 ≤ c.toNat && c.toNat ≤ 122) || (65 ≤ c.toNat && c.toNat ≤ 90)) :=
  all_bytes (P := fun n => (decide (97 ≤ bits BinOp.or IntKind.u8 (n : Int) 32) && decide (bits BinOp.or IntKind.u8 (n : Int) 32 ≤ 122)) = ((97 ≤ n && n ≤ 122) || (65 ≤ n && n ≤ 90))) (by decide) c

theorem digit_33 (c : UInt8) (w : World) : Calls Tryz.prog 35 #[.int .u8 c.toNat] w fun e w' => e = .returned (.bool (dig c)) ∧ w' = w := by
  have h : dig c = (decide (48 ≤ (c.toNat : Int)) && decide ((c.toNat : Int) ≤ 57)) := by simp only [dig]; congr 1 <;> exact decide_eq_decide.mpr (by omega)
  rw [h]
  go_enter Tryz.func35, Tryz.ntmps35
  go_wp2_with fail
  all_goals go_ret
  all_goals simp_all
  all_goals first | done | omega | (apply Bool.eq_iff_iff.mpr; simp; omega)
  
theorem letter_34 (c : UInt8) (w : World) : Calls Tryz.prog 36 #[.int .u8 c.toNat] w fun e w' => e = .returned (.bool (let_ c)) ∧ w' = w := by
  have h : let_ c = (((c.toNat : Int) == 95) || (decide (97 ≤ bits BinOp.or IntKind.u8 (c.toNat : Int) 32) && decide (bits BinOp.or IntKind.u8 (c.toNat : Int) 32 ≤ 122))) := by rw [or_let, let_, Bool.or_assoc]; congr 1; exact Bool.eq_iff_iff.mpr (by simp; omega)
  rw [h]
  go_enter Tryz.func36, Tryz.ntmps36
  go_wp2_with fail
  all_goals go_ret
  all_goals simp_all
  all_goals first | done | omega | (apply Bool.eq_iff_iff.mpr; simp; omega)

theorem digit_27 (c : UInt8) (w : World) : Calls Tryz.prog 44 #[.int .u8 c.toNat] w fun e w' => e = .returned (.bool (dig c)) ∧ w' = w := by
  have h : dig c = (decide (48 ≤ (c.toNat : Int)) && decide ((c.toNat : Int) ≤ 57)) := by simp only [dig]; congr 1 <;> exact decide_eq_decide.mpr (by omega)
  rw [h]
  go_enter Tryz.func44, Tryz.ntmps44
  go_wp2_with fail
  all_goals go_ret
  all_goals simp_all
  all_goals first | done | omega | (apply Bool.eq_iff_iff.mpr; simp; omega)
  
theorem letter_28 (c : UInt8) (w : World) : Calls Tryz.prog 45 #[.int .u8 c.toNat] w fun e w' => e = .returned (.bool (let_ c)) ∧ w' = w := by
  have h : let_ c = (((c.toNat : Int) == 95) || (decide (97 ≤ (c.toNat : Int)) && decide ((c.toNat : Int) ≤ 122)) || (decide (65 ≤ (c.toNat : Int)) && decide ((c.toNat : Int) ≤ 90))) := Bool.eq_iff_iff.mpr (by simp [let_]; omega)
  rw [h]
  go_enter Tryz.func45, Tryz.ntmps45
  go_wp2_with fail
  all_goals go_ret
  all_goals simp_all
  all_goals first | done | omega | (apply Bool.eq_iff_iff.mpr; simp; omega)
end Go.Proofs.YtpjfkfbijimliaaGreatDoor
