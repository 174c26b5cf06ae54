import Derived.Test.YtpjfkfbijimliaaDoorProg
import Derived.ProofKit
import Derived.Lib.Hide
import Derived.BigQuiet
namespace Go.Proofs.YtpjfkfbijimliaaDoor
open Go.RowKit

abbrev Bytes := List UInt8
def dig (c : UInt8) : Bool := 48 ≤ c.toNat && c.toNat ≤ 57
def let_ (c : UInt8) : Bool := c.toNat == 95 || (97 ≤ c.toNat && c.toNat ≤ 122) || (65 ≤ c.toNat && c.toNat ≤ 90)

theorem all_bytes {P : Nat → Prop} [DecidablePred P] (h : ∀ n : Fin 256, P n.val) (c : UInt8) : P c.toNat := h ⟨c.toNat, c.toNat_lt⟩

set_option maxRecDepth 100000 in
theorem or_let (c : UInt8) : (decide (97 ≤ bits BinOp.or IntKind.u8 (c.toNat : Int) 32) && decide (bits BinOp.or IntKind.u8 (c.toNat : Int) 32 ≤ 122)) = ((97 ≤ c.toNat && c.toNat ≤ 122) || (65 ≤ c.toNat && c.toNat ≤ 90)) :=
  all_bytes (P := fun n => (decide (97 ≤ bits BinOp.or IntKind.u8 (n : Int) 32) && decide (bits BinOp.or IntKind.u8 (n : Int) 32 ≤ 122)) = ((97 ≤ n && n ≤ 122) || (65 ≤ n && n ≤ 90))) (by decide) c

theorem digit_33 (c : UInt8) (w : World) : Calls Tryd.prog 33 #[.int .u8 c.toNat] w fun e w' => e = .returned (.bool (dig c)) ∧ w' = w := by
  have h : dig c = (decide (48 ≤ (c.toNat : Int)) && decide ((c.toNat : Int) ≤ 57)) := by simp only [dig]; congr 1 <;> exact decide_eq_decide.mpr (by omega)
  rw [h]
  go_enter Tryd.func33, Tryd.ntmps33
  go_wp2_with fail
  all_goals go_ret
  all_goals simp_all
  all_goals first | done | omega | (apply Bool.eq_iff_iff.mpr; simp; omega)
  
theorem letter_34 (c : UInt8) (w : World) : Calls Tryd.prog 34 #[.int .u8 c.toNat] w fun e w' => e = .returned (.bool (let_ c)) ∧ w' = w := by
  have h : let_ c = (((c.toNat : Int) == 95) || (decide (97 ≤ bits BinOp.or IntKind.u8 (c.toNat : Int) 32) && decide (bits BinOp.or IntKind.u8 (c.toNat : Int) 32 ≤ 122))) := by rw [or_let, let_, Bool.or_assoc]; congr 1; exact Bool.eq_iff_iff.mpr (by simp; omega)
  rw [h]
  go_enter Tryd.func34, Tryd.ntmps34
  go_wp2_with fail
  all_goals go_ret
  all_goals simp_all
  all_goals first | done | omega | (apply Bool.eq_iff_iff.mpr; simp; omega)

theorem digit_27 (c : UInt8) (w : World) : Calls Tryd.prog 27 #[.int .u8 c.toNat] w fun e w' => e = .returned (.bool (dig c)) ∧ w' = w := by
  have h : dig c = (decide (48 ≤ (c.toNat : Int)) && decide ((c.toNat : Int) ≤ 57)) := by simp only [dig]; congr 1 <;> exact decide_eq_decide.mpr (by omega)
  rw [h]
  go_enter Tryd.func27, Tryd.ntmps27
  go_wp2_with fail
  all_goals go_ret
  all_goals simp_all
  all_goals first | done | omega | (apply Bool.eq_iff_iff.mpr; simp; omega)
  
theorem letter_28 (c : UInt8) (w : World) : Calls Tryd.prog 28 #[.int .u8 c.toNat] w fun e w' => e = .returned (.bool (let_ c)) ∧ w' = w := by
  have h : let_ c = (((c.toNat : Int) == 95) || (decide (97 ≤ (c.toNat : Int)) && decide ((c.toNat : Int) ≤ 122)) || (decide (65 ≤ (c.toNat : Int)) && decide ((c.toNat : Int) ≤ 90))) := Bool.eq_iff_iff.mpr (by simp [let_]; omega)
  rw [h]
  go_enter Tryd.func28, Tryd.ntmps28
  go_wp2_with fail
  all_goals go_ret
  all_goals simp_all
  all_goals first | done | omega | (apply Bool.eq_iff_iff.mpr; simp; omega)
end Go.Proofs.YtpjfkfbijimliaaDoor
