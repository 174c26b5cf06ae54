import Derived.Test.YtpjfkfbijimliaaGreatDoorG
namespace Go.Proofs.YtpjfkfbijimliaaGreatDoor
open Go.RowKit Go.Pen

def numStep (n : Nat) (c : UInt8) : Nat := 10 * n + (c.toNat - 48)
def numFrom (n : Nat) (l : Bytes) : Nat := l.foldl numStep n
def num (l : Bytes) : Nat := numFrom 0 l

theorem numFrom_nil (n : Nat) : numFrom n [] = n := by unfold numFrom; exact List.foldl_nil
theorem numFrom_cons (n : Nat) (c : UInt8) (cs : Bytes) : numFrom n (c :: cs) = numFrom (numStep n c) cs := by unfold numFrom; exact List.foldl_cons ..
theorem le_numFrom (l : Bytes) : ∀ (n : Nat), n ≤ numFrom n l := by
  induction l with
  | nil => exact fun n => by rw [numFrom_nil]; exact Nat.le_refl _
  | cons c cs ih => exact fun n => by rw [numFrom_cons]; refine Nat.le_trans ?_ (ih _); rw [numStep]; omega

end Go.Proofs.YtpjfkfbijimliaaGreatDoor
