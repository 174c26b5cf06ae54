import Derived.Test.YtpjfkfbijimliaaGreatDoorJ
namespace Go.Proofs.YtpjfkfbijimliaaGreatDoor
open Go.RowKit Go.Pen

def hexv (c : UInt8) : Int :=
  if 48 ≤ c.toNat ∧ c.toNat ≤ 57 then (c.toNat : Int) - 48 else if 97 ≤ c.toNat ∧ c.toNat ≤ 102 then (c.toNat : Int) - 97 + 10 else if 65 ≤ c.toNat ∧ c.toNat ≤ 70 then (c.toNat : Int) - 65 + 10 else -1

/-- what stands for a letter behind a backslash -/
def esc1 (c : UInt8) : Option UInt8 := if c.toNat = 92 then some 92 else if c.toNat = 110 then some 10 else if c.toNat = 114 then some 13 else if c.toNat = 116 then some 9 else none

end Go.Proofs.YtpjfkfbijimliaaGreatDoor
