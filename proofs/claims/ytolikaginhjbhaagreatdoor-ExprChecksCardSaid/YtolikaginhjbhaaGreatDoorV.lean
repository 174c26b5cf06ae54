import Derived.Test.YtolikaginhjbhaaGreatDoorPure
import Derived.Lib.ValidLaws
/- What an expression comes to. No program in sight. -/
namespace Go.Proofs.YtolikaginhjbhaaGreatDoor
open Go.RowKit Go.Pen

/-- datum.Check's number -/
def chkD (d : Dat) : Nat :=
  if d.kind < 1 ∨ 4 < d.kind then 13
  else if (d.kind ≠ 2 ∧ d.bool = true) ∨ (d.kind ≠ 3 ∧ d.int ≠ 0) ∨ (d.kind ≠ 4 ∧ d.text.data.toList ≠ []) then 13
  else if Lib.validD d.text.data.toList = false then 13
  else if 1000 < d.text.size then 12 else 0

def okD (d : Dat) : Bool := chkD d == 0

def nul : Dat := ⟨1, false, 0, ⟨#[]⟩⟩
def boo (b : Bool) : Dat := ⟨2, b, 0, ⟨#[]⟩⟩
def num (n : Int) : Dat := ⟨3, false, n, ⟨#[]⟩⟩
def txt (t : ByteArray) : Dat := ⟨4, false, 0, t⟩

/-- a datum, and the number of an error (0: none) -/
abbrev Res := Dat × Nat
def bad (n : Nat) : Res := (Dat.zero, n)

/-- is a datum of a kind, or null? -/
def isK (k : Int) (d : Dat) : Bool := okD d && (decide (d.kind = k) || decide (d.kind = 1))

/-- a number, or an error where it is too great -/
def ov (n : Int) : Res := if -9223372036854775808 ≤ n ∧ n ≤ 9223372036854775807 then (num n, 0) else bad 10

def both (k : Int) (a b : Dat) (r : Res) : Res := if !(isK k a && isK k b) then bad 13 else if a.kind = 1 ∨ b.kind = 1 then (nul, 0) else r
def sole (k : Int) (a : Dat) (r : Res) : Res := if !isK k a then bad 13 else if a.kind = 1 then (nul, 0) else r

/-- how many runes there are -/
def runesN : Nat → List UInt8 → Nat
  | 0, _ => 0
  | _ + 1, [] => 0
  | n + 1, c :: cs => 1 + runesN n ((c :: cs).drop (Lib.decodeL (c :: cs)).2)
def runes (l : List UInt8) : Nat := runesN l.length l

def negD (a : Dat) : Res := sole 3 a (ov (-a.int))
def addD (a b : Dat) : Res := both 3 a b (ov (a.int + b.int))
def subD (a b : Dat) : Res := both 3 a b (ov (a.int - b.int))
def mulD (a b : Dat) : Res := both 3 a b (ov (a.int * b.int))
def divD (a b : Dat) : Res := both 3 a b (if b.int = 0 then bad 11 else ov (Int.tdiv a.int b.int))
def modD (a b : Dat) : Res := both 3 a b (if b.int = 0 then bad 11 else (num (Int.tmod a.int b.int), 0))
def catD (a b : Dat) : Res := both 4 a b (if 1000 < a.text.size + b.text.size then bad 12 else (txt ⟨(a.text.data.toList ++ b.text.data.toList).toArray⟩, 0))
def lenD (a : Dat) : Res := sole 4 a (num (runes a.text.data.toList), 0)
def notD (a : Dat) : Res := sole 2 a (boo (!a.bool), 0)

/-- errors of datum's become this package's -/
def told (r : Res) : Res := if r.2 = 0 then r else if r.2 = 13 then bad 31 else bad r.2

/-- a condition: its error, whether it is true, whether it is null -/
def truth (v : Res) : Nat × Bool × Bool := if v.2 ≠ 0 then (v.2, false, false) else if okD v.1 = false ∨ 2 < v.1.kind then (31, false, false) else (0, v.1.bool, decide (v.1.kind = 1))

def logic (stop : Bool) : Bool → List Res → Res
  | so, [] => if so then (nul, 0) else (boo (!stop), 0)
  | so, v :: vs => if (truth v).1 ≠ 0 then bad (truth v).1 else if (truth v).2.2 = false ∧ (truth v).2.1 = stop then (boo stop, 0) else logic stop (so || (truth v).2.2) vs

def choice : List Res → Res
  | [] => bad 0
  | [v] => v
  | c :: v :: vs => if (truth c).1 ≠ 0 then bad (truth c).1 else if (truth c).2.1 = true then v else choice vs

def coal : List Res → Res
  | [] => (nul, 0)
  | v :: vs => if v.2 ≠ 0 ∨ v.1.kind ≠ 1 then v else coal vs
end Go.Proofs.YtolikaginhjbhaaGreatDoor
