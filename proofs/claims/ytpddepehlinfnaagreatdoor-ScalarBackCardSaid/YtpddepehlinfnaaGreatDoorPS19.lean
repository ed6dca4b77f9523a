/- Part of a claim: numbers added to a row of words; the sum that is rounded once, in plain numbers. Nothing of a program stands here. -/
import Derived.Test.YtpddepehlinfnaaGreatDoorPS18
set_option linter.unusedSimpArgs false
set_option linter.unusedVariables false
namespace Go.Proofs.YtpddepehlinfnaaGreatDoor.FL

/-- Plus or minus. -/
def sg (s : Bool) (k : Nat) : Int := if s = true then -(k : Int) else k

/-- Words of a float: the value in units of 2^-1074; nought of one that is not finite. -/
def svW (n : Nat) : Int := if n % 9223372036854775808 < 9218868437227405312 then sval (decide (9223372036854775808 ≤ n)) (n % 9223372036854775808) else 0
def tot : List Nat → Int
  | [] => 0
  | n :: l => svW n + tot l
end Go.Proofs.YtpddepehlinfnaaGreatDoor.FL
