/- Plain: bytes, digits, numbers. -/
import Derived.Lib.Split
namespace Go.Proofs.YtdfdikpklddnhaaGreatDoor

abbrev Bs := List UInt8
def dig (b : UInt8) : Bool := decide (48 ≤ b.toNat ∧ b.toNat ≤ 57)
def sml (b : UInt8) : Bool := decide (97 ≤ b.toNat ∧ b.toNat ≤ 122)
def cpt (b : UInt8) : Bool := decide (65 ≤ b.toNat ∧ b.toNat ≤ 90)
/-- What may stand in a path. -/
def pathN (n : Nat) : Bool := decide (48 ≤ n ∧ n ≤ 57) || decide (97 ≤ n ∧ n ≤ 122) || decide (65 ≤ n ∧ n ≤ 90) || decide (n = 45 ∨ n = 46 ∨ n = 95 ∨ n = 126 ∨ n = 47)
def pathB (b : UInt8) : Bool := pathN b.toNat
def digs (l : Bs) : Bool := l.all dig
/-- A number in its one form. -/
def num (l : Bs) : Bool := digs l && (!l.isEmpty && (l == [48] || l.head? != some 48))
end Go.Proofs.YtdfdikpklddnhaaGreatDoor
