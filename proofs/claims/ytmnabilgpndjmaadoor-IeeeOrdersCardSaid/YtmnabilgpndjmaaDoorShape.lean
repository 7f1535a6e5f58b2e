/- The shapes of the three widths, and what a pattern is: plain definitions. -/
import Derived.Test.YtmnabilgpndjmaaDoorIeee
set_option linter.unusedVariables false
set_option linter.unusedSimpArgs false
namespace Go.Proofs.YtmnabilgpndjmaaDoor

/-- Of a width (16, 32; all others: 64): digits of the fraction, digits of the exponent, the least power. -/
def shF (W : Nat) : Nat := if W = 16 then 10 else if W = 32 then 23 else 52
def shE (W : Nat) : Nat := if W = 16 then 5 else if W = 32 then 8 else 11
def shL (W : Nat) : Int := if W = 16 then -24 else if W = 32 then -149 else -1074
/-- The sign bit, the infinite pattern, the one for no number. -/
def sgnW (W : Nat) : Int := 2 ^ (W - 1)
def infW (W : Nat) : Int := (2 ^ shE W - 1) * 2 ^ shF W
def nanW (W : Nat) : Int := infW W + 2 ^ (shF W - 1)
def negW (W : Nat) (x : Int) : Bool := decide (sgnW W ≤ x)
def sizeW (W : Nat) (x : Int) : Int := if sgnW W ≤ x then x - sgnW W else x

/-- The three widths. -/
def Wide (W : Nat) : Prop := W = 16 ∨ W = 32 ∨ W = 64

theorem sgn16 : sgnW 16 = 32768 := by decide
theorem sgn32 : sgnW 32 = 2147483648 := by decide
theorem sgn64 : sgnW 64 = 9223372036854775808 := by decide
theorem inf16 : infW 16 = 31744 := by decide
theorem inf32 : infW 32 = 2139095040 := by decide
theorem inf64 : infW 64 = 9218868437227405312 := by decide
theorem nan16 : nanW 16 = 32256 := by decide
theorem nan32 : nanW 32 = 2143289344 := by decide
theorem nan64 : nanW 64 = 9221120237041090560 := by decide

theorem size_bounds {W : Nat} (hW : Wide W) (x : Int) (h : 0 ≤ x ∧ x < 2 ^ W) : 0 ≤ sizeW W x ∧ sizeW W x < sgnW W := by
  have e : (2 : Int) ^ W = sgnW W + sgnW W := by rcases hW with rfl | rfl | rfl <;> decide
  unfold sizeW
  split <;> omega

/-- The class: 0 none, as api names them. -/
def isNaN (W : Nat) (x : Int) : Bool := decide (infW W < sizeW W x)

/-- The order of all patterns. -/
def totalW (W : Nat) (x y : Int) : Int :=
  if negW W x then (if negW W y then cmpI y x else -1) else (if negW W y then 1 else cmpI x y)
def cmpW (W : Nat) (x y : Int) : Int × Bool :=
  if isNaN W x || isNaN W y then (0, false) else if sizeW W x = 0 ∧ sizeW W y = 0 then (0, true) else (totalW W x y, true)
def nextW (W : Nat) (x : Int) : Int :=
  if infW W < sizeW W x ∨ x = infW W then x else if sizeW W x = 0 then 1 else if negW W x then x - 1 else x + 1
end Go.Proofs.YtmnabilgpndjmaaDoor
