/- Contracts of functions, and plain facts, part 24. -/
import Derived.Test.YtbcbmkeeoognpaaGreatDoorPk16
import Derived.Test.YtbcbmkeeoognpaaGreatDoorPk23
set_option linter.unusedVariables false
set_option linter.unusedSimpArgs false
namespace Go.Proofs.YtbcbmkeeoognpaaGreatDoor
open Go Go.RowKit
end Go.Proofs.YtbcbmkeeoognpaaGreatDoor

namespace Go.Proofs.YtbcbmkeeoognpaaGreatDoor
open Go Go.RowKit
theorem qn6 (X Y:Int) (h:Y≠0):sI (decide (X<0) != decide (Y<0)) ((X.natAbs:Int) / (Y.natAbs:Int))=X.tdiv Y:=by
 have e:(X.natAbs:Int) / (Y.natAbs:Int)=((X.tdiv Y).natAbs:Int):=by rw [Int.natAbs_tdiv];rfl
 rw [e]
 generalize hq:X.tdiv Y=q
 have e2:=Int.mul_tdiv_add_tmod X Y
 rw [hq] at e2
 have e3:=Int.natAbs_tmod X Y
 have e4:=Nat.mod_lt X.natAbs (show 0<Y.natAbs by omega)
 rw [←e3] at e4
 generalize X.tmod Y=r at *
 unfold sI
 rcases Int.lt_or_le X 0 with h1 | h1 <;> rcases Int.lt_or_le Y 0 with h2 | h2
 ·rw [decide_eq_true h1,decide_eq_true h2]
  have:0≤q:=by rw [←hq];exact Int.tdiv_nonneg_of_nonpos_of_nonpos (by omega) (by omega)
  simp;omega
 ·rw [decide_eq_true h1,decide_eq_false (by omega)]
  have:q≤0:=by
   rw [←hq,show X = -(-X) by omega,Int.neg_tdiv]
   have:=Int.tdiv_nonneg (show 0 ≤ -X by omega) h2
   omega
  simp;omega
 ·rw [decide_eq_false (by omega),decide_eq_true h2]
  have:q≤0:=by
   rw [←hq,show Y = -(-Y) by omega,Int.tdiv_neg]
   have:=Int.tdiv_nonneg h1 (show 0 ≤ -Y by omega)
   omega
  simp;omega
 ·rw [decide_eq_false (by omega),decide_eq_false (by omega)]
  have:0≤q:=by rw [←hq];exact Int.tdiv_nonneg h1 h2
  simp;omega
theorem qmn (X Y:Int):(X.tdiv Y*Y).natAbs≤X.natAbs:=by
 rw [Int.natAbs_mul,Int.natAbs_tdiv]
 exact Nat.div_mul_le_self _ _
theorem qmo (X Y:Int) (h:Y≠0):X-X.tdiv Y*Y=vg X Y:=by
 unfold vg
 rw [if_neg h]
 have:=Int.mul_tdiv_add_tmod X Y
 rw [Int.mul_comm] at this
 omega
end Go.Proofs.YtbcbmkeeoognpaaGreatDoor
