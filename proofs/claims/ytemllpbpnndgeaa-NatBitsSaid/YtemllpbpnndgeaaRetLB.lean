/- What the calls hand back, in words. -/
import Derived.Test.YtemllpbpnndgeaaBase
set_option linter.unusedVariables false
namespace Go.Proofs.Ytemllpbpnndgeaa
open Go.RowKit
/-- A list and a bool are handed back. -/
def RetLB (t : TypeId) (k : IntKind) (zs : List Int) (ok : Bool) (w : World) (e : Ending) (w' : World) : Prop :=
  ∃ ad n c, e = .returned (.tuple #[.slice ad n c, .bool ok]) ∧ Own w.heap.size w' t k ad n c zs ∧ Below w.heap.size w w'

/-- A list, a small number and a bool are handed back. -/
def RetLNB (t : TypeId) (k k2 : IntKind) (zs : List Int) (r : Int) (ok : Bool) (w : World) (e : Ending) (w' : World) : Prop :=
  ∃ ad n c, e = .returned (.tuple #[.slice ad n c, .int k2 r, .bool ok]) ∧ Own w.heap.size w' t k ad n c zs ∧ Below w.heap.size w w'

/-- An int is answered, some orders having been drawn. -/
def RetI (v : Int) (w : World) (e : Ending) (w' : World) : Prop := e = .returned (.int .i64 v) ∧ ∃ q, w' = w.drewN q

/-- An int is answered, nothing old has turned. -/
def RetIB (v : Int) (w : World) (e : Ending) (w' : World) : Prop := e = .returned (.int .i64 v) ∧ Below w.heap.size w w'

/-- A list and two bools are handed back. -/
def RetLBB (t : TypeId) (k : IntKind) (zs : List Int) (b1 b2 : Bool) (w : World) (e : Ending) (w' : World) : Prop :=
  ∃ ad n c, e = .returned (.tuple #[.slice ad n c, .bool b1, .bool b2]) ∧ Own w.heap.size w' t k ad n c zs ∧ Below w.heap.size w w'
end Go.Proofs.Ytemllpbpnndgeaa
