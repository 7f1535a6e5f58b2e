/- RUint by worth alone. -/
import Derived.Test.YtemllpbpnndgeaaNum
import Derived.Test.YtemllpbpnndgeaaRUint
set_option linter.unusedVariables false
namespace Go.Proofs.Ytemllpbpnndgeaa
open Go.RowKit

theorem num_ruint (ad : Option Addr) (n c : Nat) (V : Int) (w : World) (h : Num w ad n c V) (hn : n ≤ 1099511627776) :
    Calls Try.prog 21 #[.slice ad n c] w (fun e w' => e = .returned (.tuple #[.int .u64 (low64 V), .bool (fits64 V)]) ∧ Below w.heap.size w w') := by
  obtain ⟨xs, h1, h2, rfl⟩ := h.row
  exact (ruint_calls ad n c xs w (by omega) h1 h2).mono fun e w' q => q
end Go.Proofs.Ytemllpbpnndgeaa
