/- Uint by worth alone. -/
import Derived.Test.YtemllpbpnndgeaaNum
import Derived.Test.YtemllpbpnndgeaaUint
set_option linter.unusedVariables false
namespace Go.Proofs.Ytemllpbpnndgeaa
open Go.RowKit

theorem num_uint (ad : Option Addr) (n c : Nat) (V : Int) (w : World) (h : Num w ad n c V) (hn : n ≤ 70368744177663) :
    Calls Try.prog 20 #[.slice ad n c] w (fun e w' => e = .returned (.tuple #[.int .u64 (low64 V), .bool (fits64 V)]) ∧ w = w') := by
  obtain ⟨xs, h1, h2, rfl⟩ := h.row
  exact (uint_calls ad n c xs w (by omega) h.le h1 h2).mono fun e w' q => q
end Go.Proofs.Ytemllpbpnndgeaa
