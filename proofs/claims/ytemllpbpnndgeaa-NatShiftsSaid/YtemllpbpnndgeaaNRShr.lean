/- RShr by worth alone. -/
import Derived.Test.YtemllpbpnndgeaaNum
import Derived.Test.YtemllpbpnndgeaaRShr
set_option linter.unusedVariables false
namespace Go.Proofs.Ytemllpbpnndgeaa
open Go.RowKit

theorem num_rshr (ad : Option Addr) (n c : Nat) (V : Int) (r : Int) (w : World) (h : Num w ad n c V) (hn : n ≤ 1099511627776) (hr : -9223372036854775808 ≤ r ∧ r < 9223372036854775808) :
    Calls Try.prog 31 #[.slice ad n c, .int .i64 r] w (RetCBB (shrNum V r) (shrMore V r) (decide (0 ≤ r)) w) := by
  obtain ⟨xs, h1, h2, rfl⟩ := h.row
  exact (rshr_calls ad n c xs r w (by omega) h1 h2 hr).mono fun e w' q => q.can
end Go.Proofs.Ytemllpbpnndgeaa
