/- RSmall by worth alone. -/
import Derived.Test.YtemllpbpnndgeaaNum
import Derived.Test.YtemllpbpnndgeaaRSmall
set_option linter.unusedVariables false
namespace Go.Proofs.Ytemllpbpnndgeaa
open Go.RowKit

theorem num_rsmall (ad : Option Addr) (n c : Nat) (V : Int) (r : Int) (w : World) (h : Num w ad n c V) (hn : n ≤ 1099511627776) (hr : 0 < r ∧ r < 4294967296) :
    Calls Try.prog 19 #[.slice ad n c, .int .u32 r] w (RetCNB (V / r) (V % r) true w) := by
  obtain ⟨xs, h1, h2, rfl⟩ := h.row
  exact (rsmall_calls ad n c xs r w (by omega) h1 h2 hr).mono fun e w' q => q.can
end Go.Proofs.Ytemllpbpnndgeaa
