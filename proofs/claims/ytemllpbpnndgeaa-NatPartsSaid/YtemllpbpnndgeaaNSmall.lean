/- Small by worth alone. -/
import Derived.Test.YtemllpbpnndgeaaNum
import Derived.Test.YtemllpbpnndgeaaSmall
set_option linter.unusedVariables false
namespace Go.Proofs.Ytemllpbpnndgeaa
open Go.RowKit

theorem num_small (ad : Option Addr) (n c : Nat) (V : Int) (r : Int) (w : World) (h : Num w ad n c V) (hn : n ≤ 70368744177663) (hr : 0 < r ∧ r < 4294967296) :
    Calls Try.prog 18 #[.slice ad n c, .int .u32 r] w (RetCNB (V / r) (V % r) true w) := by
  obtain ⟨xs, h1, h2, rfl⟩ := h.row
  exact (small_calls ad n c xs r w (by omega) h1 h2 hr).mono fun e w' q => q.can
end Go.Proofs.Ytemllpbpnndgeaa
