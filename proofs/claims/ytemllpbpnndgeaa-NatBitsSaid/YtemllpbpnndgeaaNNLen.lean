/- NLen by worth alone. -/
import Derived.Test.YtemllpbpnndgeaaNum
import Derived.Test.YtemllpbpnndgeaaNLen
set_option linter.unusedVariables false
namespace Go.Proofs.Ytemllpbpnndgeaa
open Go.RowKit

theorem num_len (ad : Option Addr) (n c : Nat) (V : Int) (w : World) (h : Num w ad n c V) (hn : n ≤ 70368744177663) :
    Calls Try.prog 26 #[.slice ad n c] w (fun e w' => e = .returned (.int .i64 (bitsOf V)) ∧ w = w') := by
  obtain ⟨xs, h1, h2, rfl⟩ := h.row
  exact (nlen_calls ad n c xs w (by omega) h.le h1 h2).mono fun e w' q => q
end Go.Proofs.Ytemllpbpnndgeaa
