/- NCmp by worth alone. -/
import Derived.Test.YtemllpbpnndgeaaNum
import Derived.Test.YtemllpbpnndgeaaNCmp
set_option linter.unusedVariables false
namespace Go.Proofs.Ytemllpbpnndgeaa
open Go.RowKit

theorem num_cmp (ad bd : Option Addr) (n m c d : Nat) (V U : Int) (w : World) (h : Num w ad n c V) (k : Num w bd m d U) (hn : n ≤ 70368744177663) (hm : m ≤ 70368744177663) :
    Calls Try.prog 34 #[.slice ad n c, .slice bd m d] w (RetI (cmpI V U) w) := by
  obtain ⟨xs, h1, h2, rfl⟩ := h.row
  obtain ⟨zs, k1, k2, rfl⟩ := k.row
  exact (ncmp_calls ad bd n m c d xs zs w (by omega) (by omega) h.le k.le h1 k1 h2 k2).mono fun e w' q => q
end Go.Proofs.Ytemllpbpnndgeaa
