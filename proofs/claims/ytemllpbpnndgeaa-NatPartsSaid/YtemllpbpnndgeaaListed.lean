/- cruciblelaw01.listed: the list of a number is. -/
import Derived.Test.YtemllpbpnndgeaaNum
import Derived.Test.YtemllpbpnndgeaaDigLen
set_option linter.unusedVariables false
set_option linter.unusedSimpArgs false
namespace Go.Proofs.Ytemllpbpnndgeaa
open Go.RowKit

theorem listed_calls (ad : Option Addr) (n c : Nat) (V : Int) (w : World) (h : Can w ad n c V) (hn : n ≤ 9223372036854775807) :
    Calls Try.prog 39 #[.slice ad n c] w (fun e w' => e = .returned (.bool true) ∧ w = w') := by
  by_cases h0 : n = 0
  · subst h0
    go_enter Try.func39, Try.ntmps39
    go_wp2
    go_ret
    exact ⟨rfl, rfl⟩
  · have hl := h.rds.len
    have hz := norm_last (b := 4294967296) (norm_dg 4294967296 (by omega) V) (n - 1) (by rw [hl]; omega)
    obtain ⟨a, rfl, hc⟩ := h.rds.cell (n - 1) (by omega)
    clear h hl
    generalize (dg 4294967296 V)[n - 1]?.getD 0 = x at *
    have hx : (x != 0) = true := by simp; exact hz
    have hn0 : ((n : Int) == 0) = false := by simp; omega
    clear hz
    go_enter Try.func39, Try.ntmps39
    go_wp2
    go_ret
    exact ⟨rfl, rfl⟩
end Go.Proofs.Ytemllpbpnndgeaa
