/- nat.cut: what the call answers. -/
import Derived.Test.YtemllpbpnndgeaaProg
import Derived.Test.YtemllpbpnndgeaaBase
import Derived.Test.YtemllpbpnndgeaaMath
import Derived.Deep.QuietTactic
import Derived.BigQuiet
set_option linter.unusedVariables false
set_option linter.unusedSimpArgs false
namespace Go.Proofs.Ytemllpbpnndgeaa
open Go.RowKit

theorem info_limb : (Try.prog.info? 28).map (fun i => (i.zero, i.size, i.bytes)) = some (some (.int .u32 0), 1, 4) := by kernel_rfl

/-- nat.cut: the list without noughts at its end, and without room behind it. -/
theorem cut_calls (ad : Option Addr) (n c : Nat) (xs : List Int) (w : World) (hn : n ≤ 9223372036854775807) (hnc : n ≤ c) (hr : Rds w .u32 ad n xs) :
    Calls Try.prog 41 #[.slice ad n c] w fun e w' => e = .returned (.slice ad (norm xs).length (norm xs).length) ∧ w = w' := by
  have HL := Lib.hid hr.len
  go_enter Try.func41, Try.ntmps41
  go_wp2
  go_loop [3] (fun i => ∃ k : Nat, k ≤ n ∧ i = .int .i64 k ∧ Hid (∀ j, k ≤ j → xs[j]?.getD 0 = 0)) (fun i => (intOf i).toNat)
  case atStart => exact ⟨n, Nat.le_refl _, rfl, fun j hj => by rw [List.getElem?_eq_none (by rw [HL.out]; exact hj)]; rfl⟩
  case round =>
    obtain ⟨k, hk, rfl, hz⟩ := hrel
    have hkc : k ≤ c := by omega
    by_cases h0 : 0 < k
    · obtain ⟨a, rfl, hcell⟩ := hr.cell (k - 1) (by omega)
      clear hr
      go_wp2
      · rename_i hb
        go_round
        case rel =>
          refine ⟨k - 1, by omega, by congr 1; omega, fun j hj => ?_⟩
          by_cases e : j = k - 1
          · subst e; simpa using hb
          · exact hz.out j (by omega)
        case measure => simp [intOf]; omega
      · have hb : (xs[k - 1]?.getD 0 == 0) = false := by assumption
        have e := norm_stop xs k (by rw [HL.out]; omega) hz.out (.inr (by simpa using hb))
        have e2 : (norm xs).length = k := by rw [e, List.length_take, HL.out]; omega
        go_ret
        rw [e2]
        exact ⟨rfl, rfl⟩
    · obtain rfl : k = 0 := by omega
      have E := Lib.hid (show (norm xs).length = 0 by rw [norm_stop xs 0 (Nat.zero_le _) hz.out (.inl rfl)]; rfl)
      go_wp2
      go_ret
      rw [E.out]
      exact ⟨rfl, rfl⟩

end Go.Proofs.Ytemllpbpnndgeaa
