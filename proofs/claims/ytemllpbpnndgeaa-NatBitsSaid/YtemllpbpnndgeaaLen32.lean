/- math/bits.Len32: how many bits a limb has. -/
import Derived.Test.YtemllpbpnndgeaaProg
import Derived.Test.YtemllpbpnndgeaaBase
import Derived.Lib.BitFns
import Derived.Lib.Strings
import Derived.Lib.Slices
import Derived.Lib.Small
import Derived.Lib.Walk
set_option linter.unusedVariables false
set_option linter.unusedSimpArgs false
namespace Go.Proofs.Ytemllpbpnndgeaa
open Go.RowKit
set_option maxHeartbeats 4000000 in
set_option maxRecDepth 100000 in
theorem len32_calls (x : Int) (w : World) (h0 : 0 ≤ x) (h1 : x ≤ 4294967295) :
    Calls Try.prog 46 #[.int .u32 x] w fun e w' => e = .returned (.int .i64 (Lib.bitLen x.toNat)) ∧ w = w' := by
  have u9 := Try.underlying9
  have hx : ∀ i : Int, 0 ≤ i → i ≤ 255 → ∀ w : World, (Instr.index 9 (.string Lib.len8tab) (.int .u8 i)).run Try.prog w = .ok (.int .u8 (Lib.len8 i)) w := fun i h0 h1 w => Lib.run_index_len8tab _ _ _ _ u9 h0 h1
  have x1 := hx (x / 65536 / 256) (by omega) (by omega)
  have x2 : x / 65536 < 256 → _ := fun h => hx (x / 65536) (by omega) (by omega)
  have x3 : x < 65536 → _ := fun h => hx (x / 256) (by omega) (by omega)
  have x4 : x < 256 → _ := fun h => hx x (by omega) (by omega)
  clear hx
  go_enter Try.func46, Try.ntmps46
  go_wp2
  all_goals (go_ret; refine ⟨congrArg Ending.returned (congrArg (Value.int IntKind.i64) ?_), rfl⟩)
  all_goals first
    | (rw [Lib.len8_of (x / 65536 / 256) (by omega) (by omega)]
       have e : (x / 65536 / 256).toNat = x.toNat / 16777216 := by omega
       have l := Lib.bitLen_le8' (x / 65536 / 256) (by omega) (by omega)
       have s := Lib.bitLen_shift24 x.toNat (by omega) (by omega)
       rw [e] at l ⊢
       unfold wrap64
       omega)
    | (rw [Lib.len8_of (x / 65536) (by omega) (by omega)]
       have e : (x / 65536).toNat = x.toNat / 65536 := by omega
       have l := Lib.bitLen_le8' (x / 65536) (by omega) (by omega)
       have s := Lib.bitLen_shift16 x.toNat (by omega) (by omega)
       rw [e] at l ⊢
       unfold wrap64
       omega)
    | (rw [Lib.len8_of (x / 256) (by omega) (by omega)]
       have e : (x / 256).toNat = x.toNat / 256 := by omega
       have l := Lib.bitLen_le8' (x / 256) (by omega) (by omega)
       have s := Lib.bitLen_shift8 x.toNat (by omega) (by omega)
       rw [e] at l ⊢
       unfold wrap64
       omega)
    | (rw [Lib.len8_of x (by omega) (by omega)]
       have l := Lib.bitLen_le8' x (by omega) (by omega)
       unfold wrap64
       omega)
end Go.Proofs.Ytemllpbpnndgeaa
