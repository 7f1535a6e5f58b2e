/- crucibleref01.Norm: the number without noughts at its end. -/
import Derived.Test.YtemllpbpnndgeaaBytes
set_option linter.unusedVariables false
set_option linter.unusedSimpArgs false
namespace Go.Proofs.Ytemllpbpnndgeaa
open Go.RowKit
theorem rnorm_calls (ad : Option Addr) (n c : Nat) (la : List Int) (w : World) (hn : n ≤ 1099511627776) (hr : Rds w .u32 ad n la) (da : Dig 4294967296 la) :
    Calls Try.prog 23 #[.slice ad n c] w (RetL 28 .u32 (dg 4294967296 (val 4294967296 la)) w) := by
  have l1 := bytes_len hr.len da
  have C1 := Lib.hid (bytes_calls ad n c la w (by omega) hr da)
  have vx := Lib.hid (val_dg 256 (by omega) (val 4294967296 la) (val_nonneg (by omega) da))
  have dx : Dig 256 (dg 256 (val 4294967296 la)) := dg_dig 256 (by omega) _
  clear hr
  generalize dg 256 (val 4294967296 la) = xs at *
  go_enter Try.func23, Try.ntmps23
  go_wp2_with fail
  refine (C1.out).mono ?_
  rintro e w1 ⟨xd, m, cx, rfl, ox, b1⟩
  have HM := Lib.hid ox.len
  rw [HM.out] at l1
  have C2 := limbs_calls xd m cx xs w1 (by omega) ox.le ox.rds dx
  rw [show val 256 xs = val 4294967296 la from vx.out] at C2
  have C2' := Lib.hid C2
  clear C1 C2
  go_wp2_with fail
  refine (C2'.out).mono ?_
  rintro e w2 hr
  obtain ⟨rd, nr, cr, rfl, or, br⟩ := hr.after b1
  go_wp2_with fail
  go_ret
  exact ⟨_, _, _, rfl, or, br⟩
end Go.Proofs.Ytemllpbpnndgeaa
