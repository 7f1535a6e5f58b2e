/- nat.Norm: the number without noughts at its end. -/
import Derived.Test.YtemllpbpnndgeaaCut
set_option linter.unusedVariables false
set_option linter.unusedSimpArgs false
namespace Go.Proofs.Ytemllpbpnndgeaa
open Go.RowKit
theorem size_limb : (Try.prog.info? 28).map (·.size) = some 1 := by kernel_rfl

theorem norm_calls (ad : Option Addr) (n c : Nat) (xs : List Int) (w : World) (hn : n ≤ 70368744177664) (hnc : n ≤ c) (hr : Rds w .u32 ad n xs) (dx : Dig 4294967296 xs) :
    Calls Try.prog 22 #[.slice ad n c] w (RetL 28 .u32 (dg 4294967296 (val 4294967296 xs)) w) := by
  have hc := Lib.hid (cut_calls ad n c xs w (by omega) hnc hr)
  have rx := hr.norm
  have hl := norm_length_le xs
  rw [hr.len] at hl
  have E := Lib.hid (norm_eq 4294967296 (by omega) dx)
  clear hr
  generalize norm xs = ls at *
  obtain ⟨m, hm⟩ : ∃ m, ls.length = m := ⟨_, rfl⟩
  rw [hm] at hc rx hl
  have HM := Lib.hid hm
  clear hm
  have hmk := make_rule (P := Try.prog) 23 28 .u32 4 Try.underlying23 info_limb (by omega) m (by omega) (m : Int) rfl
  go_enter Try.func22, Try.ntmps22
  go_wp2_with fail
  refine (hc.out).mono ?_
  rintro e w' ⟨rfl, rfl⟩
  have b0 : Below w.heap.size w (w.alloc (.cells (nums .u32 (List.replicate m 0)).toArray 28)) := (Below.refl _ _).alloc (Nat.le_refl _) _
  have r0 := rx.below b0 (Nat.le_refl _)
  have k0 := Blk.made w 28 .u32 (List.replicate m 0) w.heap.size rfl
  go_wp2_with (refine copy_law w.heap.size rfl (.tmp 9) (.tmp 10) 23 23 rfl 28 Try.underlying23 size_limb (some ⟨w.heap.size, 0, none⟩) ad m m m m rfl rfl w.heap.size 0 .u32 (List.replicate m 0) ls k0 r0 (Nat.le_refl _) (fun _ => rfl) (by simp) b0 (Nat.le_refl _) ?_; intro w2 k2 b2)
  go_ret
  have k3 : Blk w2 w.heap.size 28 .u32 ls := by simpa [List.drop_of_length_le] using k2
  have O := k3.own (Nat.le_refl _) m (by rw [HM.out]; exact Nat.le_refl _) (by rw [HM.out]; omega)
  rw [← HM.out, List.take_length] at O
  rw [HM.out] at O
  refine ⟨_, _, _, rfl, ?_, b2⟩
  have E' : ls = dg 4294967296 (val 4294967296 xs) := E.out
  rw [← E']
  exact O
end Go.Proofs.Ytemllpbpnndgeaa
