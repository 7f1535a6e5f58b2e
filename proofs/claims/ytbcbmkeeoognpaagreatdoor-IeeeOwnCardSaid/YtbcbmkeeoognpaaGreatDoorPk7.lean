/- Contracts of functions, and plain facts, part 7. -/
import Derived.Deep.QuietTactic
import Derived.BigQuiet
import Derived.BigRegion
import Derived.Test.YtbcbmkeeoognpaaGreatDoorPk1
import Derived.Test.YtbcbmkeeoognpaaGreatDoorPk4
import Derived.Test.YtbcbmkeeoognpaaGreatDoorPk5
import Derived.Test.YtbcbmkeeoognpaaGreatDoorPk6
set_option linter.unusedVariables false
set_option linter.unusedSimpArgs false
/- Shifts of lists of digits, place by place: plain facts. -/
namespace Go.Proofs.YtbcbmkeeoognpaaGreatDoor

/-- Is there a number 2^n times V, as Shl counts? -/
def shlOk (V n : Int) : Bool := decide (0 ≤ n ∧ (V = 0 ∨ n ≤ 8388608 - (blen V.toNat : Nat)))
def shlNum (V n : Int) : Int := if shlOk V n then V * 2 ^ n.toNat else 0
/-- What Shr answers. -/
def shrNum (V n : Int) : Int := if 0 ≤ n then V / 2 ^ n.toNat else 0
def shrMore (V n : Int) : Bool := decide (0 ≤ n) && decide (V % 2 ^ n.toNat ≠ 0)

/-- What comes up from the place below. -/
def carryUp (b R : Int) (zs : List Int) (j : Nat) : Int := if j = 0 then 0 else zs[j - 1]?.getD 0 * R / b

theorem shl_step (b R : Int) (hb : 0 < b) (zs ys : List Int) (j : Nat) (hz : j < zs.length) (hy : j < ys.length)
    (E : val b (ys.drop (j + 1)) = R * val b (zs.drop (j + 1)) + carryUp b R zs (j + 1)) :
    val b ((ys.set j (zs[j]?.getD 0 * R % b + carryUp b R zs j)).drop j) = R * val b (zs.drop j) + carryUp b R zs j := by
  rw [val_drop b zs j hz, val_drop b (ys.set j _) j (by rw [List.length_set]; exact hy), List.getElem?_set_self hy, List.drop_set_of_lt (by omega), E]
  have e : carryUp b R zs (j + 1) = zs[j]?.getD 0 * R / b := by unfold carryUp; rw [if_neg (by omega)]; rfl
  rw [e]
  simp only [Option.getD_some]
  have h := Int.emod_add_mul_ediv (zs[j]?.getD 0 * R) b
  generalize zs[j]?.getD 0 * R / b = q at *
  generalize zs[j]?.getD 0 * R % b = r at *
  generalize hx : zs[j]?.getD 0 = x at *
  generalize val b (zs.drop (j + 1)) = Z at *
  generalize carryUp b R zs j = c at *
  have : r = x * R - b * q := by omega
  subst this
  grind

theorem shr_step (b R Q : Int) (hR : 0 < R) (hb : b = R * Q) (zs ys : List Int) (i : Nat) (hy : i < ys.length) (c0 : Int)
    (E : val b (ys.take i) * R + c0 = val b (zs.take i) + b ^ i * (zs[i]?.getD 0 % R)) :
    val b ((ys.set i (zs[i]?.getD 0 / R + zs[i + 1]?.getD 0 % R * Q)).take (i + 1)) * R + c0 = val b (zs.take (i + 1)) + b ^ (i + 1) * (zs[i + 1]?.getD 0 % R) := by
  rw [take_set_succ ys i _ hy, val_append, val_take_succ', Int.pow_succ, List.length_take, Nat.min_eq_left (by omega)]
  simp only [val, Int.mul_zero, Int.add_zero]
  have h := Int.emod_add_mul_ediv (zs[i]?.getD 0) R
  generalize zs[i]?.getD 0 = x at *
  generalize zs[i + 1]?.getD 0 % R = t at *
  generalize x / R = q at *
  generalize x % R = r at *
  generalize hP : b ^ i = P at *
  generalize val b (ys.take i) = Y at *
  generalize val b (zs.take i) = Z at *
  subst hb
  subst h
  grind
theorem split_div (lo P Z R : Int) (h0 : 0 ≤ lo) (h1 : lo < P) (hR : 0 < R) : (lo + P * Z) / (P * R) = Z / R ∧ (lo + P * Z) % (P * R) = lo + P * (Z % R) := by
  have hP : 0 < P := by omega
  have e : lo + P * Z = (lo + P * (Z % R)) + P * R * (Z / R) := by
    have := Int.emod_add_mul_ediv Z R
    generalize Z / R = q at *
    generalize Z % R = r at *
    subst this
    grind
  have b0 : 0 ≤ Z % R := Int.emod_nonneg _ (by omega)
  have b1 : Z % R + 1 ≤ R := Int.emod_lt_of_pos _ hR
  have c0 : 0 ≤ P * (Z % R) := Int.mul_nonneg (by omega) b0
  have c1 : P * (Z % R + 1) ≤ P * R := Int.mul_le_mul_of_nonneg_left b1 (by omega)
  rw [Int.mul_add] at c1
  have hPR : 0 < P * R := Int.mul_pos hP hR
  rw [e]
  constructor
  · rw [Int.add_mul_ediv_left _ _ (by omega), Int.ediv_eq_zero_of_lt (by omega) (by omega), Int.zero_add]
  · rw [Int.add_mul_emod_self_left, Int.emod_eq_of_lt (by omega) (by omega)]

end Go.Proofs.YtbcbmkeeoognpaaGreatDoor


/- nat.Cmp: -1, 0 or 1. -/
namespace Go.Proofs.YtbcbmkeeoognpaaGreatDoor
open Go.RowKit

end Go.Proofs.YtbcbmkeeoognpaaGreatDoor


/- nat.Len: how many bits it has. -/
namespace Go.Proofs.YtbcbmkeeoognpaaGreatDoor
open Go.RowKit

/-- How many bits a whole number not below 0 has, as an int. -/
def bitsOf (V : Int) : Int := blen V.toNat

theorem nlen_calls (ad : Option Addr) (n c : Nat) (la : List Int) (w : World) (hn : n ≤ 70368744177664) (hnc : n ≤ c) (hr : Rds w .u32 ad n la) (da : Dig 4294967296 la) :
    Calls Tryz.prog 162 #[.slice ad n c] w fun e w' => e = .returned (.int .i64 (bitsOf (val 4294967296 la))) ∧ w = w' := by
  have hc := Lib.hid (cut_calls ad n c la w (by omega) hnc hr)
  have rx := hr.norm
  have dx := norm_dig da
  have hN := norm_norm la
  have hma := norm_length_le la
  rw [hr.len] at hma
  rw [← val_norm 4294967296 la]
  clear hr da
  generalize norm la = xs at *
  obtain ⟨m, hm⟩ : ∃ m, xs.length = m := ⟨_, rfl⟩
  rw [hm] at hc rx hma
  by_cases h0 : m = 0
  · subst h0
    have HB := Lib.hid (show bitsOf (val 4294967296 xs) = 0 by rw [List.eq_nil_of_length_eq_zero hm]; rfl)
    clear hN hm
    go_enter Tryz.func162, Tryz.ntmps162
    go_wp2_with fail
    refine (hc.out).mono ?_
    rintro e w' ⟨rfl, rfl⟩
    go_wp2
    go_ret
    rw [HB.out]
    exact ⟨rfl, rfl⟩
  · obtain ⟨t, rfl⟩ : ∃ t, m = t + 1 := ⟨m - 1, by omega⟩
    have bx := dx.get (by omega) t
    have hl := len32_calls (xs[t]?.getD 0) w bx.1 (by omega)
    have hB := bitLen_blen (xs[t]?.getD 0).toNat (by omega)
    have hb2 := Lib.bitLen_le (xs[t]?.getD 0).toNat 32 (by omega) (by omega)
    have HB := Lib.hid (show bitsOf (val 4294967296 xs) = 32 * (t : Int) + (Lib.bitLen (xs[t]?.getD 0).toNat : Nat) by
      unfold bitsOf
      rw [blen_list 32 4294967296 (by decide) xs dx hN t hm, hB]
      simp)
    have hl' := Lib.hid hl
    clear hN hm hl hB h0
    obtain ⟨a, rfl, hxl⟩ := rx.cell t (by omega)
    generalize xs[t]?.getD 0 = x at *
    generalize Lib.bitLen x.toNat = q at *
    have hmm : ((((t + 1 : Nat) : Int)) == 0) = false := by simp; omega
    go_enter Tryz.func162, Tryz.ntmps162
    go_wp2_with fail
    refine (hc.out).mono ?_
    rintro e w' ⟨rfl, rfl⟩
    go_wp2_with fail
    refine (hl'.out).mono ?_
    rintro e w' ⟨rfl, rfl⟩
    go_wp2
    go_ret
    rw [HB.out]
    exact ⟨rfl, rfl⟩
end Go.Proofs.YtbcbmkeeoognpaaGreatDoor


/- crucibleref01.Cmp: -1, 0 or 1. -/
namespace Go.Proofs.YtbcbmkeeoognpaaGreatDoor
open Go.RowKit
end Go.Proofs.YtbcbmkeeoognpaaGreatDoor


/- crucibleref01.Mul: what the call answers. -/
namespace Go.Proofs.YtbcbmkeeoognpaaGreatDoor
open Go.RowKit

end Go.Proofs.YtbcbmkeeoognpaaGreatDoor


/- crucibleref01.Norm: the number without noughts at its end. -/
namespace Go.Proofs.YtbcbmkeeoognpaaGreatDoor
open Go.RowKit
end Go.Proofs.YtbcbmkeeoognpaaGreatDoor


/- crucibleref01.From: a small number as a list. -/
namespace Go.Proofs.YtbcbmkeeoognpaaGreatDoor
open Go.RowKit
end Go.Proofs.YtbcbmkeeoognpaaGreatDoor

